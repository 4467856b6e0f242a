/-
  Lemmas: contract of the reference argusref04: CheckAll. No condition.
-/
import Derived.Test.YtakgjcfkdemipaaGreatDoorZBn
import Derived.Test.YtakgjcfkdemipaaGreatDoorZM8
set_option maxHeartbeats 25600000
namespace Go.Proofs.YtakgjcfkdemipaaGreatDoor
section
open Go.RowKit
theorem van:∀{L:List bP},(∀x∈L,x.args.length≤6)→(L.flatMap aQ).length≤7 * L.length
 | [],_=>by simp
 | x::L,h=>by
  have h1:=van (L:=L) λy hy=>h y (List.mem_cons_of_mem _ hy)
  have h2:=h x (List.mem_cons_self ..);have h3:(aQ x).length≤7:=by unfold aQ;rw[List.length_append];split<;>simp<;>omega
  rw[List.flatMap_cons,List.length_append,List.length_cons];omega
set_option maxRecDepth 8000 in
theorem vf8 (l : List aA) : vhd l := by
 intro D v w hv
 obtain⟨p,c,rfl,_,hm,hle⟩:=hv.shape
 unfold maxLen at hm
 clear hle
 go_enter Tryz.func41,Tryz.ntmps41
 go_wp2_with fail
 go_loopw [4] (λy wx=>∃i:Nat,i≤l.length∧y=.int .i64 i∧Below w.heap.size w wx∧Hid (cU l 0 none=cU (l.drop i) i (nR l i))) (λy _=>l.length - (intOf y).toNat)
 case atStart=>exact⟨0,Nat.zero_le _,by go_num,zb _,rfl⟩
 case round =>
  obtain⟨i,hi,rfl,hb,hA⟩:=hrel
  by_cases hlt:i<l.length
  case neg => as_aux_lemma =>
   have HX:=zh (show cU l 0 none=none by rw[hA.out,List.drop_eq_nil_of_le (by omega)];rfl);clear hA;obtain⟨NV,O9,_,_⟩:=iE l 0 none HX.out;have OK:=zh (show kS l=(fI l l 0).getD (0,0) by unfold kS;rw[HX.out];rfl);have sG:=hv.below hb zr;clear HX;go_wp2_with fail;go_loopw [6] (λy wx=>∃i:Nat,i≤l.length∧y=.int .i64 i∧Below w.heap.size w wx∧Hid (fI l l 0=fI l (l.drop i) i)) (λy _=>l.length - (intOf y).toNat)
   case atStart=>exact⟨0,Nat.zero_le _,by go_num,hb,rfl⟩
   case round =>
    clear hb sG;obtain⟨i,hi,rfl,hb,GX⟩:=hrel
    by_cases hlt:i<l.length
    case neg=>as_aux_lemma=>
     have HZ:=zh (show kS l=(0,0) by rw[OK.out,GX.out,List.drop_eq_nil_of_le (by omega)];rfl);clear GX;go_wp2_with fail;go_ret2;rw[HZ.out];exact⟨rfl,hb⟩
    case pos => as_aux_lemma =>
     obtain⟨f,hkx⟩:∃f,l[i]? =some f:=⟨_,List.getElem?_eq_getElem hlt⟩
     have tJ:=List.mem_of_getElem? hkx;have hil:=hlt;have sG:=hv.below hb zr;obtain⟨b1,o1,nv,ov,rfl,_,hfl,hN,hO,c0,c1,c2,c3,c4⟩:=sG.at hkx;obtain⟨p1,z1,rfl,_⟩:=hN.shape;obtain⟨p2,z2,rfl,_⟩:=hO.shape;rw[bp hkx] at GX;have mV:=dQ (O9 f tJ);have hnl:=(ec mV.2.2.2.1).1;have hol:=mV.2.2.2.2.2.2.1;have iw:vap ⟨l,f.ag,f.par⟩:=⟨O9,mV.2.2.2.1⟩;have hnx:∀x∈f.ag,x.sig.args.length≤6:=λo ho=>((ec mV.2.2.2.1).2 o ho).1
     have Ss:∀x∈f.ops,x.sig.args.length≤6:=λo ho=>(eN (mV.2.2.2.2.2.2.2.1 o ho).2).1
     have vn4:∀u∈(f.ag.map (·.sig)).flatMap aQ++(f.ops.map (·.sig)).flatMap aQ,u.length≤maxLen:=by
      intro u hu;rcases List.mem_append.1 hu with hu|hu<;>obtain⟨s,hs,hu⟩:=List.mem_flatMap.1 hu<;>obtain⟨o,ho,rfl⟩:=List.mem_map.1 hs
      · have h9:=mV.2.2.2.1
        rw[iU,Bool.and_eq_true,List.all_eq_true] at h9;exact(CU ((eN (h9.1 o ho)).2.2.2.2 u hu).1).1
      · exact(CU ((eN (mV.2.2.2.2.2.2.2.1 o ho).2).2.2.2.2 u hu).1).1
     have Nq:Hid ((mL f).flatMap aQ=(f.ag.map (·.sig)).flatMap aQ++(f.ops.map (·.sig)).flatMap aQ):=by
      show _=_
      unfold mL;rw[List.flatMap_append]
     obtain⟨W2,vh0⟩:∃x,x=wr:=⟨_,rfl⟩
     subst vh0;clear hkx mV c0 c1 sG;go_wp2_with fail;go_loopw [7,8] (λa y wx=>∃k:Nat,k≤f.ag.length∧y=.int .i64 k∧wx.ownsRow W2.heap.size 9 1 a (((f.ag.take k).map (·.sig)).flatMap aQ).length (aB (((f.ag.take k).map (·.sig)).flatMap aQ))∧Below W2.heap.size W2 wx) (λ_ y _=>f.ag.length - (intOf y).toNat)
     case atStart=>exact⟨0,Nat.zero_le _,by go_num,World.ownsRow_nil _ _ _ _,zb _⟩
     case round =>
      obtain⟨k,hk,rfl,hown,mE⟩:=hrel;obtain⟨pv,cv,rfl⟩:=bu hown;have vjq:=Below.keep mE c3
      by_cases hlt:k<f.ag.length
      case neg => as_aux_lemma =>
       obtain rfl:k=f.ag.length:=by omega
       simp only[List.take_length] at hown ⊢;have xk:=hown;have DN:=mE;clear hown mE;go_wp2_with fail;clear vjq;go_loopw [7,9] (λa y wx=>∃k:Nat,k≤f.ops.length∧y=.int .i64 k∧wx.ownsRow W2.heap.size 9 1 a ((f.ag.map (·.sig)).flatMap aQ++((f.ops.take k).map (·.sig)).flatMap aQ).length (aB ((f.ag.map (·.sig)).flatMap aQ++((f.ops.take k).map (·.sig)).flatMap aQ))∧Below W2.heap.size W2 wx) (λ_ y _=>f.ops.length - (intOf y).toNat)
       case atStart=>exact⟨0,Nat.zero_le _,by go_num,by simpa using xk,DN⟩
       case round =>
        clear xk DN;obtain⟨k,hk,rfl,hown,mE⟩:=hrel;obtain⟨pv,cv,rfl⟩:=bu hown;have vm5:=Below.keep mE c4
        by_cases hlt:k<f.ops.length
        case neg => as_aux_lemma =>
         obtain rfl:k=f.ops.length:=by omega
         simp only[List.take_length] at hown ⊢;have DN:=mE;generalize (f.ag.map (·.sig)).flatMap aQ++(f.ops.map (·.sig)).flatMap aQ=LS at *;have yT:SS (λ_=>True) wr (.slice pv LS.length cv) LS:=SS.bH hown vn4 (λ_ _=>trivial);clear hown mE;go_wp2_with fail;clear vm5;go_loopw [10] (λy wx=>∃k:Nat,k≤LS.length∧y=.int .i64 k∧SS (λ_=>True) wx (.slice pv LS.length cv) LS∧Below W2.heap.size W2 wx∧Hid (dY (LS.map (dz ⟨l,f.ag,f.par⟩))=dY ((LS.drop k).map (dz ⟨l,f.ag,f.par⟩)))) (λy _=>LS.length - (intOf y).toNat)
         case atStart=>exact⟨0,Nat.zero_le _,by go_num,yT,DN,rfl⟩
         case round =>
          clear yT DN;obtain⟨k,hk,rfl,yT,mE,hF⟩:=hrel
          by_cases hlt5:k<LS.length
          case neg=>as_aux_lemma=>
           have h0:dY (LS.map (dz ⟨l,f.ag,f.par⟩))=0:=by rw[hF.out,List.drop_eq_nil_of_le (by omega)];rfl
           have HZ:=zh (show fI l l 0=fI l (l.drop (i+1)) (i+1) by rw[GX.out,Fa (by rw[Nq.out];exact h0)]);clear hF h0;go_wp2_with fail;exact⟨⟨i+1,by omega,by go_num,hb.trans (af mE hb.size),HZ⟩,by simp only[intOf];omega⟩
          case pos => as_aux_lemma =>
           obtain⟨u,F1⟩:∃u,LS[k]? =some u:=⟨_,List.getElem?_eq_getElem hlt5⟩
           have Cd:=yT.le u (List.mem_of_getElem? F1);obtain⟨b2,o2,rfl,_,pc⟩:=yT.at F1;have hd:=hF.out;rw[bp F1,List.map_cons] at hd;clear hF F1;have Ny:=hb.trans (af mE hb.size);have vmv:=hv.below Ny zr;have Nh:=hN.below mE zr;have vm4:=Below.keep mE c2;have vjq:=Below.keep mE c3;have vnp:=Below.keep (zb wr).drew vm4;have vnq:=Below.keep (zb wr).drew vjq;have vo5:=Below.keep (zb wr).drew pc;clear c2 c3 c4;have vny:LS.length≤9223372036854775807:=by
            obtain⟨_,_,_,_,h,_⟩:=yT.shape;unfold maxLen at h;omega
           obtain⟨GK,vha⟩:∃g,dz ⟨l,f.ag,f.par⟩ u=g:=⟨_,rfl⟩
           rw[vha] at hd;have vha:=vha;go_upto_region 26 with fail;refine dK (D:=Any) (w:=wr) 16 [(0,vL b1 o1 l.length c),(6,vI i),(7,vL b2 o2 LS.length cv),(10,vI k)] [vL b1 o1 l.length c,vL b1 o1 l.length c,vI i,vP b1 (o1+i * 5),vP b1 (o1+i * 5+3),.eq (.slice p1 f.ag.length z1),vL b1 o1 l.length c,vI i,vP b1 (o1+i * 5),vP b1 (o1+i * 5+2),.eq (.bool f.par),vL b2 o2 LS.length cv,vI k,vP b2 (o2+k),vT u,vI GK,vI GK] (λw'=>aZ [(⟨b1,o1+i * 5+3,none⟩,.slice p1 f.ag.length z1),(⟨b1,o1+i * 5+2,none⟩,.bool f.par),(⟨b2,o2+k,none⟩,str u)] w'∧bG D w' (.slice (some ⟨b1,o1,none⟩) l.length c) l∧aY D w' (.slice p1 f.ag.length z1) f.ag) (by kernel_rfl) rfl (λ_ _ h hb=>⟨h.1.below hb,h.2.1.below hb zr,h.2.2.below hb zr⟩) ⟨(by(iterate 3 refine b9 (by assumption) ?_);exact gy),vmv.below (zb wr).drew zr,Nh.below (zb wr).drew zr⟩ ⟨rfl,rfl,rfl,rfl,trivial⟩ ?_ ?_
           · iterate 17
              refine And.intro ?_ ?_
              · first
                | exact dr (by kernel_rfl) rfl
                | exact oe rfl rfl (by kernel_rfl)
                | exact eX rfl (by kernel_rfl) (by kernel_rfl) rfl rfl
                | exact gN rfl (by kernel_rfl) rfl rfl (λw=>by simp[go_sem])
                | exact iC rfl (by kernel_rfl) rfl rfl rfl (λw=>by simp[go_sem,hil,hlt5])
                | exact gv rfl (by kernel_rfl) rfl rfl (λw hS=>by simp[go_sem,(hS.1.get 0 rfl),(hS.1.get 1 rfl),(hS.1.get 2 rfl)])
                | exact vdu (s1:=.eq (.slice (some ⟨b1,o1,none⟩) l.length c)) (s2:=.eq (.slice p1 f.ag.length z1)) (s3:=.eq (.bool f.par)) (s4:=.eq (str u)) rfl (enters_of Tryz.func68 (by kernel_rfl) rfl) (by kernel_rfl) rfl (by kernel_rfl) (by kernel_rfl) (by kernel_rfl) (by kernel_rfl) (λv v2 v3 v4 wx hS h1 h2 h3 h4=>by rw[show v=_ from h1,show v2=_ from h2,show v3=_ from h3,show v4=_ from h4];exact(vc2 ⟨l,f.ag,f.par⟩ iw _ _ u wx hS.2.1 hS.2.2 Cd).mono (by rintro e w' ⟨rfl,hb⟩;exact⟨_,rfl,(show Value.int .i64 (dz ⟨l,f.ag,f.par⟩ u:Nat)=.int .i64 (GK:Nat) by rw[vha]),hb⟩))
                | exact eW rfl (by kernel_rfl) rfl rfl rfl (λw=>by simp[go_sem])
             exact trivial
           · intro aE wE mo fM _
             simp only[pq,pz,pw]
             by_cases h0:GK=0
             · as_aux_lemma=>
               subst h0;rw[jl rfl] at hd;have HZ:=zh hd;clear hd vha;go_wp2_with fail;exact⟨⟨k+1,hlt5,by go_num,yT.below fM zr,mE.trans (af fM mE.size),HZ⟩,by simp only[intOf];omega⟩
             · as_aux_lemma=>
               obtain⟨g1,g2⟩:=bK h0;rw[gG h0] at hd;have HZ:=zh (show kS l=(i,GK) by rw[OK.out,GX.out,CV (by rw[Nq.out,hd];exact h0),Nq.out,hd];rfl);clear hd h0 vha;go_wp2_with fail;go_ret2;rw[HZ.out];exact⟨rfl,Ny.trans (af fM Ny.size)⟩
        case pos=>as_aux_lemma=>
         obtain⟨x,hx⟩:∃x,f.ops[k]? =some x:=⟨_,List.getElem?_eq_getElem hlt⟩
         obtain⟨b2,o2,av,sv,mq,Il,⟨F8,mI⟩,fe,eE,d0,d1,d2,d3,d4⟩:=(hO.below mE zr).at hx;subst mq;have hxl:=Ss x (List.mem_of_getElem? hx);have OU:=Ay _ x.sig wr ⟨_,_,rfl,mI,fe,eE⟩ (by omega);obtain⟨pa,ca,rfl,_⟩:=fe.shape;obtain⟨ps,cs,rfl,_⟩:=eE.shape;have FV:=zh (show((f.ag.map (·.sig)).flatMap aQ++((f.ops.take k).map (·.sig)).flatMap aQ)++aQ x.sig=(f.ag.map (·.sig)).flatMap aQ++((f.ops.take (k+1)).map (·.sig)).flatMap aQ by rw[List.take_add_one,hx];simp);have hlen:((f.ag.map (·.sig)).flatMap aQ++((f.ops.take k).map (·.sig)).flatMap aQ).length≤300:=by
          have h1:=van (L:=f.ag.map (·.sig)) (by intro y hy;obtain⟨o,ho,rfl⟩:=List.mem_map.1 hy;exact hnx o ho);have h2:=van (L:=(f.ops.take k).map (·.sig)) (by intro y hy;obtain⟨o,ho,rfl⟩:=List.mem_map.1 hy;exact Ss o (List.mem_of_mem_take ho));rw[List.length_map] at h1 h2;rw[List.length_take] at h2;rw[List.length_append];omega
         have htl:(aQ x.sig).length≤300:=by unfold aQ;rw[List.length_append];split<;>simp<;>omega
         generalize ((f.ag.map (·.sig)).flatMap aQ++((f.ops.take k).map (·.sig)).flatMap aQ)=LS at *;generalize aQ x.sig=vpp at *;clear hx;go_wp2_with (first
          | (at_builtin;refine jV _ rfl _ _ rfl W2.heap.size (.slice pv LS.length cv) LS rfl vas (.slice pt vpp.length ct) vpp rfl vij (by omega) vd1.size ?_;intro v' w5 gX hgr sF)
          | (go_at_call 93;refine OU.mono ?_;clear OU;rintro e w3 ⟨tv,rfl,_,vij,aH⟩;obtain⟨pt,ct,rfl,_⟩:=vij.shape;have vas:=ay hown aH zr;have vd1:=mE.trans (af aH mE.size)))
         have kH:=Below.grown vd1 hgr vd1.size (λk e=>(vas.lt k e).1);exact⟨⟨k+1,hlt,by go_num,FV.out▸gX,kH⟩,by simp only[intOf];omega⟩
      case pos=>as_aux_lemma=>
       obtain⟨x,hx⟩:∃x,f.ag[k]? =some x:=⟨_,List.getElem?_eq_getElem hlt⟩
       obtain⟨b2,o2,av,sv,mq,Il,⟨F8,mI⟩,fe,eE,d0,d1,d2,d3,d4⟩:=(hN.below mE zr).at hx;subst mq;have hxl:=hnx x (List.mem_of_getElem? hx);have OU:=Ay _ x.sig wr ⟨_,_,rfl,mI,fe,eE⟩ (by omega);obtain⟨pa,ca,rfl,_⟩:=fe.shape;obtain⟨ps,cs,rfl,_⟩:=eE.shape;have FV:=zh (show((f.ag.take k).map (·.sig)).flatMap aQ++aQ x.sig=((f.ag.take (k+1)).map (·.sig)).flatMap aQ by rw[List.take_add_one,hx];simp);have hlen:(((f.ag.take k).map (·.sig)).flatMap aQ).length≤300:=by
        have h2:=van (L:=(f.ag.take k).map (·.sig)) (by intro y hy;obtain⟨o,ho,rfl⟩:=List.mem_map.1 hy;exact hnx o (List.mem_of_mem_take ho));rw[List.length_map,List.length_take] at h2;omega
       have htl:(aQ x.sig).length≤300:=by unfold aQ;rw[List.length_append];split<;>simp<;>omega
       generalize (((f.ag.take k).map (·.sig)).flatMap aQ)=LS at *;generalize aQ x.sig=vpp at *;clear hx;go_wp2_with (first
        | (at_builtin;refine jV _ rfl _ _ rfl W2.heap.size (.slice pv LS.length cv) LS rfl vas (.slice pt vpp.length ct) vpp rfl vij (by omega) vd1.size ?_;intro v' w5 gX hgr sF)
        | (go_at_call 93;refine OU.mono ?_;clear OU;rintro e w3 ⟨tv,rfl,_,vij,aH⟩;obtain⟨pt,ct,rfl,_⟩:=vij.shape;have vas:=ay hown aH zr;have vd1:=mE.trans (af aH mE.size)))
       have kH:=Below.grown vd1 hgr vd1.size (λk e=>(vas.lt k e).1);exact⟨⟨k+1,hlt,by go_num,FV.out▸gX,kH⟩,by simp only[intOf];omega⟩
  case pos => as_aux_lemma =>
   obtain⟨f,hkx⟩:∃f,l[i]? =some f:=⟨_,List.getElem?_eq_getElem hlt⟩
   have sG:=hv.below hb zr;obtain⟨b1,o1,nv,ov,rfl,_,hfl,hN,hO,c0,c1,c2,c3,c4⟩:=sG.at hkx;have hd:=hA.out;rw[bp hkx] at hd;clear hA;have HC:=Hw _ f wr ⟨nv,ov,rfl,hfl,hN,hO⟩;obtain⟨p1,z1,rfl,_⟩:=hN.shape;obtain⟨p2,z2,rfl,_⟩:=hO.shape
   by_cases h20:20≤i
   · have HX:=zh (qq (hd.trans (zu h20)))
     have g0:(20:Int)≤(i:Int):=by omega
     clear hd hkx;go_wp2_with fail;go_ret2;rw[HX.out];exact⟨rfl,hb⟩
   · have g0 : ¬(20 : Int) ≤ (i : Int) := by omega
     rcases qT:dF f with _|_
     · rw[kW qT] at HC
       have HX:=zh (qq (hd.trans (zq h20 qT)));clear hd hkx qT;go_wp2_with (go_at_call 39;refine HC.mono ?_;clear HC;rintro e w1 ⟨rfl,au⟩);go_ret2;rw[HX.out];exact⟨rfl,hb.trans (af au hb.size)⟩
     · rw [sZ qT] at HC
       cases i with
       | zero=>
        have HX:=zh (show cU l 0 none=cU (l.drop 1) 1 (nR l 1) by rw[hd,sY h20 qT (by rfl)];simp[nR,hkx]);simp only[Nat.zero_mul,Nat.add_zero] at c0 c1 c2 c3 c4;clear hd hkx qT;go_upto_region 9 with(go_at_call 39;refine HC.mono ?_;clear HC;rintro e w1 ⟨rfl,au⟩);go_quiet (fail);go_wp2_with fail;exact⟨⟨1,by omega,by go_num,Dm (hb.trans (af au hb.size)) _,HX⟩,by simp only[intOf];omega⟩
       | succ j=>
        have hj:j<l.length:=by omega
        obtain⟨y,j8⟩:∃y,l[j]? =some y:=⟨_,List.getElem?_eq_getElem hj⟩
        obtain⟨b2,o2,Uz,UA,e2,_,_,_,_,d0,_⟩:=sG.at j8;injection e2 with e2;injection e2 with e2 e3;subst e2 e3;rcases hl:Op.bytesLess y.name f.name with _|_
        · have HX:=zh (qq (hd.trans (by rw[show nR l (j+1)=some y.name by rw[nR,j8];rfl];exact uR h20 qT hl)))
          clear hd hkx j8 qT;go_upto_region 9 with(go_at_call 39;refine HC.mono ?_;clear HC;rintro e w1 ⟨rfl,au⟩;have vm7:=Below.keep au d0;have vm3:=Below.keep au c0);go_quiet (fail);go_wp2_with fail;go_ret2;rw[HX.out];exact⟨rfl,Dm (hb.trans (af au hb.size)) _⟩
        · have HX:=zh (show cU l 0 none=cU (l.drop (j+2)) (j+2) (nR l (j+2)) by rw[hd,sY h20 qT (by rw[show nR l (j+1)=some y.name by rw[nR,j8];rfl];simp[hl])];simp[nR,hkx])
          clear hd hkx j8 qT;go_upto_region 9 with(go_at_call 39;refine HC.mono ?_;clear HC;rintro e w1 ⟨rfl,au⟩;have vm7:=Below.keep au d0;have vm3:=Below.keep au c0);go_quiet (fail);go_wp2_with fail;exact⟨⟨j+2,by omega,by go_num,Dm (hb.trans (af au hb.size)) _,HX⟩,by simp only[intOf];omega⟩
end
open Go Go.RowKit
theorem vg1 {D:Nat→Prop} {P:Program} {ops:Array Oper} {n:Nat} {V:List VS} {E:List (Nat×VS)} {a0:Act} {S:World→Prop} {Q:Exit→Act→World→Prop} {k:Nat} {o:Oper} (hg:o.guard=none) (hs:bM D P S ops n V E k o) (hn:ops.size≤n):
 vbk P .any ops Q (MB D S E a0) (FJ D V) a0 k o:=by
 intro a w hS hd ho next hnx
 obtain⟨s,h1,⟨h2,_⟩|⟨h2,ins,h3,h4⟩⟩:=hs
 · unfold cO at h2
   rw[hg] at h2;cases h2
 · refine h4 a w Q hS.1 (λp hp=>AD (h3 p hp) hS hd λs hs=>ho s λo ho' e=>?_) next λv w' hv hb=>hnx v w' (λs' hs'=>by rw[h1] at hs';cases hs';exact hv) hb
   obtain⟨j,hj,e'⟩:=List.getElem_of_mem ho';exact hs j o (Nat.lt_of_lt_of_le (by simpa using hj) hn) (by rw[←Array.getElem?_toList,List.getElem?_eq_getElem hj,e']) e
def vg4 (P:Program) (ops:Array Oper) (h n:Nat):Bool:=
 P.follows .mixedOrders&&(sw .any ops&&(decide (ops.size=h+3)&&(vbl .any ops h&&(vbe .any ops h h&&(vbe .any ops h (h+1)&&wL ops n)))))
structure vgn (P:Program) (ops:Array Oper) (a0:Act) (vq3 os:Oper) (da vpv O f:Nat):Prop where
 mid:∀a w,(∀s,Out ops s→a.eval (.tmp s)=a0.eval (.tmp s))→∀(Q:Exit→Act→World→Prop) (next:Act→World→Prop),next (a.put vq3.dst (.pointer (some ⟨O,f,none⟩))) w→vq3.wp P a w next Q
 vnc:∀a w p n c u,a.eval (.tmp da)=.slice p n c→a.eval (.tmp vpv)=.pointer (some ⟨O,f,none⟩)→w.cell? ⟨O,f,none⟩=some u→u.oneCell'=true→w.frozen? ⟨O,f,none⟩=false→∀(Q:Exit→Act→World→Prop) (next:Act→World→Prop),next (a.put os.dst undef) (w.setCell ⟨O,f,none⟩ (.slice p n c))→os.wp P a w next Q
theorem vav {D : Nat → Prop} {P : Program} {ops : Array Oper} {a0 : Act} {Q : Exit → Act → World → Prop} {id : Nat} {w : World} {oa vq3 os : Oper} {da vpv O f : Nat} (h : Nat) (E : List (Nat × VS)) (V : List VS) (S : World → Prop) (vok : Value → World → Prop) (vph vpi : World → Prop)
 (hok:vg4 P ops h a0.tmps.size=true) (ha:ops[h]? =some oa) (hb:ops[h+1]? =some vq3) (hc:ops[h+2]? =some os) (hda:oa.dst=some da) (vjh:vq3.dst=some vpv) (hds:os.dst=none) (ht:vgn P ops a0 vq3 os da vpv O f)
 (eE:∀w w',S w→Below w.heap.size w w'→S w') (vhr:∀v w w',vok v w→Below w.heap.size w w'→vok v w') (nG:∀w w',vph w→Below w.heap.size w w'→vph w') (hS:S w.drew) (hE:ql D w.drew a0 E)
 (hst:lI D P S ops (h+3) V E 0 (ops.toList.take h))
 (vez:∀a w,S w→(∀(j:Nat) (s:VS) (d:Nat),j<h→V[j]? =some s→(ops[j]?).bind (·.dst)=some d→s.holds D w (a.eval (.tmp d)))→∀next:Act→World→Prop,(∀v w',vok v w'→vph w'→next (a.put oa.dst v) w')→oa.wp P a w next Q)
 (hsh:∀v w,vok v w→∃p n c,v=.slice p n c) (iu:∀w,vph w→∃u,w.cell? ⟨O,f,none⟩=some u∧u.oneCell'=true∧w.frozen? ⟨O,f,none⟩=false)
 (vf2:∀v w,vok v w→vph w→vpi (w.setCell ⟨O,f,none⟩ v))
 (hend:∀a w,vpi w→Q .normal (dA a (ops.toList.take (h+2)) a0) w):
 (Code.region id ops true).wp P Q a0 w:=by
 unfold vg4 at hok
 simp only[Bool.and_eq_true,decide_eq_true_eq] at hok
 obtain⟨k1,k2,k3,k4,k5,k6,k7⟩:=hok
 have hgd:∀o∈ops.toList,o.guard=none:=by
  unfold wL at k7;simp only[Bool.and_eq_true,List.all_eq_true,decide_eq_true_eq] at k7;exact λo ho=>(k7.2 o ho).1
 have steps:∀(l:List Oper) (k:Nat),(∀o∈l,o.guard=none)→lI D P S ops (h+3) V E k l→vam P .any ops Q (MB D S E a0) (FJ D V) a0 k l:=by
  intro l
  induction l with
  | nil=>exact λ_ _ _=>trivial
  | cons o l ih=>exact λk hg hs=>⟨vg1 (hg o (by simp)) hs.1 (Nat.le_of_eq k3),ih (k+1) (λx hx=>hg x (by simp[hx])) hs.2⟩
 refine vbw (S:=MB D S E a0) (A:=FJ D V) (vph:=vph) (vpi:=vpi) (vok:=vok) h k1 k2 k3 k4 k5 k6 k7 ha hb hc hda vjh (λj v w1 w2 h hb s hs=>(h s hs).below hb) (λw1 w2 h hb=>⟨eE _ _ h.1 hb,λp hp=>(h.2 p hp).below hb⟩) vhr nG ⟨hS,hE.all⟩
  (steps _ 0 (λo ho=>hgd o (List.mem_of_mem_take ho)) hst) ?_ (λa w hout next hn=>ht.mid a w hout Q next hn) ?_ ?_
 · intro a w hS hA hout next hn
   refine vez a w hS.1 (λj s d hj hs hd=>?_) next hn
   rw[Option.bind_eq_some_iff] at hd;obtain⟨oj,Sn,Sm⟩:=hd;exact hA j oj d hj Sn Sm s hs
 · intro a w hS hv hm hout next hn
   obtain⟨p,n,c,e⟩:=hsh _ _ hv;obtain⟨u,vgk,Oe,Of⟩:=iu w hS;have:=vf2 _ _ hv hS;rw[e] at this;exact ht.vnc a w p n c u e hm vgk Oe Of Q next (hn _ _ this)
 · intro a w hdf hsz hout hS
   have hp := wg hdf hsz hout;have hl : ops.toList = ops.toList.take (h + 2) ++ [os] := by
    have:ops.toList.length=h+3:=by simpa using k3
    apply List.ext_getElem?;intro j
    by_cases hj:j<h+2
    · rw[List.getElem?_append_left (by simp;omega),List.getElem?_take_of_lt hj]
    · rw[List.getElem?_append_right (by simp;omega),List.length_take,this]
      by_cases hj2:j=h+2
      · subst hj2
        rw[Array.getElem?_toList,hc];simp
      · rw[List.getElem?_eq_none (by omega),List.getElem?_eq_none (by simp;omega)]
   have e:∀(l:List Oper) (b:Act),dA a (l++[os]) b=dA a l b:=by
    intro l
    induction l with
    | nil=>intro b;show(b.put os.dst _)=b;rw[hds];rfl
    | cons o l ih=>intro b;exact ih _
   rw[hp,hl,e];exact hend a w hS
section
variable {D:Nat→Prop} {ops:Array Oper} {h:Nat} {V:List VS} {E:List (Nat×VS)} {S:World→Prop} {k:Nat} {o:Oper}
theorem vfc {T:TypeId} {x y:Operand} {n:List UInt8} {g:bP} (ho:o.op=.build T #[(0,x),(1,y)]) (hT:T=50∨T=79) (hw:cO ops h V o=some true) (hk:V[k]? =some (.op ⟨n,g⟩)) (hx:aJ ops h V E o x=some (.eq (str n))) (hy:aJ ops h V E o y=some (.sig g)) (hn:n.length≤maxLen):bM D Tryz.prog S ops h V E k o:=
 oI [(x,.eq (str n)),(y,.sig g)] hw hk (by simp[hx,hy]) λa w Q hS hi next hnx=>by
  have h1:a.eval x=str n:=hi (x,.eq (str n)) (by simp);obtain⟨u1,u2,vpw,vn6,vgk,Oe⟩:=hi (y,.sig g) (by simp);dsimp only at vpw;have hrun:∀ev:Operand→Value,ev x=str n→ev y=.agg #[.bool g.iter,u1,str g.res,u2]→(execOp ev o).run Tryz.prog w=.ok (.value (.agg #[str n,.bool g.iter,u1,str g.res,u2])) w:=λev h1 h2=>by
   unfold execOp;obtain⟨p,c,rfl,_⟩:=vgk.shape;obtain⟨q,d,rfl,_⟩:=Oe.shape;rcases hT with rfl|rfl<;>simp[ho,h1,h2,go_sem]
  unfold Oper.wp;rw[hrun _ h1 vpw];exact hnx _ _ ⟨u1,u2,rfl,⟨hn,vn6⟩,vgk,Oe⟩ (zb _)
theorem vfe {T U:TypeId} {x:Operand} {y:aL} {B:Nat} (ho:o.op=.buildSlice U 1 #[(0,x)]) (hT:(T=50∧U=31)∨(T=79∧U=23)) (hw:cO ops h V o=some true) (hk:V[k]? =some (.prop λw v=>vbr T D B w v [y])) (hx:aJ ops h V E o x=some (.op y)) (hB:∀w,S w→B≤w.heap.size):bM D Tryz.prog S ops h V E k o:=
 oI [(x,.op y)] hw hk (by simp[hx]) λa w Q hS hi next hnx=>by
  obtain⟨u1,u2,vpw,Cd,vgk,Oe⟩:=hi (x,.op y) (by simp);dsimp only at vpw;have hrun:∀ev:Operand→Value,ev x=.agg #[str y.name,.bool y.sig.iter,u1,str y.sig.res,u2]→(execOp ev o).run Tryz.prog w=.ok (.value (.slice (some ⟨w.heap.size,0,none⟩) 1 1)) (w.alloc (.cells #[str y.name,.bool y.sig.iter,u1,str y.sig.res,u2] T)):=λev h1=>by
   unfold execOp;obtain⟨p,c,rfl,_⟩:=vgk.shape;obtain⟨q,d,rfl,_⟩:=Oe.shape;rcases hT with⟨rfl,rfl⟩|⟨rfl,rfl⟩<;>simp[ho,h1,go_sem]
  unfold Oper.wp;rw[hrun _ vpw];exact hnx _ _ (λw' hb=>(vf9 (D:=D) (l:=[y]) (cs:=[str y.name,.bool y.sig.iter,u1,str y.sig.res,u2]) w (hB w hS) (n:=1) rfl (by unfold maxLen;omega) ⟨_,_,_,rfl,Cd,vgk,Oe,rfl⟩).below hb zr) ((zb w).alloc zr _)
end
def Room (w:World) (b k:Nat):Prop:=∃cur t,w.heap[b]? =some (.cells cur t (0,0))∧k≤cur.size
theorem Room.agree {w w':World} {b k:Nat} (h:Room w b k) (hk:w'.heap[b]? =w.heap[b]?):Room w' b k:=by
 obtain⟨cur,t,h1,h2⟩:=h
 exact⟨cur,t,hk.trans h1,h2⟩
theorem Room.lt {w:World} {b k:Nat} (h:Room w b k):b<w.heap.size:=by
 obtain⟨cur,t,h1,h2⟩:=h
 exact bA h1
theorem Room.below {K:Nat} {w w':World} {b k:Nat} (h:Room w b k) (hb:Below K w w') (hK:w.heap.size≤K):Room w' b k:=h.agree (hb.block b (Nat.lt_of_lt_of_le h.lt hK))
theorem Room.set {w:World} {b k:Nat} (h:Room w b k) (a:Addr) (u:Value):Room (w.setCell a u) b k:=by
 by_cases e:b=a.block
 · subst e
   obtain⟨cur,t,h,hk⟩:=h;refine⟨_,t,by simp only[World.setCell,Array.getElem?_modify,if_true,h,Option.map_some];rfl,?_⟩;split
   · exact hk
   · simpa using hk
 · exact h.agree (heap_setCell_other w a b u e)
theorem Room.mono {w:World} {b k k':Nat} (h:Room w b k) (hk:k'≤k):Room w b k':=by
 obtain⟨cur,t,h1,h2⟩:=h
 exact⟨cur,t,h1,Nat.le_trans hk h2⟩
theorem Room.at {w:World} {b k i:Nat} (h:Room w b k) (hi:i<k):(∃u,w.cell? ⟨b,i,none⟩=some u)∧w.frozen? ⟨b,i,none⟩=false:=by
 obtain⟨cur,t,h1,h2⟩:=h
 exact⟨⟨cur[i],(ak h1 i).trans (Array.getElem?_eq_getElem (by omega))⟩,az h1 i⟩
theorem vbb (w:World) {b o b' o':Nat} (u:Value) (h:b≠b'∨o≠o'):(w.setCell ⟨b',o',none⟩ u).cell? ⟨b,o,none⟩=w.cell? ⟨b,o,none⟩:=by
 by_cases e:b=b'
 · subst e
   have ho:o'≠o:=by
    rcases h with h|h
    · exact absurd rfl h
    · exact λe=>h e.symm
   unfold World.cell? World.setCell;simp only[Array.getElem?_modify,if_true];rcases w.heap[b]? with _|x
   · rfl
   · cases x<;>simp[Array.getElem?_setIfInBounds_ne ho]
 · exact World.cell?_of_block (heap_setCell_other w ⟨b',o',none⟩ b u e)
def vaq (D:Nat→Prop) (w:World) (p:Option Addr) (m:Nat):Prop:=m=0∨∃b o,p=some ⟨b,o,none⟩∧D b∧Room w b (o+m)
theorem vaq.set {D:Nat→Prop} {w:World} {p:Option Addr} {m:Nat} (h:vaq D w p m) (a:Addr) (u:Value):vaq D (w.setCell a u) p m:=by
 rcases h with h|⟨b,o,h1,h2,h3⟩
 · exact .inl h
 · exact .inr ⟨b,o,h1,h2,h3.set a u⟩
theorem vaq.below {D:Nat→Prop} {K:Nat} {w w':World} {p:Option Addr} {m:Nat} (h:vaq D w p m) (hb:Below K w w') (hK:w.heap.size≤K):vaq D w' p m:=by
 rcases h with h|⟨b,o,h1,h2,h3⟩
 · exact .inl h
 · exact .inr ⟨b,o,h1,h2,h3.below hb hK⟩
theorem vaq.mono {D D':Nat→Prop} {w:World} {p:Option Addr} {m:Nat} (h:vaq D w p m) (hD:∀b,D b→b<w.heap.size→D' b):vaq D' w p m:=by
 rcases h with h|⟨b,o,h1,h2,h3⟩
 · exact .inl h
 · exact .inr ⟨b,o,h1,hD b h2 h3.lt,h3⟩
theorem jh.vcu {D:Nat→Prop} {w:World} {p:Option Addr} {n c:Nat} {ss:List (List UInt8)} (h:jh D w (.slice p n c) ss):n=ss.length∧n≤maxLen∧vaq D w p n:=by
 obtain⟨p',c',e,_,h3,_,h4⟩:=h
 simp only[Value.slice.injEq] at e
 obtain⟨rfl,rfl,rfl⟩:=e
 refine⟨rfl,h3,?_⟩
 rcases h4 with rfl|⟨b,o,e,⟨h5,cur,t,h6⟩,_,h7⟩
 · exact .inl rfl
 · by_cases h0:ss.length=0
   · exact .inl h0
   · refine .inr ⟨b,o,e,h5,cur,t,h6,?_⟩
     have:=h7 (ss.length - 1) (by omega);rw[ak h6] at this;have:=(Array.getElem?_eq_some_iff.1 this).1;omega
def Mem (D:Nat→Prop) (w:World) (g j:Nat):Prop:=∃p m c,m≤maxLen∧w.cell? ⟨g,j * 5+2,none⟩=some (.slice p m c)∧vaq D w p m
theorem Mem.set {D:Nat→Prop} {w:World} {g j b o:Nat} (h:Mem D w g j) (hne:b≠g∨o≠j * 5+2) (u:Value):Mem D (w.setCell ⟨b,o,none⟩ u) g j:=by
 obtain⟨p,m,c,h1,h2,h3⟩:=h
 exact⟨p,m,c,h1,by rw[vbb w u (hne.elim (λh=>.inl (Ne.symm h)) λh=>.inr (Ne.symm h))];exact h2,h3.set _ u⟩
theorem Mem.below {D:Nat→Prop} {K:Nat} {w w':World} {g j:Nat} (h:Mem D w g j) (hb:Below K w w') (hK:w.heap.size≤K):Mem D w' g j:=by
 obtain⟨p,m,c,h1,h2,h3⟩:=h
 exact⟨p,m,c,h1,(hb.cell (Nat.lt_of_lt_of_le (World.block_lt_of_cell? _ _ h2) hK)).trans h2,h3.below hb hK⟩
theorem kQ.rows {T:TypeId} {B:Nat} {w:World} {v:Value} {l:List aL} (h:kQ T B w v l):l.length≤maxLen∧((v=.slice none 0 0∧l.length=0)∨∃g c,v=.slice (some ⟨g,0,none⟩) l.length c∧B≤g∧Room w g (l.length * 5)∧∀j,j<l.length→Mem (λb=>B≤b∧b≠g∧b<w.heap.size) w g j):=by
 obtain⟨cs,h1,h2⟩:=h
 rcases h1.2 with⟨rfl,h0⟩|⟨g,cap,cur,rfl,h3,h4,h5,h6,h7,h8⟩
 · exact⟨by omega,.inl ⟨rfl,h0⟩⟩
 · refine⟨by omega,.inr ⟨g,cap,rfl,h3,⟨cur,T,h4,by omega⟩,λj hj=>?_⟩⟩
   obtain⟨a,s,k1,_,_,_,k2,_⟩:=bl.get h2 j hj;obtain⟨p,c,rfl,_⟩:=k1.shape;obtain⟨_,k3,k4⟩:=jh.vcu k1;refine⟨p,_,c,k3,?_,k4.mono λb hb hlt=>⟨hb.1,λe=>hb.2 (by rw[e];rfl),hlt⟩⟩;rw[ak h4,←k2,←h8,List.getElem?_take,if_pos (by omega),Array.getElem?_toList]
theorem Room.x9 {D:Nat→Prop} {w:World} {b o:Nat} {l:List aL} {c:Nat} {cur:Array Value} {t:TypeId} (h:w.heap[b]? =some (.cells cur t (0,0))) (hv:aY D w (.slice (some ⟨b,o,none⟩) l.length c) l) (hne:l≠[]):o+l.length * 5≤cur.size:=by
 obtain⟨p',c',e,_,_,_,h4⟩:=hv
 simp only[Value.slice.injEq] at e
 rcases h4 with h4|⟨b',o',e',_,_,h6⟩
 · exact absurd h4 hne
 · obtain⟨rfl,_,rfl⟩:=e
   cases e';have hl:0<l.length:=List.length_pos_iff.2 hne;obtain⟨_,_,_,_,_,_,_,_,h7⟩:=h6 (l.length - 1) (by omega);rw[ak h] at h7;have:=(Array.getElem?_eq_some_iff.1 h7).1;omega
def vak (K L:Nat) (w:World) (P:Option Addr) (N i:Nat):Prop:=∀j,i≤j→j<N→∃g,P=some ⟨g,0,none⟩∧K≤g∧g<L∧Room w g (N * 5)∧Mem (λb=>K≤b∧b≠g∧b<L) w g j
theorem kQ.vjc {T:TypeId} {B:Nat} {w:World} {p:Option Addr} {n c:Nat} {l:List aL} (h:kQ T B w (.slice p n c) l):n=l.length∧n≤maxLen∧vak B w.heap.size w p n 0:=by
 obtain⟨h1,⟨e,h2⟩|⟨g,c',e,h2,h3,h4⟩⟩:=h.rows
 · simp only[Value.slice.injEq] at e
   obtain⟨rfl,rfl,rfl⟩:=e;exact⟨h2.symm,Nat.zero_le _,λj _ hj=>by omega⟩
 · simp only[Value.slice.injEq] at e
   obtain⟨rfl,rfl,rfl⟩:=e;exact⟨rfl,h1,λj _ hj=>⟨g,rfl,h2,h3.lt,h3,h4 j hj⟩⟩
theorem vak.below {K L B:Nat} {w w':World} {P:Option Addr} {N i:Nat} (h:vak K L w P N i) (hb:Below B w w') (hB:w.heap.size≤B):vak K L w' P N i:=λj h1 h2=>by
 obtain⟨g,k1,k2,k3,k4,k5⟩:=h j h1 h2
 exact⟨g,k1,k2,k3,k4.below hb hB,k5.below hb hB⟩
theorem vak.set {K L:Nat} {w:World} {P:Option Addr} {N i b o:Nat} (h:vak K L w P N i) (hne:∀g,P=some ⟨g,0,none⟩→b≠g∨∀j,i≤j→o≠j * 5+2) (u:Value):vak K L (w.setCell ⟨b,o,none⟩ u) P N i:=λj h1 h2=>by
 obtain⟨g,k1,k2,k3,k4,k5⟩:=h j h1 h2
 refine⟨g,k1,k2,k3,k4.set _ u,k5.set ?_ u⟩
 rcases hne g k1 with h|h
 · exact .inl h
 · exact .inr (h j h1)
theorem vak.next {K L:Nat} {w:World} {P:Option Addr} {N i:Nat} (h:vak K L w P N i):vak K L w P N (i+1):=λj h1 h2=>h j (by omega) h2
def vaz (K:Nat) (w w':World):Prop:=w'.heap.size=w.heap.size∧∀k,K≤k→w'.heap[k]? =w.heap[k]?
theorem vaz.refl (K:Nat) (w:World):vaz K w w:=⟨rfl,λ_ _=>rfl⟩
theorem vaz.set {K:Nat} {w w':World} (h:vaz K w w') {b o:Nat} (hb:b<K) (u:Value):vaz K w (w'.setCell ⟨b,o,none⟩ u):=
 ⟨by rw[size_set];exact h.1,λk hk=>by rw[heap_setCell_other w' ⟨b,o,none⟩ k u (by simp only;omega)];exact h.2 k hk⟩
theorem vaz.room {K:Nat} {w w':World} (h:vaz K w w') {b k:Nat} (hb:K≤b) (hr:Room w b k):Room w' b k:=hr.agree (h.2 b hb)
theorem vaz.vcu {K:Nat} {w w':World} (h:vaz K w w') {D:Nat→Prop} {p:Option Addr} {m:Nat} (hD:∀b,D b→K≤b) (ht:vaq D w p m):vaq D w' p m:=by
 rcases ht with ht|⟨b,o,h1,h2,h3⟩
 · exact .inl ht
 · exact .inr ⟨b,o,h1,h2,h.room (hD b h2) h3⟩
theorem aY.vcu {D:Nat→Prop} {w:World} {p:Option Addr} {n c:Nat} {l:List aL} (h:aY D w (.slice p n c) l) (hu:∀b,(Value.slice p n c).ownBlock=some b→mN w b):n=l.length∧n≤maxLen∧vaq D w p (n * 5):=by
 have h':=h
 obtain⟨p',c',e,_,h3,_,h4⟩:=h
 simp only[Value.slice.injEq] at e
 obtain⟨rfl,rfl,rfl⟩:=e
 refine⟨rfl,h3,?_⟩
 rcases h4 with rfl|⟨b,o,rfl,h5,_,_⟩
 · exact .inl rfl
 · by_cases h0:l=[]
   · subst h0
     exact .inl rfl
   · obtain⟨cur,t,hh⟩:=hu b rfl
     exact .inr ⟨b,o,rfl,h5,cur,t,hh,Room.x9 hh h' h0⟩
