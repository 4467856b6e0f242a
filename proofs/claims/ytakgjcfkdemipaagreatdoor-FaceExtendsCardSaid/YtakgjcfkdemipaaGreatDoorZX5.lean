/-
  Lemmas for the statement: contract of the reference argusref04: Uses. No condition.
-/
import Derived.Test.YtakgjcfkdemipaaGreatDoorZB25
import Derived.Test.YtakgjcfkdemipaaGreatDoorZBn
import Derived.Test.YtakgjcfkdemipaaGreatDoorZX2
import Derived.Test.YtakgjcfkdemipaaGreatDoorZX4
set_option maxHeartbeats 25600000
namespace Go.Proofs.YtakgjcfkdemipaaGreatDoor
open Go Go.RowKit
def va2 (l:List aL):List (List UInt8):=l.flatMap λo=>aQ o.sig
theorem vaq {l:List aL} {i:Nat} {x:aL} (hx:l[i]? =some x):va2 (l.take i)++aQ x.sig=va2 (l.take (i+1)):=by
 unfold va2
 rw[List.take_add_one,hx,Option.toList_some,List.flatMap_append]
 simp
theorem vaa {s:bP} (h:s.args.length≤6):(aQ s).length≤7:=by
 unfold aQ
 rw[List.length_append]
 split<;>simp<;>omega
theorem va4 {l:List aL} (h:∀o∈l,o.sig.args.length≤6):(va2 l).length≤l.length * 7:=by
 unfold va2
 induction l with
 | nil=>simp
 | cons x l ih=>
  have h1:=ih λo ho=>h o (by simp[ho])
  have h2:=vaa (h x (by simp));rw[List.flatMap_cons,List.length_append,List.length_cons,Nat.succ_mul];omega
theorem vbb {f:aA} (h:dF f=true):uF f=(gB ((va2 f.ag++va2 f.ops).flatMap λt=>(bZ t).1),0):=by
 unfold uF
 rw[if_pos h]
 unfold mL va2
 rw[List.flatMap_append,List.flatMap_map,List.flatMap_map]
theorem vc9 {f:aA} (h:dF f=false):uF f=([],42):=by unfold uF;rw[if_neg (by rw[h];simp)]
theorem vcj {l:List (List UInt8)} {x y:List UInt8} {j:Nat} (h:vam l) (hy:l[j]? =some y) (hn:Op.bytesLess y x=false) (hne:¬y=x):∀m (hm:m<l.length),j≤m→Op.bytesLess x l[m]=true:=λm hm hj=>by
 obtain⟨hjl,rfl⟩:=List.getElem?_eq_some_iff.1 hy
 have h1:Op.bytesLess x l[j]=true:=by
  have:=gH _ _ hn;rw[Bool.or_eq_true] at this;rcases this with h2|h2
  · exact h2
  · exact absurd (by simpa using h2:x=l[j]).symm hne
 by_cases e:m=j
 · subst e;exact h1
 · exact fT _ _ _ h1 (List.pairwise_iff_getElem.1 h j m hjl hm (by omega))
set_option maxRecDepth 8000 in
theorem vbk {D : Nat → Prop} (v : Value) (f : aA) (w : World) (hv : dO D w v f) :
 Calls Tryz.prog 48 #[v] w λe w'=>∃u,e=.returned (.tuple #[u,.int .i64 (uF f).2])∧SS Any w' u (uF f).1∧Below w.heap.size w w':=by
 have HC:=λW (hW:Below w.heap.size w W)=>Hw v f W (hv.below hW zr)
 obtain⟨nv,ov,rfl,hfl,hN,hO⟩:=hv
 obtain⟨pn,cn,rfl,_⟩:=hN.shape
 obtain⟨po,co,rfl,_⟩:=hO.shape
 have hA:=(zb w).alloc zr (.cells #[str f.name,.int .u8 f.kind,.bool f.par,.slice pn f.ag.length cn,.slice po f.ops.length co] 58)
 have bT:=heap_alloc_new w (.cells #[str f.name,.int .u8 f.kind,.bool f.par,.slice pn f.ag.length cn,.slice po f.ops.length co] 58)
 replace HC:=HC _ hA
 have b1:=bz bT
 rcases hk:dF f with _|_
 · have HX:=zh (vc9 hk)
   rw[kW hk] at HC;generalize uF f=RS at *;clear hk hN hO;go_enter Tryz.func48,Tryz.ntmps48;go_wp2_with (go_at_call 39;refine HC.mono ?_;clear HC;rintro e w1 ⟨rfl,au⟩);go_ret2;rw[HX.out];exact⟨_,rfl,SS.nil _ _ _ _,hA.trans (af au (by simp))⟩
 have qT:=dQ hk
 have hnd:=ec qT.2.2.2.1
 have hol:f.ops.length≤20:=qT.2.2.2.2.2.2.1
 have hos:∀o∈f.ops,o.sig.args.length≤6:=λo ho=>(eN (qT.2.2.2.2.2.2.2.1 o ho).2).1
 have HX:=zh (vbb hk)
 rw[sZ hk] at HC
 have ve6:=va4 λo ho=>(hnd.2 o ho).1
 have ve7:=va4 hos
 have veb:=hnd.1
 have yX:=zh (λo ho=>(hnd.2 o ho).1)
 replace hos:=zh hos
 have hty:∀t∈va2 f.ag++va2 f.ops,(aq t).1=0:=by
  intro t ht;rcases List.mem_append.1 ht with ht|ht
  · obtain⟨o,ho,ht⟩:=List.mem_flatMap.1 ht
    have hnk:=qT.2.2.2.1;unfold aU at hnk;rw[Bool.and_eq_true,Bool.and_eq_true,List.all_eq_true] at hnk;exact((eN (hnk.1.1 o ho)).2.2.2.2 t ht).1
  · obtain⟨o,ho,ht⟩:=List.mem_flatMap.1 ht
    exact((eN (qT.2.2.2.2.2.2.2.1 o ho).2).2.2.2.2 t ht).1
 replace hty:=zh hty
 generalize uF f=RS at *
 clear hk qT hnd
 have hN1:=hN.below hA zr
 have Ko:=hO.below hA zr
 generalize Md:w.alloc (.cells #[str f.name,.int .u8 f.kind,.bool f.par,.slice pn f.ag.length cn,.slice po f.ops.length co] 58)=w0 at *
 clear hN hO
 go_enter Tryz.func48,Tryz.ntmps48
 go_wp2_with (first
  | (rw[Md])
  | (go_at_call 39;refine HC.mono ?_;clear HC;rintro e w1 ⟨rfl,au⟩))
 have bL:=au
 clear b1
 have iu:=ah bT au
 have vd7:=hN1.below au zr
 have Kq:=Ko.below au zr
 have hK:=hA.trans (af au (by rw[←Md];simp))
 have Lb:w.heap.size<w1.heap.size:=bA iu
 clear au hN1 Ko bT hA bL
 clear Md w0
 go_loopw [4,5] (λa y wx=>∃i:Nat,i≤f.ag.length∧y=.int .i64 i∧wx.ownsRow w1.heap.size 9 1 a (va2 (f.ag.take i)).length (aB (va2 (f.ag.take i)))∧Below w1.heap.size w1 wx) (λ_ y _=>f.ag.length - (intOf y).toNat)
 case atStart=>exact⟨0,Nat.zero_le _,by go_num,World.ownsRow_nil _ _ _ _,zb _⟩
 case round =>
  obtain⟨i,hi,rfl,hown,hb⟩:=hrel;have bx:=bz (ah iu hb)
  by_cases hlt:i<f.ag.length
  case pos=>
   obtain⟨x,hkx⟩:∃x,f.ag[i]? =some x:=⟨_,List.getElem?_eq_getElem hlt⟩
   have C8:=yX.out x (List.mem_of_getElem? hkx);obtain⟨b2,o2,av,sv,rfl,_,⟨F8,mI⟩,fe,eE,d0,d1,d2,d3,d4⟩:=(vd7.below hb zr).at hkx;obtain⟨pa,ca,rfl,_⟩:=fe.shape;obtain⟨ps,cs,rfl,_⟩:=eE.shape;have OU:=Ay (.agg #[.bool x.sig.iter,.slice pa x.sig.args.length ca,str x.sig.res,.slice ps x.sig.sigs.length cs]) x.sig wr ⟨_,_,rfl,mI,fe,eE⟩ (by omega);have vde:=zh (show(va2 (f.ag.take i))++aQ x.sig=va2 (f.ag.take (i+1)) by rw[←vaq hkx]);have hil:(i:Int)<(f.ag.length:Int):=by omega
   have M0:(va2 (f.ag.take i)).length≤1000:=by
    have:=va4 (l:=f.ag.take i) λo ho=>yX.out o (List.mem_of_mem_take ho)
    rw[List.length_take] at this;skip;omega
   have Mc:=vaa C8;obtain⟨pv,cv,rfl⟩:=bu hown;generalize va2 (f.ag.take i)=A at *;generalize aQ x.sig=TK at *;clear hkx fe eE vd7 Kq;go_wp2_with (first
    | (at_builtin;refine jV _ rfl _ _ rfl w1.heap.size (.slice pv A.length cv) A rfl vb0 _ TK rfl hS (by omega) (Nat.le_trans hb.size aC.size) ?_;intro v' w5 h5 C5 ved)
    | (go_at_call 93;refine OU.mono ?_;clear OU;rintro e w2 ⟨u,rfl,_,hS,aC⟩;obtain⟨pu,cu,rfl,_⟩:=hS.shape;have vb0:=ay hown aC zr))
   exact⟨⟨i+1,hlt,by go_num,by rw[←vde.out];exact h5,(hb.trans (af aC hb.size)).grown C5 (Nat.le_trans hb.size aC.size) (λb e=>(vb0.lt b e).1)⟩,by simp only[intOf];omega⟩
  case neg =>
   obtain rfl:i=f.ag.length:=by omega
   rw[List.take_length] at hown;obtain⟨pv,cv,rfl⟩:=bu hown;have vca:=hown;have au:=hb;clear hown hb;go_wp2_with fail;clear bx;go_loopw [4,6] (λa y wx=>∃i:Nat,i≤f.ops.length∧y=.int .i64 i∧wx.ownsRow w1.heap.size 9 1 a (va2 f.ag++va2 (f.ops.take i)).length (aB (va2 f.ag++va2 (f.ops.take i)))∧Below w1.heap.size w1 wx) (λ_ y _=>f.ops.length - (intOf y).toNat)
   case atStart=>exact⟨0,Nat.zero_le _,by go_num,by simpa[va2] using vca,au⟩
   case round =>
    obtain⟨i,hi,rfl,hown,hb⟩:=hrel;have bx:=bz (ah iu hb)
    by_cases hlt:i<f.ops.length
    case pos=>
     obtain⟨x,hkx⟩:∃x,f.ops[i]? =some x:=⟨_,List.getElem?_eq_getElem hlt⟩
     have C8:=hos.out x (List.mem_of_getElem? hkx);obtain⟨b2,o2,av,sv,rfl,_,⟨F8,mI⟩,fe,eE,d0,d1,d2,d3,d4⟩:=(Kq.below hb zr).at hkx;obtain⟨pa,ca,rfl,_⟩:=fe.shape;obtain⟨ps,cs,rfl,_⟩:=eE.shape;have OU:=Ay (.agg #[.bool x.sig.iter,.slice pa x.sig.args.length ca,str x.sig.res,.slice ps x.sig.sigs.length cs]) x.sig wr ⟨_,_,rfl,mI,fe,eE⟩ (by omega);have vde:=zh (show(va2 f.ag++va2 (f.ops.take i))++aQ x.sig=va2 f.ag++va2 (f.ops.take (i+1)) by rw[←vaq hkx,List.append_assoc]);have hil:(i:Int)<(f.ops.length:Int):=by omega
     have M0:(va2 f.ag++va2 (f.ops.take i)).length≤1000:=by
      have:=va4 (l:=f.ops.take i) λo ho=>hos.out o (List.mem_of_mem_take ho)
      rw[List.length_take] at this;rw[List.length_append];omega
     have Mc:=vaa C8;obtain⟨pv,cv,rfl⟩:=bu hown;generalize va2 f.ag++va2 (f.ops.take i)=A at *;generalize aQ x.sig=TK at *;clear hkx fe eE vd7 Kq;go_wp2_with (first
      | (at_builtin;refine jV _ rfl _ _ rfl w1.heap.size (.slice pv A.length cv) A rfl vb0 _ TK rfl hS (by omega) (Nat.le_trans hb.size aC.size) ?_;intro v' w5 h5 C5 ved)
      | (go_at_call 93;refine OU.mono ?_;clear OU;rintro e w2 ⟨u,rfl,_,hS,aC⟩;obtain⟨pu,cu,rfl,_⟩:=hS.shape;have vb0:=ay hown aC zr))
     exact⟨⟨i+1,hlt,by go_num,by rw[←vde.out];exact h5,(hb.trans (af aC hb.size)).grown C5 (Nat.le_trans hb.size aC.size) (λb e=>(vb0.lt b e).1)⟩,by simp only[intOf];omega⟩
    case neg =>
     obtain rfl:i=f.ops.length:=by omega
     rw[List.take_length] at hown;have SB:(va2 f.ag++va2 f.ops).length≤1000:=by rw[List.length_append];omega
     obtain⟨pv,cv,rfl⟩:=bu hown;generalize va2 f.ag++va2 f.ops=AL at *;have ve5:SS Any wr (.slice pv AL.length cv) AL:=SS.bH hown (λt ht=>Nat.le_trans (wC (hty.out t ht)) (by decide)) λ_ _=>trivial
     have vdy:=hK.trans (af hb (by omega));clear vd7 Kq ve6 ve7 yX hos hown hb Lb hK;go_wp2_with fail;clear bx vca au iu;generalize wr=w3 at *;go_loopw [7,8] (λa y wx=>∃(i:Nat) (acc:List (List UInt8)),i≤AL.length∧y=.int .i64 i∧Hid (vam acc∧(∀s,s∈acc↔s∈(AL.take i).flatMap λt=>(bZ t).1)∧∀s∈acc,s.length≤100)∧acc.length≤i * 100∧SS Any wx a acc∧Below w3.heap.size w3 wx) (λ_ y _=>AL.length - (intOf y).toNat)
     case atStart=>exact⟨0,[],Nat.zero_le _,by go_num,⟨List.Pairwise.nil,by simp,by simp⟩,Nat.zero_le _,SS.nil _ _ _ _,zb _⟩
     case round =>
      obtain⟨i,acc,hi,rfl,hacc,hal,hS,hb⟩:=hrel;obtain⟨ven,vek,rfl,_⟩:=hS.shape
      by_cases hlt:i<AL.length
      case neg=>
       obtain rfl:i=AL.length:=by omega
       have HZ:=zh (show RS=(acc,0) by
        rw[HX.out];obtain⟨h1,h2,_⟩:=hacc.out;rw[List.take_length] at h2;rw[←vat h1 h2])
       clear hacc HX;go_wp2_with fail;go_ret2;rw[HZ.out];exact⟨_,rfl,hS,vdy.trans (af hb vdy.size)⟩
      case pos =>
       obtain⟨t,hkt⟩:∃t,AL[i]? =some t:=⟨_,List.getElem?_eq_getElem hlt⟩
       have vdm:=hty.out t (List.mem_of_getElem? hkt);obtain⟨zD,htl,htn⟩:=jo vdm;have vdb:=λW=>vba t (Nat.le_trans (wC vdm) (by decide)) W
       have vdr:=zh (show((AL.take (i+1)).flatMap λt=>(bZ t).1)=((AL.take i).flatMap λt=>(bZ t).1)++(bZ t).1 by rw[List.take_add_one,hkt,Option.toList_some,List.flatMap_append];simp);obtain⟨b1,o1,rfl,_,hct⟩:=(ve5.below hb zr).at hkt;have hil:(i:Int)<(AL.length:Int):=by omega
       rw[zD] at vdb;generalize (bZ t).1=NM at *;clear hkt vdm zD;go_wp2_with (go_at_call 103;refine(vdb _).mono ?_;clear vdb;rintro e w4 ⟨v4,rfl,IW,hb4⟩;obtain⟨p4,c4,rfl⟩:=IW.sh);have uV:=hS.below hb4 zr;have vc6:=hb.trans (af hb4 hb.size);clear hb4 hct;go_loopw [7,11] (λa y wx=>∃(k:Nat) (va1:List (List UInt8)),k≤NM.length∧y=.int .i64 k∧Hid (vam va1∧(∀s,s∈va1↔s∈acc∨s∈NM.take k)∧∀s∈va1,s.length≤100)∧va1.length≤acc.length+k∧SS Any wx a va1∧Below w4.heap.size w4 wx) (λ_ y _=>NM.length - (intOf y).toNat)
       case atStart=>exact⟨0,acc,Nat.zero_le _,by go_num,⟨hacc.out.1,by simp,hacc.out.2.2⟩,nl _,uV,zb _⟩
       case round =>
        clear uV hS;obtain⟨k,va1,hk,rfl,vaz,DM,hS,hb⟩:=hrel;obtain⟨vfb,c5,rfl,vdz,_⟩:=hS.shape
        by_cases hkt:k<NM.length
        case neg=>
         obtain rfl:k=NM.length:=by omega
         have HQ:Hid (vam va1∧(∀s,s∈va1↔s∈(AL.take (i+1)).flatMap λt=>(bZ t).1)∧∀s∈va1,s.length≤100):=by
          obtain⟨h1,h2,h3⟩:=vaz.out;refine⟨h1,λs=>?_,h3⟩;rw[h2,hacc.out.2.1,vdr.out,List.mem_append,List.take_length]
         have vdh:va1.length≤(i+1) * 100:=by omega
         clear vaz hacc vdr;go_wp2_with fail;exact⟨⟨i+1,va1,hlt,by go_num,HQ,vdh,hS,vc6.trans (af hb vc6.size)⟩,by simp only[intOf];omega⟩
        case pos =>
         obtain⟨x,hkx⟩:∃x,NM[k]? =some x:=⟨_,List.getElem?_eq_getElem hkt⟩
         have hxl:=htn x (List.mem_of_getElem? hkx);have ve2:=IW.below hb zr;have NU:(k:Int)<(NM.length:Int):=by omega
         have vcr:=zh (λs=>(show s∈NM.take (k+1)↔s∈NM.take k∨s=x by rw[List.take_add_one,hkx,Option.toList_some,List.mem_append];simp));obtain⟨b2,o2,rfl,RY⟩:=ve2.at hkx;have mE:=vc6.trans (af hb vc6.size);clear hkx ve2;go_wp2_with fail;have BR:=hS;clear hS;generalize wr=w5 at *;go_loopw [12] (λy wx=>∃j:Nat,j≤va1.length∧y=.int .i64 j∧Hid (∀m (hm:m<va1.length),m<j→Op.bytesLess va1[m] x=true)∧Below w5.heap.size w5 wx) (λy _=>va1.length - (intOf y).toNat)
         case atStart=>exact⟨0,Nat.zero_le _,by go_num,(λm hm h=>by omega),zb _⟩
         case round =>
          obtain⟨j,hj,rfl,hlo,jJ⟩:=hrel;have Pm:=BR.below jJ zr
          replace RY:=Below.keep jJ RY
          by_cases hjl:j<va1.length
          case neg =>
           obtain rfl:j=va1.length:=by omega
           go_upto_region 21 with fail;refine qj (d:=some 82) (D:=Any) (w:=wr) 14 [(7,.eq (.slice vfb va1.length c5)),(12,vI va1.length)] [vI va1.length,.eq (.slice vfb va1.length c5),vI va1.length,vN,vN,vK,vK,vK,vK,vK,vK,vK,vK,vK,vN] (aZ []) (by kernel_rfl) rfl rfl (λ_ _ h hb=>h.below hb) (λp hp=>by cases hp) ⟨rfl,rfl,trivial⟩ ?_ ?_
           · iterate 15
              refine And.intro ?_ ?_
              · first
                | exact dr (by kernel_rfl) rfl
                | exact oe rfl rfl (by kernel_rfl)
                | exact eX rfl (by kernel_rfl) (by kernel_rfl) rfl rfl
                | exact gN rfl (by kernel_rfl) rfl rfl (λw=>by simp[go_sem])
                | exact iC rfl (by kernel_rfl) rfl rfl rfl (λw=>by simp[go_sem])
                | exact gv rfl (by kernel_rfl) rfl rfl (λw hS=>by simp[go_sem])
                | exact eW rfl (by kernel_rfl) rfl rfl rfl (λw=>by simp[go_sem])
             exact trivial
           · intro aE wE mo fM _
             simp only[pq,pz,pw];have sB:=jJ.trans (af fM jJ.size);have RN:=Pm.below fM zr;have vbi:=Below.keep fM RY;clear jJ Pm RY mo;generalize wE=wr at *;go_upto_region 23 with fail;refine qj (d:=some 99) (D:=Any) (w:=wr) 14 [(7,.eq (.slice vfb va1.length c5)),(12,vI va1.length)] [vI va1.length,.eq (.slice vfb va1.length c5),vI va1.length,vN,vN,vK,vK,vK,vK,vK,vK,vK,vK,vK,vN] (aZ []) (by kernel_rfl) rfl rfl (λ_ _ h hb=>h.below hb) (λp hp=>by cases hp) ⟨rfl,rfl,trivial⟩ ?_ ?_
             · iterate 15
                refine And.intro ?_ ?_
                · first
                  | exact dr (by kernel_rfl) rfl
                  | exact oe rfl rfl (by kernel_rfl)
                  | exact eX rfl (by kernel_rfl) (by kernel_rfl) rfl rfl
                  | exact gN rfl (by kernel_rfl) rfl rfl (λw=>by simp[go_sem])
                  | exact iC rfl (by kernel_rfl) rfl rfl rfl (λw=>by simp[go_sem])
                  | exact gv rfl (by kernel_rfl) rfl rfl (λw hS=>by simp[go_sem])
                  | exact eW rfl (by kernel_rfl) rfl rfl rfl (λw=>by simp[go_sem])
               exact trivial
             · intro aE wE mo fM _
               simp only[pq,pz,pw];have tG:=sB.trans (af fM sB.size);have vch:=RN.below fM zr;have vbu:=Below.keep fM vbi;clear sB RN vbi mo fM;generalize wE=wr at *;have vcw:=hb.trans (af tG hb.size);have hD:=(Below.refl wr.heap.size wr).drew;have vdl:=vch.below hD zr;have vdn:=Below.keep hD vbu;clear hb tG vch vbu;go_upto_region 24 with fail;have hbc:va1.length≤c5:=vdz;have hja:va1.length≤va1.length:=by omega
               have R9:va1.length≤c5:=by omega
               have tO:x.length≤maxLen:=Nat.le_trans hxl (by decide);have vdi:va1.length≤900000:=by omega
               have SD:(va1.take va1.length).length=va1.length:=by rw[List.length_take];omega
               have vcq:[x].length+(va1.drop va1.length).length≤1000000:=by rw[List.length_drop,List.length_singleton];omega
               have hBm:(va1.take va1.length).length+([x]++va1.drop va1.length).length≤1000000:=by rw[List.length_append,List.length_drop,List.length_singleton,SD];omega
               have vbt:(va1.take va1.length++([x]++va1.drop va1.length)).length≤acc.length+(k+1):=by simp only[List.length_append,List.length_drop,List.length_singleton,SD];omega
               have HI:Hid (vam (va1.take va1.length++([x]++va1.drop va1.length))∧(∀s,s∈va1.take va1.length++([x]++va1.drop va1.length)↔s∈acc∨s∈NM.take (k+1))∧∀s∈va1.take va1.length++([x]++va1.drop va1.length),s.length≤100):=by
                obtain⟨h1,h2,h3⟩:=vaz.out;refine⟨vav h1 hja (λm hm vco=>hlo.out m hm vco) (λm hm vco=>by omega),λs=>?_,λs hs=>?_⟩
                · rw[List.singleton_append,vae,vcr.out s,h2 s]
                  exact⟨λh=>h.elim (λh=>.inr (.inr h)) λh=>h.elim .inl λh=>.inr (.inl h),λh=>h.elim (λh=>.inr (.inl h)) λh=>h.elim (λh=>.inr (.inr h)) .inl⟩
                · rw[List.singleton_append,vae] at hs
                  rcases hs with rfl|hs
                  · exact hxl
                  · exact h3 s hs
               clear vaz vcr hlo;refine vW (D:=Any) (w:=wr) 14 [(7,.eq (.slice (vfb) va1.length c5)),(9,.eq (.slice (some ⟨b2,o2,none⟩) NM.length c4)),(11,vI k),(12,vI va1.length)] [.eq (.slice (vfb) va1.length c5),vI va1.length,vI va1.length,.eq (sliced (vfb) 0 va1.length va1.length 1),.eq (.slice (some ⟨b2,o2,none⟩) NM.length c4),vI k,vP b2 (o2+k),vT x,.prop (vcf x),.eq (.slice (vfb) va1.length c5),vI va1.length,.eq (sliced (vfb) va1.length va1.length c5 1),.ss ([x]++va1.drop va1.length),.ss (va1.take va1.length++([x]++va1.drop va1.length)),.ss (va1.take va1.length++([x]++va1.drop va1.length))] (λw'=>aZ [cA b2 (o2+k) (str x)] w'∧SS Any w' (.slice (vfb) va1.length c5) va1) (by kernel_rfl) rfl (d:=some 7) rfl (λ_ _ h hb=>⟨h.1.below hb,h.2.below hb zr⟩) ⟨by(refine b9 vdn ?_);exact gy,vdl⟩ ⟨rfl,rfl,rfl,rfl,trivial⟩ ?_ ?_
               · iterate 15
                  refine And.intro ?_ ?_
                  · first
                    | exact oe rfl rfl (by kernel_rfl)
                    | exact iC rfl (by kernel_rfl) rfl rfl rfl (λw=>by simp[go_sem,NU])
                    | exact gv rfl (by kernel_rfl) rfl rfl (λw hS=>by simp[go_sem,(hS.1.get 0 rfl)])
                    | exact vcc rfl rfl (by kernel_rfl) rfl rfl rfl rfl R9
                    | exact vcd rfl rfl (by kernel_rfl) rfl rfl rfl hja
                    | exact vcb rfl rfl (by kernel_rfl) rfl rfl
                    | exact vbf rfl rfl rfl (by kernel_rfl) rfl rfl rfl (λw v _ h=>(by obtain⟨h1,p,rfl⟩:=h w (zb _);exact⟨p,rfl,SS.bH h1 (by intro s hs;rw[List.mem_singleton.1 hs];exact tO) (λ_ _=>trivial),λ_=>h1⟩)) (λw v hS h=>by rw[show v=_ from h];have:=hS.2.sliced hja zr hbc;rwa [List.take_length] at this) vcq
                    | exact vbf rfl rfl rfl (by kernel_rfl) rfl rfl rfl (λw v hS h=>(by rw[show v=_ from h];have h2:=hS.2.sliced (Nat.zero_le _) hja zr;rw[List.drop_zero] at h2;exact⟨_,by rw[SD];rfl,h2,λh=>by simp at h⟩)) (λw v _ h=>h) hBm
                 exact trivial
               · intro aE vE wE mo fM SI
                 simp only[pq,pz,pw];have JU:SS Any wE vE (va1.take va1.length++([x]++va1.drop va1.length)):=SI;obtain⟨pE,vf4,rfl,_⟩:=JU.shape;have vdg:=vcw.trans (af fM vcw.size);generalize va1.take va1.length++([x]++va1.drop va1.length)=vf1 at *;clear mo fM SI SD hBm vcq hja R9 hbc tO vdi;go_wp2_with fail;exact⟨⟨k+1,vf1,hkt,by go_num,HI,vbt,JU,vdg⟩,by simp only[intOf];omega⟩
          case pos =>
           obtain⟨y,j8⟩:∃y,va1[j]? =some y:=⟨_,List.getElem?_eq_getElem hjl⟩
           obtain⟨b3,o3,rfl,_,RZ⟩:=Pm.at j8;rcases hls:Op.bytesLess y x with _|_
           · by_cases heq : y = x
             · have hg := hls
               have hmem:x∈va1:=heq▸List.mem_of_getElem? j8;have HQ:Hid (vam va1∧(∀s,s∈va1↔s∈acc∨s∈NM.take (k+1))∧∀s∈va1,s.length≤100):=by
                obtain⟨h1,h2,h3⟩:=vaz.out;refine⟨h1,λs=>?_,h3⟩;rw[vcr.out s,h2 s]
                constructor
                · rintro(h|h)
                  · exact .inl h
                  · exact .inr (.inl h)
                · rintro(h|h|h)
                  · exact .inl h
                  · exact .inr h
                  · rw[h];exact(h2 x).1 hmem
               clear j8 hlo;go_upto_region 21 with fail;refine qj (d:=some 82) (D:=Any) (w:=wr) 14 [(7,vL b3 o3 va1.length c5),(9,vL b2 o2 NM.length c4),(11,vI k),(12,vI j)] [vI j,vL b3 o3 va1.length c5,vI va1.length,vY,vY,vL b3 o3 va1.length c5,vI j,vP b3 (o3+j),vT y,vL b2 o2 NM.length c4,vI k,vP b2 (o2+k),vT x,vN,vN] (aZ [(⟨b3,o3+j,none⟩,str y),(⟨b2,o2+k,none⟩,str x)]) (by kernel_rfl) rfl rfl (λ_ _ h hb=>h.below hb) (by(iterate 2 refine b9 (by exact Below.keep (zb wr).drew (by assumption)) ?_);exact gy) ⟨rfl,rfl,rfl,rfl,trivial⟩ ?_ ?_
               · iterate 15
                  refine And.intro ?_ ?_
                  · first
                    | exact dr (by kernel_rfl) rfl
                    | exact oe rfl rfl (by kernel_rfl)
                    | exact eX rfl (by kernel_rfl) (by kernel_rfl) rfl rfl
                    | exact gN rfl (by kernel_rfl) rfl rfl (λw=>by simp[go_sem])
                    | exact iC rfl (by kernel_rfl) rfl rfl rfl (λw=>by simp[go_sem,hjl,hkt])
                    | exact gv rfl (by kernel_rfl) rfl rfl (λw hS=>by simp[go_sem,(hS.get 0 rfl),(hS.get 1 rfl)])
                    | exact eW rfl (by kernel_rfl) rfl rfl rfl (λw=>by simp[go_sem,hg,hjl])
                 exact trivial
               · intro aE wE mo fM _
                 simp only[pq,pz,pw];have sB:=jJ.trans (af fM jJ.size);have RN:=Pm.below fM zr;have vbi:=Below.keep fM RY;have vcx:=Below.keep fM RZ;clear jJ Pm RY RZ mo hg;have hg:(y==x)=true:=by simpa using heq
                 generalize wE=wr at *;go_upto_region 23 with fail;refine qj (d:=some 99) (D:=Any) (w:=wr) 14 [(7,vL b3 o3 va1.length c5),(9,vL b2 o2 NM.length c4),(11,vI k),(12,vI j)] [vI j,vL b3 o3 va1.length c5,vI va1.length,vY,vY,vL b3 o3 va1.length c5,vI j,vP b3 (o3+j),vT y,vL b2 o2 NM.length c4,vI k,vP b2 (o2+k),vT x,vY,vY] (aZ [(⟨b3,o3+j,none⟩,str y),(⟨b2,o2+k,none⟩,str x)]) (by kernel_rfl) rfl rfl (λ_ _ h hb=>h.below hb) (by(iterate 2 refine b9 (by exact Below.keep (zb wr).drew (by assumption)) ?_);exact gy) ⟨rfl,rfl,rfl,rfl,trivial⟩ ?_ ?_
                 · iterate 15
                    refine And.intro ?_ ?_
                    · first
                      | exact dr (by kernel_rfl) rfl
                      | exact oe rfl rfl (by kernel_rfl)
                      | exact eX rfl (by kernel_rfl) (by kernel_rfl) rfl rfl
                      | exact gN rfl (by kernel_rfl) rfl rfl (λw=>by simp[go_sem])
                      | exact iC rfl (by kernel_rfl) rfl rfl rfl (λw=>by simp[go_sem,hjl,hkt])
                      | exact gv rfl (by kernel_rfl) rfl rfl (λw hS=>by simp[go_sem,(hS.get 0 rfl),(hS.get 1 rfl)])
                      | exact eW rfl (by kernel_rfl) rfl rfl rfl (λw=>by simp[go_sem,hg,hjl])
                   exact trivial
                 · intro aE wE mo fM _
                   simp only[pq,pz,pw];have tG:=hb.trans (af (sB.trans (af fM sB.size)) hb.size);have vch:=RN.below fM zr;have vbt:va1.length≤acc.length+(k+1):=by omega
                   go_wp2_with fail;exact⟨⟨k+1,va1,hkt,by go_num,HQ,vbt,vch,tG⟩,by simp only[intOf];omega⟩
             · have hg := hls
               have hhi:=zh (vcj vaz.out.1 j8 hls heq);clear j8;go_upto_region 21 with fail;refine qj (d:=some 82) (D:=Any) (w:=wr) 14 [(7,vL b3 o3 va1.length c5),(9,vL b2 o2 NM.length c4),(11,vI k),(12,vI j)] [vI j,vL b3 o3 va1.length c5,vI va1.length,vY,vY,vL b3 o3 va1.length c5,vI j,vP b3 (o3+j),vT y,vL b2 o2 NM.length c4,vI k,vP b2 (o2+k),vT x,vN,vN] (aZ [(⟨b3,o3+j,none⟩,str y),(⟨b2,o2+k,none⟩,str x)]) (by kernel_rfl) rfl rfl (λ_ _ h hb=>h.below hb) (by(iterate 2 refine b9 (by exact Below.keep (zb wr).drew (by assumption)) ?_);exact gy) ⟨rfl,rfl,rfl,rfl,trivial⟩ ?_ ?_
               · iterate 15
                  refine And.intro ?_ ?_
                  · first
                    | exact dr (by kernel_rfl) rfl
                    | exact oe rfl rfl (by kernel_rfl)
                    | exact eX rfl (by kernel_rfl) (by kernel_rfl) rfl rfl
                    | exact gN rfl (by kernel_rfl) rfl rfl (λw=>by simp[go_sem])
                    | exact iC rfl (by kernel_rfl) rfl rfl rfl (λw=>by simp[go_sem,hjl,hkt])
                    | exact gv rfl (by kernel_rfl) rfl rfl (λw hS=>by simp[go_sem,(hS.get 0 rfl),(hS.get 1 rfl)])
                    | exact eW rfl (by kernel_rfl) rfl rfl rfl (λw=>by simp[go_sem,hg,hjl])
                 exact trivial
               · intro aE wE mo fM _
                 simp only[pq,pz,pw];have sB:=jJ.trans (af fM jJ.size);have RN:=Pm.below fM zr;have vbi:=Below.keep fM RY;have vcx:=Below.keep fM RZ;clear jJ Pm RY RZ mo hg;have hg:(y==x)=false:=by simpa using heq
                 generalize wE=wr at *;go_upto_region 23 with fail;refine qj (d:=some 99) (D:=Any) (w:=wr) 14 [(7,vL b3 o3 va1.length c5),(9,vL b2 o2 NM.length c4),(11,vI k),(12,vI j)] [vI j,vL b3 o3 va1.length c5,vI va1.length,vY,vY,vL b3 o3 va1.length c5,vI j,vP b3 (o3+j),vT y,vL b2 o2 NM.length c4,vI k,vP b2 (o2+k),vT x,vN,vN] (aZ [(⟨b3,o3+j,none⟩,str y),(⟨b2,o2+k,none⟩,str x)]) (by kernel_rfl) rfl rfl (λ_ _ h hb=>h.below hb) (by(iterate 2 refine b9 (by exact Below.keep (zb wr).drew (by assumption)) ?_);exact gy) ⟨rfl,rfl,rfl,rfl,trivial⟩ ?_ ?_
                 · iterate 15
                    refine And.intro ?_ ?_
                    · first
                      | exact dr (by kernel_rfl) rfl
                      | exact oe rfl rfl (by kernel_rfl)
                      | exact eX rfl (by kernel_rfl) (by kernel_rfl) rfl rfl
                      | exact gN rfl (by kernel_rfl) rfl rfl (λw=>by simp[go_sem])
                      | exact iC rfl (by kernel_rfl) rfl rfl rfl (λw=>by simp[go_sem,hjl,hkt])
                      | exact gv rfl (by kernel_rfl) rfl rfl (λw hS=>by simp[go_sem,(hS.get 0 rfl),(hS.get 1 rfl)])
                      | exact eW rfl (by kernel_rfl) rfl rfl rfl (λw=>by simp[go_sem,hg,hjl])
                   exact trivial
                 · intro aE wE mo fM _
                   simp only[pq,pz,pw];have tG:=sB.trans (af fM sB.size);have vch:=RN.below fM zr;have vbu:=Below.keep fM vbi;clear sB RN vbi vcx mo fM hg;generalize wE=wr at *;have vcw:=hb.trans (af tG hb.size);have hD:=(Below.refl wr.heap.size wr).drew;have vdl:=vch.below hD zr;have vdn:=Below.keep hD vbu;clear hb tG vch vbu;go_upto_region 24 with fail;have hbc:va1.length≤c5:=vdz;have hja:j≤va1.length:=by omega
                   have R9:j≤c5:=by omega
                   have tO:x.length≤maxLen:=Nat.le_trans hxl (by decide);have vdi:va1.length≤900000:=by omega
                   have SD:(va1.take j).length=j:=by rw[List.length_take];omega
                   have vcq:[x].length+(va1.drop j).length≤1000000:=by rw[List.length_drop,List.length_singleton];omega
                   have hBm:(va1.take j).length+([x]++va1.drop j).length≤1000000:=by rw[List.length_append,List.length_drop,List.length_singleton,SD];omega
                   have vbt:(va1.take j++([x]++va1.drop j)).length≤acc.length+(k+1):=by simp only[List.length_append,List.length_drop,List.length_singleton,SD];omega
                   have HI:Hid (vam (va1.take j++([x]++va1.drop j))∧(∀s,s∈va1.take j++([x]++va1.drop j)↔s∈acc∨s∈NM.take (k+1))∧∀s∈va1.take j++([x]++va1.drop j),s.length≤100):=by
                    obtain⟨h1,h2,h3⟩:=vaz.out;refine⟨vav h1 hja (λm hm vco=>hlo.out m hm vco) hhi.out,λs=>?_,λs hs=>?_⟩
                    · rw[List.singleton_append,vae,vcr.out s,h2 s]
                      exact⟨λh=>h.elim (λh=>.inr (.inr h)) λh=>h.elim .inl λh=>.inr (.inl h),λh=>h.elim (λh=>.inr (.inl h)) λh=>h.elim (λh=>.inr (.inr h)) .inl⟩
                    · rw[List.singleton_append,vae] at hs
                      rcases hs with rfl|hs
                      · exact hxl
                      · exact h3 s hs
                   clear vaz vcr hlo;refine vW (D:=Any) (w:=wr) 14 [(7,.eq (.slice (some ⟨b3,o3,none⟩) va1.length c5)),(9,.eq (.slice (some ⟨b2,o2,none⟩) NM.length c4)),(11,vI k),(12,vI j)] [.eq (.slice (some ⟨b3,o3,none⟩) va1.length c5),vI j,vI j,.eq (sliced (some ⟨b3,o3,none⟩) 0 j j 1),.eq (.slice (some ⟨b2,o2,none⟩) NM.length c4),vI k,vP b2 (o2+k),vT x,.prop (vcf x),.eq (.slice (some ⟨b3,o3,none⟩) va1.length c5),vI j,.eq (sliced (some ⟨b3,o3,none⟩) j va1.length c5 1),.ss ([x]++va1.drop j),.ss (va1.take j++([x]++va1.drop j)),.ss (va1.take j++([x]++va1.drop j))] (λw'=>aZ [cA b2 (o2+k) (str x)] w'∧SS Any w' (.slice (some ⟨b3,o3,none⟩) va1.length c5) va1) (by kernel_rfl) rfl (d:=some 7) rfl (λ_ _ h hb=>⟨h.1.below hb,h.2.below hb zr⟩) ⟨by(refine b9 vdn ?_);exact gy,vdl⟩ ⟨rfl,rfl,rfl,rfl,trivial⟩ ?_ ?_
                   · iterate 15
                      refine And.intro ?_ ?_
                      · first
                        | exact oe rfl rfl (by kernel_rfl)
                        | exact iC rfl (by kernel_rfl) rfl rfl rfl (λw=>by simp[go_sem,NU])
                        | exact gv rfl (by kernel_rfl) rfl rfl (λw hS=>by simp[go_sem,(hS.1.get 0 rfl)])
                        | exact vcc rfl rfl (by kernel_rfl) rfl rfl rfl rfl R9
                        | exact vcd rfl rfl (by kernel_rfl) rfl rfl rfl hja
                        | exact vcb rfl rfl (by kernel_rfl) rfl rfl
                        | exact vbf rfl rfl rfl (by kernel_rfl) rfl rfl rfl (λw v _ h=>(by obtain⟨h1,p,rfl⟩:=h w (zb _);exact⟨p,rfl,SS.bH h1 (by intro s hs;rw[List.mem_singleton.1 hs];exact tO) (λ_ _=>trivial),λ_=>h1⟩)) (λw v hS h=>by rw[show v=_ from h];have:=hS.2.sliced hja zr hbc;rwa [List.take_length] at this) vcq
                        | exact vbf rfl rfl rfl (by kernel_rfl) rfl rfl rfl (λw v hS h=>(by rw[show v=_ from h];have h2:=hS.2.sliced (Nat.zero_le _) hja zr;rw[List.drop_zero] at h2;exact⟨_,by rw[SD];rfl,h2,λh=>by simp at h⟩)) (λw v _ h=>h) hBm
                     exact trivial
                   · intro aE vE wE mo fM SI
                     simp only[pq,pz,pw];have JU:SS Any wE vE (va1.take j++([x]++va1.drop j)):=SI;obtain⟨pE,vf4,rfl,_⟩:=JU.shape;have vdg:=vcw.trans (af fM vcw.size);generalize va1.take j++([x]++va1.drop j)=vf1 at *;clear mo fM SI SD hBm vcq hja R9 hbc tO vdi;go_wp2_with fail;exact⟨⟨k+1,vf1,hkt,by go_num,HI,vbt,JU,vdg⟩,by simp only[intOf];omega⟩
           · have vdk : Hid (∀ m (hm : m < va1.length), m < j + 1 → Op.bytesLess va1[m] x = true) := fun m hm h => by
              by_cases vco:m<j
              · exact hlo.out m hm vco
              · obtain rfl:m=j:=by omega
                rw[(List.getElem?_eq_some_iff.1 j8).2];exact hls
             have hg:=hls;clear j8 hlo;go_upto_region 21 with fail;refine qj (d:=some 82) (D:=Any) (w:=wr) 14 [(7,vL b3 o3 va1.length c5),(9,vL b2 o2 NM.length c4),(11,vI k),(12,vI j)] [vI j,vL b3 o3 va1.length c5,vI va1.length,vY,vY,vL b3 o3 va1.length c5,vI j,vP b3 (o3+j),vT y,vL b2 o2 NM.length c4,vI k,vP b2 (o2+k),vT x,vY,vY] (aZ [(⟨b3,o3+j,none⟩,str y),(⟨b2,o2+k,none⟩,str x)]) (by kernel_rfl) rfl rfl (λ_ _ h hb=>h.below hb) (by(iterate 2 refine b9 (by exact Below.keep (zb wr).drew (by assumption)) ?_);exact gy) ⟨rfl,rfl,rfl,rfl,trivial⟩ ?_ ?_
             · iterate 15
                refine And.intro ?_ ?_
                · first
                  | exact dr (by kernel_rfl) rfl
                  | exact oe rfl rfl (by kernel_rfl)
                  | exact eX rfl (by kernel_rfl) (by kernel_rfl) rfl rfl
                  | exact gN rfl (by kernel_rfl) rfl rfl (λw=>by simp[go_sem])
                  | exact iC rfl (by kernel_rfl) rfl rfl rfl (λw=>by simp[go_sem,hjl,hkt])
                  | exact gv rfl (by kernel_rfl) rfl rfl (λw hS=>by simp[go_sem,(hS.get 0 rfl),(hS.get 1 rfl)])
                  | exact eW rfl (by kernel_rfl) rfl rfl rfl (λw=>by simp[go_sem,hg,hjl])
               exact trivial
             · intro aE wE mo fM _
               simp only[pq,pz,pw];have sB:=jJ.trans (af fM jJ.size);go_wp2_with fail;exact⟨⟨j+1,hjl,by go_num,vdk,sB⟩,by simp only[intOf];omega⟩
end Go.Proofs.YtakgjcfkdemipaaGreatDoor
