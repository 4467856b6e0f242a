/-
  Lemmas for the statement: contract of the reference argusref04: Extends. Conditions: bounds of lengths; the variable strings.asciiSpace.
-/
import Derived.Test.YtakgjcfkdemipaaGreatDoorZB32
import Derived.Test.YtakgjcfkdemipaaGreatDoorZBn
import Derived.Test.YtakgjcfkdemipaaGreatDoorZX1
set_option maxHeartbeats 25600000
namespace Go.Proofs.YtakgjcfkdemipaaGreatDoor
open Go Go.RowKit
theorem vau {l:List aL} {j:Nat} {x y:aL} (hy:l[j]? =some y):(l.take (j+1)).any (λo=>va0 o x)=((l.take j).any (λo=>va0 o x)||va0 y x):=by
 rw[List.take_add_one,hy,Option.toList_some,List.any_append]
 simp
theorem vbc {α:Type} {p:α→Bool} {l:List α} {i:Nat} {x:α} (h:∀o∈l.take i,p o=true) (hx:l[i]? =some x) (hp:p x=true):∀o∈l.take (i+1),p o=true:=by
 intro o ho
 rw[List.take_add_one,hx] at ho
 rcases List.mem_append.1 ho with ho|ho
 · exact h o ho
 · simp at ho
   rw[ho];exact hp
theorem vbz {f g:aA} (h:(dF f&&dF g)=false):vai f g=(false,42):=by unfold vai;rw[if_neg (by rw[h];simp)]
theorem vbr {f g:aA} (h1:dF f=true) (h2:dF g=true):vai f g=(vac f g,0):=by unfold vai;rw[if_pos (by rw[h1,h2];rfl)]
theorem vcg {f g:aA} (h:¬(f.name=g.name∧f.kind=g.kind∧f.par=g.par)):vac f g=false:=by
 unfold vac
 by_cases h1:f.name=g.name
 · by_cases h2:f.kind=g.kind
   · have h3:¬f.par=g.par:=λe=>h ⟨h1,h2,e⟩
     simp[h3]
   · simp[h2]
 · simp[h1]
theorem vc0 {f g:aA} {x:aL} (hx:x∈g.ag) (h:(f.ag.any λy=>va0 y x)=false):vac f g=false:=by
 have:(g.ag.all λn=>f.ag.any λy=>va0 y n)=false:=by
  rw[List.all_eq_false];exact⟨x,hx,by rw[h];simp⟩
 unfold vac
 rw[this]
 simp
theorem vc1 {f g:aA} {x:aL} (hx:x∈f.ops) (h:(g.ops.any λy=>va0 y x)=false):vac f g=false:=by
 have:(f.ops.all λo=>g.ops.any λy=>va0 y o)=false:=by
  rw[List.all_eq_false];exact⟨x,hx,by rw[h];simp⟩
 unfold vac
 rw[this]
 simp
theorem vc2 {f g:aA} (h1:f.name=g.name) (h2:f.kind=g.kind) (h3:f.par=g.par) (h4:∀n∈g.ag,(f.ag.any λy=>va0 y n)=true) (h5:∀o∈f.ops,(g.ops.any λy=>va0 y o)=true):vac f g=true:=by
 unfold vac
 rw[List.all_eq_true.2 h4,List.all_eq_true.2 h5]
 simp[h1,h2,h3]
set_option maxRecDepth 8000 in
theorem vaw {D E : Nat → Prop} (f g : aA) (vf vff : Value) (w : World) (hf : dO D w vf f) (hg : dO E w vff g) :
 Calls Tryz.prog 46 #[vf,vff] w λe w'=>e=.returned (.tuple #[.bool (vai f g).1,.int .i64 (vai f g).2])∧Below w.heap.size w w':=by
 have hbd:=λh=>vbz (f:=f) (g:=g) h
 have hgd:=λh1 h2=>vbr (f:=f) (g:=g) h1 h2
 have hne:=λh=>vcg (f:=f) (g:=g) h
 have xh:=λx hx h=>vc0 (f:=f) (g:=g) (x:=x) hx h
 have hn2:=λx hx h=>vc1 (f:=f) (g:=g) (x:=x) hx h
 have hys:=λh1 h2 h3 h4 h5=>vc2 (f:=f) (g:=g) h1 h2 h3 h4 h5
 replace hf:=hf.mono (D':=Any) λ_ _=>trivial
 replace hg:=hg.mono (D':=Any) λ_ _=>trivial
 have uK:=λW (hW:Below w.heap.size w W)=>Hw vf f W (hf.below hW zr)
 have GF:=λW (hW:Below w.heap.size w W)=>Hw vff g W (hg.below hW zr)
 generalize vai f g=RS at *
 generalize vac f g=ves at *
 obtain⟨fn,fk,fp,vf5,vf6⟩:=f
 obtain⟨gn,gk,vfa,vf7,vf8⟩:=g
 obtain⟨v1,v4,rfl,fl,f1,f4⟩:=hf
 obtain⟨v5,v6,rfl,vf9,g5,g6⟩:=hg
 dsimp only at fl f1 f4 vf9 g5 g6 hbd hgd hne xh hn2 hys
 obtain⟨p1,c1,rfl,_,m1,_⟩:=f1.shape
 obtain⟨p4,c4,rfl,_,m4,_⟩:=f4.shape
 obtain⟨vfb,c5,rfl,_,m5,_⟩:=g5.shape
 obtain⟨p6,c6,rfl,_,m6,_⟩:=g6.shape
 unfold maxLen at m1 m4 m5 m6
 have hA:=(zb w).alloc zr (.cells #[str fn,.int .u8 fk,.bool fp,.slice p1 vf5.length c1,.slice p4 vf6.length c4] 58)
 have hC:=hA.alloc hA.size (.cells #[str gn,.int .u8 gk,.bool vfa,.slice vfb vf7.length c5,.slice p6 vf8.length c6] 58)
 have k1:=aD (.cells #[str gn,.int .u8 gk,.bool vfa,.slice vfb vf7.length c5,.slice p6 vf8.length c6] 58) (heap_alloc_new w (.cells #[str fn,.int .u8 fk,.bool fp,.slice p1 vf5.length c1,.slice p4 vf6.length c4] 58))
 have k2:=cI (w:=w.alloc (.cells #[str fn,.int .u8 fk,.bool fp,.slice p1 vf5.length c1,.slice p4 vf6.length c4] 58)) (n:=w.heap.size+1) (by simp) #[str gn,.int .u8 gk,.bool vfa,.slice vfb vf7.length c5,.slice p6 vf8.length c6] 58
 have HK:=zh (λW' (hW:Below ((w.alloc (.cells #[str fn,.int .u8 fk,.bool fp,.slice p1 vf5.length c1,.slice p4 vf6.length c4] 58)).alloc (.cells #[str gn,.int .u8 gk,.bool vfa,.slice vfb vf7.length c5,.slice p6 vf8.length c6] 58)).heap.size ((w.alloc (.cells #[str fn,.int .u8 fk,.bool fp,.slice p1 vf5.length c1,.slice p4 vf6.length c4] 58)).alloc (.cells #[str gn,.int .u8 gk,.bool vfa,.slice vfb vf7.length c5,.slice p6 vf8.length c6] 58)) W')=>And.intro (bz (ah k1 hW)) (bz (ah k2 hW)))
 have b1:=bz k1
 have b2:=bz k2
 have vd3:=zh (λW' (hW:Below ((w.alloc (.cells #[str fn,.int .u8 fk,.bool fp,.slice p1 vf5.length c1,.slice p4 vf6.length c4] 58)).alloc (.cells #[str gn,.int .u8 gk,.bool vfa,.slice vfb vf7.length c5,.slice p6 vf8.length c6] 58)).heap.size ((w.alloc (.cells #[str fn,.int .u8 fk,.bool fp,.slice p1 vf5.length c1,.slice p4 vf6.length c4] 58)).alloc (.cells #[str gn,.int .u8 gk,.bool vfa,.slice vfb vf7.length c5,.slice p6 vf8.length c6] 58)) W')=>(f1.below hC zr).below hW zr)
 have vd4:=zh (λW' (hW:Below ((w.alloc (.cells #[str fn,.int .u8 fk,.bool fp,.slice p1 vf5.length c1,.slice p4 vf6.length c4] 58)).alloc (.cells #[str gn,.int .u8 gk,.bool vfa,.slice vfb vf7.length c5,.slice p6 vf8.length c6] 58)).heap.size ((w.alloc (.cells #[str fn,.int .u8 fk,.bool fp,.slice p1 vf5.length c1,.slice p4 vf6.length c4] 58)).alloc (.cells #[str gn,.int .u8 gk,.bool vfa,.slice vfb vf7.length c5,.slice p6 vf8.length c6] 58)) W')=>(f4.below hC zr).below hW zr)
 have vd5:=zh (λW' (hW:Below ((w.alloc (.cells #[str fn,.int .u8 fk,.bool fp,.slice p1 vf5.length c1,.slice p4 vf6.length c4] 58)).alloc (.cells #[str gn,.int .u8 gk,.bool vfa,.slice vfb vf7.length c5,.slice p6 vf8.length c6] 58)).heap.size ((w.alloc (.cells #[str fn,.int .u8 fk,.bool fp,.slice p1 vf5.length c1,.slice p4 vf6.length c4] 58)).alloc (.cells #[str gn,.int .u8 gk,.bool vfa,.slice vfb vf7.length c5,.slice p6 vf8.length c6] 58)) W')=>(g5.below hC zr).below hW zr)
 have vd6:=zh (λW' (hW:Below ((w.alloc (.cells #[str fn,.int .u8 fk,.bool fp,.slice p1 vf5.length c1,.slice p4 vf6.length c4] 58)).alloc (.cells #[str gn,.int .u8 gk,.bool vfa,.slice vfb vf7.length c5,.slice p6 vf8.length c6] 58)).heap.size ((w.alloc (.cells #[str fn,.int .u8 fk,.bool fp,.slice p1 vf5.length c1,.slice p4 vf6.length c4] 58)).alloc (.cells #[str gn,.int .u8 gk,.bool vfa,.slice vfb vf7.length c5,.slice p6 vf8.length c6] 58)) W')=>(g6.below hC zr).below hW zr)
 replace uK:=uK _ hC
 replace GF:=λW' (hW:Below ((w.alloc (.cells #[str fn,.int .u8 fk,.bool fp,.slice p1 vf5.length c1,.slice p4 vf6.length c4] 58)).alloc (.cells #[str gn,.int .u8 gk,.bool vfa,.slice vfb vf7.length c5,.slice p6 vf8.length c6] 58)).heap.size ((w.alloc (.cells #[str fn,.int .u8 fk,.bool fp,.slice p1 vf5.length c1,.slice p4 vf6.length c4] 58)).alloc (.cells #[str gn,.int .u8 gk,.bool vfa,.slice vfb vf7.length c5,.slice p6 vf8.length c6] 58)) W')=>GF W' (hC.trans (af hW hC.size))
 clear f1 f4 g5 g6 k1 k2 hA
 have hR:=Below.refl ((w.alloc (.cells #[str fn,.int .u8 fk,.bool fp,.slice p1 vf5.length c1,.slice p4 vf6.length c4] 58)).alloc (.cells #[str gn,.int .u8 gk,.bool vfa,.slice vfb vf7.length c5,.slice p6 vf8.length c6] 58)).heap.size ((w.alloc (.cells #[str fn,.int .u8 fk,.bool fp,.slice p1 vf5.length c1,.slice p4 vf6.length c4] 58)).alloc (.cells #[str gn,.int .u8 gk,.bool vfa,.slice vfb vf7.length c5,.slice p6 vf8.length c6] 58))
 rcases q1:dF ⟨fn,fk,fp,vf5,vf6⟩ with _|_
 · have HX:=zh (hbd (by rw[q1];rfl))
   rw[kW q1] at uK;clear hbd hgd hne xh hn2 hys q1 GF HK vd3 vd4 vd5 vd6;go_enter Tryz.func46,Tryz.ntmps46;go_wp2_with (go_at_call 39;refine uK.mono ?_;clear uK;rintro e w1 ⟨rfl,au⟩);go_ret2;exact⟨by rw[HX.out];rfl,hC.trans (af au hC.size)⟩
 rw[sZ q1] at uK
 rcases q2:dF ⟨gn,gk,vfa,vf7,vf8⟩ with _|_
 · have HX:=zh (hbd (by rw[q1,q2];rfl))
   rw[kW q2] at GF;clear hbd hgd hne xh hn2 hys q1 q2 vd3 vd4 vd5 vd6;go_enter Tryz.func46,Tryz.ntmps46;go_wp2_with (first
    | (go_at_call 39;refine(GF w1 au).mono ?_;clear GF;rintro e w2 ⟨rfl,aC⟩)
    | (go_at_call 39;refine uK.mono ?_;clear uK;rintro e w1 ⟨rfl,au⟩;have vcz:=HK.out w1 au))
   go_ret2;exact⟨by rw[HX.out];rfl,hC.trans (af (au.trans (af aC au.size)) hC.size)⟩
 rw[sZ q2] at GF
 have hg:=hgd q1 q2
 subst hg
 clear hbd q1 q2
 by_cases hnm:fn=gn∧fk=gk∧fp=vfa
 case neg =>
  have hx:=hne hnm;subst hx;clear hne xh hn2 hys vd3 vd4 vd5 vd6
  by_cases e1:fn=gn
  · have h1:(fn==gn)=true:=by simpa using e1
    by_cases e2:fk=gk
    · have h2:((fk:Int) != (gk:Int))=false:=by simp[e2]
      have h3:(fp==vfa)=false:=by
       have:¬fp=vfa:=λe3=>hnm ⟨e1,e2,e3⟩
       simpa using this
      have h4:(fp != vfa)=true:=by rw[bne,h3];rfl
      clear hnm e1 e2;go_enter Tryz.func46,Tryz.ntmps46;go_wp2_with (first
       | (go_at_call 39;refine(GF w1 au).mono ?_;clear GF;rintro e w2 ⟨rfl,aC⟩;have LC:=au.trans (af aC au.size);have vd8:=HK.out w2 LC)
       | (go_at_call 39;refine uK.mono ?_;clear uK;rintro e w1 ⟨rfl,au⟩;have vcz:=HK.out w1 au))
      go_ret2;exact⟨rfl,hC.trans (af LC hC.size)⟩
    · have h2:((fk:Int) != (gk:Int))=true:=by rw[bne_iff_ne];omega
      clear hnm e1 e2;go_enter Tryz.func46,Tryz.ntmps46;go_wp2_with (first
       | (go_at_call 39;refine(GF w1 au).mono ?_;clear GF;rintro e w2 ⟨rfl,aC⟩;have LC:=au.trans (af aC au.size);have vd8:=HK.out w2 LC)
       | (go_at_call 39;refine uK.mono ?_;clear uK;rintro e w1 ⟨rfl,au⟩;have vcz:=HK.out w1 au))
      go_ret2;exact⟨rfl,hC.trans (af LC hC.size)⟩
  · have h1:(fn==gn)=false:=by simpa using e1
    clear hnm e1;go_enter Tryz.func46,Tryz.ntmps46;go_wp2_with (first
     | (go_at_call 39;refine(GF w1 au).mono ?_;clear GF;rintro e w2 ⟨rfl,aC⟩;have LC:=au.trans (af aC au.size);have vd8:=HK.out w2 LC)
     | (go_at_call 39;refine uK.mono ?_;clear uK;rintro e w1 ⟨rfl,au⟩;have vcz:=HK.out w1 au))
    go_ret2;exact⟨rfl,hC.trans (af LC hC.size)⟩
 obtain⟨rfl,rfl,rfl⟩:=hnm
 have vbp:=zh xh
 have vbq:=zh hn2
 have vds:=zh (hys rfl rfl rfl)
 clear hne xh hn2 hys
 go_enter Tryz.func46,Tryz.ntmps46
 go_wp2_with (first
  | (go_at_call 39;refine(GF w1 au).mono ?_;clear GF;rintro e w2 ⟨rfl,aC⟩;have LC:=au.trans (af aC au.size);have vd8:=HK.out w2 LC)
  | (go_at_call 39;refine uK.mono ?_;clear uK;rintro e w1 ⟨rfl,au⟩;have vcz:=HK.out w1 au))
 clear b1 b2 vcz vd8 au aC hR
 go_loopw [6] (λa wr=>∃i:Nat,i≤vf7.length∧a=.int .i64 i∧Hid (∀o∈vf7.take i,(vf5.any λy=>va0 y o)=true)∧Below w2.heap.size w2 wr) (λa _=>vf7.length - (intOf a).toNat)
 case atStart=>exact⟨0,Nat.zero_le _,by go_num,(λo ho=>by simp at ho),zb _⟩
 case round =>
  obtain⟨i,hi,rfl,hP,hr⟩:=hrel;have LD:=LC.trans (af hr LC.size);have kk:=HK.out wr LD
  by_cases hlt:i<vf7.length
  case neg =>
   obtain rfl:i=vf7.length:=by omega
   rw[List.take_length] at hP;have tE:=hP;have hs:=hr;clear hP;go_wp2_with fail;clear LD kk hr;go_loopw [9] (λa wr=>∃i:Nat,i≤vf6.length∧a=.int .i64 i∧Hid (∀o∈vf6.take i,(vf8.any λy=>va0 y o)=true)∧Below w2.heap.size w2 wr) (λa _=>vf6.length - (intOf a).toNat)
   case atStart=>exact⟨0,Nat.zero_le _,by go_num,(λo ho=>by simp at ho),hs⟩
   case round =>
    obtain⟨i,hi,rfl,hP,hr⟩:=hrel;have LD:=LC.trans (af hr LC.size);have kk:=HK.out wr LD
    by_cases hlt:i<vf6.length
    case neg=>
     obtain rfl:i=vf6.length:=by omega
     rw[List.take_length] at hP;have HZ:=zh (vds.out tE.out hP.out);clear vds tE;go_wp2_with fail;go_ret2;exact⟨by rw[HZ.out];rfl,hC.trans (af LD hC.size)⟩
    case pos =>
     obtain⟨x,hx⟩:∃x,vf6[i]? =some x:=⟨_,List.getElem?_eq_getElem hlt⟩
     obtain⟨b1,o1,av,sv,mq,_,hxl,fe,eE,uq,pG,od,pZ,rK⟩:=(vd4.out wr LD).at hx;subst mq;have vc4:=zh (λhq:(vf8.any λy=>va0 y x)=true=>vbc (p:=λo=>vf8.any λy=>va0 y o) hP.out hx hq);have vc3:=zh (λhq:(vf8.any λy=>va0 y x)=false=>vbq.out x (List.mem_of_getElem? hx) hq);obtain⟨x1,x2⟩:=x;dsimp only at hxl fe eE uq pG pZ;clear hx hP;go_wp2_with fail;clear kk;have Qv:=LD;have vbw:=hr;clear LD hr;generalize wr=vfg at *;go_loopw [10,11] (λt y wx=>∃j:Nat,j≤vf8.length∧y=.int .i64 j∧t=.bool ((vf8.take j).any λo=>va0 o ⟨x1,x2⟩)∧Below vfg.heap.size vfg wx) (λ_ y _=>vf8.length - (intOf y).toNat)
     case atStart=>exact⟨0,Nat.zero_le _,by go_num,rfl,zb _⟩
     case round =>
      obtain⟨j,hj,rfl,rfl,hq⟩:=hrel;have vce:=Qv.trans (af hq Qv.size);obtain⟨⟨⟨_,_,_,vef,SU⟩,_⟩,⟨⟨_,_,_,veg,veh⟩,_⟩⟩:=HK.out wr vce
      by_cases hji:j<vf8.length
      case neg=>
       have hie:j=vf8.length:=by omega
       subst hie;rw[List.take_length];rcases hany:(vf8.any λo=>va0 o ⟨x1,x2⟩) with _|_
       · have HZ:=zh (vc3.out hany)
         clear hany vc3 vc4;go_wp2_with fail;go_ret2;exact⟨by rw[HZ.out];rfl,hC.trans (af vce hC.size)⟩
       · have HZ:=vc4.out hany
         clear hany vc3 vc4;go_wp2_with fail;exact⟨⟨i+1,hlt,by go_num,HZ,vbw.trans (af hq vbw.size)⟩,by simp only[intOf];omega⟩
      case pos =>
       obtain⟨y,hy⟩:∃y,vf8[j]? =some y:=⟨_,List.getElem?_eq_getElem hji⟩
       have HA:=zh (vau (x:=⟨x1,x2⟩) hy);clear vc4 vc3;rcases hT:(vf8.take j).any (λo=>va0 o ⟨x1,x2⟩) with _|_
       · obtain ⟨b2, o2, bv, tv, mq, _, Mh, RO, Pp, Qi, Qj, Qk, Ql, Qm⟩ := (vd6.out wr vce).at hy
         subst mq;obtain⟨y1,y2⟩:=y;dsimp only at Mh RO Pp Qi Qj Ql;have uq:=Below.keep hq uq;have pG:=Below.keep hq pG;have od:=Below.keep hq od;have pZ:=Below.keep hq pZ;have rK:=Below.keep hq rK;have vcu:aT Any wr (.agg #[.bool x2.iter,av,str x2.res,sv]) x2:=⟨av,sv,rfl,hxl.2,fe.below hq zr,eE.below hq zr⟩;have vcv:aT Any wr (.agg #[.bool y2.iter,bv,str y2.res,tv]) y2:=⟨bv,tv,rfl,Mh.2,RO,Pp⟩;clear hy
         by_cases hnm:y1=x1
         case neg=>
          have HZ:=zh (HA.out.trans (by rw[hT];simp[va0,hnm]:_=false));have g1:(y1==x1)=false:=by simpa using hnm
          clear hT HA hnm;go_upto_region 22 with fail;refine dK (D:=Any) (w:=wr) 31 [(2,vP w.heap.size 0),(3,vP (w.heap.size+1) 0),(9,vI i),(10,vN),(11,vI j)] [vN,vN,vP (w.heap.size+1) 4,vL b2 o2 vf8.length c6,vI j,vP b2 (o2+j * 5),vP b2 (o2+j * 5),vT y1,vP w.heap.size 4,vL b1 o1 vf6.length c4,vI i,vP b1 (o1+i * 5),vP b1 (o1+i * 5),vT x1,vN,vN,vK,vK,vK,vK,vK,vK,vK,vK,vK,vK,vK,vK,vK,vN,vN,vN] (aZ [(⟨w.heap.size+1,4,none⟩,.slice (some ⟨b2,o2,none⟩) vf8.length c6),(⟨w.heap.size,4,none⟩,.slice (some ⟨b1,o1,none⟩) vf6.length c4),(⟨b2,o2+j * 5,none⟩,str y1),(⟨b1,o1+i * 5,none⟩,str x1)]) (by kernel_rfl) rfl (λ_ _ h hb=>h.below hb) (by(iterate 4 refine b9 (by exact Below.keep (zb wr).drew (by assumption)) ?_);exact gy) ⟨rfl,rfl,rfl,rfl,rfl,trivial⟩ ?_ ?_
          · iterate 32
             refine And.intro ?_ ?_
             · first
               | exact dr (by kernel_rfl) rfl
               | exact oe rfl rfl (by kernel_rfl)
               | exact eX rfl (by kernel_rfl) (by kernel_rfl) rfl rfl
               | exact gN rfl (by kernel_rfl) rfl rfl (λw=>by simp[go_sem])
               | exact iC rfl (by kernel_rfl) rfl rfl rfl (λw=>by simp[go_sem,hji,hlt])
               | exact gv rfl (by kernel_rfl) rfl rfl (λw hS=>by simp[go_sem,(hS.get 0 rfl),(hS.get 1 rfl),(hS.get 2 rfl),(hS.get 3 rfl)])
               | exact eW rfl (by kernel_rfl) rfl rfl rfl (λw=>by simp[go_sem,g1])
            exact trivial
          · intro aE wE mo fM _
            simp only[pq,pz,pw];go_wp2_with fail;exact⟨⟨j+1,hji,by go_num,by rw[HZ.out],hq.trans (af fM hq.size)⟩,by simp only[intOf];omega⟩
         case pos =>
          have g1:(y1==x1)=true:=by simpa using hnm
          rcases hn:pK y2 x2 with _|_
          · have HZ := zh (HA.out.trans (by rw [hT]; simp [va0, hn] : _ = false))
            clear hT HA hnm;go_upto_region 22 with fail;refine dK (D:=Any) (w:=wr) 31 [(2,vP w.heap.size 0),(3,vP (w.heap.size+1) 0),(9,vI i),(10,vN),(11,vI j)] [vN,vN,vP (w.heap.size+1) 4,vL b2 o2 vf8.length c6,vI j,vP b2 (o2+j * 5),vP b2 (o2+j * 5),vT y1,vP w.heap.size 4,vL b1 o1 vf6.length c4,vI i,vP b1 (o1+i * 5),vP b1 (o1+i * 5),vT x1,vY,vY,vP (w.heap.size+1) 4,vL b2 o2 vf8.length c6,vI j,vP b2 (o2+j * 5),vP b2 (o2+j * 5+1),.eq (.agg #[.bool y2.iter,bv,str y2.res,tv]),vP w.heap.size 4,vL b1 o1 vf6.length c4,vI i,vP b1 (o1+i * 5),vP b1 (o1+i * 5+1),.eq (.agg #[.bool x2.iter,av,str x2.res,sv]),vN,vN,vN,vN] (λw'=>aZ [(⟨w.heap.size+1,4,none⟩,.slice (some ⟨b2,o2,none⟩) vf8.length c6),(⟨w.heap.size,4,none⟩,.slice (some ⟨b1,o1,none⟩) vf6.length c4),(⟨b2,o2+j * 5,none⟩,str y1),(⟨b1,o1+i * 5,none⟩,str x1),(⟨b2,o2+j * 5+1,none⟩,.bool y2.iter),(⟨b2,o2+j * 5+2,none⟩,bv),(⟨b2,o2+j * 5+3,none⟩,str y2.res),(⟨b2,o2+j * 5+4,none⟩,tv),(⟨b1,o1+i * 5+1,none⟩,.bool x2.iter),(⟨b1,o1+i * 5+2,none⟩,av),(⟨b1,o1+i * 5+3,none⟩,str x2.res),(⟨b1,o1+i * 5+4,none⟩,sv)] w'∧(aT Any w' (.agg #[.bool y2.iter,bv,str y2.res,tv]) y2∧aT Any w' (.agg #[.bool x2.iter,av,str x2.res,sv]) x2)) (by kernel_rfl) rfl (λ_ _ h hb=>⟨h.1.below hb,⟨aT.below h.2.1 hb zr,aT.below h.2.2 hb zr⟩⟩) ⟨(by(iterate 12 refine b9 (by exact Below.keep (zb wr).drew (by assumption)) ?_);exact gy),aT.below vcv (zb wr).drew zr,aT.below vcu (zb wr).drew zr⟩ ⟨rfl,rfl,rfl,rfl,rfl,trivial⟩ ?_ ?_
            · iterate 32
               refine And.intro ?_ ?_
               · first
                 | exact dr (by kernel_rfl) rfl
                 | exact oe rfl rfl (by kernel_rfl)
                 | exact eX rfl (by kernel_rfl) (by kernel_rfl) rfl rfl
                 | exact gN rfl (by kernel_rfl) rfl rfl (λw=>by simp[go_sem])
                 | exact iC rfl (by kernel_rfl) rfl rfl rfl (λw=>by simp[go_sem,hji,hlt])
                 | exact gv rfl (by kernel_rfl) rfl rfl (λw hS=>by simp[go_sem,(hS.1.get 0 rfl),(hS.1.get 1 rfl),(hS.1.get 2 rfl),(hS.1.get 3 rfl),(hS.1.get 4 rfl),(hS.1.get 5 rfl),(hS.1.get 6 rfl),(hS.1.get 7 rfl),(hS.1.get 8 rfl),(hS.1.get 9 rfl),(hS.1.get 10 rfl),(hS.1.get 11 rfl)])
                 | exact gu (s1:=.eq (.agg #[.bool y2.iter,bv,str y2.res,tv])) (s2:=.eq (.agg #[.bool x2.iter,av,str x2.res,sv])) rfl (enters_of Tryz.func26 (by kernel_rfl) rfl) (by kernel_rfl) rfl rfl rfl (λv v2 wx hS h1 h2=>by rw[show v=.agg #[.bool y2.iter,bv,str y2.res,tv] from h1,show v2=.agg #[.bool x2.iter,av,str x2.res,sv] from h2];exact(EN _ _ _ _ wx hS.2.1 hS.2.2).mono (by rw[hn];rintro e w' ⟨rfl,hb⟩;exact⟨_,rfl,rfl,hb⟩))
                 | exact eW rfl (by kernel_rfl) rfl rfl rfl (λw=>by simp[go_sem,g1])
              exact trivial
            · intro aE wE mo fM _
              simp only[pq,pz,pw];go_wp2_with fail;exact⟨⟨j+1,hji,by go_num,by rw[HZ.out],hq.trans (af fM hq.size)⟩,by simp only[intOf];omega⟩
          · have HZ := zh (HA.out.trans (by rw [hT]; simp [va0, hn, hnm] : _ = true))
            clear hT HA hnm;go_upto_region 22 with fail;refine dK (D:=Any) (w:=wr) 31 [(2,vP w.heap.size 0),(3,vP (w.heap.size+1) 0),(9,vI i),(10,vN),(11,vI j)] [vN,vN,vP (w.heap.size+1) 4,vL b2 o2 vf8.length c6,vI j,vP b2 (o2+j * 5),vP b2 (o2+j * 5),vT y1,vP w.heap.size 4,vL b1 o1 vf6.length c4,vI i,vP b1 (o1+i * 5),vP b1 (o1+i * 5),vT x1,vY,vY,vP (w.heap.size+1) 4,vL b2 o2 vf8.length c6,vI j,vP b2 (o2+j * 5),vP b2 (o2+j * 5+1),.eq (.agg #[.bool y2.iter,bv,str y2.res,tv]),vP w.heap.size 4,vL b1 o1 vf6.length c4,vI i,vP b1 (o1+i * 5),vP b1 (o1+i * 5+1),.eq (.agg #[.bool x2.iter,av,str x2.res,sv]),vY,vY,vY,vY] (λw'=>aZ [(⟨w.heap.size+1,4,none⟩,.slice (some ⟨b2,o2,none⟩) vf8.length c6),(⟨w.heap.size,4,none⟩,.slice (some ⟨b1,o1,none⟩) vf6.length c4),(⟨b2,o2+j * 5,none⟩,str y1),(⟨b1,o1+i * 5,none⟩,str x1),(⟨b2,o2+j * 5+1,none⟩,.bool y2.iter),(⟨b2,o2+j * 5+2,none⟩,bv),(⟨b2,o2+j * 5+3,none⟩,str y2.res),(⟨b2,o2+j * 5+4,none⟩,tv),(⟨b1,o1+i * 5+1,none⟩,.bool x2.iter),(⟨b1,o1+i * 5+2,none⟩,av),(⟨b1,o1+i * 5+3,none⟩,str x2.res),(⟨b1,o1+i * 5+4,none⟩,sv)] w'∧(aT Any w' (.agg #[.bool y2.iter,bv,str y2.res,tv]) y2∧aT Any w' (.agg #[.bool x2.iter,av,str x2.res,sv]) x2)) (by kernel_rfl) rfl (λ_ _ h hb=>⟨h.1.below hb,⟨aT.below h.2.1 hb zr,aT.below h.2.2 hb zr⟩⟩) ⟨(by(iterate 12 refine b9 (by exact Below.keep (zb wr).drew (by assumption)) ?_);exact gy),aT.below vcv (zb wr).drew zr,aT.below vcu (zb wr).drew zr⟩ ⟨rfl,rfl,rfl,rfl,rfl,trivial⟩ ?_ ?_
            · iterate 32
               refine And.intro ?_ ?_
               · first
                 | exact dr (by kernel_rfl) rfl
                 | exact oe rfl rfl (by kernel_rfl)
                 | exact eX rfl (by kernel_rfl) (by kernel_rfl) rfl rfl
                 | exact gN rfl (by kernel_rfl) rfl rfl (λw=>by simp[go_sem])
                 | exact iC rfl (by kernel_rfl) rfl rfl rfl (λw=>by simp[go_sem,hji,hlt])
                 | exact gv rfl (by kernel_rfl) rfl rfl (λw hS=>by simp[go_sem,(hS.1.get 0 rfl),(hS.1.get 1 rfl),(hS.1.get 2 rfl),(hS.1.get 3 rfl),(hS.1.get 4 rfl),(hS.1.get 5 rfl),(hS.1.get 6 rfl),(hS.1.get 7 rfl),(hS.1.get 8 rfl),(hS.1.get 9 rfl),(hS.1.get 10 rfl),(hS.1.get 11 rfl)])
                 | exact gu (s1:=.eq (.agg #[.bool y2.iter,bv,str y2.res,tv])) (s2:=.eq (.agg #[.bool x2.iter,av,str x2.res,sv])) rfl (enters_of Tryz.func26 (by kernel_rfl) rfl) (by kernel_rfl) rfl rfl rfl (λv v2 wx hS h1 h2=>by rw[show v=.agg #[.bool y2.iter,bv,str y2.res,tv] from h1,show v2=.agg #[.bool x2.iter,av,str x2.res,sv] from h2];exact(EN _ _ _ _ wx hS.2.1 hS.2.2).mono (by rw[hn];rintro e w' ⟨rfl,hb⟩;exact⟨_,rfl,rfl,hb⟩))
                 | exact eW rfl (by kernel_rfl) rfl rfl rfl (λw=>by simp[go_sem,g1])
              exact trivial
            · intro aE wE mo fM _
              simp only[pq,pz,pw];go_wp2_with fail;exact⟨⟨j+1,hji,by go_num,by rw[HZ.out],hq.trans (af fM hq.size)⟩,by simp only[intOf];omega⟩
       · have HZ := zh (HA.out.trans (by rw [hT]; simp : _ = true))
         clear hT HA hy;go_upto_region 22 with fail;refine dK (D:=Any) (w:=wr) 31 [(10,vY)] [vY,vY,vK,vK,vK,vK,vK,vK,vK,vK,vK,vK,vK,vK,vK,vK,vK,vK,vK,vK,vK,vK,vK,vK,vK,vK,vK,vK,vK,vK,vY,vY] (aZ []) (by kernel_rfl) rfl (λ_ _ h hb=>h.below hb) (λp hp=>by cases hp) ⟨rfl,trivial⟩ ?_ ?_
         · iterate 32
            refine And.intro ?_ ?_
            · first
              | exact dr (by kernel_rfl) rfl
              | exact oe rfl rfl (by kernel_rfl)
              | exact eX rfl (by kernel_rfl) (by kernel_rfl) rfl rfl
              | exact gN rfl (by kernel_rfl) rfl rfl (λw=>by simp[go_sem])
              | exact iC rfl (by kernel_rfl) rfl rfl rfl (λw=>by simp[go_sem])
              | exact gv rfl (by kernel_rfl) rfl rfl (λw hS=>by simp[go_sem])
              | exact eW rfl (by kernel_rfl) rfl rfl rfl (λw=>by simp[go_sem])
           exact trivial
         · intro aE wE mo fM _
           simp only[pq,pz,pw];go_wp2_with fail;exact⟨⟨j+1,hji,by go_num,by rw[HZ.out],hq.trans (af fM hq.size)⟩,by simp only[intOf];omega⟩
  case pos =>
   obtain⟨x,hx⟩:∃x,vf7[i]? =some x:=⟨_,List.getElem?_eq_getElem hlt⟩
   obtain⟨b1,o1,av,sv,mq,_,hxl,fe,eE,uq,pG,od,pZ,rK⟩:=(vd5.out wr LD).at hx;subst mq;have vc4:=zh (λhq:(vf5.any λy=>va0 y x)=true=>vbc (p:=λo=>vf5.any λy=>va0 y o) hP.out hx hq);have vc3:=zh (λhq:(vf5.any λy=>va0 y x)=false=>vbp.out x (List.mem_of_getElem? hx) hq);obtain⟨x1,x2⟩:=x;dsimp only at hxl fe eE uq pG pZ;clear hx hP;go_wp2_with fail;clear kk;have Qv:=LD;have vbw:=hr;clear LD hr;generalize wr=vfg at *;go_loopw [7,8] (λt y wx=>∃j:Nat,j≤vf5.length∧y=.int .i64 j∧t=.bool ((vf5.take j).any λo=>va0 o ⟨x1,x2⟩)∧Below vfg.heap.size vfg wx) (λ_ y _=>vf5.length - (intOf y).toNat)
   case atStart=>exact⟨0,Nat.zero_le _,by go_num,rfl,zb _⟩
   case round =>
    obtain⟨j,hj,rfl,rfl,hq⟩:=hrel;have vce:=Qv.trans (af hq Qv.size);obtain⟨⟨⟨_,_,_,vef,SU⟩,_⟩,⟨⟨_,_,_,veg,veh⟩,_⟩⟩:=HK.out wr vce
    by_cases hji:j<vf5.length
    case neg=>
     have hie:j=vf5.length:=by omega
     subst hie;rw[List.take_length];rcases hany:(vf5.any λo=>va0 o ⟨x1,x2⟩) with _|_
     · have HZ:=zh (vc3.out hany)
       clear hany vc3 vc4;go_wp2_with fail;go_ret2;exact⟨by rw[HZ.out];rfl,hC.trans (af vce hC.size)⟩
     · have HZ:=vc4.out hany
       clear hany vc3 vc4;go_wp2_with fail;exact⟨⟨i+1,hlt,by go_num,HZ,vbw.trans (af hq vbw.size)⟩,by simp only[intOf];omega⟩
    case pos =>
     obtain⟨y,hy⟩:∃y,vf5[j]? =some y:=⟨_,List.getElem?_eq_getElem hji⟩
     have HA:=zh (vau (x:=⟨x1,x2⟩) hy);clear vc4 vc3;rcases hT:(vf5.take j).any (λo=>va0 o ⟨x1,x2⟩) with _|_
     · obtain ⟨b2, o2, bv, tv, mq, _, Mh, RO, Pp, Qi, Qj, Qk, Ql, Qm⟩ := (vd3.out wr vce).at hy
       subst mq;obtain⟨y1,y2⟩:=y;dsimp only at Mh RO Pp Qi Qj Ql;have uq:=Below.keep hq uq;have pG:=Below.keep hq pG;have od:=Below.keep hq od;have pZ:=Below.keep hq pZ;have rK:=Below.keep hq rK;have vcu:aT Any wr (.agg #[.bool x2.iter,av,str x2.res,sv]) x2:=⟨av,sv,rfl,hxl.2,fe.below hq zr,eE.below hq zr⟩;have vcv:aT Any wr (.agg #[.bool y2.iter,bv,str y2.res,tv]) y2:=⟨bv,tv,rfl,Mh.2,RO,Pp⟩;clear hy
       by_cases hnm:y1=x1
       case neg=>
        have HZ:=zh (HA.out.trans (by rw[hT];simp[va0,hnm]:_=false));have g1:(y1==x1)=false:=by simpa using hnm
        clear hT HA hnm;go_upto_region 12 with fail;refine dK (D:=Any) (w:=wr) 31 [(2,vP w.heap.size 0),(3,vP (w.heap.size+1) 0),(6,vI i),(7,vN),(8,vI j)] [vN,vN,vP w.heap.size 3,vL b2 o2 vf5.length c1,vI j,vP b2 (o2+j * 5),vP b2 (o2+j * 5),vT y1,vP (w.heap.size+1) 3,vL b1 o1 vf7.length c5,vI i,vP b1 (o1+i * 5),vP b1 (o1+i * 5),vT x1,vN,vN,vK,vK,vK,vK,vK,vK,vK,vK,vK,vK,vK,vK,vK,vN,vN,vN] (aZ [(⟨w.heap.size,3,none⟩,.slice (some ⟨b2,o2,none⟩) vf5.length c1),(⟨w.heap.size+1,3,none⟩,.slice (some ⟨b1,o1,none⟩) vf7.length c5),(⟨b2,o2+j * 5,none⟩,str y1),(⟨b1,o1+i * 5,none⟩,str x1)]) (by kernel_rfl) rfl (λ_ _ h hb=>h.below hb) (by(iterate 4 refine b9 (by exact Below.keep (zb wr).drew (by assumption)) ?_);exact gy) ⟨rfl,rfl,rfl,rfl,rfl,trivial⟩ ?_ ?_
        · iterate 32
           refine And.intro ?_ ?_
           · first
             | exact dr (by kernel_rfl) rfl
             | exact oe rfl rfl (by kernel_rfl)
             | exact eX rfl (by kernel_rfl) (by kernel_rfl) rfl rfl
             | exact gN rfl (by kernel_rfl) rfl rfl (λw=>by simp[go_sem])
             | exact iC rfl (by kernel_rfl) rfl rfl rfl (λw=>by simp[go_sem,hji,hlt])
             | exact gv rfl (by kernel_rfl) rfl rfl (λw hS=>by simp[go_sem,(hS.get 0 rfl),(hS.get 1 rfl),(hS.get 2 rfl),(hS.get 3 rfl)])
             | exact eW rfl (by kernel_rfl) rfl rfl rfl (λw=>by simp[go_sem,g1])
          exact trivial
        · intro aE wE mo fM _
          simp only[pq,pz,pw];go_wp2_with fail;exact⟨⟨j+1,hji,by go_num,by rw[HZ.out],hq.trans (af fM hq.size)⟩,by simp only[intOf];omega⟩
       case pos =>
        have g1:(y1==x1)=true:=by simpa using hnm
        rcases hn:pK y2 x2 with _|_
        · have HZ := zh (HA.out.trans (by rw [hT]; simp [va0, hn] : _ = false))
          clear hT HA hnm;go_upto_region 12 with fail;refine dK (D:=Any) (w:=wr) 31 [(2,vP w.heap.size 0),(3,vP (w.heap.size+1) 0),(6,vI i),(7,vN),(8,vI j)] [vN,vN,vP w.heap.size 3,vL b2 o2 vf5.length c1,vI j,vP b2 (o2+j * 5),vP b2 (o2+j * 5),vT y1,vP (w.heap.size+1) 3,vL b1 o1 vf7.length c5,vI i,vP b1 (o1+i * 5),vP b1 (o1+i * 5),vT x1,vY,vY,vP w.heap.size 3,vL b2 o2 vf5.length c1,vI j,vP b2 (o2+j * 5),vP b2 (o2+j * 5+1),.eq (.agg #[.bool y2.iter,bv,str y2.res,tv]),vP (w.heap.size+1) 3,vL b1 o1 vf7.length c5,vI i,vP b1 (o1+i * 5),vP b1 (o1+i * 5+1),.eq (.agg #[.bool x2.iter,av,str x2.res,sv]),vN,vN,vN,vN] (λw'=>aZ [(⟨w.heap.size,3,none⟩,.slice (some ⟨b2,o2,none⟩) vf5.length c1),(⟨w.heap.size+1,3,none⟩,.slice (some ⟨b1,o1,none⟩) vf7.length c5),(⟨b2,o2+j * 5,none⟩,str y1),(⟨b1,o1+i * 5,none⟩,str x1),(⟨b2,o2+j * 5+1,none⟩,.bool y2.iter),(⟨b2,o2+j * 5+2,none⟩,bv),(⟨b2,o2+j * 5+3,none⟩,str y2.res),(⟨b2,o2+j * 5+4,none⟩,tv),(⟨b1,o1+i * 5+1,none⟩,.bool x2.iter),(⟨b1,o1+i * 5+2,none⟩,av),(⟨b1,o1+i * 5+3,none⟩,str x2.res),(⟨b1,o1+i * 5+4,none⟩,sv)] w'∧(aT Any w' (.agg #[.bool y2.iter,bv,str y2.res,tv]) y2∧aT Any w' (.agg #[.bool x2.iter,av,str x2.res,sv]) x2)) (by kernel_rfl) rfl (λ_ _ h hb=>⟨h.1.below hb,⟨aT.below h.2.1 hb zr,aT.below h.2.2 hb zr⟩⟩) ⟨(by(iterate 12 refine b9 (by exact Below.keep (zb wr).drew (by assumption)) ?_);exact gy),aT.below vcv (zb wr).drew zr,aT.below vcu (zb wr).drew zr⟩ ⟨rfl,rfl,rfl,rfl,rfl,trivial⟩ ?_ ?_
          · iterate 32
             refine And.intro ?_ ?_
             · first
               | exact dr (by kernel_rfl) rfl
               | exact oe rfl rfl (by kernel_rfl)
               | exact eX rfl (by kernel_rfl) (by kernel_rfl) rfl rfl
               | exact gN rfl (by kernel_rfl) rfl rfl (λw=>by simp[go_sem])
               | exact iC rfl (by kernel_rfl) rfl rfl rfl (λw=>by simp[go_sem,hji,hlt])
               | exact gv rfl (by kernel_rfl) rfl rfl (λw hS=>by simp[go_sem,(hS.1.get 0 rfl),(hS.1.get 1 rfl),(hS.1.get 2 rfl),(hS.1.get 3 rfl),(hS.1.get 4 rfl),(hS.1.get 5 rfl),(hS.1.get 6 rfl),(hS.1.get 7 rfl),(hS.1.get 8 rfl),(hS.1.get 9 rfl),(hS.1.get 10 rfl),(hS.1.get 11 rfl)])
               | exact gu (s1:=.eq (.agg #[.bool y2.iter,bv,str y2.res,tv])) (s2:=.eq (.agg #[.bool x2.iter,av,str x2.res,sv])) rfl (enters_of Tryz.func26 (by kernel_rfl) rfl) (by kernel_rfl) rfl rfl rfl (λv v2 wx hS h1 h2=>by rw[show v=.agg #[.bool y2.iter,bv,str y2.res,tv] from h1,show v2=.agg #[.bool x2.iter,av,str x2.res,sv] from h2];exact(EN _ _ _ _ wx hS.2.1 hS.2.2).mono (by rw[hn];rintro e w' ⟨rfl,hb⟩;exact⟨_,rfl,rfl,hb⟩))
               | exact eW rfl (by kernel_rfl) rfl rfl rfl (λw=>by simp[go_sem,g1])
            exact trivial
          · intro aE wE mo fM _
            simp only[pq,pz,pw];go_wp2_with fail;exact⟨⟨j+1,hji,by go_num,by rw[HZ.out],hq.trans (af fM hq.size)⟩,by simp only[intOf];omega⟩
        · have HZ := zh (HA.out.trans (by rw [hT]; simp [va0, hn, hnm] : _ = true))
          clear hT HA hnm;go_upto_region 12 with fail;refine dK (D:=Any) (w:=wr) 31 [(2,vP w.heap.size 0),(3,vP (w.heap.size+1) 0),(6,vI i),(7,vN),(8,vI j)] [vN,vN,vP w.heap.size 3,vL b2 o2 vf5.length c1,vI j,vP b2 (o2+j * 5),vP b2 (o2+j * 5),vT y1,vP (w.heap.size+1) 3,vL b1 o1 vf7.length c5,vI i,vP b1 (o1+i * 5),vP b1 (o1+i * 5),vT x1,vY,vY,vP w.heap.size 3,vL b2 o2 vf5.length c1,vI j,vP b2 (o2+j * 5),vP b2 (o2+j * 5+1),.eq (.agg #[.bool y2.iter,bv,str y2.res,tv]),vP (w.heap.size+1) 3,vL b1 o1 vf7.length c5,vI i,vP b1 (o1+i * 5),vP b1 (o1+i * 5+1),.eq (.agg #[.bool x2.iter,av,str x2.res,sv]),vY,vY,vY,vY] (λw'=>aZ [(⟨w.heap.size,3,none⟩,.slice (some ⟨b2,o2,none⟩) vf5.length c1),(⟨w.heap.size+1,3,none⟩,.slice (some ⟨b1,o1,none⟩) vf7.length c5),(⟨b2,o2+j * 5,none⟩,str y1),(⟨b1,o1+i * 5,none⟩,str x1),(⟨b2,o2+j * 5+1,none⟩,.bool y2.iter),(⟨b2,o2+j * 5+2,none⟩,bv),(⟨b2,o2+j * 5+3,none⟩,str y2.res),(⟨b2,o2+j * 5+4,none⟩,tv),(⟨b1,o1+i * 5+1,none⟩,.bool x2.iter),(⟨b1,o1+i * 5+2,none⟩,av),(⟨b1,o1+i * 5+3,none⟩,str x2.res),(⟨b1,o1+i * 5+4,none⟩,sv)] w'∧(aT Any w' (.agg #[.bool y2.iter,bv,str y2.res,tv]) y2∧aT Any w' (.agg #[.bool x2.iter,av,str x2.res,sv]) x2)) (by kernel_rfl) rfl (λ_ _ h hb=>⟨h.1.below hb,⟨aT.below h.2.1 hb zr,aT.below h.2.2 hb zr⟩⟩) ⟨(by(iterate 12 refine b9 (by exact Below.keep (zb wr).drew (by assumption)) ?_);exact gy),aT.below vcv (zb wr).drew zr,aT.below vcu (zb wr).drew zr⟩ ⟨rfl,rfl,rfl,rfl,rfl,trivial⟩ ?_ ?_
          · iterate 32
             refine And.intro ?_ ?_
             · first
               | exact dr (by kernel_rfl) rfl
               | exact oe rfl rfl (by kernel_rfl)
               | exact eX rfl (by kernel_rfl) (by kernel_rfl) rfl rfl
               | exact gN rfl (by kernel_rfl) rfl rfl (λw=>by simp[go_sem])
               | exact iC rfl (by kernel_rfl) rfl rfl rfl (λw=>by simp[go_sem,hji,hlt])
               | exact gv rfl (by kernel_rfl) rfl rfl (λw hS=>by simp[go_sem,(hS.1.get 0 rfl),(hS.1.get 1 rfl),(hS.1.get 2 rfl),(hS.1.get 3 rfl),(hS.1.get 4 rfl),(hS.1.get 5 rfl),(hS.1.get 6 rfl),(hS.1.get 7 rfl),(hS.1.get 8 rfl),(hS.1.get 9 rfl),(hS.1.get 10 rfl),(hS.1.get 11 rfl)])
               | exact gu (s1:=.eq (.agg #[.bool y2.iter,bv,str y2.res,tv])) (s2:=.eq (.agg #[.bool x2.iter,av,str x2.res,sv])) rfl (enters_of Tryz.func26 (by kernel_rfl) rfl) (by kernel_rfl) rfl rfl rfl (λv v2 wx hS h1 h2=>by rw[show v=.agg #[.bool y2.iter,bv,str y2.res,tv] from h1,show v2=.agg #[.bool x2.iter,av,str x2.res,sv] from h2];exact(EN _ _ _ _ wx hS.2.1 hS.2.2).mono (by rw[hn];rintro e w' ⟨rfl,hb⟩;exact⟨_,rfl,rfl,hb⟩))
               | exact eW rfl (by kernel_rfl) rfl rfl rfl (λw=>by simp[go_sem,g1])
            exact trivial
          · intro aE wE mo fM _
            simp only[pq,pz,pw];go_wp2_with fail;exact⟨⟨j+1,hji,by go_num,by rw[HZ.out],hq.trans (af fM hq.size)⟩,by simp only[intOf];omega⟩
     · have HZ := zh (HA.out.trans (by rw [hT]; simp : _ = true))
       clear hT HA hy;go_upto_region 12 with fail;refine dK (D:=Any) (w:=wr) 31 [(7,vY)] [vY,vY,vK,vK,vK,vK,vK,vK,vK,vK,vK,vK,vK,vK,vK,vK,vK,vK,vK,vK,vK,vK,vK,vK,vK,vK,vK,vK,vK,vK,vY,vY] (aZ []) (by kernel_rfl) rfl (λ_ _ h hb=>h.below hb) (λp hp=>by cases hp) ⟨rfl,trivial⟩ ?_ ?_
       · iterate 32
          refine And.intro ?_ ?_
          · first
            | exact dr (by kernel_rfl) rfl
            | exact oe rfl rfl (by kernel_rfl)
            | exact eX rfl (by kernel_rfl) (by kernel_rfl) rfl rfl
            | exact gN rfl (by kernel_rfl) rfl rfl (λw=>by simp[go_sem])
            | exact iC rfl (by kernel_rfl) rfl rfl rfl (λw=>by simp[go_sem])
            | exact gv rfl (by kernel_rfl) rfl rfl (λw hS=>by simp[go_sem])
            | exact eW rfl (by kernel_rfl) rfl rfl rfl (λw=>by simp[go_sem])
         exact trivial
       · intro aE wE mo fM _
         simp only[pq,pz,pw];go_wp2_with fail;exact⟨⟨j+1,hji,by go_num,by rw[HZ.out],hq.trans (af fM hq.size)⟩,by simp only[intOf];omega⟩
theorem vbg (w:World) (z:Value) (hz:z.cells.size=1) (A L:List (List UInt8)) (old:Nat) (hm:A.length+L.length≤maxLen):
 (w.drew.alloc (.cells ((aB A).toArray++(aB L).toArray++Builtin.zeroCells z.cells (grownCap w (A.length+L.length) old 9 - (A.length+L.length))) 9)).ownsRow w.heap.size 9 1
  (.slice (some ⟨w.heap.size,0,none⟩) (A.length+L.length) (grownCap w (A.length+L.length) old 9)) (A++L).length (aB (A++L))∧
 Below w.heap.size w (w.drew.alloc (.cells ((aB A).toArray++(aB L).toArray++Builtin.zeroCells z.cells (grownCap w (A.length+L.length) old 9 - (A.length+L.length))) 9)):=by
 have hge:=grownCap_ge w (A.length+L.length) old 9
 have hcm:=grownCap_le_maxLen w (A.length+L.length) old 9 hm
 have hl:∀l:List (List UInt8),(aB l).length=l.length:=λl=>by simp[aB]
 have hap:aB (A++L)=aB A++aB L:=by simp[aB]
 refine⟨⟨by rw[hl,Nat.mul_one],.inr ⟨w.heap.size,_,_,by rw[List.length_append],nl _,heap_alloc_new w.drew _,by rw[List.length_append];exact hge,hcm,?_,?_⟩⟩,(zb w).drew.alloc zr _⟩
 · simp only[Array.size_append,List.size_toArray,size_zeroCells,hz,hl,Nat.mul_one]
   omega
 · rw[hap]
   simp only[Array.toList_append,Nat.mul_one];rw[show(A++L).length=(aB A++aB L).length by simp[aB]];exact List.take_left
set_option maxRecDepth 4000 in
theorem vak {D D':Nat→Prop} (w:World) (ty:TypeId) (p:Option Addr) (n:Nat) (A L:List (List UInt8)) (y:Value) (hA:SS D w (.slice p n n) A) (hy:SS D' w y L) (h0:L≠[]) (hm:A.length+L.length≤1000000):
 ∃v' w',(Builtin.append_ #[34,34] ty #[.slice p n n,y]).run Tryz.prog w=.ok v' w'∧w'.ownsRow w.heap.size 9 1 v' (A++L).length (aB (A++L))∧Below w.heap.size w w':=by
 obtain⟨i0,gw,hz0,hz1,hz2⟩:=bY iM
 obtain⟨p',c',e1,_,_,_,ha⟩:=hA
 simp only[Value.slice.injEq] at e1
 obtain⟨rfl,rfl,rfl⟩:=e1
 obtain⟨q,c,rfl,_,_,_,h4⟩:=hy
 rcases h4 with h4|⟨b,o,rfl,_,_,h6⟩
 · exact absurd h4 h0
 have hp:0<L.length:=List.length_pos_iff.2 h0
 have hnews:∀j u,(aB L)[j]? =some u→w.cell? ((⟨b,o,none⟩:Addr).add j)=some u:=λj u hu=>by
  have hj:j<L.length:=by
   have:=(List.getElem?_eq_some_iff.1 hu).1
   simpa[aB] using this
  rw[iJ L j hj] at hu;cases hu;rw[Go.WideShapes.add_plain];exact h6 j hj
 have hrow:=vbg w (.string ⟨#[]⟩) rfl A L A.length (by unfold maxLen;omega)
 rcases p with _|a
 · have e0:A=[]:=by
    rcases ha with ha|⟨_,_,h,_⟩
    · exact ha
    · cases h
   subst e0;have hr:=run_append_nil (P:=Tryz.prog) w 34 ty 9 i0 (.string ⟨#[]⟩) eV gw hz0 ⟨b,o,none⟩ L.length c (aB L) (by rw[hz1];simp[aB]) hnews hp (by omega) (by rw[hz2];omega);refine⟨_,_,hr,?_⟩
   simpa[aB] using hrow
 · have holds:∀j u,(aB A)[j]? =some u→w.cell? (a.add j)=some u:=λj u hu=>by
    have hj:j<A.length:=by
     have:=(List.getElem?_eq_some_iff.1 hu).1
     simpa[aB] using this
    rcases ha with ha|⟨b',o',h,_,_,h7⟩
    · subst ha;simp at hj
    · injection h with h
      subst h;rw[iJ A j hj] at hu;cases hu;rw[Go.WideShapes.add_plain];exact h7 j hj
   have hr:=run_append_grow (P:=Tryz.prog) w 34 ty 9 i0 (.string ⟨#[]⟩) eV gw hz0 a A.length A.length (aB A) (by rw[hz1];simp[aB]) holds ⟨b,o,none⟩ L.length c (aB L) (by rw[hz1];simp[aB]) hnews (by omega) (by omega) (growslice_fits (by omega) (by rw[hz2];omega));exact⟨_,_,hr,hrow⟩
theorem SS.sliced {D:Nat→Prop} {w:World} {p:Option Addr} {n c:Nat} {L:List (List UInt8)} (h:SS D w (.slice p n c) L) {l k m:Nat} (h1:l≤k) (h2:k≤n) (h3:k≤m):SS D w (sliced p l k m 1) ((L.take k).drop l):=by
 obtain⟨p',c',e,hc,hm,hl,h4⟩:=h
 simp only[Value.slice.injEq] at e
 obtain⟨rfl,rfl,rfl⟩:=e
 have hlen:((L.take k).drop l).length=k - l:=by rw[List.length_drop,List.length_take];omega
 refine⟨if m=l then p else p.map (·.add (l * 1)),m - l,?_,?_,?_,λs hs=>hl s (List.mem_of_mem_take (List.mem_of_mem_drop hs)),?_⟩
 · unfold Go.sliced
   rw[hlen]
 · omega
 · omega
 · by_cases h0:l=k
   · subst h0
     exact .inl (List.length_eq_zero_iff.1 (by omega))
   · rcases h4 with rfl|⟨b,o,rfl,h5,h6,h7⟩
     · simp at h2
       omega
     · refine .inr ⟨b,o+l,?_,h5,h6,λj hj=>?_⟩
       · rw[if_neg (by omega)]
         simp[Addr.add]
       · have:=h7 (l+j) (by omega)
         rw[show o+l+j=o+(l+j) by omega,this];simp
def vcf (s:List UInt8) (w:World) (v:Value):Prop:=w.ownsRow 0 9 1 v 1 (aB [s])∧∃p,v=.slice p 1 1
section
variable {ops:Array Oper} {h:Nat} {V:List VS} {E:List (Nat×VS)} {S:World→Prop} {k:Nat} {o:Oper}
theorem vcc {t:TypeId} {x y z:Operand} {p:Option Addr} {n c j:Nat} (ho:o.op=.slice t x none (some y) (some z)) (ht:t=34) (hw:cO ops h V o=some true) (hk:V[k]? =some (.eq (sliced p 0 j j 1)))
 (hx:aJ ops h V E o x=some (.eq (.slice p n c))) (hy:aJ ops h V E o y=some (.eq (.int .i64 j))) (hz:aJ ops h V E o z=some (.eq (.int .i64 j))) (hj:j≤c):bM Any Tryz.prog S ops h V E k o:=
 OA [(x,.slice p n c),(y,.int .i64 j),(z,.int .i64 j)] hw hk (by simp[hx,hy,hz]) λa w hS hi=>by
  have h1:a.eval x=.slice p n c:=hi (x,.slice p n c) (by simp);have h2:a.eval y=.int .i64 j:=hi (y,.int .i64 j) (by simp);have h3:a.eval z=.int .i64 j:=hi (z,.int .i64 j) (by simp);subst ht;have hj2:(j:Int)≤(c:Int):=by omega
  have hrun:∀ev:Operand→Value,ev x=.slice p n c→ev y=.int .i64 j→ev z=.int .i64 j→(execOp ev o).run Tryz.prog w=.ok (.value (sliced p 0 j j 1)) w:=λev h1 h2 h3=>by
   unfold execOp;simp[ho,h1,h2,h3,go_sem,hj2]
  exact hrun a.eval h1 h2 h3
theorem vcd {t:TypeId} {x y:Operand} {p:Option Addr} {n c j:Nat} (ho:o.op=.slice t x (some y) none none) (ht:t=34) (hw:cO ops h V o=some true) (hk:V[k]? =some (.eq (sliced p j n c 1)))
 (hx:aJ ops h V E o x=some (.eq (.slice p n c))) (hy:aJ ops h V E o y=some (.eq (.int .i64 j))) (hj:j≤n):bM Any Tryz.prog S ops h V E k o:=
 OA [(x,.slice p n c),(y,.int .i64 j)] hw hk (by simp[hx,hy]) λa w hS hi=>by
  have h1:a.eval x=.slice p n c:=hi (x,.slice p n c) (by simp);have h2:a.eval y=.int .i64 j:=hi (y,.int .i64 j) (by simp);subst ht;have hj2:(j:Int)≤(n:Int):=by omega
  have hrun:∀ev:Operand→Value,ev x=.slice p n c→ev y=.int .i64 j→(execOp ev o).run Tryz.prog w=.ok (.value (sliced p j n c 1)) w:=λev h1 h2=>by
   unfold execOp;simp[ho,h1,h2,go_sem,hj2]
  exact hrun a.eval h1 h2
theorem vcb {t:TypeId} {x:Operand} {s:List UInt8} (ho:o.op=.buildSlice t 1 #[(0,x)]) (ht:t=34) (hw:cO ops h V o=some true) (hk:V[k]? =some (.prop (vcf s))) (hx:aJ ops h V E o x=some (.eq (str s))):bM Any Tryz.prog S ops h V E k o:=
 oI [(x,.eq (str s))] hw hk (by simp[hx]) λa w Q hS hi next hn=>by
  have h1:a.eval x=str s:=hi (x,.eq (str s)) (by simp);subst ht;unfold Oper.wp;have hrun:∀ev:Operand→Value,ev x=str s→(execOp ev o).run Tryz.prog w=.ok (.value (.slice (some ⟨w.heap.size,0,none⟩) 1 1)) (w.alloc (.cells #[str s] 9)):=λev h1=>by
   unfold execOp;simp[ho,h1,go_sem]
  rw[hrun _ h1];refine hn _ _ (λw' hb=>⟨ay (w:=w.alloc (.cells #[str s] 9)) ⟨rfl,.inr ⟨w.heap.size,1,#[str s],rfl,Nat.zero_le _,heap_alloc_new w _,nl _,by unfold maxLen;omega,rfl,rfl⟩⟩ hb zr,_,rfl⟩) ((zb w).alloc zr _)
theorem vbf {t u:TypeId} {x y:Operand} {s s2:VS} {A L:List (List UInt8)} (ho:o.op=.call {callee:=.builtin .append,args:= #[x,y],argTypes:= #[t,u] }) (ht:t=34) (hu:u=34) (hw:cO ops h V o=some true) (hk:V[k]? =some (.ss (A++L)))
 (hx:aJ ops h V E o x=some s) (hy:aJ ops h V E o y=some s2) (Uq:∀w v,S w→s.holds Any w v→∃p,v=.slice p A.length A.length∧SS Any w v A∧(L=[]→w.ownsRow 0 9 1 v A.length (aB A)))
 (vee:∀w v,S w→s2.holds Any w v→SS Any w v L) (hm:A.length+L.length≤1000000):bM Any Tryz.prog S ops h V E k o:=
 oI [(x, s), (y, s2)] hw hk (by simp [hx, hy]) fun a w Q hS hi next hn => by
  have h1:=hi (x,s) (by simp);have h2:=hi (y,s2) (by simp);obtain⟨p,e1,hA,hO⟩:=Uq w _ hS h1;have hL:=vee w _ hS h2;dsimp only at e1 hA hO hL;subst ht hu;have key:∃v' w',(Builtin.append_ #[34,34] o.type #[a.eval x,a.eval y]).run Tryz.prog w=.ok v' w'∧SS Any w' v' (A++L)∧Below w.heap.size w w':=by
   by_cases h0:L=[]
   · obtain⟨q,c,e2,_⟩:=hL.shape
     rw[e2,h0];exact⟨a.eval x,w,p7 0 _ _ 9 _ 1 eV (bY iM).choose_spec.1 _ _ _ (hO h0) q c,by simpa using hA,zb _⟩
   · rw[e1] at hA ⊢
     obtain⟨v',w',k1,k2,k3⟩:=vak w o.type p A.length A L (a.eval y) hA hL h0 hm;exact⟨v',w',k1,SS.bH k2 (λs hs=>by
      rcases List.mem_append.1 hs with hs|hs
      · exact hA.le s hs
      · exact hL.le s hs) λ_ _=>trivial,k3⟩
  obtain⟨v',w',k1,k2,k3⟩:=key;unfold Oper.wp execOp;simp only[ho,resolve,invoke,builtin,Sem.run_bind,Sem.run_pure,Result.andThen_ok,List.map_toArray,List.map_cons,List.map_nil,k1];exact hn _ _ k2 k3
end
end Go.Proofs.YtakgjcfkdemipaaGreatDoor
