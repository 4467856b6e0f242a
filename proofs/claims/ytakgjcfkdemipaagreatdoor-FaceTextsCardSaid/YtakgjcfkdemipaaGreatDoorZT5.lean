/-
  Lemmas: contracts: of argusref04: SameNeeds, SameOps. No condition.
-/
import Derived.Shelf.Abstract
import Derived.Test.YtakgjcfkdemipaaGreatDoorZB20
import Derived.Test.YtakgjcfkdemipaaGreatDoorZBn
import Derived.Test.YtakgjcfkdemipaaGreatDoorZT0
import Derived.Test.YtakgjcfkdemipaaGreatDoorZT2
set_option maxHeartbeats 12800000
set_option maxRecDepth 8000
namespace Go.Proofs.YtakgjcfkdemipaaGreatDoor
open Go Go.RowKit Go.Shelf
instance decOpP:DecidableEq aL:=λa b=>
 decidable_of_iff (decide (a.name=b.name)=true∧pK a.sig b.sig=true) ⟨λh=>by
  obtain⟨a1,a2⟩:=a;obtain⟨b1,b2⟩:=b;rw[(vaq a2 b2).1 h.2,(of_decide_eq_true h.1:a1=b1)],λh=>by subst h;exact⟨decide_eq_true rfl,(vaq _ _).2 rfl⟩⟩
theorem vdt {α:Type} [DecidableEq α] {l m:List α} {i:Nat} {x y:α} (hx:l[i]? =some x) (hy:m[i]? =some y):decide (l.drop i=m.drop i)=(decide (x=y)&&decide (l.drop (i+1)=m.drop (i+1))):=by
 rw[bp hx,bp hy]
 by_cases h:x=y<;>simp[h]
theorem vcz {D E : Nat → Prop} (l m : List aL) (v u : Value) (w : World) (hv : aY D w v l) (hu : aY E w u m) :
 Calls Tryz.prog 50 #[v,u] w λe w'=>e=.returned (.bool (decide (l=m)))∧Below w.heap.size w w':=by
 obtain⟨p,c1,rfl,_,G0,_⟩:=hv.shape
 obtain⟨q,c2,rfl,_⟩:=hu.shape
 unfold maxLen at G0
 by_cases hlen:l.length=m.length
 case neg=>
  have HX:=zh (show decide (l=m)=false from decide_eq_false λe=>hlen (by rw[e]));have g:((l.length:Int) != (m.length:Int))=true:=by rw[bne_iff_ne];omega
  clear hv hu;go_enter Tryz.func50,Tryz.ntmps50;go_wp2_with fail;go_ret;exact⟨by rw[HX.out];first|done|rfl,zb _⟩
 case pos =>
  have g:((l.length:Int) != (m.length:Int))=false:=by rw[hlen];simp
  have HL:=zh hlen;clear hlen;go_enter Tryz.func50,Tryz.ntmps50;go_wp2_with fail;clear g;go_loopw [5] (λa wr=>∃i:Nat,i≤l.length∧a=.int .i64 i∧Below w.heap.size w wr∧Hid (decide (l=m)=decide (l.drop i=m.drop i))) (λa _=>l.length - (intOf a).toNat)
  case atStart=>exact⟨0,Nat.zero_le _,by go_num,zb _,rfl⟩
  case round =>
   obtain⟨i,hi,rfl,hB,hA⟩:=hrel
   by_cases hlt:i<l.length
   case neg=>
    have HX:=zh (show decide (l=m)=true by rw[hA.out,List.drop_eq_nil_of_le (by omega),List.drop_eq_nil_of_le (by have:=HL.out;omega)];simp);clear hA;go_wp2_with fail;go_ret;exact⟨by rw[HX.out];first|done|rfl,hB⟩
   case pos =>
    have hlm:i<m.length:=by have:=HL.out;omega
    obtain⟨x,hx⟩:∃x,l[i]? =some x:=⟨_,List.getElem?_eq_getElem hlt⟩
    obtain⟨y,hy⟩:∃y,m[i]? =some y:=⟨_,List.getElem?_eq_getElem hlm⟩
    obtain⟨b1,o1,av,sv,rfl,_,hxl,fe,eE,uq,pG,od,pZ,rK⟩:=(hv.below hB zr).at hx;obtain⟨b2,o2,bv,tv,rfl,_,Mh,RO,Pp,Qi,Qj,Qk,Ql,Qm⟩:=(hu.below hB zr).at hy;have vh1:aT Any wr (.agg #[.bool x.sig.iter,av,str x.sig.res,sv]) x.sig:=⟨av,sv,rfl,hxl.2,fe.mono (λ_ _=>trivial),eE.mono (λ_ _=>trivial)⟩;have vh2:aT Any wr (.agg #[.bool y.sig.iter,bv,str y.sig.res,tv]) y.sig:=⟨bv,tv,rfl,Mh.2,RO.mono (λ_ _=>trivial),Pp.mono (λ_ _=>trivial)⟩;have hd:=zh (hA.out.trans (vdt hx hy));obtain⟨x1,x2⟩:=x;obtain⟨y1,y2⟩:=y;dsimp only at hxl Mh uq pG pZ Qi Qj Ql vh1 vh2;clear hA hx hy fe eE RO Pp
    by_cases hnm:x1=y1
    case neg=>
     have HX:=zh (show decide (l=m)=false by rw[hd.out,decide_eq_false (show ¬(⟨x1,x2⟩:aL)=⟨y1,y2⟩ from λe=>hnm (by injection e))];rfl);have g1:(x1==y1)=false:=by simpa using hnm
     clear hd hnm;go_upto_region 6 with fail;refine dK (D:=Any) (w:=wr) 24 [(0,vL b1 o1 l.length c1),(1,vL b2 o2 m.length c2),(5,vI i)] [vL b1 o1 l.length c1,vI i,vP b1 (o1+i * 5),vP b1 (o1+i * 5),vT x1,vL b2 o2 m.length c2,vI i,vP b2 (o2+i * 5),vP b2 (o2+i * 5),vT y1,vY,vY,vK,vK,vK,vK,vK,vK,vK,vK,vK,vK,vK,vK,vY] (aZ [(⟨b1,o1+i * 5,none⟩,str x1),(⟨b2,o2+i * 5,none⟩,str y1)]) (by kernel_rfl) rfl (λ_ _ h hb=>h.below hb) (by(iterate 2 refine b9 (by exact Below.keep (zb wr).drew (by assumption)) ?_);exact gy) ⟨rfl,rfl,rfl,trivial⟩ ?_ ?_
     · iterate 25
        refine And.intro ?_ ?_
        · first
          | exact dr (by kernel_rfl) rfl
          | exact oe rfl rfl (by kernel_rfl)
          | exact eX rfl (by kernel_rfl) (by kernel_rfl) rfl rfl
          | exact gN rfl (by kernel_rfl) rfl rfl (λw=>by simp[go_sem])
          | exact iC rfl (by kernel_rfl) rfl rfl rfl (λw=>by simp[go_sem,hlt,hlm])
          | exact gv rfl (by kernel_rfl) rfl rfl (λw hS=>by simp[go_sem,(hS.get 0 rfl),(hS.get 1 rfl)])
          | exact eW rfl (by kernel_rfl) rfl rfl rfl (λw=>by simp[go_sem,g1])
       exact trivial
     · intro aE wE mo fM _
       simp only[pq,pz,pw];go_wp2_with fail;go_ret;exact⟨by rw[HX.out];first|done|rfl,hB.trans (af fM hB.size)⟩
    case pos =>
     have g1:(x1==y1)=true:=by simpa using hnm
     rcases hn:pK x2 y2 with _|_
     · have HX := zh (show decide (l = m) = false by rw [hd.out, decide_eq_false (show ¬ (⟨x1, x2⟩ : aL) = ⟨y1, y2⟩ from fun e => by injection e with _ e2; rw [(vaq x2 y2).2 e2] at hn; cases hn)]; rfl)
       clear hd hnm;go_upto_region 6 with fail;refine dK (D:=Any) (w:=wr) 24 [(0,vL b1 o1 l.length c1),(1,vL b2 o2 m.length c2),(5,vI i)] [vL b1 o1 l.length c1,vI i,vP b1 (o1+i * 5),vP b1 (o1+i * 5),vT x1,vL b2 o2 m.length c2,vI i,vP b2 (o2+i * 5),vP b2 (o2+i * 5),vT y1,vN,vN,vL b1 o1 l.length c1,vI i,vP b1 (o1+i * 5),vP b1 (o1+i * 5+1),.eq (.agg #[.bool x2.iter,av,str x2.res,sv]),vL b2 o2 m.length c2,vI i,vP b2 (o2+i * 5),vP b2 (o2+i * 5+1),.eq (.agg #[.bool y2.iter,bv,str y2.res,tv]),vN,vY,vY] (λw'=>aZ [(⟨b1,o1+i * 5,none⟩,str x1),(⟨b2,o2+i * 5,none⟩,str y1),(⟨b1,o1+i * 5+1,none⟩,.bool x2.iter),(⟨b1,o1+i * 5+2,none⟩,av),(⟨b1,o1+i * 5+3,none⟩,str x2.res),(⟨b1,o1+i * 5+4,none⟩,sv),(⟨b2,o2+i * 5+1,none⟩,.bool y2.iter),(⟨b2,o2+i * 5+2,none⟩,bv),(⟨b2,o2+i * 5+3,none⟩,str y2.res),(⟨b2,o2+i * 5+4,none⟩,tv)] w'∧(aT Any w' (.agg #[.bool x2.iter,av,str x2.res,sv]) x2∧aT Any w' (.agg #[.bool y2.iter,bv,str y2.res,tv]) y2)) (by kernel_rfl) rfl (λ_ _ h hb=>⟨h.1.below hb,⟨aT.below h.2.1 hb zr,aT.below h.2.2 hb zr⟩⟩) ⟨(by(iterate 10 refine b9 (by exact Below.keep (zb wr).drew (by assumption)) ?_);exact gy),aT.below vh1 (zb wr).drew zr,aT.below vh2 (zb wr).drew zr⟩ ⟨rfl,rfl,rfl,trivial⟩ ?_ ?_
       · iterate 25
          refine And.intro ?_ ?_
          · first
            | exact dr (by kernel_rfl) rfl
            | exact oe rfl rfl (by kernel_rfl)
            | exact eX rfl (by kernel_rfl) (by kernel_rfl) rfl rfl
            | exact gN rfl (by kernel_rfl) rfl rfl (λw=>by simp[go_sem])
            | exact iC rfl (by kernel_rfl) rfl rfl rfl (λw=>by simp[go_sem,hlt,hlm])
            | exact gv rfl (by kernel_rfl) rfl rfl (λw hS=>by simp[go_sem,(hS.1.get 0 rfl),(hS.1.get 1 rfl),(hS.1.get 2 rfl),(hS.1.get 3 rfl),(hS.1.get 4 rfl),(hS.1.get 5 rfl),(hS.1.get 6 rfl),(hS.1.get 7 rfl),(hS.1.get 8 rfl),(hS.1.get 9 rfl)])
            | exact gu (s1:=.eq (.agg #[.bool x2.iter,av,str x2.res,sv])) (s2:=.eq (.agg #[.bool y2.iter,bv,str y2.res,tv])) rfl (enters_of Tryz.func26 (by kernel_rfl) rfl) (by kernel_rfl) rfl rfl rfl (λv v2 wx hS h1 h2=>by rw[show v=.agg #[.bool x2.iter,av,str x2.res,sv] from h1,show v2=.agg #[.bool y2.iter,bv,str y2.res,tv] from h2];exact(EN _ _ _ _ wx hS.2.1 hS.2.2).mono (by rw[hn];rintro e w' ⟨rfl,hb⟩;exact⟨_,rfl,rfl,hb⟩))
            | exact eW rfl (by kernel_rfl) rfl rfl rfl (λw=>by simp[go_sem,g1])
         exact trivial
       · intro aE wE mo fM _
         simp only[pq,pz,pw];go_wp2_with fail;go_ret;exact⟨by rw[HX.out];first|done|rfl,hB.trans (af fM hB.size)⟩
     · have HX := zh (hd.out.trans (by rw [decide_eq_true (show (⟨x1, x2⟩ : aL) = ⟨y1, y2⟩ by rw [hnm, (vaq x2 y2).1 hn]), Bool.true_and]))
       clear hd hnm;go_upto_region 6 with fail;refine dK (D:=Any) (w:=wr) 24 [(0,vL b1 o1 l.length c1),(1,vL b2 o2 m.length c2),(5,vI i)] [vL b1 o1 l.length c1,vI i,vP b1 (o1+i * 5),vP b1 (o1+i * 5),vT x1,vL b2 o2 m.length c2,vI i,vP b2 (o2+i * 5),vP b2 (o2+i * 5),vT y1,vN,vN,vL b1 o1 l.length c1,vI i,vP b1 (o1+i * 5),vP b1 (o1+i * 5+1),.eq (.agg #[.bool x2.iter,av,str x2.res,sv]),vL b2 o2 m.length c2,vI i,vP b2 (o2+i * 5),vP b2 (o2+i * 5+1),.eq (.agg #[.bool y2.iter,bv,str y2.res,tv]),vY,vN,vN] (λw'=>aZ [(⟨b1,o1+i * 5,none⟩,str x1),(⟨b2,o2+i * 5,none⟩,str y1),(⟨b1,o1+i * 5+1,none⟩,.bool x2.iter),(⟨b1,o1+i * 5+2,none⟩,av),(⟨b1,o1+i * 5+3,none⟩,str x2.res),(⟨b1,o1+i * 5+4,none⟩,sv),(⟨b2,o2+i * 5+1,none⟩,.bool y2.iter),(⟨b2,o2+i * 5+2,none⟩,bv),(⟨b2,o2+i * 5+3,none⟩,str y2.res),(⟨b2,o2+i * 5+4,none⟩,tv)] w'∧(aT Any w' (.agg #[.bool x2.iter,av,str x2.res,sv]) x2∧aT Any w' (.agg #[.bool y2.iter,bv,str y2.res,tv]) y2)) (by kernel_rfl) rfl (λ_ _ h hb=>⟨h.1.below hb,⟨aT.below h.2.1 hb zr,aT.below h.2.2 hb zr⟩⟩) ⟨(by(iterate 10 refine b9 (by exact Below.keep (zb wr).drew (by assumption)) ?_);exact gy),aT.below vh1 (zb wr).drew zr,aT.below vh2 (zb wr).drew zr⟩ ⟨rfl,rfl,rfl,trivial⟩ ?_ ?_
       · iterate 25
          refine And.intro ?_ ?_
          · first
            | exact dr (by kernel_rfl) rfl
            | exact oe rfl rfl (by kernel_rfl)
            | exact eX rfl (by kernel_rfl) (by kernel_rfl) rfl rfl
            | exact gN rfl (by kernel_rfl) rfl rfl (λw=>by simp[go_sem])
            | exact iC rfl (by kernel_rfl) rfl rfl rfl (λw=>by simp[go_sem,hlt,hlm])
            | exact gv rfl (by kernel_rfl) rfl rfl (λw hS=>by simp[go_sem,(hS.1.get 0 rfl),(hS.1.get 1 rfl),(hS.1.get 2 rfl),(hS.1.get 3 rfl),(hS.1.get 4 rfl),(hS.1.get 5 rfl),(hS.1.get 6 rfl),(hS.1.get 7 rfl),(hS.1.get 8 rfl),(hS.1.get 9 rfl)])
            | exact gu (s1:=.eq (.agg #[.bool x2.iter,av,str x2.res,sv])) (s2:=.eq (.agg #[.bool y2.iter,bv,str y2.res,tv])) rfl (enters_of Tryz.func26 (by kernel_rfl) rfl) (by kernel_rfl) rfl rfl rfl (λv v2 wx hS h1 h2=>by rw[show v=.agg #[.bool x2.iter,av,str x2.res,sv] from h1,show v2=.agg #[.bool y2.iter,bv,str y2.res,tv] from h2];exact(EN _ _ _ _ wx hS.2.1 hS.2.2).mono (by rw[hn];rintro e w' ⟨rfl,hb⟩;exact⟨_,rfl,rfl,hb⟩))
            | exact eW rfl (by kernel_rfl) rfl rfl rfl (λw=>by simp[go_sem,g1])
         exact trivial
       · intro aE wE mo fM _
         simp only[pq,pz,pw];go_wp2_with fail;exact⟨⟨i+1,hlt,by go_num,hB.trans (af fM hB.size),HX⟩,by simp only[intOf];omega⟩
theorem vdj {D E : Nat → Prop} (l m : List aL) (v u : Value) (w : World) (hv : aY D w v l) (hu : aY E w u m) :
 Calls Tryz.prog 25 #[v,u] w λe w'=>e=.returned (.bool (decide (l=m)))∧Below w.heap.size w w':=by
 obtain⟨p,c1,rfl,_,G0,_⟩:=hv.shape
 obtain⟨q,c2,rfl,_⟩:=hu.shape
 unfold maxLen at G0
 by_cases hlen:l.length=m.length
 case neg=>
  have HX:=zh (show decide (l=m)=false from decide_eq_false λe=>hlen (by rw[e]));have g:((l.length:Int) != (m.length:Int))=true:=by rw[bne_iff_ne];omega
  clear hv hu;go_enter Tryz.func25,Tryz.ntmps25;go_wp2_with fail;go_ret;exact⟨by rw[HX.out];first|done|rfl,zb _⟩
 case pos =>
  have g:((l.length:Int) != (m.length:Int))=false:=by rw[hlen];simp
  have HL:=zh hlen;clear hlen;go_enter Tryz.func25,Tryz.ntmps25;go_wp2_with fail;clear g;go_loopw [5] (λa wr=>∃i:Nat,i≤l.length∧a=.int .i64 i∧Below w.heap.size w wr∧Hid (decide (l=m)=decide (l.drop i=m.drop i))) (λa _=>l.length - (intOf a).toNat)
  case atStart=>exact⟨0,Nat.zero_le _,by go_num,zb _,rfl⟩
  case round =>
   obtain⟨i,hi,rfl,hB,hA⟩:=hrel
   by_cases hlt:i<l.length
   case neg=>
    have HX:=zh (show decide (l=m)=true by rw[hA.out,List.drop_eq_nil_of_le (by omega),List.drop_eq_nil_of_le (by have:=HL.out;omega)];simp);clear hA;go_wp2_with fail;go_ret;exact⟨by rw[HX.out];first|done|rfl,hB⟩
   case pos =>
    have hlm:i<m.length:=by have:=HL.out;omega
    obtain⟨x,hx⟩:∃x,l[i]? =some x:=⟨_,List.getElem?_eq_getElem hlt⟩
    obtain⟨y,hy⟩:∃y,m[i]? =some y:=⟨_,List.getElem?_eq_getElem hlm⟩
    obtain⟨b1,o1,av,sv,rfl,_,hxl,fe,eE,uq,pG,od,pZ,rK⟩:=(hv.below hB zr).at hx;obtain⟨b2,o2,bv,tv,rfl,_,Mh,RO,Pp,Qi,Qj,Qk,Ql,Qm⟩:=(hu.below hB zr).at hy;have vh1:aT Any wr (.agg #[.bool x.sig.iter,av,str x.sig.res,sv]) x.sig:=⟨av,sv,rfl,hxl.2,fe.mono (λ_ _=>trivial),eE.mono (λ_ _=>trivial)⟩;have vh2:aT Any wr (.agg #[.bool y.sig.iter,bv,str y.sig.res,tv]) y.sig:=⟨bv,tv,rfl,Mh.2,RO.mono (λ_ _=>trivial),Pp.mono (λ_ _=>trivial)⟩;have hd:=zh (hA.out.trans (vdt hx hy));obtain⟨x1,x2⟩:=x;obtain⟨y1,y2⟩:=y;dsimp only at hxl Mh uq pG pZ Qi Qj Ql vh1 vh2;clear hA hx hy fe eE RO Pp
    by_cases hnm:x1=y1
    case neg=>
     have HX:=zh (show decide (l=m)=false by rw[hd.out,decide_eq_false (show ¬(⟨x1,x2⟩:aL)=⟨y1,y2⟩ from λe=>hnm (by injection e))];rfl);have g1:(x1==y1)=false:=by simpa using hnm
     clear hd hnm;go_upto_region 6 with fail;refine dK (D:=Any) (w:=wr) 24 [(0,vL b1 o1 l.length c1),(1,vL b2 o2 m.length c2),(5,vI i)] [vL b1 o1 l.length c1,vI i,vP b1 (o1+i * 5),vP b1 (o1+i * 5),vT x1,vL b2 o2 m.length c2,vI i,vP b2 (o2+i * 5),vP b2 (o2+i * 5),vT y1,vY,vY,vK,vK,vK,vK,vK,vK,vK,vK,vK,vK,vK,vK,vY] (aZ [(⟨b1,o1+i * 5,none⟩,str x1),(⟨b2,o2+i * 5,none⟩,str y1)]) (by kernel_rfl) rfl (λ_ _ h hb=>h.below hb) (by(iterate 2 refine b9 (by exact Below.keep (zb wr).drew (by assumption)) ?_);exact gy) ⟨rfl,rfl,rfl,trivial⟩ ?_ ?_
     · iterate 25
        refine And.intro ?_ ?_
        · first
          | exact dr (by kernel_rfl) rfl
          | exact oe rfl rfl (by kernel_rfl)
          | exact eX rfl (by kernel_rfl) (by kernel_rfl) rfl rfl
          | exact gN rfl (by kernel_rfl) rfl rfl (λw=>by simp[go_sem])
          | exact iC rfl (by kernel_rfl) rfl rfl rfl (λw=>by simp[go_sem,hlt,hlm])
          | exact gv rfl (by kernel_rfl) rfl rfl (λw hS=>by simp[go_sem,(hS.get 0 rfl),(hS.get 1 rfl)])
          | exact eW rfl (by kernel_rfl) rfl rfl rfl (λw=>by simp[go_sem,g1])
       exact trivial
     · intro aE wE mo fM _
       simp only[pq,pz,pw];go_wp2_with fail;go_ret;exact⟨by rw[HX.out];first|done|rfl,hB.trans (af fM hB.size)⟩
    case pos =>
     have g1:(x1==y1)=true:=by simpa using hnm
     rcases hn:pK x2 y2 with _|_
     · have HX := zh (show decide (l = m) = false by rw [hd.out, decide_eq_false (show ¬ (⟨x1, x2⟩ : aL) = ⟨y1, y2⟩ from fun e => by injection e with _ e2; rw [(vaq x2 y2).2 e2] at hn; cases hn)]; rfl)
       clear hd hnm;go_upto_region 6 with fail;refine dK (D:=Any) (w:=wr) 24 [(0,vL b1 o1 l.length c1),(1,vL b2 o2 m.length c2),(5,vI i)] [vL b1 o1 l.length c1,vI i,vP b1 (o1+i * 5),vP b1 (o1+i * 5),vT x1,vL b2 o2 m.length c2,vI i,vP b2 (o2+i * 5),vP b2 (o2+i * 5),vT y1,vN,vN,vL b1 o1 l.length c1,vI i,vP b1 (o1+i * 5),vP b1 (o1+i * 5+1),.eq (.agg #[.bool x2.iter,av,str x2.res,sv]),vL b2 o2 m.length c2,vI i,vP b2 (o2+i * 5),vP b2 (o2+i * 5+1),.eq (.agg #[.bool y2.iter,bv,str y2.res,tv]),vN,vY,vY] (λw'=>aZ [(⟨b1,o1+i * 5,none⟩,str x1),(⟨b2,o2+i * 5,none⟩,str y1),(⟨b1,o1+i * 5+1,none⟩,.bool x2.iter),(⟨b1,o1+i * 5+2,none⟩,av),(⟨b1,o1+i * 5+3,none⟩,str x2.res),(⟨b1,o1+i * 5+4,none⟩,sv),(⟨b2,o2+i * 5+1,none⟩,.bool y2.iter),(⟨b2,o2+i * 5+2,none⟩,bv),(⟨b2,o2+i * 5+3,none⟩,str y2.res),(⟨b2,o2+i * 5+4,none⟩,tv)] w'∧(aT Any w' (.agg #[.bool x2.iter,av,str x2.res,sv]) x2∧aT Any w' (.agg #[.bool y2.iter,bv,str y2.res,tv]) y2)) (by kernel_rfl) rfl (λ_ _ h hb=>⟨h.1.below hb,⟨aT.below h.2.1 hb zr,aT.below h.2.2 hb zr⟩⟩) ⟨(by(iterate 10 refine b9 (by exact Below.keep (zb wr).drew (by assumption)) ?_);exact gy),aT.below vh1 (zb wr).drew zr,aT.below vh2 (zb wr).drew zr⟩ ⟨rfl,rfl,rfl,trivial⟩ ?_ ?_
       · iterate 25
          refine And.intro ?_ ?_
          · first
            | exact dr (by kernel_rfl) rfl
            | exact oe rfl rfl (by kernel_rfl)
            | exact eX rfl (by kernel_rfl) (by kernel_rfl) rfl rfl
            | exact gN rfl (by kernel_rfl) rfl rfl (λw=>by simp[go_sem])
            | exact iC rfl (by kernel_rfl) rfl rfl rfl (λw=>by simp[go_sem,hlt,hlm])
            | exact gv rfl (by kernel_rfl) rfl rfl (λw hS=>by simp[go_sem,(hS.1.get 0 rfl),(hS.1.get 1 rfl),(hS.1.get 2 rfl),(hS.1.get 3 rfl),(hS.1.get 4 rfl),(hS.1.get 5 rfl),(hS.1.get 6 rfl),(hS.1.get 7 rfl),(hS.1.get 8 rfl),(hS.1.get 9 rfl)])
            | exact gu (s1:=.eq (.agg #[.bool x2.iter,av,str x2.res,sv])) (s2:=.eq (.agg #[.bool y2.iter,bv,str y2.res,tv])) rfl (enters_of Tryz.func26 (by kernel_rfl) rfl) (by kernel_rfl) rfl rfl rfl (λv v2 wx hS h1 h2=>by rw[show v=.agg #[.bool x2.iter,av,str x2.res,sv] from h1,show v2=.agg #[.bool y2.iter,bv,str y2.res,tv] from h2];exact(EN _ _ _ _ wx hS.2.1 hS.2.2).mono (by rw[hn];rintro e w' ⟨rfl,hb⟩;exact⟨_,rfl,rfl,hb⟩))
            | exact eW rfl (by kernel_rfl) rfl rfl rfl (λw=>by simp[go_sem,g1])
         exact trivial
       · intro aE wE mo fM _
         simp only[pq,pz,pw];go_wp2_with fail;go_ret;exact⟨by rw[HX.out];first|done|rfl,hB.trans (af fM hB.size)⟩
     · have HX := zh (hd.out.trans (by rw [decide_eq_true (show (⟨x1, x2⟩ : aL) = ⟨y1, y2⟩ by rw [hnm, (vaq x2 y2).1 hn]), Bool.true_and]))
       clear hd hnm;go_upto_region 6 with fail;refine dK (D:=Any) (w:=wr) 24 [(0,vL b1 o1 l.length c1),(1,vL b2 o2 m.length c2),(5,vI i)] [vL b1 o1 l.length c1,vI i,vP b1 (o1+i * 5),vP b1 (o1+i * 5),vT x1,vL b2 o2 m.length c2,vI i,vP b2 (o2+i * 5),vP b2 (o2+i * 5),vT y1,vN,vN,vL b1 o1 l.length c1,vI i,vP b1 (o1+i * 5),vP b1 (o1+i * 5+1),.eq (.agg #[.bool x2.iter,av,str x2.res,sv]),vL b2 o2 m.length c2,vI i,vP b2 (o2+i * 5),vP b2 (o2+i * 5+1),.eq (.agg #[.bool y2.iter,bv,str y2.res,tv]),vY,vN,vN] (λw'=>aZ [(⟨b1,o1+i * 5,none⟩,str x1),(⟨b2,o2+i * 5,none⟩,str y1),(⟨b1,o1+i * 5+1,none⟩,.bool x2.iter),(⟨b1,o1+i * 5+2,none⟩,av),(⟨b1,o1+i * 5+3,none⟩,str x2.res),(⟨b1,o1+i * 5+4,none⟩,sv),(⟨b2,o2+i * 5+1,none⟩,.bool y2.iter),(⟨b2,o2+i * 5+2,none⟩,bv),(⟨b2,o2+i * 5+3,none⟩,str y2.res),(⟨b2,o2+i * 5+4,none⟩,tv)] w'∧(aT Any w' (.agg #[.bool x2.iter,av,str x2.res,sv]) x2∧aT Any w' (.agg #[.bool y2.iter,bv,str y2.res,tv]) y2)) (by kernel_rfl) rfl (λ_ _ h hb=>⟨h.1.below hb,⟨aT.below h.2.1 hb zr,aT.below h.2.2 hb zr⟩⟩) ⟨(by(iterate 10 refine b9 (by exact Below.keep (zb wr).drew (by assumption)) ?_);exact gy),aT.below vh1 (zb wr).drew zr,aT.below vh2 (zb wr).drew zr⟩ ⟨rfl,rfl,rfl,trivial⟩ ?_ ?_
       · iterate 25
          refine And.intro ?_ ?_
          · first
            | exact dr (by kernel_rfl) rfl
            | exact oe rfl rfl (by kernel_rfl)
            | exact eX rfl (by kernel_rfl) (by kernel_rfl) rfl rfl
            | exact gN rfl (by kernel_rfl) rfl rfl (λw=>by simp[go_sem])
            | exact iC rfl (by kernel_rfl) rfl rfl rfl (λw=>by simp[go_sem,hlt,hlm])
            | exact gv rfl (by kernel_rfl) rfl rfl (λw hS=>by simp[go_sem,(hS.1.get 0 rfl),(hS.1.get 1 rfl),(hS.1.get 2 rfl),(hS.1.get 3 rfl),(hS.1.get 4 rfl),(hS.1.get 5 rfl),(hS.1.get 6 rfl),(hS.1.get 7 rfl),(hS.1.get 8 rfl),(hS.1.get 9 rfl)])
            | exact gu (s1:=.eq (.agg #[.bool x2.iter,av,str x2.res,sv])) (s2:=.eq (.agg #[.bool y2.iter,bv,str y2.res,tv])) rfl (enters_of Tryz.func26 (by kernel_rfl) rfl) (by kernel_rfl) rfl rfl rfl (λv v2 wx hS h1 h2=>by rw[show v=.agg #[.bool x2.iter,av,str x2.res,sv] from h1,show v2=.agg #[.bool y2.iter,bv,str y2.res,tv] from h2];exact(EN _ _ _ _ wx hS.2.1 hS.2.2).mono (by rw[hn];rintro e w' ⟨rfl,hb⟩;exact⟨_,rfl,rfl,hb⟩))
            | exact eW rfl (by kernel_rfl) rfl rfl rfl (λw=>by simp[go_sem,g1])
         exact trivial
       · intro aE wE mo fM _
         simp only[pq,pz,pw];go_wp2_with fail;exact⟨⟨i+1,hlt,by go_num,hB.trans (af fM hB.size),HX⟩,by simp only[intOf];omega⟩
theorem ve7 {D E:Nat→Prop} (f:aA) (v u:Value) (w:World) (hv:dO D w v f) (hu:dO E w u f):
 Calls Tryz.prog 44 #[v,u] w λe w'=>e=.returned (.bool true)∧Below w.heap.size w w':=by
 obtain⟨n1,o1,rfl,_,xh,jW⟩:=hv
 obtain⟨n2,o2,rfl,_,hn2,zz⟩:=hu
 have HN:=λW (hW:Below w.heap.size w W)=>vcz f.ag f.ag n1 n2 W (xh.below hW zr) (hn2.below hW zr)
 have HO:=λW (hW:Below w.heap.size w W)=>vdj f.ops f.ops o1 o2 W (jW.below hW zr) (zz.below hW zr)
 obtain⟨p1,c1,rfl,_⟩:=xh.shape
 obtain⟨p2,c2,rfl,_⟩:=hn2.shape
 obtain⟨p3,c3,rfl,_⟩:=jW.shape
 obtain⟨p4,c4,rfl,_⟩:=zz.shape
 rw[show decide (f.ag=f.ag)=true from decide_eq_true rfl] at HN
 rw[show decide (f.ops=f.ops)=true from decide_eq_true rfl] at HO
 have hX:=(zb w).alloc zr (.cells #[str f.name,.int .u8 f.kind,.bool f.par,.slice p1 f.ag.length c1,.slice p3 f.ops.length c3] 58)
 have hY:=hX.alloc (by simp) (.cells #[str f.name,.int .u8 f.kind,.bool f.par,.slice p2 f.ag.length c2,.slice p4 f.ops.length c4] 58)
 have hg1:=aD (.cells #[str f.name,.int .u8 f.kind,.bool f.par,.slice p2 f.ag.length c2,.slice p4 f.ops.length c4] 58) (heap_alloc_new w (.cells #[str f.name,.int .u8 f.kind,.bool f.par,.slice p1 f.ag.length c1,.slice p3 f.ops.length c3] 58))
 have hg2:=heap_alloc_new (w.alloc (.cells #[str f.name,.int .u8 f.kind,.bool f.par,.slice p1 f.ag.length c1,.slice p3 f.ops.length c3] 58)) (.cells #[str f.name,.int .u8 f.kind,.bool f.par,.slice p2 f.ag.length c2,.slice p4 f.ops.length c4] 58)
 rw[World.size_alloc] at hg2
 have b1:=(bz hg1).1
 have b2:=(bz hg2).1
 clear xh hn2 jW zz hX
 go_enter Tryz.func44,Tryz.ntmps44
 go_wp2_with (first
  | (go_at_call 25;refine(HO _ bL).mono ?_;clear HO;rintro e w2 ⟨rfl,aC⟩;have cD:=bL.trans (af aC bL.size))
  | (go_at_call 50;refine(HN _ hY).mono ?_;clear HN;rintro e w1 ⟨rfl,au⟩;have bL:=hY.trans (af au hY.size);have b1:=(bz (ah hg1 au)).1;have b2:=(bz (ah hg2 au)).1))
 go_ret
 exact⟨rfl,cD⟩
