/-
  Lemmas for the statement: contracts: of argusref04: SameNeeds, SameOps. No condition.
-/
import Derived.Shelf.Abstract
import Derived.Test.YtakgjcfkdemipaaGreatDoorZGn
import Derived.Test.YtakgjcfkdemipaaGreatDoorZG20
set_option maxHeartbeats 12800000
namespace Go.Proofs.YtakgjcfkdemipaaGreatDoor
open Go Go.RowKit Go.Shelf
instance decOpP:DecidableEq aG:=λa b=>
 decidable_of_iff (decide (a.name=b.name)=true∧ic a.sig b.sig=true) ⟨λh=>by
  obtain⟨a1,a2⟩:=a;obtain⟨b1,b2⟩:=b;rw[(oy a2 b2).1 h.2,(of_decide_eq_true h.1:a1=b1)],λh=>by subst h;exact⟨decide_eq_true rfl,(oy _ _).2 rfl⟩⟩
theorem G7 {α:Type} [DecidableEq α] {l m:List α} {i:Nat} {x y:α} (hx:l[i]? =some x) (hy:m[i]? =some y):decide (l.drop i=m.drop i)=(decide (x=y)&&decide (l.drop (i+1)=m.drop (i+1))):=by
 rw[bp hx,bp hy]
 by_cases h:x=y<;>simp[h]
set_option maxRecDepth 8000 in
theorem Ld {D E : Nat → Prop} (l m : List aG) (v u : Value) (w : World) (hv : aJ D w v l) (hu : aJ E w u m) :
 Calls Tryz.prog 25 #[v,u] w λe w'=>e=.returned (.bool (decide (l=m)))∧Below w.heap.size w w':=by
 obtain⟨p,c1,rfl,_,Kf,_⟩:=hv.shape
 obtain⟨q,c2,rfl,_⟩:=hu.shape
 unfold maxLen at Kf
 by_cases hlen:l.length=m.length
 case neg=>
  have HX:=Lib.hid (show decide (l=m)=false from decide_eq_false λe=>hlen (by rw[e]));have g:((l.length:Int) != (m.length:Int))=true:=by rw[bne_iff_ne];omega
  clear hv hu;go_enter Tryz.func25,Tryz.ntmps25;go_wp2_with fail;go_ret;exact⟨by rw[HX.out];first|done|rfl,Below.refl _ _⟩
 case pos =>
  have g:((l.length:Int) != (m.length:Int))=false:=by rw[hlen];simp
  have HL:=Lib.hid hlen;clear hlen;go_enter Tryz.func25,Tryz.ntmps25;go_wp2_with fail;clear g;go_loopw [5] (λa wr=>∃i:Nat,i≤l.length∧a=.int .i64 i∧Below w.heap.size w wr∧Hid (decide (l=m)=decide (l.drop i=m.drop i))) (λa _=>l.length - (intOf a).toNat)
  case atStart=>exact⟨0,Nat.zero_le _,by go_num,Below.refl _ _,rfl⟩
  case round =>
   obtain⟨i,hi,rfl,hB,hA⟩:=hrel
   by_cases hlt:i<l.length
   case neg=>
    have HX:=Lib.hid (show decide (l=m)=true by rw[hA.out,List.drop_eq_nil_of_le (by omega),List.drop_eq_nil_of_le (by have:=HL.out;omega)];simp);clear hA;go_wp2_with fail;go_ret;exact⟨by rw[HX.out];first|done|rfl,hB⟩
   case pos =>
    have hlm:i<m.length:=by have:=HL.out;omega
    obtain⟨x,hx⟩:∃x,l[i]? =some x:=⟨_,List.getElem?_eq_getElem hlt⟩
    obtain⟨y,hy⟩:∃y,m[i]? =some y:=⟨_,List.getElem?_eq_getElem hlm⟩
    obtain⟨b1,o1,av,sv,rfl,_,hxl,dy,cQ,uR,kK,mR,qG,sN⟩:=(hv.below hB (nl _)).at hx;obtain⟨b2,o2,bv,tv,rfl,_,KY,Sq,Qt,SG,SH,Vp,SI,Vq⟩:=(hu.below hB (nl _)).at hy;have Ub:aT Any wr (.agg #[.bool x.sig.iter,av,str x.sig.res,sv]) x.sig:=⟨av,sv,rfl,hxl.2,dy.mono (λ_ _=>trivial),cQ.mono (λ_ _=>trivial)⟩;have Uc:aT Any wr (.agg #[.bool y.sig.iter,bv,str y.sig.res,tv]) y.sig:=⟨bv,tv,rfl,KY.2,Sq.mono (λ_ _=>trivial),Qt.mono (λ_ _=>trivial)⟩;have hd:=Lib.hid (hA.out.trans (G7 hx hy));obtain⟨x1,x2⟩:=x;obtain⟨y1,y2⟩:=y;dsimp only at hxl KY uR kK qG SG SH SI Ub Uc;clear hA hx hy dy cQ Sq Qt
    by_cases hnm:x1=y1
    case neg=>
     have HX:=Lib.hid (show decide (l=m)=false by rw[hd.out,decide_eq_false (show ¬(⟨x1,x2⟩:aG)=⟨y1,y2⟩ from λe=>hnm (by injection e))];rfl);have g1:(x1==y1)=false:=by simpa using hnm
     clear hd hnm;go_upto_region 6 with fail;refine dB (D:=Any) (w:=wr) 24 [(0,.eq (.slice (some ⟨b1,o1,none⟩) l.length c1)),(1,.eq (.slice (some ⟨b2,o2,none⟩) m.length c2)),(5,.eq (.int .i64 i))] [(.eq (.slice (some ⟨b1,o1,none⟩) l.length c1)),(.eq (.int .i64 i)),(.eq (.pointer (some ⟨b1,o1+i * 5,none⟩))),(.eq (.pointer (some ⟨b1,o1+i * 5,none⟩))),(.eq (str x1)),(.eq (.slice (some ⟨b2,o2,none⟩) m.length c2)),(.eq (.int .i64 i)),(.eq (.pointer (some ⟨b2,o2+i * 5,none⟩))),(.eq (.pointer (some ⟨b2,o2+i * 5,none⟩))),(.eq (str y1)),(.eq (.bool true)),(.eq (.bool true)),(.skip),(.skip),(.skip),(.skip),(.skip),(.skip),(.skip),(.skip),(.skip),(.skip),(.skip),(.skip),(.eq (.bool true))] (aW [(⟨b1,o1+i * 5,none⟩,str x1),(⟨b2,o2+i * 5,none⟩,str y1)]) (by kernel_rfl) (by kernel_rfl) (by kernel_rfl) (by kernel_rfl) (by kernel_rfl) (λ_ _ h hb=>h.below hb) (λp hp=>by simp only[List.mem_cons,List.not_mem_nil,or_false] at hp;rcases hp with rfl|rfl<;>exact Below.keep (Below.refl _ wr).drew (by assumption)) ?_ ?_ ?_
     · intro p hp
       simp only[List.mem_cons,List.not_mem_nil,or_false] at hp;rcases hp with rfl|rfl|rfl
       · exact rfl
       · exact rfl
       · exact rfl
     · iterate 25
        refine And.intro ?_ ?_
        · first
          | exact bV (by kernel_rfl) rfl
          | exact zG (.inl rfl) (by kernel_rfl) rfl (by kernel_rfl)
          | exact zG (.inr rfl) (by kernel_rfl) rfl (by kernel_rfl)
          | exact mo rfl (by kernel_rfl) rfl rfl (by kernel_rfl)
          | exact qM rfl (by kernel_rfl) rfl rfl rfl
          | exact dS rfl (by kernel_rfl) (by kernel_rfl) rfl rfl
          | exact fK rfl (by kernel_rfl) rfl rfl (λw=>by simp[go_sem])
          | exact fZ rfl (by kernel_rfl) rfl rfl rfl (λw=>by simp[go_sem,hlt,hlm])
          | exact fq rfl (by kernel_rfl) rfl rfl (λw hS=>by simp[go_sem,(hS.get 0 rfl),(hS.get 1 rfl)])
          | exact dA rfl (by kernel_rfl) rfl rfl rfl (λw=>by simp[go_sem,g1])
       exact trivial
     · intro aE vE wE jv eu xe _ vU
       obtain rfl:vE=.bool true:=vU _ rfl;rw[xe];clear xe;simp only[List.take_succ_cons,List.take_zero,dQ,pz,pw];go_wp2_with fail;go_ret;exact⟨by rw[HX.out];first|done|rfl,hB.trans (af eu hB.size)⟩
    case pos =>
     have g1:(x1==y1)=true:=by simpa using hnm
     rcases hn:ic x2 y2 with _|_
     · have HX := Lib.hid (show decide (l = m) = false by rw [hd.out, decide_eq_false (show ¬ (⟨x1, x2⟩ : aG) = ⟨y1, y2⟩ from fun e => by injection e with _ e2; rw [(oy x2 y2).2 e2] at hn; cases hn)]; rfl)
       clear hd hnm;go_upto_region 6 with fail;refine dB (D:=Any) (w:=wr) 24 [(0,.eq (.slice (some ⟨b1,o1,none⟩) l.length c1)),(1,.eq (.slice (some ⟨b2,o2,none⟩) m.length c2)),(5,.eq (.int .i64 i))] [(.eq (.slice (some ⟨b1,o1,none⟩) l.length c1)),(.eq (.int .i64 i)),(.eq (.pointer (some ⟨b1,o1+i * 5,none⟩))),(.eq (.pointer (some ⟨b1,o1+i * 5,none⟩))),(.eq (str x1)),(.eq (.slice (some ⟨b2,o2,none⟩) m.length c2)),(.eq (.int .i64 i)),(.eq (.pointer (some ⟨b2,o2+i * 5,none⟩))),(.eq (.pointer (some ⟨b2,o2+i * 5,none⟩))),(.eq (str y1)),(.eq (.bool false)),(.eq (.bool false)),(.eq (.slice (some ⟨b1,o1,none⟩) l.length c1)),(.eq (.int .i64 i)),(.eq (.pointer (some ⟨b1,o1+i * 5,none⟩))),(.eq (.pointer (some ⟨b1,o1+i * 5+1,none⟩))),(.eq (.agg #[.bool x2.iter,av,str x2.res,sv])),(.eq (.slice (some ⟨b2,o2,none⟩) m.length c2)),(.eq (.int .i64 i)),(.eq (.pointer (some ⟨b2,o2+i * 5,none⟩))),(.eq (.pointer (some ⟨b2,o2+i * 5+1,none⟩))),(.eq (.agg #[.bool y2.iter,bv,str y2.res,tv])),(.eq (.bool false)),(.eq (.bool true)),(.eq (.bool true))] (λw'=>aW [(⟨b1,o1+i * 5,none⟩,str x1),(⟨b2,o2+i * 5,none⟩,str y1),(⟨b1,o1+i * 5+1,none⟩,.bool x2.iter),(⟨b1,o1+i * 5+2,none⟩,av),(⟨b1,o1+i * 5+3,none⟩,str x2.res),(⟨b1,o1+i * 5+4,none⟩,sv),(⟨b2,o2+i * 5+1,none⟩,.bool y2.iter),(⟨b2,o2+i * 5+2,none⟩,bv),(⟨b2,o2+i * 5+3,none⟩,str y2.res),(⟨b2,o2+i * 5+4,none⟩,tv)] w'∧(aT Any w' (.agg #[.bool x2.iter,av,str x2.res,sv]) x2∧aT Any w' (.agg #[.bool y2.iter,bv,str y2.res,tv]) y2)) (by kernel_rfl) (by kernel_rfl) (by kernel_rfl) (by kernel_rfl) (by kernel_rfl) (λ_ _ h hb=>⟨h.1.below hb,⟨aT.below h.2.1 hb (nl _),aT.below h.2.2 hb (nl _)⟩⟩) ⟨(λp hp=>by simp only[List.mem_cons,List.not_mem_nil,or_false] at hp;rcases hp with rfl|rfl|rfl|rfl|rfl|rfl|rfl|rfl|rfl|rfl<;>exact Below.keep (Below.refl _ wr).drew (by assumption)),aT.below Ub (Below.refl _ wr).drew (nl _),aT.below Uc (Below.refl _ wr).drew (nl _)⟩ ?_ ?_ ?_
       · intro p hp
         simp only[List.mem_cons,List.not_mem_nil,or_false] at hp;rcases hp with rfl|rfl|rfl
         · exact rfl
         · exact rfl
         · exact rfl
       · iterate 25
          refine And.intro ?_ ?_
          · first
            | exact bV (by kernel_rfl) rfl
            | exact zG (.inl rfl) (by kernel_rfl) rfl (by kernel_rfl)
            | exact zG (.inr rfl) (by kernel_rfl) rfl (by kernel_rfl)
            | exact mo rfl (by kernel_rfl) rfl rfl (by kernel_rfl)
            | exact qM rfl (by kernel_rfl) rfl rfl rfl
            | exact dS rfl (by kernel_rfl) (by kernel_rfl) rfl rfl
            | exact fK rfl (by kernel_rfl) rfl rfl (λw=>by simp[go_sem])
            | exact fZ rfl (by kernel_rfl) rfl rfl rfl (λw=>by simp[go_sem,hlt,hlm])
            | exact fq rfl (by kernel_rfl) rfl rfl (λw hS=>by simp[go_sem,(hS.1.get 0 rfl),(hS.1.get 1 rfl),(hS.1.get 2 rfl),(hS.1.get 3 rfl),(hS.1.get 4 rfl),(hS.1.get 5 rfl),(hS.1.get 6 rfl),(hS.1.get 7 rfl),(hS.1.get 8 rfl),(hS.1.get 9 rfl)])
            | exact eS (s1:=.eq (.agg #[.bool x2.iter,av,str x2.res,sv])) (s2:=.eq (.agg #[.bool y2.iter,bv,str y2.res,tv])) rfl (enters_of Tryz.func26 (by kernel_rfl) rfl) (by kernel_rfl) rfl rfl rfl (λv v2 wx hS h1 h2=>by rw[show v=.agg #[.bool x2.iter,av,str x2.res,sv] from h1,show v2=.agg #[.bool y2.iter,bv,str y2.res,tv] from h2];exact(nK _ _ _ _ wx hS.2.1 hS.2.2).mono (by rw[hn];rintro e w' ⟨rfl,hb⟩;exact⟨_,rfl,rfl,hb⟩))
            | exact dA rfl (by kernel_rfl) rfl rfl rfl (λw=>by simp[go_sem,g1])
         exact trivial
       · intro aE vE wE jv eu xe _ vU
         obtain rfl:vE=.bool true:=vU _ rfl;rw[xe];clear xe;simp only[List.take_succ_cons,List.take_zero,dQ,pz,pw];go_wp2_with fail;go_ret;exact⟨by rw[HX.out];first|done|rfl,hB.trans (af eu hB.size)⟩
     · have HX := Lib.hid (hd.out.trans (by rw [decide_eq_true (show (⟨x1, x2⟩ : aG) = ⟨y1, y2⟩ by rw [hnm, (oy x2 y2).1 hn]), Bool.true_and]))
       clear hd hnm;go_upto_region 6 with fail;refine dB (D:=Any) (w:=wr) 24 [(0,.eq (.slice (some ⟨b1,o1,none⟩) l.length c1)),(1,.eq (.slice (some ⟨b2,o2,none⟩) m.length c2)),(5,.eq (.int .i64 i))] [(.eq (.slice (some ⟨b1,o1,none⟩) l.length c1)),(.eq (.int .i64 i)),(.eq (.pointer (some ⟨b1,o1+i * 5,none⟩))),(.eq (.pointer (some ⟨b1,o1+i * 5,none⟩))),(.eq (str x1)),(.eq (.slice (some ⟨b2,o2,none⟩) m.length c2)),(.eq (.int .i64 i)),(.eq (.pointer (some ⟨b2,o2+i * 5,none⟩))),(.eq (.pointer (some ⟨b2,o2+i * 5,none⟩))),(.eq (str y1)),(.eq (.bool false)),(.eq (.bool false)),(.eq (.slice (some ⟨b1,o1,none⟩) l.length c1)),(.eq (.int .i64 i)),(.eq (.pointer (some ⟨b1,o1+i * 5,none⟩))),(.eq (.pointer (some ⟨b1,o1+i * 5+1,none⟩))),(.eq (.agg #[.bool x2.iter,av,str x2.res,sv])),(.eq (.slice (some ⟨b2,o2,none⟩) m.length c2)),(.eq (.int .i64 i)),(.eq (.pointer (some ⟨b2,o2+i * 5,none⟩))),(.eq (.pointer (some ⟨b2,o2+i * 5+1,none⟩))),(.eq (.agg #[.bool y2.iter,bv,str y2.res,tv])),(.eq (.bool true)),(.eq (.bool false)),(.eq (.bool false))] (λw'=>aW [(⟨b1,o1+i * 5,none⟩,str x1),(⟨b2,o2+i * 5,none⟩,str y1),(⟨b1,o1+i * 5+1,none⟩,.bool x2.iter),(⟨b1,o1+i * 5+2,none⟩,av),(⟨b1,o1+i * 5+3,none⟩,str x2.res),(⟨b1,o1+i * 5+4,none⟩,sv),(⟨b2,o2+i * 5+1,none⟩,.bool y2.iter),(⟨b2,o2+i * 5+2,none⟩,bv),(⟨b2,o2+i * 5+3,none⟩,str y2.res),(⟨b2,o2+i * 5+4,none⟩,tv)] w'∧(aT Any w' (.agg #[.bool x2.iter,av,str x2.res,sv]) x2∧aT Any w' (.agg #[.bool y2.iter,bv,str y2.res,tv]) y2)) (by kernel_rfl) (by kernel_rfl) (by kernel_rfl) (by kernel_rfl) (by kernel_rfl) (λ_ _ h hb=>⟨h.1.below hb,⟨aT.below h.2.1 hb (nl _),aT.below h.2.2 hb (nl _)⟩⟩) ⟨(λp hp=>by simp only[List.mem_cons,List.not_mem_nil,or_false] at hp;rcases hp with rfl|rfl|rfl|rfl|rfl|rfl|rfl|rfl|rfl|rfl<;>exact Below.keep (Below.refl _ wr).drew (by assumption)),aT.below Ub (Below.refl _ wr).drew (nl _),aT.below Uc (Below.refl _ wr).drew (nl _)⟩ ?_ ?_ ?_
       · intro p hp
         simp only[List.mem_cons,List.not_mem_nil,or_false] at hp;rcases hp with rfl|rfl|rfl
         · exact rfl
         · exact rfl
         · exact rfl
       · iterate 25
          refine And.intro ?_ ?_
          · first
            | exact bV (by kernel_rfl) rfl
            | exact zG (.inl rfl) (by kernel_rfl) rfl (by kernel_rfl)
            | exact zG (.inr rfl) (by kernel_rfl) rfl (by kernel_rfl)
            | exact mo rfl (by kernel_rfl) rfl rfl (by kernel_rfl)
            | exact qM rfl (by kernel_rfl) rfl rfl rfl
            | exact dS rfl (by kernel_rfl) (by kernel_rfl) rfl rfl
            | exact fK rfl (by kernel_rfl) rfl rfl (λw=>by simp[go_sem])
            | exact fZ rfl (by kernel_rfl) rfl rfl rfl (λw=>by simp[go_sem,hlt,hlm])
            | exact fq rfl (by kernel_rfl) rfl rfl (λw hS=>by simp[go_sem,(hS.1.get 0 rfl),(hS.1.get 1 rfl),(hS.1.get 2 rfl),(hS.1.get 3 rfl),(hS.1.get 4 rfl),(hS.1.get 5 rfl),(hS.1.get 6 rfl),(hS.1.get 7 rfl),(hS.1.get 8 rfl),(hS.1.get 9 rfl)])
            | exact eS (s1:=.eq (.agg #[.bool x2.iter,av,str x2.res,sv])) (s2:=.eq (.agg #[.bool y2.iter,bv,str y2.res,tv])) rfl (enters_of Tryz.func26 (by kernel_rfl) rfl) (by kernel_rfl) rfl rfl rfl (λv v2 wx hS h1 h2=>by rw[show v=.agg #[.bool x2.iter,av,str x2.res,sv] from h1,show v2=.agg #[.bool y2.iter,bv,str y2.res,tv] from h2];exact(nK _ _ _ _ wx hS.2.1 hS.2.2).mono (by rw[hn];rintro e w' ⟨rfl,hb⟩;exact⟨_,rfl,rfl,hb⟩))
            | exact dA rfl (by kernel_rfl) rfl rfl rfl (λw=>by simp[go_sem,g1])
         exact trivial
       · intro aE vE wE jv eu xe _ vU
         obtain rfl:vE=.bool false:=vU _ rfl;rw[xe];clear xe;simp only[List.take_succ_cons,List.take_zero,dQ,pz,pw];go_wp2_with fail;exact⟨⟨i+1,hlt,by go_num,hB.trans (af eu hB.size),HX⟩,by simp only[intOf];omega⟩
end Go.Proofs.YtakgjcfkdemipaaGreatDoor
