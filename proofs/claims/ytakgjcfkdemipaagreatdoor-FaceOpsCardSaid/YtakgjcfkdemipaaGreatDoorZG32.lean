/-
  Lemmas for the statement: contract of the reference argusref04: sig. Contract of the reference argusref04: Needed. Contract of the reference argusref04: fits, of a good of lower levels. Conditions: bounds of lengths; the variable strings.asciiSpace.
-/
import Derived.Test.YtakgjcfkdemipaaGreatDoorZGn
import Derived.Test.YtakgjcfkdemipaaGreatDoorZG31
set_option maxHeartbeats 25600000
namespace Go.Proofs.YtakgjcfkdemipaaGreatDoor
open Go.RowKit
theorem Jz (s:cD) (o:Bool):ek s o=(decide (s.args.length≤6)&&decide (s.sigs.length≤6)&& !(s.iter&&decide (s.res=[]))&& !(aI s).any (gq o)&&gy s.sigs):=by
 rw[BB]
 cases decide (s.args.length≤6)<;>cases decide (s.sigs.length≤6)<;>cases gy s.sigs<;>cases (!(s.iter&&decide (s.res=[])))<;>cases (aI s).any (gq o)<;>rfl
theorem GY {α:Type} {p:α→Bool} {l:List α} {i:Nat} {x:α} (h:l[i]? =some x):(l.drop i).any p=(p x||(l.drop (i+1)).any p):=by rw[bp h,List.any_cons]
set_option maxRecDepth 8000 in
theorem iH {D : Nat → Prop} (x : Value) (s : cD) (q : Bool) (w : World) (hx : aT D w x s) :
 Calls Tryz.prog 90 #[x,.bool q] w λe w'=>e=.returned (.bool (ek s q))∧Below w.heap.size w w':=by
 rw[Jz]
 have hx0:=hx
 obtain⟨av,sv,rfl,hr,ha,hs⟩:=hx
 have UZ:=hs.fresh
 have Fj:=Lib.hid hs.le
 have hal:=Lib.hid ha.le
 obtain⟨p1,c1,rfl,_⟩:=ha.shape
 obtain⟨p2,c2,rfl,_⟩:=hs.shape
 have HT:=λW (hW:Below w.heap.size w W) h=>qc _ s W (hx0.below hW (nl _)) h
 have VK:Hid (∀t∈aI s,t.length≤maxLen):=by
  intro t ht;unfold aI at ht;rcases List.mem_append.1 ht with ht|ht
  · exact ha.le t ht
  · split at ht
    · cases ht
    · rw[List.mem_singleton.1 ht];exact hr
 generalize aI s=T at *
 obtain⟨it,ar,re,sg⟩:=s
 dsimp only at *
 have hA:=((Below.refl _ w).alloc (nl _) (.cells #[.bool it,.slice p1 ar.length c1,str re,.slice p2 sg.length c2] 36))
 have hg:=heap_alloc_new w (.cells #[.bool it,.slice p1 ar.length c1,str re,.slice p2 sg.length c2] 36)
 have bx:=(aU hg).1
 clear ha hs hx0
 by_cases h1:ar.length≤6
 case neg=>
  have g1:(6:Int)<(ar.length:Int):=by omega
  have HX:=Lib.hid (show decide (ar.length≤6)=false by simpa using h1);clear h1;go_enter Tryz.func90,Tryz.ntmps90;go_wp2_with fail;go_ret;exact⟨by rw[HX.out];rfl,hA⟩
 have g1:¬(6:Int)<(ar.length:Int):=by omega
 have LJ:=Lib.hid (show decide (ar.length≤6)=true by simpa using h1)
 have h1':Hid (ar.length≤100000):=show ar.length≤100000 by omega
 clear h1
 by_cases h2:sg.length≤6
 case neg=>
  have g2:(6:Int)<(sg.length:Int):=by omega
  have HX:=Lib.hid (show decide (sg.length≤6)=false by simpa using h2);clear h2;go_enter Tryz.func90,Tryz.ntmps90;go_wp2_with fail;go_ret;exact⟨by rw[HX.out];simp,hA⟩
 have g2:¬(6:Int)<(sg.length:Int):=by omega
 have DQ:=Lib.hid (show decide (sg.length≤6)=true by simpa using h2)
 by_cases h4:it=true∧re=[]
 · obtain⟨rfl,rfl⟩:=h4
   go_enter Tryz.func90,Tryz.ntmps90;go_wp2_with fail;go_ret;exact⟨by simp,hA⟩
 have R2:=Lib.hid (show(!(it&&decide (re=[])))=true by
  cases it
  · rfl
  · have:re≠[]:=λe=>h4 ⟨rfl,e⟩
    simpa using this)
 have h5:it=false∨(it=true∧re.isEmpty=false∧(re==[])=false):=by
  cases it
  · exact .inl rfl
  · have:re≠[]:=λe=>h4 ⟨rfl,e⟩
    exact .inr ⟨rfl,by simpa using this,by simpa using this⟩
 clear h4
 rw[LJ.out,DQ.out,R2.out]
 simp only[Bool.true_and]
 clear LJ DQ R2
 have HT:=HT _ hA h1'.out
 clear h1'
 have hgS:=hg
 have hAS:=hA
 rcases h5 with rfl|⟨rfl,h5,h5'⟩
 all_goals
  go_enter Tryz.func90,Tryz.ntmps90;go_wp2_with (go_at_call 93;refine HT.mono ?_;clear HT;rintro e w2 ⟨v2,rfl,_,qV,aA⟩;have hg:=ah hg aA;have hA:=hA.trans (af aA hA.size);obtain⟨p3,c3,rfl,_,NB,_⟩:=qV.shape)
  replace hg:=(aU hg).1.2.2.2
  unfold maxLen at NB;clear aA;go_loopw [6] (λa wx=>∃i:Nat,i≤T.length∧a=.int .i64 i∧Below w.heap.size w wx∧Hid (T.any (gq q)=(T.drop i).any (gq q))∧wx.cell? ⟨w.heap.size,3,none⟩=some (.slice p2 sg.length c2)∧SS (λb=>w.heap.size<b) wx (.slice p3 T.length c3) T) (λa _=>T.length - (intOf a).toNat)
  case atStart=>exact⟨0,Nat.zero_le _,by go_num,hA,rfl,hg,qV.mono (by intro b hb;simp at hb;omega)⟩
  case round =>
   clear hA hg qV;obtain⟨i,hi,rfl,hb,hE,hg,qV⟩:=hrel
   by_cases hlt:i<T.length
   case pos =>
    obtain⟨x,hkx⟩:∃x,T[i]? =some x:=⟨_,List.getElem?_eq_getElem hlt⟩
    obtain⟨b1,o1,rfl,_,pc⟩:=qV.at hkx;have HO:=rL x (VK.out x (List.mem_of_getElem? hkx)) wr;have hd:=hE.out;rw[GY hkx] at hd;have QO:gq q x=(decide ((aq x).1≠0)||(eW x&& !q)):=rfl;generalize gq q x=BT at *;generalize eW x=O at *;clear hE hkx
    by_cases hz:(aq x).1=0
    · rw[hz] at HO QO
      cases O<;>cases q
      all_goals
       simp at QO;subst QO;have HX:=Lib.hid hd;clear hd hz;go_wp2_with (go_at_call 34;refine HO.mono ?_;clear HO;rintro e w1 ⟨rfl,ay⟩)
       first
        | exact⟨⟨i+1,hlt,by go_num,hb.trans (af ay hb.size),by simpa[Hid] using HX.out,Below.keep ay hg,qV.below ay (nl _)⟩,by simp only[intOf];omega⟩
        | (go_ret;exact⟨by rw[HX.out];rfl,hb.trans (af ay hb.size)⟩)
    · obtain⟨g1,g2⟩:=bC hz
      have HX:=Lib.hid (show T.any (gq q)=true by rw[hd,QO];simp[hz]);clear hd QO hz;go_wp2_with (go_at_call 34;refine HO.mono ?_;clear HO;rintro e w1 ⟨rfl,ay⟩);go_ret;exact⟨by rw[HX.out];rfl,hb.trans (af ay hb.size)⟩
   case neg =>
    have S3:=Lib.hid (show T.any (gq q)=false by rw[hE.out,List.drop_eq_nil_of_le (by omega)];rfl);clear hE VK qV;have hgB:=hg;have Cc:=hb;go_wp2_with fail;go_loopw [9] (λa wx=>∃i:Nat,i≤sg.length∧a=.int .i64 i∧Below w.heap.size w wx∧Hid (gy sg=mN (iG sg i) (sg.drop i))∧wx.cell? ⟨w.heap.size,3,none⟩=some (.slice p2 sg.length c2)) (λa _=>sg.length - (intOf a).toNat)
    case atStart=>exact⟨0,Nat.zero_le _,by go_num,Cc,qY sg,hgB⟩
    case round =>
     clear hgB Cc hg hb hlt hi;obtain⟨i,hi,rfl,hb,hE,hg⟩:=hrel
     by_cases hlt:i<sg.length
     case neg=>
      have HX:=Lib.hid (show gy sg=true by rw[hE.out,List.drop_eq_nil_of_le (by omega)];rfl);clear hE;go_wp2_with fail;go_ret;exact⟨by rw[S3.out,HX.out];rfl,hb⟩
     case pos =>
      obtain⟨x,hkx⟩:∃x,sg[i]? =some x:=⟨_,List.getElem?_eq_getElem hlt⟩
      have hxl:=Fj.out x (List.mem_of_getElem? hkx);have oN:=UZ.below hb (nl _);obtain⟨b1,o1,rfl,_,pc⟩:=oN.at hkx;have hd:=hE.out;rw[bp hkx,mN] at hd;clear hE;rcases hn:isName x with _|_
      · rw [hn] at hd
        have HX:=Lib.hid hd;clear hd hkx;go_upto_region 13 with fail;refine dw (D:=Any) 24 [(2,vP w.heap.size 0),(9,vI i)] [vP w.heap.size 3,vL b1 o1 sg.length c2,vI i,vP b1 (o1+i),vT x,vN,vY,vY,vK,vK,vK,vK,vK,vK,vK,vK,vK,vK,vK,vK,vK,vK,vK,vK,vY] (aW [(⟨w.heap.size,3,none⟩,.slice (some ⟨b1,o1,none⟩) sg.length c2),(⟨b1,o1+i,none⟩,str x)]) (by kernel_rfl) rfl (λ_ _ h hb=>h.below hb) (by(iterate 2 refine cM (by assumption) ?_);exact gD) ⟨rfl,rfl,trivial⟩ ?_ ?_
        · iterate 25
           refine And.intro ?_ ?_
           · first
             | exact bV (by kernel_rfl) rfl
             | exact mT rfl rfl (by kernel_rfl)
             | exact dS rfl (by kernel_rfl) (by kernel_rfl) rfl rfl
             | exact fK rfl (by kernel_rfl) rfl rfl (λw=>by simp[go_sem])
             | exact fZ rfl (by kernel_rfl) rfl rfl rfl (λw=>by simp[go_sem,hlt])
             | exact fq rfl (by kernel_rfl) rfl rfl (λw hS=>by simp[go_sem,(hS.get 0 rfl),(hS.get 1 rfl)])
             | exact dA rfl (by kernel_rfl) rfl rfl rfl (λw=>by simp[go_sem])
             | exact eP (s1:=.eq (str x)) rfl (enters_of Tryz.func87 (by kernel_rfl) rfl) (by kernel_rfl) rfl (by kernel_rfl) (λv wx hS h1=>by rw[show v=str x from h1];exact(aN x wx hxl).mono (by rintro e w' ⟨rfl,hb⟩;exact⟨_,rfl,(show Value.bool (isName x)=.bool false by rw[hn]),hb⟩))
          exact trivial
        · intro aE wE jv eu _
          simp only[pq,pz,pw];go_wp2_with fail;go_ret;exact⟨by rw[S3.out,HX.out];rfl,hb.trans (af eu hb.size)⟩
      · rw [hn] at hd
        rcases Nat.eq_zero_or_pos i with rfl|hpos
        · have HX := Lib.hid (show gy sg = mN (iG sg 1) (sg.drop 1) by rw [hd]; simp [iG, hkx])
          rw[Nat.add_zero] at pc;clear hd hkx;go_upto_region 13 with fail;refine dw (D:=Any) 24 [(2,vP w.heap.size 0),(9,vI ((0:Nat):Int))] [vP w.heap.size 3,vL b1 o1 sg.length c2,vI ((0:Nat):Int),vP b1 o1,vT x,vY,vN,vN,vI ((0:Nat):Int),vN,vN,vK,vK,vK,vK,vK,vK,vK,vK,vK,vK,vK,vK,vN,vN] (aW [(⟨w.heap.size,3,none⟩,.slice (some ⟨b1,o1,none⟩) sg.length c2),(⟨b1,o1,none⟩,str x)]) (by kernel_rfl) rfl (λ_ _ h hb=>h.below hb) (by(iterate 2 refine cM (by assumption) ?_);exact gD) ⟨rfl,rfl,trivial⟩ ?_ ?_
          · iterate 25
             refine And.intro ?_ ?_
             · first
               | exact bV (by kernel_rfl) rfl
               | exact mT rfl rfl (by kernel_rfl)
               | exact dS rfl (by kernel_rfl) (by kernel_rfl) rfl rfl
               | exact fK rfl (by kernel_rfl) rfl rfl (λw=>by simp[go_sem])
               | exact fZ rfl (by kernel_rfl) rfl rfl rfl (λw=>by simp[go_sem,hlt])
               | exact fq rfl (by kernel_rfl) rfl rfl (λw hS=>by simp[go_sem,(hS.get 0 rfl),(hS.get 1 rfl)])
               | exact dA rfl (by kernel_rfl) rfl rfl rfl (λw=>by simp[go_sem])
               | exact eP (s1:=.eq (str x)) rfl (enters_of Tryz.func87 (by kernel_rfl) rfl) (by kernel_rfl) rfl (by kernel_rfl) (λv wx hS h1=>by rw[show v=str x from h1];exact(aN x wx hxl).mono (by rintro e w' ⟨rfl,hb⟩;exact⟨_,rfl,(show Value.bool (isName x)=.bool true by rw[hn]),hb⟩))
            exact trivial
          · intro aE wE jv eu _
            simp only[pq,pz,pw];go_wp2_with fail;exact⟨⟨1,hlt,by go_num,hb.trans (af eu hb.size),HX,Below.keep eu hg⟩,by simp only[intOf];omega⟩
        · obtain ⟨j, hj⟩ : ∃ j, i = j + 1 := ⟨i - 1, by omega⟩
          obtain⟨y,gM⟩:∃y,sg[j]? =some y:=⟨_,List.getElem?_eq_getElem (by omega)⟩
          obtain⟨b2,o2,e2,_,mR⟩:=oN.at gM;simp only[Option.some.injEq,Addr.mk.injEq,and_true] at e2;obtain⟨rfl,rfl⟩:=e2;have hj0:0<i:=by omega
          have hj1:(i:Int) - 1=(j:Int):=by omega
          have hjl:j<sg.length:=by omega
          have OW:=BW (j:=j) (by omega);rcases hless:Op.bytesLess y x with _|_
          · have HX := Lib.hid (show gy sg = false by rw [hd, show iG sg i = some y by rw [hj]; exact gM]; simp [hless])
            clear hd hkx gM hj;go_upto_region 13 with fail;refine dw (D:=Any) 24 [(2,vP w.heap.size 0),(9,vI i)] [vP w.heap.size 3,vL b1 o1 sg.length c2,vI i,vP b1 (o1+i),vT x,vY,vN,vN,vI i,vY,vY,vP w.heap.size 3,vL b1 o1 sg.length c2,vI i,vI j,vP b1 (o1+j),vT y,vP w.heap.size 3,vL b1 o1 sg.length c2,vI i,vP b1 (o1+i),vT x,vY,vY,vY] (aW [(⟨w.heap.size,3,none⟩,.slice (some ⟨b1,o1,none⟩) sg.length c2),(⟨b1,o1+i,none⟩,str x),(⟨b1,o1+j,none⟩,str y)]) (by kernel_rfl) rfl (λ_ _ h hb=>h.below hb) (by(iterate 3 refine cM (by assumption) ?_);exact gD) ⟨rfl,rfl,trivial⟩ ?_ ?_
            · iterate 25
               refine And.intro ?_ ?_
               · first
                 | exact bV (by kernel_rfl) rfl
                 | exact mT rfl rfl (by kernel_rfl)
                 | exact dS rfl (by kernel_rfl) (by kernel_rfl) rfl rfl
                 | exact fK rfl (by kernel_rfl) rfl rfl (λw=>by simp[go_sem])
                 | exact fZ rfl (by kernel_rfl) rfl rfl rfl (λw=>by simp[go_sem,hlt,hjl])
                 | exact fq rfl (by kernel_rfl) rfl rfl (λw hS=>by simp[go_sem,(hS.get 0 rfl),(hS.get 1 rfl),(hS.get 2 rfl)])
                 | exact dA rfl (by kernel_rfl) rfl rfl rfl (λw=>by simp[go_sem,hj0,hj1,OW,hless])
                 | exact eP (s1:=.eq (str x)) rfl (enters_of Tryz.func87 (by kernel_rfl) rfl) (by kernel_rfl) rfl (by kernel_rfl) (λv wx hS h1=>by rw[show v=str x from h1];exact(aN x wx hxl).mono (by rintro e w' ⟨rfl,hb⟩;exact⟨_,rfl,(show Value.bool (isName x)=.bool true by rw[hn]),hb⟩))
              exact trivial
            · intro aE wE jv eu _
              simp only[pq,pz,pw];go_wp2_with fail;go_ret;exact⟨by rw[S3.out,HX.out];rfl,hb.trans (af eu hb.size)⟩
          · have HX := Lib.hid (show gy sg = mN (iG sg (i + 1)) (sg.drop (i + 1)) by rw [hd, show iG sg i = some y by rw [hj]; exact gM]; simp [hless, iG, hkx])
            clear hd hkx gM hj;go_upto_region 13 with fail;refine dw (D:=Any) 24 [(2,vP w.heap.size 0),(9,vI i)] [vP w.heap.size 3,vL b1 o1 sg.length c2,vI i,vP b1 (o1+i),vT x,vY,vN,vN,vI i,vY,vY,vP w.heap.size 3,vL b1 o1 sg.length c2,vI i,vI j,vP b1 (o1+j),vT y,vP w.heap.size 3,vL b1 o1 sg.length c2,vI i,vP b1 (o1+i),vT x,vN,vN,vN] (aW [(⟨w.heap.size,3,none⟩,.slice (some ⟨b1,o1,none⟩) sg.length c2),(⟨b1,o1+i,none⟩,str x),(⟨b1,o1+j,none⟩,str y)]) (by kernel_rfl) rfl (λ_ _ h hb=>h.below hb) (by(iterate 3 refine cM (by assumption) ?_);exact gD) ⟨rfl,rfl,trivial⟩ ?_ ?_
            · iterate 25
               refine And.intro ?_ ?_
               · first
                 | exact bV (by kernel_rfl) rfl
                 | exact mT rfl rfl (by kernel_rfl)
                 | exact dS rfl (by kernel_rfl) (by kernel_rfl) rfl rfl
                 | exact fK rfl (by kernel_rfl) rfl rfl (λw=>by simp[go_sem])
                 | exact fZ rfl (by kernel_rfl) rfl rfl rfl (λw=>by simp[go_sem,hlt,hjl])
                 | exact fq rfl (by kernel_rfl) rfl rfl (λw hS=>by simp[go_sem,(hS.get 0 rfl),(hS.get 1 rfl),(hS.get 2 rfl)])
                 | exact dA rfl (by kernel_rfl) rfl rfl rfl (λw=>by simp[go_sem,hj0,hj1,OW,hless])
                 | exact eP (s1:=.eq (str x)) rfl (enters_of Tryz.func87 (by kernel_rfl) rfl) (by kernel_rfl) rfl (by kernel_rfl) (λv wx hS h1=>by rw[show v=str x from h1];exact(aN x wx hxl).mono (by rintro e w' ⟨rfl,hb⟩;exact⟨_,rfl,(show Value.bool (isName x)=.bool true by rw[hn]),hb⟩))
              exact trivial
            · intro aE wE jv eu _
              simp only[pq,pz,pw];go_wp2_with fail;exact⟨⟨i+1,hlt,by go_num,hb.trans (af eu hb.size),HX,Below.keep eu hg⟩,by simp only[intOf];omega⟩
end Go.Proofs.YtakgjcfkdemipaaGreatDoor
namespace Go.Proofs.YtakgjcfkdemipaaGreatDoor
open Go.RowKit
theorem A7 {l:List aG} (h:gy (l.map (·.name))=false):bh l=false:=by rw[jd,h];simp
theorem A8 {l:List aG} (h:l.all (λn=>ek n.sig true)=false):bh l=false:=by rw[jd,h];rfl
theorem yX {l:List aG} {i:Nat} {x:aG} (h:l[i]? =some x):(l.map (·.name))[i]? =some x.name:=by rw[List.getElem?_map,h];rfl
set_option maxRecDepth 8000 in
theorem jB {D : Nat → Prop} (l : List aG) (v : Value) (w : World) (hv : aJ D w v l) :
 Calls Tryz.prog 80 #[v] w λe w'=>e=.returned (.bool (bh l))∧Below w.heap.size w w':=by
 obtain⟨p,c,rfl,_,hm,_⟩:=hv.shape
 by_cases h4:l.length≤4
 case neg=>
  unfold maxLen at hm;have g4:(4:Int)<(l.length:Int):=by omega
  have HX:=Lib.hid (show bh l=false by rw[jd];simp[h4]);clear h4;go_enter Tryz.func80,Tryz.ntmps80;go_wp2_with fail;go_ret;exact⟨by rw[HX.out];rfl,Below.refl _ _⟩
 have g4:¬(4:Int)<(l.length:Int):=by omega
 have HF:=Lib.hid (show gy (l.map (·.name))=true→l.all (λn=>ek n.sig true)=true→bh l=true by intro h1 h2;rw[jd,h1,h2];simp[h4])
 clear hm
 go_enter Tryz.func80,Tryz.ntmps80
 go_wp2_with fail
 go_loopw [3] (λa wx=>∃i:Nat,i≤l.length∧a=.int .i64 i∧Below w.heap.size w wx∧Hid (gy (l.map (·.name))=mN (iG (l.map (·.name)) i) ((l.map (·.name)).drop i)∧l.all (λn=>ek n.sig true)=(l.drop i).all (λn=>ek n.sig true))) (λa _=>l.length - (intOf a).toNat)
 case atStart=>exact⟨0,Nat.zero_le _,by go_num,Below.refl _ _,qY _,rfl⟩
 case round =>
  obtain⟨i,hi,rfl,hb,hE⟩:=hrel
  by_cases hlt:i<l.length
  case neg=>
   have HX:=Lib.hid (HF.out (by rw[hE.out.1,List.drop_eq_nil_of_le (by rw[List.length_map];omega)];rfl) (by rw[hE.out.2,List.drop_eq_nil_of_le (by omega)];rfl));clear hE;go_wp2_with fail;go_ret;exact⟨by rw[HX.out];rfl,hb⟩
  case pos =>
   obtain⟨x,hkx⟩:∃x,l[i]? =some x:=⟨_,List.getElem?_eq_getElem hlt⟩
   have oN:=hv.below hb (nl _);obtain⟨b1,o1,av,sv,rfl,_,⟨hxl,kC⟩,dy,cQ,d0,d1,d2,d3,d4⟩:=oN.at hkx;have mP:aT Any wr (.agg #[.bool x.sig.iter,av,str x.sig.res,sv]) x.sig:=⟨_,_,rfl,kC,dy.mono λ_ _=>trivial,cQ.mono λ_ _=>trivial⟩;have Cd:=hE.out.1;have hd2:=hE.out.2;rw[bp (yX hkx),mN] at Cd;rw[bp hkx,List.all_cons] at hd2;clear hE dy cQ;rcases hn:isName x.name with _|_
   · rw [hn] at Cd
     have HX:=Lib.hid (A7 Cd);clear Cd hd2 hkx;go_upto_region 6 with fail;refine dw (D:=Any) 33 [(0,vL b1 o1 l.length c),(3,vI i)] [vL b1 o1 l.length c,vI i,vP b1 (o1+i * 5),vP b1 (o1+i * 5),vT x.name,vN,vY,vY,vK,vK,vK,vK,vK,vK,vK,vK,vK,vK,vK,vK,vK,vK,vK,vK,vY,vY,vK,vK,vK,vK,vK,vK,vK,vY] (aW [(⟨b1,o1+i * 5,none⟩,str x.name)]) (by kernel_rfl) rfl (λ_ _ h hb=>h.below hb) (by(iterate 1 refine cM (by assumption) ?_);exact gD) ⟨rfl,rfl,trivial⟩ ?_ ?_
     · iterate 34
        refine And.intro ?_ ?_
        · first
          | exact bV (by kernel_rfl) rfl
          | exact mT rfl rfl (by kernel_rfl)
          | exact dS rfl (by kernel_rfl) (by kernel_rfl) rfl rfl
          | exact fK rfl (by kernel_rfl) rfl rfl (λw=>by simp[go_sem])
          | exact fZ rfl (by kernel_rfl) rfl rfl rfl (λw=>by simp[go_sem,hlt])
          | exact fq rfl (by kernel_rfl) rfl rfl (λw hS=>by simp[go_sem,(hS.get 0 rfl)])
          | exact dA rfl (by kernel_rfl) rfl rfl rfl (λw=>by simp[go_sem])
          | exact eP (s1:=.eq (str x.name)) rfl (enters_of Tryz.func87 (by kernel_rfl) rfl) (by kernel_rfl) rfl (by kernel_rfl) (λv wx hS h1=>by rw[show v=str x.name from h1];exact(aN x.name wx hxl).mono (by rintro e w' ⟨rfl,hb⟩;exact⟨_,rfl,(show Value.bool (isName x.name)=.bool false by rw[hn]),hb⟩))
       exact trivial
     · intro aE wE jv eu _
       simp only[pq,pz,pw];go_wp2_with fail;go_ret;exact⟨by rw[HX.out];rfl,hb.trans (af eu hb.size)⟩
   · rw [hn] at Cd
     rcases Nat.eq_zero_or_pos i with rfl|hpos
     · have LJ := Lib.hid (show gy (l.map (·.name)) = mN (iG (l.map (·.name)) 1) ((l.map (·.name)).drop 1) by rw [Cd]; simp [iG, yX hkx])
       rw[Nat.zero_mul,Nat.add_zero] at d0 d1 d2 d3 d4;rcases xx:ek x.sig true with _|_
       · rw [xx] at hd2
         have HX:=Lib.hid (A8 hd2);clear Cd hd2 hkx;go_upto_region 6 with fail;refine dw (D:=Any) 33 [(0,vL b1 o1 l.length c),(3,vI ((0:Nat):Int))] [vL b1 o1 l.length c,vI ((0:Nat):Int),vP b1 o1,vP b1 o1,vT x.name,vY,vN,vN,vI ((0:Nat):Int),vN,vN,vK,vK,vK,vK,vK,vK,vK,vK,vK,vK,vK,vK,vN,vN,vN,vL b1 o1 l.length c,vI ((0:Nat):Int),vP b1 o1,vP b1 (o1+1),.eq (.agg #[.bool x.sig.iter,av,str x.sig.res,sv]),vN,vY,vY] (λw'=>aW [(⟨b1,o1,none⟩,str x.name),(⟨b1,o1+1,none⟩,.bool x.sig.iter),(⟨b1,o1+2,none⟩,av),(⟨b1,o1+3,none⟩,str x.sig.res),(⟨b1,o1+4,none⟩,sv)] w'∧aT Any w' (.agg #[.bool x.sig.iter,av,str x.sig.res,sv]) x.sig) (by kernel_rfl) rfl (λ_ _ h hb=>⟨h.1.below hb,aT.below h.2 hb (nl _)⟩) ⟨(by(iterate 5 refine cM (by assumption) ?_);exact gD),aT.below mP ((Below.refl _ wr).drew) (nl _)⟩ ⟨rfl,rfl,trivial⟩ ?_ ?_
         · iterate 34
            refine And.intro ?_ ?_
            · first
              | exact bV (by kernel_rfl) rfl
              | exact mT rfl rfl (by kernel_rfl)
              | exact dS rfl (by kernel_rfl) (by kernel_rfl) rfl rfl
              | exact fK rfl (by kernel_rfl) rfl rfl (λw=>by simp[go_sem])
              | exact fZ rfl (by kernel_rfl) rfl rfl rfl (λw=>by simp[go_sem,hlt])
              | exact fq rfl (by kernel_rfl) rfl rfl (λw hS=>by simp[go_sem,(hS.1.get 0 rfl),(hS.1.get 1 rfl),(hS.1.get 2 rfl),(hS.1.get 3 rfl),(hS.1.get 4 rfl)])
              | exact dA rfl (by kernel_rfl) rfl rfl rfl (λw=>by simp[go_sem])
              | exact eP (s1:=.eq (str x.name)) rfl (enters_of Tryz.func87 (by kernel_rfl) rfl) (by kernel_rfl) rfl (by kernel_rfl) (λv wx hS h1=>by rw[show v=str x.name from h1];exact(aN x.name wx hxl).mono (by rintro e w' ⟨rfl,hb⟩;exact⟨_,rfl,(show Value.bool (isName x.name)=.bool true by rw[hn]),hb⟩))
              | exact eS (s1:=.eq (.agg #[.bool x.sig.iter,av,str x.sig.res,sv])) (s2:=.eq (.bool true)) rfl (enters_of Tryz.func90 (by kernel_rfl) rfl) (by kernel_rfl) rfl (by kernel_rfl) (by kernel_rfl) (λv v2 wx hS h1 h2=>by rw[show v=.agg #[.bool x.sig.iter,av,str x.sig.res,sv] from h1,show v2=.bool true from h2];exact(iH _ x.sig true wx hS.2).mono (by rintro e w' ⟨rfl,hb⟩;exact⟨_,rfl,(show Value.bool (ek x.sig true)=.bool _ by rw[xx]),hb⟩))
           exact trivial
         · intro aE wE jv eu _
           simp only[pq,pz,pw];go_wp2_with fail;go_ret;exact⟨by rw[HX.out];rfl,hb.trans (af eu hb.size)⟩
       · rw [xx] at hd2
         have DQ:=Lib.hid hd2;clear Cd hd2 hkx;go_upto_region 6 with fail;refine dw (D:=Any) 33 [(0,vL b1 o1 l.length c),(3,vI ((0:Nat):Int))] [vL b1 o1 l.length c,vI ((0:Nat):Int),vP b1 o1,vP b1 o1,vT x.name,vY,vN,vN,vI ((0:Nat):Int),vN,vN,vK,vK,vK,vK,vK,vK,vK,vK,vK,vK,vK,vK,vN,vN,vN,vL b1 o1 l.length c,vI ((0:Nat):Int),vP b1 o1,vP b1 (o1+1),.eq (.agg #[.bool x.sig.iter,av,str x.sig.res,sv]),vY,vN,vN] (λw'=>aW [(⟨b1,o1,none⟩,str x.name),(⟨b1,o1+1,none⟩,.bool x.sig.iter),(⟨b1,o1+2,none⟩,av),(⟨b1,o1+3,none⟩,str x.sig.res),(⟨b1,o1+4,none⟩,sv)] w'∧aT Any w' (.agg #[.bool x.sig.iter,av,str x.sig.res,sv]) x.sig) (by kernel_rfl) rfl (λ_ _ h hb=>⟨h.1.below hb,aT.below h.2 hb (nl _)⟩) ⟨(by(iterate 5 refine cM (by assumption) ?_);exact gD),aT.below mP ((Below.refl _ wr).drew) (nl _)⟩ ⟨rfl,rfl,trivial⟩ ?_ ?_
         · iterate 34
            refine And.intro ?_ ?_
            · first
              | exact bV (by kernel_rfl) rfl
              | exact mT rfl rfl (by kernel_rfl)
              | exact dS rfl (by kernel_rfl) (by kernel_rfl) rfl rfl
              | exact fK rfl (by kernel_rfl) rfl rfl (λw=>by simp[go_sem])
              | exact fZ rfl (by kernel_rfl) rfl rfl rfl (λw=>by simp[go_sem,hlt])
              | exact fq rfl (by kernel_rfl) rfl rfl (λw hS=>by simp[go_sem,(hS.1.get 0 rfl),(hS.1.get 1 rfl),(hS.1.get 2 rfl),(hS.1.get 3 rfl),(hS.1.get 4 rfl)])
              | exact dA rfl (by kernel_rfl) rfl rfl rfl (λw=>by simp[go_sem])
              | exact eP (s1:=.eq (str x.name)) rfl (enters_of Tryz.func87 (by kernel_rfl) rfl) (by kernel_rfl) rfl (by kernel_rfl) (λv wx hS h1=>by rw[show v=str x.name from h1];exact(aN x.name wx hxl).mono (by rintro e w' ⟨rfl,hb⟩;exact⟨_,rfl,(show Value.bool (isName x.name)=.bool true by rw[hn]),hb⟩))
              | exact eS (s1:=.eq (.agg #[.bool x.sig.iter,av,str x.sig.res,sv])) (s2:=.eq (.bool true)) rfl (enters_of Tryz.func90 (by kernel_rfl) rfl) (by kernel_rfl) rfl (by kernel_rfl) (by kernel_rfl) (λv v2 wx hS h1 h2=>by rw[show v=.agg #[.bool x.sig.iter,av,str x.sig.res,sv] from h1,show v2=.bool true from h2];exact(iH _ x.sig true wx hS.2).mono (by rintro e w' ⟨rfl,hb⟩;exact⟨_,rfl,(show Value.bool (ek x.sig true)=.bool _ by rw[xx]),hb⟩))
           exact trivial
         · intro aE wE jv eu _
           simp only[pq,pz,pw];go_wp2_with fail;exact⟨⟨1,hlt,by go_num,hb.trans (af eu hb.size),LJ.out,by simpa using DQ.out⟩,by simp only[intOf];omega⟩
     · obtain ⟨j, hj⟩ : ∃ j, i = j + 1 := ⟨i - 1, by omega⟩
       obtain⟨y,gM⟩:∃y,l[j]? =some y:=⟨_,List.getElem?_eq_getElem (by omega)⟩
       obtain⟨b2,o2,_,_,e2,_,_,_,_,mR,_⟩:=oN.at gM;simp only[Option.some.injEq,Addr.mk.injEq,and_true] at e2;obtain⟨rfl,rfl⟩:=e2;have hj0:0<i:=by omega
       have hj1:(i:Int) - 1=(j:Int):=by omega
       have hjl:j<l.length:=by omega
       have OW:=BW (j:=j) (by omega);have hp:iG (l.map (·.name)) i=some y.name:=by rw[hj];exact yX gM
       rcases hless:Op.bytesLess y.name x.name with _|_
       · have HX := Lib.hid (A7 (show gy (l.map (·.name)) = false by rw [Cd, hp]; simp [hless]))
         clear Cd hd2 hkx gM hj hp;go_upto_region 6 with fail;refine dw (D:=Any) 33 [(0,vL b1 o1 l.length c),(3,vI i)] [vL b1 o1 l.length c,vI i,vP b1 (o1+i * 5),vP b1 (o1+i * 5),vT x.name,vY,vN,vN,vI i,vY,vY,vL b1 o1 l.length c,vI i,vI j,vP b1 (o1+j * 5),vP b1 (o1+j * 5),vT y.name,vL b1 o1 l.length c,vI i,vP b1 (o1+i * 5),vP b1 (o1+i * 5),vT x.name,vY,vY,vY,vY,vK,vK,vK,vK,vK,vK,vK,vY] (aW [(⟨b1,o1+i * 5,none⟩,str x.name),(⟨b1,o1+j * 5,none⟩,str y.name)]) (by kernel_rfl) rfl (λ_ _ h hb=>h.below hb) (by(iterate 2 refine cM (by assumption) ?_);exact gD) ⟨rfl,rfl,trivial⟩ ?_ ?_
         · iterate 34
            refine And.intro ?_ ?_
            · first
              | exact bV (by kernel_rfl) rfl
              | exact mT rfl rfl (by kernel_rfl)
              | exact dS rfl (by kernel_rfl) (by kernel_rfl) rfl rfl
              | exact fK rfl (by kernel_rfl) rfl rfl (λw=>by simp[go_sem])
              | exact fZ rfl (by kernel_rfl) rfl rfl rfl (λw=>by simp[go_sem,hlt,hjl])
              | exact fq rfl (by kernel_rfl) rfl rfl (λw hS=>by simp[go_sem,(hS.get 0 rfl),(hS.get 1 rfl)])
              | exact dA rfl (by kernel_rfl) rfl rfl rfl (λw=>by simp[go_sem,hj0,hj1,OW,hless])
              | exact eP (s1:=.eq (str x.name)) rfl (enters_of Tryz.func87 (by kernel_rfl) rfl) (by kernel_rfl) rfl (by kernel_rfl) (λv wx hS h1=>by rw[show v=str x.name from h1];exact(aN x.name wx hxl).mono (by rintro e w' ⟨rfl,hb⟩;exact⟨_,rfl,(show Value.bool (isName x.name)=.bool true by rw[hn]),hb⟩))
           exact trivial
         · intro aE wE jv eu _
           simp only[pq,pz,pw];go_wp2_with fail;go_ret;exact⟨by rw[HX.out];rfl,hb.trans (af eu hb.size)⟩
       · have LJ := Lib.hid (show gy (l.map (·.name)) = mN (iG (l.map (·.name)) (i + 1)) ((l.map (·.name)).drop (i + 1)) by rw [Cd, hp]; simp [hless, iG, yX hkx])
         rcases xx:ek x.sig true with _|_
         · rw [xx] at hd2
           have HX:=Lib.hid (A8 hd2);clear Cd hd2 hkx gM hj hp;go_upto_region 6 with fail;refine dw (D:=Any) 33 [(0,vL b1 o1 l.length c),(3,vI i)] [vL b1 o1 l.length c,vI i,vP b1 (o1+i * 5),vP b1 (o1+i * 5),vT x.name,vY,vN,vN,vI i,vY,vY,vL b1 o1 l.length c,vI i,vI j,vP b1 (o1+j * 5),vP b1 (o1+j * 5),vT y.name,vL b1 o1 l.length c,vI i,vP b1 (o1+i * 5),vP b1 (o1+i * 5),vT x.name,vN,vN,vN,vN,vL b1 o1 l.length c,vI i,vP b1 (o1+i * 5),vP b1 (o1+i * 5+1),.eq (.agg #[.bool x.sig.iter,av,str x.sig.res,sv]),vN,vY,vY] (λw'=>aW [(⟨b1,o1+i * 5,none⟩,str x.name),(⟨b1,o1+i * 5+1,none⟩,.bool x.sig.iter),(⟨b1,o1+i * 5+2,none⟩,av),(⟨b1,o1+i * 5+3,none⟩,str x.sig.res),(⟨b1,o1+i * 5+4,none⟩,sv),(⟨b1,o1+j * 5,none⟩,str y.name)] w'∧aT Any w' (.agg #[.bool x.sig.iter,av,str x.sig.res,sv]) x.sig) (by kernel_rfl) rfl (λ_ _ h hb=>⟨h.1.below hb,aT.below h.2 hb (nl _)⟩) ⟨(by(iterate 6 refine cM (by assumption) ?_);exact gD),aT.below mP ((Below.refl _ wr).drew) (nl _)⟩ ⟨rfl,rfl,trivial⟩ ?_ ?_
           · iterate 34
              refine And.intro ?_ ?_
              · first
                | exact bV (by kernel_rfl) rfl
                | exact mT rfl rfl (by kernel_rfl)
                | exact dS rfl (by kernel_rfl) (by kernel_rfl) rfl rfl
                | exact fK rfl (by kernel_rfl) rfl rfl (λw=>by simp[go_sem])
                | exact fZ rfl (by kernel_rfl) rfl rfl rfl (λw=>by simp[go_sem,hlt,hjl])
                | exact fq rfl (by kernel_rfl) rfl rfl (λw hS=>by simp[go_sem,(hS.1.get 0 rfl),(hS.1.get 1 rfl),(hS.1.get 2 rfl),(hS.1.get 3 rfl),(hS.1.get 4 rfl),(hS.1.get 5 rfl)])
                | exact dA rfl (by kernel_rfl) rfl rfl rfl (λw=>by simp[go_sem,hj0,hj1,OW,hless])
                | exact eP (s1:=.eq (str x.name)) rfl (enters_of Tryz.func87 (by kernel_rfl) rfl) (by kernel_rfl) rfl (by kernel_rfl) (λv wx hS h1=>by rw[show v=str x.name from h1];exact(aN x.name wx hxl).mono (by rintro e w' ⟨rfl,hb⟩;exact⟨_,rfl,(show Value.bool (isName x.name)=.bool true by rw[hn]),hb⟩))
                | exact eS (s1:=.eq (.agg #[.bool x.sig.iter,av,str x.sig.res,sv])) (s2:=.eq (.bool true)) rfl (enters_of Tryz.func90 (by kernel_rfl) rfl) (by kernel_rfl) rfl (by kernel_rfl) (by kernel_rfl) (λv v2 wx hS h1 h2=>by rw[show v=.agg #[.bool x.sig.iter,av,str x.sig.res,sv] from h1,show v2=.bool true from h2];exact(iH _ x.sig true wx hS.2).mono (by rintro e w' ⟨rfl,hb⟩;exact⟨_,rfl,(show Value.bool (ek x.sig true)=.bool _ by rw[xx]),hb⟩))
             exact trivial
           · intro aE wE jv eu _
             simp only[pq,pz,pw];go_wp2_with fail;go_ret;exact⟨by rw[HX.out];rfl,hb.trans (af eu hb.size)⟩
         · rw [xx] at hd2
           have DQ:=Lib.hid hd2;clear Cd hd2 hkx gM hj hp;go_upto_region 6 with fail;refine dw (D:=Any) 33 [(0,vL b1 o1 l.length c),(3,vI i)] [vL b1 o1 l.length c,vI i,vP b1 (o1+i * 5),vP b1 (o1+i * 5),vT x.name,vY,vN,vN,vI i,vY,vY,vL b1 o1 l.length c,vI i,vI j,vP b1 (o1+j * 5),vP b1 (o1+j * 5),vT y.name,vL b1 o1 l.length c,vI i,vP b1 (o1+i * 5),vP b1 (o1+i * 5),vT x.name,vN,vN,vN,vN,vL b1 o1 l.length c,vI i,vP b1 (o1+i * 5),vP b1 (o1+i * 5+1),.eq (.agg #[.bool x.sig.iter,av,str x.sig.res,sv]),vY,vN,vN] (λw'=>aW [(⟨b1,o1+i * 5,none⟩,str x.name),(⟨b1,o1+i * 5+1,none⟩,.bool x.sig.iter),(⟨b1,o1+i * 5+2,none⟩,av),(⟨b1,o1+i * 5+3,none⟩,str x.sig.res),(⟨b1,o1+i * 5+4,none⟩,sv),(⟨b1,o1+j * 5,none⟩,str y.name)] w'∧aT Any w' (.agg #[.bool x.sig.iter,av,str x.sig.res,sv]) x.sig) (by kernel_rfl) rfl (λ_ _ h hb=>⟨h.1.below hb,aT.below h.2 hb (nl _)⟩) ⟨(by(iterate 6 refine cM (by assumption) ?_);exact gD),aT.below mP ((Below.refl _ wr).drew) (nl _)⟩ ⟨rfl,rfl,trivial⟩ ?_ ?_
           · iterate 34
              refine And.intro ?_ ?_
              · first
                | exact bV (by kernel_rfl) rfl
                | exact mT rfl rfl (by kernel_rfl)
                | exact dS rfl (by kernel_rfl) (by kernel_rfl) rfl rfl
                | exact fK rfl (by kernel_rfl) rfl rfl (λw=>by simp[go_sem])
                | exact fZ rfl (by kernel_rfl) rfl rfl rfl (λw=>by simp[go_sem,hlt,hjl])
                | exact fq rfl (by kernel_rfl) rfl rfl (λw hS=>by simp[go_sem,(hS.1.get 0 rfl),(hS.1.get 1 rfl),(hS.1.get 2 rfl),(hS.1.get 3 rfl),(hS.1.get 4 rfl),(hS.1.get 5 rfl)])
                | exact dA rfl (by kernel_rfl) rfl rfl rfl (λw=>by simp[go_sem,hj0,hj1,OW,hless])
                | exact eP (s1:=.eq (str x.name)) rfl (enters_of Tryz.func87 (by kernel_rfl) rfl) (by kernel_rfl) rfl (by kernel_rfl) (λv wx hS h1=>by rw[show v=str x.name from h1];exact(aN x.name wx hxl).mono (by rintro e w' ⟨rfl,hb⟩;exact⟨_,rfl,(show Value.bool (isName x.name)=.bool true by rw[hn]),hb⟩))
                | exact eS (s1:=.eq (.agg #[.bool x.sig.iter,av,str x.sig.res,sv])) (s2:=.eq (.bool true)) rfl (enters_of Tryz.func90 (by kernel_rfl) rfl) (by kernel_rfl) rfl (by kernel_rfl) (by kernel_rfl) (λv v2 wx hS h1 h2=>by rw[show v=.agg #[.bool x.sig.iter,av,str x.sig.res,sv] from h1,show v2=.bool true from h2];exact(iH _ x.sig true wx hS.2).mono (by rintro e w' ⟨rfl,hb⟩;exact⟨_,rfl,(show Value.bool (ek x.sig true)=.bool _ by rw[xx]),hb⟩))
             exact trivial
           · intro aE wE jv eu _
             simp only[pq,pz,pw];go_wp2_with fail;exact⟨⟨i+1,hlt,by go_num,hb.trans (af eu hb.size),LJ.out,by simpa using DQ.out⟩,by simp only[intOf];omega⟩
end Go.Proofs.YtakgjcfkdemipaaGreatDoor
namespace Go.Proofs.YtakgjcfkdemipaaGreatDoor
open Go.RowKit
def qm (c:aR):Prop:=(∀f∈c.bK,eU f=true)∧bh c.ag=true
def wM (c:aR) (n:Nat):Prop:=
 ∀(D D':Nat→Prop) (lv nv:Value) (t:List UInt8) (w:World),aZ D w lv c.bK→aJ D' w nv c.ag→t.length≤maxLen→iz t<n→Calls Tryz.prog 68 #[lv,nv,.bool c.par,str t] w λe w'=>e=.returned (.int .i64 (cV c n t))∧Below w.heap.size w w'
def pN (a:List UInt8) (y:aG) (PS:cD×Nat) (o:aG):Bool:=decide ((bZ o.sig a).2=0)&&decide (o.name=y.name)&&ic (bZ o.sig a).1 PS.1
theorem K5 (R:List aG) (a t:List UInt8) (y:aG):A5 R a t y=(decide ((bZ y.sig t).2=0)&&R.any (pN a y (bZ y.sig t))):=rfl
theorem Fw {R:List aG×List UInt8} {t:List UInt8} {y:aG} {l:List aG} (h:A5 R.1 R.2 t y=true):jY R (y::l) t=jY R l t:=by
 unfold jY
 rw[List.find?_cons_of_neg (by simp[h])]
theorem AN {R:List aG×List UInt8} {t:List UInt8} {y:aG} {l:List aG} (h:A5 R.1 R.2 t y=false):jY R (y::l) t=some y.name:=by
 unfold jY
 rw[List.find?_cons_of_pos (by simp[h])]
 rfl
theorem GZ {R:List aG} {p:aG→Bool} {k:Nat} {x:aG} (h:R[k]? =some x):(R.take (k+1)).any p=((R.take k).any p||p x):=by
 rw[List.take_add_one,h]
 simp
set_option maxRecDepth 8000 in
theorem Dw {D D' D3 : Nat → Prop} (c : aR) (k0 : Nat) (hG : wM c k0) (lv nv wv : Value) (want : List aG) (t : List UInt8) (w : World) (hl : aZ D w lv c.bK) (hn : aJ D' w nv c.ag) (hw : aJ D3 w wv want) (oO : ∀ o ∈ want, o.sig.args.length ≤ 100000)
 (h0:(aq t).1=0) (hne:t≠[]) (hk:iz t<k0) (hw0:want≠[]) (bY:cV c k0 t=0) (hal:∀x∈cN (nI c t),x.sig.args.length≤100000) (h7:(aq t).2.k=7→∃f,ez c.bK (dI t).1=some f∧f.ops.length≤900) (GD:c.ag.length≤900) (ZA:(cG c t).2.length≤maxLen):
 Calls Tryz.prog 131 #[lv,nv,.bool c.par,wv,str t] w λe w'=>e=.returned (.tuple #[str ((jY (cN (nI c t),(cG c t).2) want t).getD []),.bool (jY (cN (nI c t),(cG c t).2) want t).isNone])∧Below w.heap.size w w':=by
 have ht:t.length≤maxLen:=(qP h0).1
 have GM:=hG D D' lv nv t w hl hn ht hk
 rw[bY] at GM
 have VF:=λW (hW:Below w.heap.size w W)=>F6 c lv nv t W (hl.below hW (nl _)) (hn.below hW (nl _)) h0 GD h7
 have hwp:0<want.length:=List.length_pos_iff.2 hw0
 have gw:(0:Int)<(want.length:Int):=by omega
 have S2:=λ(x:Value) (s:cD) (W:World) (hx:aT Any W x s) (hl:s.args.length≤100000)=>qd x s t W hx hne ht hl
 generalize cN (nI c t)=Rl at *
 generalize (cG c t).2=Ra at *
 obtain⟨pl,cl,rfl,_⟩:=hl.shape
 obtain⟨pn,cn,rfl,_⟩:=hn.shape
 obtain⟨pw,cw,rfl,_,Zk,_⟩:=hw.shape
 unfold maxLen at Zk
 have XA:=Lib.hid oO
 have SM:=Lib.hid hal
 clear hG oO hal h7 GD h0 hne hk bY hw0
 go_enter Tryz.func131,Tryz.ntmps131
 go_wp2_with (first
  | (go_at_call 70;refine(VF _ ay).mono ?_;clear VF;rintro e w2 ⟨vr,rfl,hR,aA⟩;obtain⟨pR,cR,rfl,Zh⟩:=hR.shape)
  | (go_at_call 68;refine GM.mono ?_;clear GM;rintro e w1 ⟨rfl,ay⟩))
 have bW:=ay.trans (af aA ay.size)
 unfold maxLen at Zh
 clear ay aA
 go_loopw [13] (λa wx=>∃i:Nat,i≤want.length∧a=.int .i64 i∧Below w2.heap.size w2 wx∧Hid (jY (Rl,Ra) want t=jY (Rl,Ra) (want.drop i) t)) (λa _=>want.length - (intOf a).toNat)
 case atStart=>exact⟨0,Nat.zero_le _,by go_num,Below.refl _ _,rfl⟩
 case round =>
  obtain⟨i,hi,rfl,hb,hE⟩:=hrel;have Aj:=bW.trans (af hb bW.size)
  by_cases hlt:i<want.length
  case neg=>
   have HX:=Lib.hid (show jY (Rl,Ra) want t=none by rw[hE.out,List.drop_eq_nil_of_le (by omega)];rfl);clear hE;go_wp2_with fail;go_ret2;rw[HX.out];exact⟨rfl,Aj⟩
  case pos =>
   obtain⟨y,gM⟩:∃y,want[i]? =some y:=⟨_,List.getElem?_eq_getElem hlt⟩
   obtain⟨bw,ow,av,sv,rfl,_,⟨ZO,Vc⟩,dy,cQ,d0,d1,d2,d3,d4⟩:=(hw.below Aj (nl _)).at gM;have mP:aT Any wr (.agg #[.bool y.sig.iter,av,str y.sig.res,sv]) y.sig:=⟨_,_,rfl,Vc,dy.mono λ_ _=>trivial,cQ.mono λ_ _=>trivial⟩;have HC:=S2 _ y.sig wr mP (XA.out y (List.mem_of_getElem? gM));have hd:=hE.out;rw[bp gM] at hd;have Au:=K5 Rl Ra t y;obtain⟨pa,ca,rfl,_⟩:=dy.shape;obtain⟨ps,cs,rfl,_⟩:=cQ.shape;generalize bZ y.sig t=PS at *;clear hE gM dy cQ mP
   by_cases hsh:PS.2=0
   case neg=>
    rw[decide_eq_false hsh] at HC Au;have HX:=Lib.hid (hd.trans (AN (R:=(Rl,Ra)) (l:=want.drop (i+1)) (by rw[Au];rfl)));clear hd Au hsh;go_wp2_with (go_at_call 135;refine HC.mono ?_;clear HC;rintro e w1 ⟨u,rfl,⟨au,su,rfl,lu,ru,qu⟩,ay⟩;obtain⟨px,cx,rfl,_⟩:=ru.shape;obtain⟨py,cy,rfl,_⟩:=qu.shape);have VQ:=Below.keep (ay.trans ((Below.refl wr.heap.size w1).alloc ay.size (.cells #[.bool PS.1.iter,.slice px PS.1.args.length cx,str PS.1.res,.slice py PS.1.sigs.length cy] 36))) d0;have Kz:=(Aj.trans (af ay Aj.size)).alloc (Nat.le_trans Aj.size ay.size) (.cells #[.bool PS.1.iter,.slice px PS.1.args.length cx,str PS.1.res,.slice py PS.1.sigs.length cy] 36);generalize hW:w1.alloc (.cells #[.bool PS.1.iter,.slice px PS.1.args.length cx,str PS.1.res,.slice py PS.1.sigs.length cy] 36)=W2 at *;go_loopw [14,17] (λf a wx=>f=.bool false∧a=.int .i64 0∧wx=W2) (λ_ _ _=>0)
    case atStart=>exact⟨rfl,rfl,rfl⟩
    case round=>
     obtain⟨rfl,rfl,rfl⟩:=hrel;clear hW
     by_cases hz:0<Rl.length
     · have gz:(0:Int)<(Rl.length:Int):=by omega
       go_wp2_with fail;go_ret2;rw[HX.out];exact⟨rfl,Kz⟩
     · have gz:¬(0:Int)<(Rl.length:Int):=by omega
       go_wp2_with fail;go_ret2;rw[HX.out];exact⟨rfl,Kz⟩
   case pos =>
    rw[decide_eq_true hsh] at HC Au;rw[Bool.true_and] at Au;have GP:=Lib.hid (λh:Rl.any (pN Ra y PS)=true=>hd.trans (Fw (R:=(Rl,Ra)) (l:=want.drop (i+1)) (by rw[Au];exact h)));have O7:=Lib.hid (λh:Rl.any (pN Ra y PS)=false=>hd.trans (AN (R:=(Rl,Ra)) (l:=want.drop (i+1)) (by rw[Au];exact h)));clear hd Au hsh;go_wp2_with (go_at_call 135;refine HC.mono ?_;clear HC;rintro e w1 ⟨u,rfl,⟨au,su,rfl,lu,ru,qu⟩,ay⟩;obtain⟨px,cx,rfl,_⟩:=ru.shape;obtain⟨py,cy,rfl,_⟩:=qu.shape);have KJ:=(Below.refl w1.heap.size w1).alloc (nl _) (.cells #[.bool PS.1.iter,.slice px PS.1.args.length cx,str PS.1.res,.slice py PS.1.sigs.length cy] 36);have hbc:=ay.trans (af KJ ay.size);have Nk:=hb.trans (af hbc hb.size);have VQ:=Below.keep hbc d0;have KI:aT Any (w1.alloc (.cells #[.bool PS.1.iter,.slice px PS.1.args.length cx,str PS.1.res,.slice py PS.1.sigs.length cy] 36)) (.agg #[.bool PS.1.iter,.slice px PS.1.args.length cx,str PS.1.res,.slice py PS.1.sigs.length cy]) PS.1:=⟨_,_,rfl,lu,(ru.mono λ_ _=>trivial).below KJ (nl _),(qu.mono λ_ _=>trivial).below KJ (nl _)⟩;have UY:=heap_alloc_new w1 (.cells #[.bool PS.1.iter,.slice px PS.1.args.length cx,str PS.1.res,.slice py PS.1.sigs.length cy] 36);have YO:=hR.below Nk (nl _);clear KJ hbc ru qu d0 d1 d2 d3 d4 ay;generalize hW:w1.alloc (.cells #[.bool PS.1.iter,.slice px PS.1.args.length cx,str PS.1.res,.slice py PS.1.sigs.length cy] 36)=W2 at *;go_loopw [14,17] (λf a wx=>∃k:Nat,k≤Rl.length∧a=.int .i64 k∧f=.bool ((Rl.take k).any (pN Ra y PS))∧Below W2.heap.size W2 wx) (λ_ a _=>Rl.length - (intOf a).toNat)
    case atStart=>exact⟨0,Nat.zero_le _,by go_num,rfl,Below.refl _ _⟩
    case round =>
     clear hW;obtain⟨k,Q5,rfl,rfl,hbk⟩:=hrel;have OG:=Nk.trans (af hbk Nk.size);have PG:=bW.trans (af OG bW.size);have VR:=Below.keep hbk VQ;obtain⟨FD,Md⟩:∃FD,FD=(Rl.take k).any (pN Ra y PS):=⟨_,rfl⟩
     rw[←Md]
     by_cases hki:k<Rl.length
     case neg=>
      obtain rfl:k=Rl.length:=by omega
      rw[List.take_length] at Md;cases FD
      · have HX:=Lib.hid (O7.out Md.symm)
        clear Md;go_wp2_with fail;go_ret2;rw[HX.out];exact⟨rfl,PG⟩
      · have HX:=Lib.hid (GP.out Md.symm)
        clear Md;go_wp2_with fail;exact⟨⟨i+1,hlt,by go_num,OG,HX⟩,by simp only[intOf];omega⟩
     case pos =>
      obtain⟨x,hkx⟩:∃x,Rl[k]? =some x:=⟨_,List.getElem?_eq_getElem hki⟩
      obtain⟨b6,o6,Z5,qa6,rfl,⟨Az,kC⟩,Uh,Uj,e0,e1,e2,e3,e4,e5⟩:=(YO.below hbk (nl _)).at hkx;have QH:=SM.out x (List.mem_of_getElem? hkx);have S1:=DD (.agg #[str x.name,.bool x.sig.iter,Z5,str x.sig.res,qa6,str Ra]) x Ra wr ⟨_,_,rfl,⟨Az,kC⟩,Uh,Uj⟩ ZA QH;have D5:=GZ (p:=pN Ra y PS) hkx;rw[←Md] at D5;have hmx:pN Ra y PS x=(decide ((bZ x.sig Ra).2=0)&&decide (x.name=y.name)&&ic (bZ x.sig Ra).1 PS.1):=rfl;rw[hmx] at D5;obtain⟨p6a,c6a,rfl,_⟩:=Uh.shape;obtain⟨p6b,c6b,rfl,_⟩:=Uj.shape;generalize bZ x.sig Ra=PO at *;obtain⟨OK,Wa⟩:∃OK,OK=decide (PO.2=0):=⟨_,rfl⟩
      rw[←Wa] at S1 D5;clear hmx hkx Md Wa Uh Uj QH;go_upto_region 13 with(go_at_call 71;refine S1.mono ?_;clear S1;rintro e w3 ⟨u,rfl,⟨au,su,rfl,lu,ru,qu⟩,aK⟩;obtain⟨pu,cu,rfl,_⟩:=ru.shape;obtain⟨pv,cv,rfl,_⟩:=qu.shape);have KK:=(Below.refl w3.heap.size w3).alloc (nl _) (.cells #[.bool PO.1.iter,.slice pu PO.1.args.length cu,str PO.1.res,.slice pv PO.1.sigs.length cv] 36);have hb4:=aK.trans (af KK aK.size);have Qv:aT Any (w3.alloc (.cells #[.bool PO.1.iter,.slice pu PO.1.args.length cu,str PO.1.res,.slice pv PO.1.sigs.length cv] 36)) (.agg #[.bool PO.1.iter,.slice pu PO.1.args.length cu,str PO.1.res,.slice pv PO.1.sigs.length cv]) PO.1:=⟨_,_,rfl,lu,ru.below KK (nl _),qu.below KK (nl _)⟩;have KI:=(KI.below hbk (nl _)).below hb4 (nl _);have Yo:=(aU (heap_alloc_new w3 (.cells #[.bool PO.1.iter,.slice pu PO.1.args.length cu,str PO.1.res,.slice pv PO.1.sigs.length cv] 36))).1;have Yn:=(aU (ah (ah UY hbk) hb4)).1;obtain⟨m0,m1,m2,m3⟩:=Yo;obtain⟨q0,q1,q2,q3⟩:=Yn;have n0:=Below.keep hb4 e0;have n1:=Below.keep hb4 VR;have wh:=hbk.trans (af hb4 hbk.size);clear KK ru qu aK e0 e1 e2 e3 e4 e5 VR hb4 OG PG;generalize Ng:w3.alloc (.cells #[.bool PO.1.iter,.slice pu PO.1.args.length cu,str PO.1.res,.slice pv PO.1.sigs.length cv] 36)=W4 at *;clear Ng;cases FD
      · cases OK
        · simp only [Bool.false_and, Bool.or_false] at D5
          refine dw (D:=Any) (w:=W4) 23 [(14,vN),(19,vN)] [vN,vN,vN,vN,vK,vK,vK,vK,vK,vK,vK,vK,vK,vK,vK,vK,vN,vN,vK,vK,vK,vN,vN,vN] (aW []) (by kernel_rfl) rfl (λ_ _ h hb=>h.below hb) (λp hp=>by cases hp) ⟨rfl,rfl,trivial⟩ ?_ ?_
          · iterate 24
             refine And.intro ?_ ?_
             · first
               | exact bV (by kernel_rfl) rfl
               | exact mT rfl rfl (by kernel_rfl)
               | exact dS rfl (by kernel_rfl) (by kernel_rfl) rfl rfl
               | exact fK rfl (by kernel_rfl) rfl rfl (λw=>by simp[go_sem])
               | exact fZ rfl (by kernel_rfl) rfl rfl rfl (λw=>by simp[go_sem,hlt,hki])
               | exact fq rfl (by kernel_rfl) rfl rfl (λw hS=>by simp[go_sem])
               | exact dA rfl (by kernel_rfl) rfl rfl rfl (λw=>by simp[go_sem])
            exact trivial
          · intro aE wE jv eu _
            simp only[pq,pz,pw];go_wp2_with fail;exact⟨⟨k+1,hki,by go_num,by rw[D5],wh.trans (af eu wh.size)⟩,by simp only[intOf];omega⟩
        · by_cases hnm : x.name = y.name
          · rw [decide_eq_true hnm] at D5
            rcases O2:ic PO.1 PS.1 with _|_
            · rw [O2] at D5
              refine dw (D:=Any) (w:=W4) 23 [(3,vL bw ow want.length cw),(12,vL b6 o6 Rl.length cR),(13,vI i),(14,vN),(15,vP w1.heap.size 0),(17,vI k),(18,vP w3.heap.size 0),(19,vY)] [vN,vN,vY,vY,vL b6 o6 Rl.length cR,vI k,vP b6 (o6+k * 6),vP b6 (o6+k * 6),vP b6 (o6+k * 6),vT x.name,vL bw ow want.length cw,vI i,vP bw (ow+i * 5),vP bw (ow+i * 5),vT y.name,vY,vY,vY,.eq (.agg #[.bool PO.1.iter,.slice pu PO.1.args.length cu,str PO.1.res,.slice pv PO.1.sigs.length cv]),.eq (.agg #[.bool PS.1.iter,.slice px PS.1.args.length cx,str PS.1.res,.slice py PS.1.sigs.length cy]),vN,vN,vN,vN] (λw'=>aW [(⟨b6,o6+k * 6,none⟩,str x.name),(⟨bw,ow+i * 5,none⟩,str y.name),(⟨w3.heap.size,0,none⟩,.bool PO.1.iter),(⟨w3.heap.size,1,none⟩,.slice pu PO.1.args.length cu),(⟨w3.heap.size,2,none⟩,str PO.1.res),(⟨w3.heap.size,3,none⟩,.slice pv PO.1.sigs.length cv),(⟨w1.heap.size,0,none⟩,.bool PS.1.iter),(⟨w1.heap.size,1,none⟩,.slice px PS.1.args.length cx),(⟨w1.heap.size,2,none⟩,str PS.1.res),(⟨w1.heap.size,3,none⟩,.slice py PS.1.sigs.length cy)] w'∧aT Any w' (.agg #[.bool PO.1.iter,.slice pu PO.1.args.length cu,str PO.1.res,.slice pv PO.1.sigs.length cv]) PO.1∧aT Any w' (.agg #[.bool PS.1.iter,.slice px PS.1.args.length cx,str PS.1.res,.slice py PS.1.sigs.length cy]) PS.1) (by kernel_rfl) rfl (λ_ _ h hb=>⟨h.1.below hb,h.2.1.below hb (nl _),h.2.2.below hb (nl _)⟩) ⟨(by(iterate 10 refine cM (by assumption) ?_);exact gD),Qv.below (Below.refl _ W4).drew (nl _),KI.below (Below.refl _ W4).drew (nl _)⟩ ⟨rfl,rfl,rfl,rfl,rfl,rfl,rfl,rfl,trivial⟩ ?_ ?_
              · iterate 24
                 refine And.intro ?_ ?_
                 · first
                   | exact bV (by kernel_rfl) rfl
                   | exact mT rfl rfl (by kernel_rfl)
                   | exact dS rfl (by kernel_rfl) (by kernel_rfl) rfl rfl
                   | exact fK rfl (by kernel_rfl) rfl rfl (λw=>by simp[go_sem])
                   | exact fZ rfl (by kernel_rfl) rfl rfl rfl (λw=>by simp[go_sem,hlt,hki])
                   | exact fq rfl (by kernel_rfl) rfl rfl (λw hS=>by simp[go_sem,(hS.1.get 0 rfl),(hS.1.get 1 rfl),(hS.1.get 2 rfl),(hS.1.get 3 rfl),(hS.1.get 4 rfl),(hS.1.get 5 rfl),(hS.1.get 6 rfl),(hS.1.get 7 rfl),(hS.1.get 8 rfl),(hS.1.get 9 rfl)])
                   | exact eS (s1:=.eq (.agg #[.bool PO.1.iter,.slice pu PO.1.args.length cu,str PO.1.res,.slice pv PO.1.sigs.length cv])) (s2:=.eq (.agg #[.bool PS.1.iter,.slice px PS.1.args.length cx,str PS.1.res,.slice py PS.1.sigs.length cy])) rfl (enters_of Tryz.func26 (by kernel_rfl) rfl) (by kernel_rfl) rfl (by kernel_rfl) (by kernel_rfl) (λv v2 wx hS h1 h2=>by rw[show v=_ from h1,show v2=_ from h2];exact(nK PO.1 PS.1 _ _ wx hS.2.1 hS.2.2).mono (by rintro e w' ⟨rfl,hb⟩;exact⟨_,rfl,(show Value.bool (ic PO.1 PS.1)=.bool false by rw[O2]),hb⟩))
                   | exact dA rfl (by kernel_rfl) rfl rfl rfl (λw=>by simp[go_sem,hnm])
                exact trivial
              · intro aE wE jv eu _
                simp only[pq,pz,pw];go_wp2_with fail;exact⟨⟨k+1,hki,by go_num,by rw[D5];rfl,wh.trans (af eu wh.size)⟩,by simp only[intOf];omega⟩
            · rw [O2] at D5
              refine dw (D:=Any) (w:=W4) 23 [(3,vL bw ow want.length cw),(12,vL b6 o6 Rl.length cR),(13,vI i),(14,vN),(15,vP w1.heap.size 0),(17,vI k),(18,vP w3.heap.size 0),(19,vY)] [vN,vN,vY,vY,vL b6 o6 Rl.length cR,vI k,vP b6 (o6+k * 6),vP b6 (o6+k * 6),vP b6 (o6+k * 6),vT x.name,vL bw ow want.length cw,vI i,vP bw (ow+i * 5),vP bw (ow+i * 5),vT y.name,vY,vY,vY,.eq (.agg #[.bool PO.1.iter,.slice pu PO.1.args.length cu,str PO.1.res,.slice pv PO.1.sigs.length cv]),.eq (.agg #[.bool PS.1.iter,.slice px PS.1.args.length cx,str PS.1.res,.slice py PS.1.sigs.length cy]),vY,vY,vY,vY] (λw'=>aW [(⟨b6,o6+k * 6,none⟩,str x.name),(⟨bw,ow+i * 5,none⟩,str y.name),(⟨w3.heap.size,0,none⟩,.bool PO.1.iter),(⟨w3.heap.size,1,none⟩,.slice pu PO.1.args.length cu),(⟨w3.heap.size,2,none⟩,str PO.1.res),(⟨w3.heap.size,3,none⟩,.slice pv PO.1.sigs.length cv),(⟨w1.heap.size,0,none⟩,.bool PS.1.iter),(⟨w1.heap.size,1,none⟩,.slice px PS.1.args.length cx),(⟨w1.heap.size,2,none⟩,str PS.1.res),(⟨w1.heap.size,3,none⟩,.slice py PS.1.sigs.length cy)] w'∧aT Any w' (.agg #[.bool PO.1.iter,.slice pu PO.1.args.length cu,str PO.1.res,.slice pv PO.1.sigs.length cv]) PO.1∧aT Any w' (.agg #[.bool PS.1.iter,.slice px PS.1.args.length cx,str PS.1.res,.slice py PS.1.sigs.length cy]) PS.1) (by kernel_rfl) rfl (λ_ _ h hb=>⟨h.1.below hb,h.2.1.below hb (nl _),h.2.2.below hb (nl _)⟩) ⟨(by(iterate 10 refine cM (by assumption) ?_);exact gD),Qv.below (Below.refl _ W4).drew (nl _),KI.below (Below.refl _ W4).drew (nl _)⟩ ⟨rfl,rfl,rfl,rfl,rfl,rfl,rfl,rfl,trivial⟩ ?_ ?_
              · iterate 24
                 refine And.intro ?_ ?_
                 · first
                   | exact bV (by kernel_rfl) rfl
                   | exact mT rfl rfl (by kernel_rfl)
                   | exact dS rfl (by kernel_rfl) (by kernel_rfl) rfl rfl
                   | exact fK rfl (by kernel_rfl) rfl rfl (λw=>by simp[go_sem])
                   | exact fZ rfl (by kernel_rfl) rfl rfl rfl (λw=>by simp[go_sem,hlt,hki])
                   | exact fq rfl (by kernel_rfl) rfl rfl (λw hS=>by simp[go_sem,(hS.1.get 0 rfl),(hS.1.get 1 rfl),(hS.1.get 2 rfl),(hS.1.get 3 rfl),(hS.1.get 4 rfl),(hS.1.get 5 rfl),(hS.1.get 6 rfl),(hS.1.get 7 rfl),(hS.1.get 8 rfl),(hS.1.get 9 rfl)])
                   | exact eS (s1:=.eq (.agg #[.bool PO.1.iter,.slice pu PO.1.args.length cu,str PO.1.res,.slice pv PO.1.sigs.length cv])) (s2:=.eq (.agg #[.bool PS.1.iter,.slice px PS.1.args.length cx,str PS.1.res,.slice py PS.1.sigs.length cy])) rfl (enters_of Tryz.func26 (by kernel_rfl) rfl) (by kernel_rfl) rfl (by kernel_rfl) (by kernel_rfl) (λv v2 wx hS h1 h2=>by rw[show v=_ from h1,show v2=_ from h2];exact(nK PO.1 PS.1 _ _ wx hS.2.1 hS.2.2).mono (by rintro e w' ⟨rfl,hb⟩;exact⟨_,rfl,(show Value.bool (ic PO.1 PS.1)=.bool true by rw[O2]),hb⟩))
                   | exact dA rfl (by kernel_rfl) rfl rfl rfl (λw=>by simp[go_sem,hnm])
                exact trivial
              · intro aE wE jv eu _
                simp only[pq,pz,pw];go_wp2_with fail;exact⟨⟨k+1,hki,by go_num,by rw[D5];rfl,wh.trans (af eu wh.size)⟩,by simp only[intOf];omega⟩
          · rw [decide_eq_false hnm] at D5
            refine dw (D:=Any) (w:=W4) 23 [(3,vL bw ow want.length cw),(12,vL b6 o6 Rl.length cR),(13,vI i),(14,vN),(17,vI k),(19,vY)] [vN,vN,vY,vY,vL b6 o6 Rl.length cR,vI k,vP b6 (o6+k * 6),vP b6 (o6+k * 6),vP b6 (o6+k * 6),vT x.name,vL bw ow want.length cw,vI i,vP bw (ow+i * 5),vP bw (ow+i * 5),vT y.name,vN,vN,vN,vK,vK,vK,vN,vN,vN] (aW [(⟨b6,o6+k * 6,none⟩,str x.name),(⟨bw,ow+i * 5,none⟩,str y.name)]) (by kernel_rfl) rfl (λ_ _ h hb=>h.below hb) (by(iterate 2 refine cM (by assumption) ?_);exact gD) ⟨rfl,rfl,rfl,rfl,rfl,rfl,trivial⟩ ?_ ?_
            · iterate 24
               refine And.intro ?_ ?_
               · first
                 | exact bV (by kernel_rfl) rfl
                 | exact mT rfl rfl (by kernel_rfl)
                 | exact dS rfl (by kernel_rfl) (by kernel_rfl) rfl rfl
                 | exact fK rfl (by kernel_rfl) rfl rfl (λw=>by simp[go_sem])
                 | exact fZ rfl (by kernel_rfl) rfl rfl rfl (λw=>by simp[go_sem,hlt,hki])
                 | exact fq rfl (by kernel_rfl) rfl rfl (λw hS=>by simp[go_sem,(hS.get 0 rfl),(hS.get 1 rfl)])
                 | exact dA rfl (by kernel_rfl) rfl rfl rfl (λw=>by simp[go_sem,hnm])
              exact trivial
            · intro aE wE jv eu _
              simp only[pq,pz,pw];go_wp2_with fail;exact⟨⟨k+1,hki,by go_num,by rw[D5];rfl,wh.trans (af eu wh.size)⟩,by simp only[intOf];omega⟩
      · rw [Bool.true_or] at D5
        refine dw (D:=Any) (w:=W4) 23 [(14,vY)] [vY,vY,vK,vK,vK,vK,vK,vK,vK,vK,vK,vK,vK,vK,vK,vK,vK,vK,vK,vK,vK,vK,vY,vY] (aW []) (by kernel_rfl) rfl (λ_ _ h hb=>h.below hb) (λp hp=>by cases hp) ⟨rfl,trivial⟩ ?_ ?_
        · iterate 24
           refine And.intro ?_ ?_
           · first
             | exact bV (by kernel_rfl) rfl
             | exact mT rfl rfl (by kernel_rfl)
             | exact dS rfl (by kernel_rfl) (by kernel_rfl) rfl rfl
             | exact fK rfl (by kernel_rfl) rfl rfl (λw=>by simp[go_sem])
             | exact fZ rfl (by kernel_rfl) rfl rfl rfl (λw=>by simp[go_sem,hlt,hki])
             | exact fq rfl (by kernel_rfl) rfl rfl (λw hS=>by simp[go_sem])
             | exact dA rfl (by kernel_rfl) rfl rfl rfl (λw=>by simp[go_sem])
          exact trivial
        · intro aE wE jv eu _
          simp only[pq,pz,pw];go_wp2_with fail;exact⟨⟨k+1,hki,by go_num,by rw[D5],wh.trans (af eu wh.size)⟩,by simp only[intOf];omega⟩
set_option maxRecDepth 8000 in
theorem F2 {D D' D3:Nat→Prop} (c:aR) (k0:Nat) (hG:wM c k0) (lv nv wv:Value) (want:List aG) (t:List UInt8) (w:World) (hl:aZ D w lv c.bK) (hn:aJ D' w nv c.ag) (hw:aJ D3 w wv want) (oO:∀o∈want,o.sig.args.length≤100000)
 (ht:t.length≤maxLen) (hne:t≠[]) (hk:iz t<k0) (y:aG) (hy:want[0]? =some y) (bY:cV c k0 t≠0):
 Calls Tryz.prog 131 #[lv,nv,.bool c.par,wv,str t] w λe w'=>e=.returned (.tuple #[str y.name,.bool false])∧Below w.heap.size w w':=by
 have GM:=hG D D' lv nv t w hl hn ht hk
 obtain⟨g1,g2⟩:=bC bY
 have hwp:0<want.length:=(List.getElem?_eq_some_iff.1 hy).1
 have gw:(0:Int)<(want.length:Int):=by omega
 have S2:=λ(x:Value) (s:cD) (W:World) (hx:aT Any W x s) (hl:s.args.length≤100000)=>qd x s t W hx hne ht hl
 obtain⟨pw,cw,rfl,_,hm,_⟩:=hw.shape
 obtain⟨bw,ow,av,sv,rfl,_,⟨ZO,Vc⟩,dy,cQ,d0,d1,d2,d3,d4⟩:=hw.at hy
 rw[Nat.zero_mul,Nat.add_zero] at d0 d1 d2 d3 d4
 have mP:∀W,Below w.heap.size w W→aT Any W (.agg #[.bool y.sig.iter,av,str y.sig.res,sv]) y.sig:=λW hW=>⟨_,_,rfl,Vc,(dy.mono λ_ _=>trivial).below hW (nl _),(cQ.mono λ_ _=>trivial).below hW (nl _)⟩
 have Xx:=Lib.hid mP
 obtain⟨pa,ca,rfl,_⟩:=dy.shape
 obtain⟨ps,cs,rfl,_⟩:=cQ.shape
 obtain⟨pl,cl,rfl,_⟩:=hl.shape
 obtain⟨pn,cn,rfl,_⟩:=hn.shape
 have KY:=oO y (List.mem_of_getElem? hy)
 unfold maxLen at hm
 clear oO hy hG bY dy cQ mP hw
 generalize cV c k0 t=GN at *
 go_enter Tryz.func131,Tryz.ntmps131
 go_wp2_with (go_at_call 68;refine GM.mono ?_;clear GM;rintro e w1 ⟨rfl,ay⟩)
 have d0:=Below.keep ay d0
 have d1:=Below.keep ay d1
 have d2:=Below.keep ay d2
 have d3:=Below.keep ay d3
 have d4:=Below.keep ay d4
 have HC:=S2 _ y.sig w1 (Xx.out _ ay) KY
 generalize bZ y.sig t=PS at *
 go_loopw [13] (λa wx=>a=.int .i64 0∧wx=w1) (λ_ _=>0)
 case atStart=>exact⟨rfl,rfl⟩
 case round=>
  obtain⟨rfl,rfl⟩:=hrel;cases hsh:decide (PS.2=0)
  all_goals
   rw[hsh] at HC;go_wp2_with (go_at_call 135;refine HC.mono ?_;clear HC;rintro e w2 ⟨u,rfl,⟨au,su,rfl,lu,ru,qu⟩,aA⟩;obtain⟨px,cx,rfl,_⟩:=ru.shape;obtain⟨py,cy,rfl,_⟩:=qu.shape);have kj:=aA.trans (af ((Below.refl w2.heap.size w2).alloc (nl _) (.cells #[.bool PS.1.iter,.slice px PS.1.args.length cx,str PS.1.res,.slice py PS.1.sigs.length cy] 36)) aA.size);have d0e:=Below.keep kj d0;have Kz:=ay.trans (af kj ay.size);generalize hW:w2.alloc (.cells #[.bool PS.1.iter,.slice px PS.1.args.length cx,str PS.1.res,.slice py PS.1.sigs.length cy] 36)=W2 at *;go_loopw [14,17] (λf a wx=>f=.bool false∧a=.int .i64 0∧wx=W2) (λ_ _ _=>0)
   case atStart=>exact⟨rfl,rfl,rfl⟩
   case round=>
    obtain⟨rfl,rfl,rfl⟩:=hrel;clear hW;go_wp2_with fail;go_ret2;exact⟨rfl,Kz⟩
set_option maxRecDepth 8000 in
theorem F3 {D D':Nat→Prop} (c:aR) (lv nv:Value) (p:Option Addr) (cw:Nat) (t:List UInt8) (w:World) (hl:aZ D w lv c.bK) (hn:aJ D' w nv c.ag):
 Calls Tryz.prog 131 #[lv,nv,.bool c.par,.slice p 0 cw,str t] w λe w'=>e=.returned (.tuple #[str [],.bool true])∧Below w.heap.size w w':=by
 obtain⟨pl,cl,rfl,_⟩:=hl.shape
 obtain⟨pn,cn,rfl,_⟩:=hn.shape
 go_enter Tryz.func131,Tryz.ntmps131
 go_wp2_with fail
 go_loopw [13] (λa wx=>a=.int .i64 0∧wx=w) (λ_ _=>0)
 case atStart=>exact⟨rfl,rfl⟩
 case round=>
  obtain⟨rfl,rfl⟩:=hrel;go_wp2_with fail;go_ret2;exact⟨rfl,Below.refl _ _⟩
theorem F1 {c:aR} (fW:qm c) {t:List UInt8} (h0:(aq t).1=0):tj c t:=MH h0 fW.1 (dr fW.2).2
theorem yb {D D' D3:Nat→Prop} (c:aR) (k0:Nat) (hG:wM c (k0+1)) (fW:qm c) (lv nv wv:Value) (want:List aG) (t:List UInt8) (w:World) (hl:aZ D w lv c.bK) (hn:aJ D' w nv c.ag) (hw:aJ D3 w wv want) (oO:∀o∈want,o.sig.args.length≤100000)
 (h0:(aq t).1=0) (hne:t≠[]) (hk:iz t<k0+1):
 Calls Tryz.prog 131 #[lv,nv,.bool c.par,wv,str t] w λe w'=>e=.returned (.tuple #[str ((sJ c (k0+1) want t).getD []),.bool (sJ c (k0+1) want t).isNone])∧Below w.heap.size w w':=by
 obtain⟨r1,r2⟩:=F1 fW h0
 by_cases hw0:want=[]
 · subst hw0
   obtain⟨p,cw,rfl,_⟩:=hw.shape;exact F3 c lv nv p cw t w hl hn
 · by_cases bY:cV c (k0+1) t=0
   · have hF:sJ c (k0+1) want t=jY (cN (nI c t),(cG c t).2) want t:=by unfold sJ GX;rw[if_pos ⟨hw0,bY⟩]
     rw[hF];refine Dw c (k0+1) hG lv nv wv want t w hl hn hw oO h0 hne hk hw0 bY (λx hx=>(r2 x ?_).1) (λh7=>?_) (Nat.le_trans (dr fW.2).1 (by decide)) r1
     · exact(x8 c h0).mem_iff.1 ((jg _).mem_iff.1 hx)
     · obtain⟨f,hf⟩:=CA bY h7
       exact⟨f,hf,Nat.le_trans (ec (fW.1 f (List.mem_of_find?_eq_some hf))).2.2.2.2.2.2.1 (by decide)⟩
   · obtain⟨y,hy⟩:∃y,want[0]? =some y:=by
      cases want with
      | nil=>exact absurd rfl hw0
      | cons y l=>exact⟨y,rfl⟩
     have hF:sJ c (k0+1) want t=some y.name:=by
      unfold sJ jY GX;rw[if_neg (λh=>bY h.2)];cases want with
      | nil=>exact absurd rfl hw0
      | cons z l=>
       simp only[List.getElem?_cons_zero,Option.some.injEq] at hy;subst hy;rw[List.find?_cons_of_pos (by simp[A5])]
       rfl
     rw[hF];exact F2 c (k0+1) hG lv nv wv want t w hl hn hw oO (qP h0).1 hne hk y hy bY
end Go.Proofs.YtakgjcfkdemipaaGreatDoor
