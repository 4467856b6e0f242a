/-
  Lemmas for the statement: contracts: of the package face: (scope).op$1; slices.IndexFunc over operations with it. Contract: of the package face: (scope).op. Contract: of the package face: (scope).lacks. Conditions: bounds of lengths; the variable strings.asciiSpace.
-/
import Derived.Test.YtakgjcfkdemipaaGreatDoorZGn
import Derived.Test.YtakgjcfkdemipaaGreatDoorZG22
set_option maxHeartbeats 25600000
namespace Go.Proofs.YtakgjcfkdemipaaGreatDoor
open Go.RowKit
def named (n:List UInt8) (o:aG):Bool:=o.name==n
theorem A6 (n:List UInt8) (o:aG):named n o=decide (o.name=n):=by
 unfold named
 by_cases h:o.name=n<;>simp[h]
theorem qC {α:Type} (p:α→Bool):∀(l:List α) (k:Nat),(pM p l k= -1∧l.find? p=none)∨∃(i:Nat) (x:α),pM p l k=((k+i:Nat):Int)∧l.find? p=some x∧l[i]? =some x
 | [],k=>.inl ⟨rfl,rfl⟩
 | x::r,k=>by
  rw[pM];rcases h:p x with _|_
  · rw[List.find?_cons_of_neg (by simp[h])]
    simp only[Bool.false_eq_true,if_false];rcases qC p r (k+1) with h2|⟨i,y,h2,h3,h4⟩
    · exact .inl h2
    · exact .inr ⟨i+1,y,by rw[h2];omega,h3,h4⟩
  · rw[List.find?_cons_of_pos h]
    exact .inr ⟨0,x,by simp,rfl,rfl⟩
theorem K9 {D:Nat→Prop} (x:aG) (n:List UInt8) (v:Value) (ob:Nat) (w:World) (hv:gR D w v x) (hc:w.cell? ⟨ob,0,none⟩=some (str n)):
 Calls Tryz.prog 137 #[v,.pointer (some ⟨ob,0,none⟩)] w λe w'=>e=.returned (.bool (named n x))∧Below w.heap.size w w':=by
 obtain⟨a,s,rfl,_,h2,h3⟩:=hv
 obtain⟨pa,ca,rfl,_⟩:=h2.shape
 obtain⟨ps,cs,rfl,_⟩:=h3.shape
 have hA:=(Below.refl _ w).alloc (nl _) (.cells #[str x.name,.bool x.sig.iter,.slice pa x.sig.args.length ca,str x.sig.res,.slice ps x.sig.sigs.length cs] 50)
 have hc:=Below.keep hA hc
 clear h2 h3
 rcases hq:(x.name==n) with _|_
 all_goals
  have HX:=Lib.hid (show named n x=_ from hq);go_enter Tryz.func137,Tryz.ntmps137;go_wp2_with fail;go_ret;rw[HX.out];exact⟨by first|rfl|simp,hA⟩
set_option maxRecDepth 4000 in
theorem AB {D:Nat→Prop} (l:List aG) (n:List UInt8) (v:Value) (ob:Nat) (w:World) (hv:aJ D w v l) (hc:w.cell? ⟨ob,0,none⟩=some (str n)):
 Calls Tryz.prog 136 #[v,.func (.func 137) #[] #[.pointer (some ⟨ob,0,none⟩)]] w λe w'=>e=.returned (.int .i64 (pM (named n) l 0))∧Below w.heap.size w w':=by
 obtain⟨p,c,rfl,_,hm,hle⟩:=hv.shape
 unfold maxLen at hm
 clear hle
 go_enter Tryz.func136,Tryz.ntmps136
 go_wp2_with fail
 go_loopw [8] (λa wr=>∃i:Nat,i≤l.length∧a=.int .i64 i∧Below w.heap.size w wr∧Hid (pM (named n) l 0=pM (named n) (l.drop i) i)) (λa _=>l.length - (intOf a).toNat)
 case atStart=>exact⟨0,Nat.zero_le _,rfl,Below.refl _ _,rfl⟩
 case round=>
  obtain⟨i,hi,rfl,hb,hA⟩:=hrel
  by_cases hlt:i<l.length
  case neg=>
   have HX:=Lib.hid (show pM (named n) l 0= -1 by rw[hA.out,List.drop_eq_nil_of_le (by omega)];rfl);clear hA;go_wp2_with fail;go_ret;exact⟨by rw[HX.out];rfl,hb⟩
  case pos=>
   obtain⟨x,hkx⟩:∃x,l[i]? =some x:=⟨_,List.getElem?_eq_getElem hlt⟩
   obtain⟨b1,o1,av,sv,rfl,_,hle,dy,cQ,uR,kK,mR,qG,sN⟩:=(hv.below hb (nl _)).at hkx;have HN:=K9 x n _ ob wr ⟨av,sv,rfl,hle,dy,cQ⟩ (Below.keep hb hc);obtain⟨pa,ca,rfl,_⟩:=dy.shape;obtain⟨ps,cs,rfl,_⟩:=cQ.shape;have hd:=hA.out;rw[bp hkx,pM] at hd;clear hA hkx dy cQ;rcases hn:named n x with _|_
   · rw[hn] at HN hd
     have HX:=Lib.hid (hd.trans (if_neg (by simp)));clear hd hn;go_wp2_with (go_at_call 137;refine HN.mono ?_;clear HN;rintro e w1 ⟨rfl,ay⟩);exact⟨⟨i+1,by omega,by go_num,hb.trans (af ay hb.size),HX⟩,by simp only[intOf];omega⟩
   · rw[hn] at HN hd
     have HX:=Lib.hid (hd.trans (if_pos rfl));clear hd hn;go_wp2_with (go_at_call 137;refine HN.mono ?_;clear HN;rintro e w1 ⟨rfl,ay⟩);go_ret;exact⟨by rw[HX.out];rfl,hb.trans (af ay hb.size)⟩
end Go.Proofs.YtakgjcfkdemipaaGreatDoor
namespace Go.Proofs.YtakgjcfkdemipaaGreatDoor
open Go.RowKit
theorem FG {c:aR} {t n:List UInt8} (h:(cG c t).1.find? (named n)=none):oE c t n=(.zero,40):=by
 unfold oE
 rw[show(λo:aG=>decide (o.name=n))=named n from funext λo=>(A6 n o).symm,h]
theorem FH {c:aR} {t n:List UInt8} {o:aG} (h:(cG c t).1.find? (named n)=some o):oE c t n=bZ o.sig (cG c t).2:=by
 unfold oE
 rw[show(λo:aG=>decide (o.name=n))=named n from funext λo=>(A6 n o).symm,h]
def tj (c:aR) (t:List UInt8):Prop:=(cG c t).2.length≤maxLen∧∀o∈(cG c t).1,o.sig.args.length≤100000∧o.sig.sigs.length≤100000
set_option maxRecDepth 8000 in
theorem I9 {D:Nat→Prop} (c:aR) (v:Value) (t n:List UInt8) (w:World) (hv:ScopeM D w v c) (hty:GW t) (hro:tj c t) (hT:fN w) (ha:oF c.bK) (hn:c.ag.length≤100000) (hk:1≤(aq t).2.k∧(aq t).2.k≤8):
 Calls Tryz.prog 72 #[v,str t,str n] w λe w'=>∃u,e=.returned (.tuple #[u,.int .i64 (oE c t n).2])∧aT (λb=>w.heap.size≤b) w' u (oE c t n).1∧Below w.heap.size w w':=by
 have KU:=hv
 obtain⟨m,q,cq,rfl⟩:=hv.shape
 have cI:=heap_alloc_new w (.cells #[.map (some m),.slice q c.ag.length cq,.bool c.par] 86)
 have hA:=(Below.refl _ w).alloc (nl _) (.cells #[.map (some m),.slice q c.ag.length cq,.bool c.par] 86)
 have Gx:=hA.alloc (by simp) (.cells #[str n] 9)
 have Ao:=dD (w:=w.alloc (.cells #[.map (some m),.slice q c.ag.length cq,.bool c.par] 86)) (n:=w.heap.size+1) (by simp) #[str n] 9
 have MV:=Gx.alloc (by simp;omega) (.cells #[.bool false,.slice none 0 0,.string ⟨#[]⟩,.slice none 0 0] 36)
 have Wo:=dD (w:=(w.alloc (.cells #[.map (some m),.slice q c.ag.length cq,.bool c.par] 86)).alloc (.cells #[str n] 9)) (n:=w.heap.size+1+1) (by simp) #[.bool false,.slice none 0 0,.string ⟨#[]⟩,.slice none 0 0] 36
 have Ao:=aH (.cells #[.bool false,.slice none 0 0,.string ⟨#[]⟩,.slice none 0 0] 36) Ao
 have cI:=aH (.cells #[.bool false,.slice none 0 0,.string ⟨#[]⟩,.slice none 0 0] 36) (aH (.cells #[str n] 9) cI)
 have HR:=Ey c _ t _ (KU.below MV (nl _)) hty (hT.below MV (nl _)) ha hn hk
 have bx:=gB cI
 have HT:=Lib.hid (λW (hW:Below w.heap.size w W)=>hT.below hW (nl _))
 have HO:=qC (named n) (cG c t).1 0
 have E7:=λh=>FG (c:=c) (t:=t) (n:=n) h
 have TT:=λo h=>FH (c:=c) (t:=t) (n:=n) (o:=o) h
 obtain⟨hal,hro⟩:=hro
 clear hv KU hk hty hT
 generalize cG c t=RK at *
 generalize oE c t n=OI at *
 rcases HO with⟨hi,hf⟩|⟨i,x,hi,hf,hx⟩
 · obtain rfl:=E7 hf
   clear E7 TT hf;go_enter Tryz.func72,Tryz.ntmps72;go_wp2_with (first
    | (go_at_call 136;refine(AB RK.1 n _ (w.heap.size+1) _ hu ((ak (ah Ao ay) 0).trans rfl)).mono ?_;rintro e w2 ⟨rfl,aA⟩;rw[hi];have KL:=ah Nn aA;have b4:=aU KL)
    | (go_at_call 63;refine HR.mono ?_;clear HR;rintro e w1 ⟨u,rfl,hu,ay⟩;obtain⟨pu,cu,rfl,_⟩:=hu.shape;have Nn:=ah Wo ay))
   refine bodyPost_ret (v:=.tuple #[.agg #[.bool false,.slice none 0 0,str [],.slice none 0 0],.int .i64 40]) (by simp[results,Tryz.results72,go_sem,b4.1]) rfl ?_;have bW:=MV.trans (af (ay.trans (af aA ay.size)) (by simp;omega));exact⟨_,rfl,aT.zero _ _,Below.fc bW (b:=w.heap.size+1+1) (by omega) _ _ _ _⟩
 · obtain rfl:=TT x hf
   clear E7 TT hf;have hi:pM (named n) RK.1 0=(i:Int):=by rw[hi];simp
   have hlt:i<RK.1.length:=(List.getElem?_eq_some_iff.1 hx).1;have hmem:=hro x (List.mem_of_getElem? hx);have ZM:=Lib.hid hx;clear hro hx;go_enter Tryz.func72,Tryz.ntmps72;go_wp2_with (first
    | (go_at_call 64;refine(sY _ x.sig RK.2 _ (HT.out _ bW) ⟨_,_,rfl,kC,dy,cQ⟩ hmem.1 hmem.2 hal).mono ?_;rintro e w3 ⟨u3,rfl,⟨a3,q3,rfl,l3,r3,s3⟩,aK⟩;obtain⟨GI,cz,rfl,_⟩:=r3.shape;obtain⟨py,cy,rfl,_⟩:=s3.shape;have Uo:=ah KL aK;have b4:=aU Uo)
    | (go_at_call 136;refine(AB RK.1 n _ (w.heap.size+1) _ hu ((ak (ah Ao ay) 0).trans rfl)).mono ?_;rintro e w2 ⟨rfl,aA⟩;rw[hi];have KL:=ah Nn aA;have bW:=MV.trans (af (ay.trans (af aA ay.size)) (by simp;omega));obtain⟨b1,o1,av,sv,rfl,_,⟨_,kC⟩,dy,cQ,uR,kK,mR,qG,sN⟩:=(hu.below aA (nl _)).at ZM.out;obtain⟨pa,ca,rfl,_⟩:=dy.shape;obtain⟨ps,cs,rfl,_⟩:=cQ.shape)
    | (go_at_call 63;refine HR.mono ?_;clear HR;rintro e w1 ⟨u,rfl,hu,ay⟩;obtain⟨pu,cu,rfl,_⟩:=hu.shape;have Nn:=ah Wo ay))
   refine bodyPost_ret (v:=.tuple #[.agg #[.bool (bZ x.sig RK.2).1.iter,.slice GI (bZ x.sig RK.2).1.args.length cz,str (bZ x.sig RK.2).1.res,.slice py (bZ x.sig RK.2).1.sigs.length cy],.int .i64 (bZ x.sig RK.2).2]) (by simp[results,Tryz.results72,go_sem,b4.1]) rfl ?_;have dg:=bW.trans (af aK bW.size);have hs2:w.heap.size+1+1<w2.heap.size:=bH KL;refine⟨_,rfl,⟨_,_,rfl,l3,?_,?_⟩,Below.fc dg (b:=w.heap.size+1+1) (by omega) _ _ _ _⟩
   · exact(SS.fc r3 (b:=w.heap.size+1+1) (by intro b hb;omega) _ _ _ _).mono (by intro b hb;omega)
   · exact(SS.fc s3 (b:=w.heap.size+1+1) (by intro b hb;omega) _ _ _ _).mono (by intro b hb;omega)
end Go.Proofs.YtakgjcfkdemipaaGreatDoor
namespace Go.Proofs.YtakgjcfkdemipaaGreatDoor
open Go.RowKit
theorem IZ {c:aR} {t:List UInt8} {x:aG} {l:List aG} (h:xK c t x=false):dP c (x::l) t=dP c l t:=by
 unfold dP
 rw[List.find?_cons_of_neg (by simp[h])]
theorem rG {c:aR} {t:List UInt8} {x:aG} {l:List aG} (h:xK c t x=true):dP c (x::l) t=some x.name:=by
 unfold dP
 rw[List.find?_cons_of_pos h]
 rfl
set_option maxRecDepth 8000 in
theorem xL {D D' : Nat → Prop} (c : aR) (v : Value) (want : List aG) (wv : Value) (t : List UInt8) (w : World) (hv : ScopeM D w v c) (hw : aJ D' w wv want) (oO : ∀ o ∈ want, o.sig.args.length ≤ 100000 ∧ o.sig.sigs.length ≤ 100000) (hty : GW t) (hro : tj c t) (hT : fN w) (ha : oF c.bK) (hn : c.ag.length ≤ 100000) (hk : want ≠ [] → 1 ≤ (aq t).2.k ∧ (aq t).2.k ≤ 8) :
 Calls Tryz.prog 79 #[v,wv,str t] w λe w'=>e=.returned (.tuple #[str ((dP c want t).getD []),.bool (dP c want t).isSome])∧Below w.heap.size w w':=by
 have EI:=Lib.hid (λW (hW:Below w.heap.size w W) (n:List UInt8) (hne:want≠[])=>I9 c v t n W (hv.below hW (nl _)) hty hro (hT.below hW (nl _)) ha hn (hk hne))
 have VE:=Lib.hid (λW (hW:Below w.heap.size w W) (D0:Nat→Prop) (u:Value) (x:aG) (hx:x∈want) (hs:aT D0 W u x.sig)=>sY u x.sig t W (hT.below hW (nl _)) hs (oO x hx).1 (oO x hx).2 hty.1)
 obtain⟨m,q,cq,rfl⟩:=hv.shape
 obtain⟨p,cw,rfl,_,hm,_⟩:=hw.shape
 unfold maxLen at hm
 have cI:=heap_alloc_new w (.cells #[.map (some m),.slice q c.ag.length cq,.bool c.par] 86)
 have hA:=(Below.refl _ w).alloc (nl _) (.cells #[.map (some m),.slice q c.ag.length cq,.bool c.par] 86)
 clear hv oO hty hro hT ha hk
 go_enter Tryz.func79,Tryz.ntmps79
 go_wp2_with fail
 go_loopw [16] (λa wr=>∃i:Nat,i≤want.length∧a=.int .i64 i∧Below w.heap.size w wr∧wr.heap[w.heap.size]? =some (.cells #[.map (some m),.slice q c.ag.length cq,.bool c.par] 86 (0,0))∧Hid (dP c want t=dP c (want.drop i) t)) (λa _=>want.length - (intOf a).toNat)
 case atStart=>exact⟨0,Nat.zero_le _,by go_num,hA,cI,rfl⟩
 case round =>
  clear hA cI;obtain⟨i,hi,rfl,hb,iE,hL⟩:=hrel
  by_cases hlt:i<want.length
  case neg=>
   have HX:=Lib.hid (show dP c want t=none by rw[hL.out,List.drop_eq_nil_of_le (by omega)];rfl);clear hL;go_wp2_with fail;go_ret2;rw[HX.out];exact⟨rfl,hb⟩
  case pos =>
   obtain⟨x,hkx⟩:∃x,want[i]? =some x:=⟨_,List.getElem?_eq_getElem hlt⟩
   have hmem:=List.mem_of_getElem? hkx;have hne:want≠[]:=by intro e;rw[e] at hlt;simp at hlt
   obtain⟨b1,o1,av,sv,rfl,_,⟨_,kC⟩,dy,cQ,uR,kK,mR,qG,sN⟩:=(hw.below hb (nl _)).at hkx;obtain⟨pa,ca,rfl,_⟩:=dy.shape;obtain⟨ps,cs,rfl,_⟩:=cQ.shape;have hd:=hL.out;rw[bp hkx] at hd;clear hL hkx;have Me:=heap_alloc_new wr (.cells #[str x.name,.bool x.sig.iter,.slice pa x.sig.args.length ca,str x.sig.res,.slice ps x.sig.sigs.length cs] 79);have hE:=(Below.refl _ wr).alloc (nl _) (.cells #[str x.name,.bool x.sig.iter,.slice pa x.sig.args.length ca,str x.sig.res,.slice ps x.sig.sigs.length cs] 79);have ay:=hb.trans (af hE hb.size);have vZ:=dy.below hE (nl _);have v8:=cQ.below hE (nl _);have ff:=ah iE hE;have bs:=gB ff;have bn:=(bL Me).1;have HO:=EI.out _ ay x.name hne;have hlk:xK c t x=(decide ((oE c t x.name).2≠0)||decide ((bZ x.sig t).2≠0)|| !ic (oE c t x.name).1 (bZ x.sig t).1):=rfl;have HP:=λW hW D0 u hs=>VE.out W hW D0 u x hmem hs
   have cI:=iE;clear VE EI hmem;generalize oE c t x.name=OI at *;generalize bZ x.sig t=PK at *
   by_cases h0:OI.2=0
   case neg=>
    obtain⟨g1,g2⟩:=bC h0;have HX:=Lib.hid (hd.trans (rG (hlk.trans (by simp[h0]))));clear hd hlk h0;go_wp2_with (first
     | (go_at_call 64;refine(HP _ pH D' _ ⟨_,_,rfl,kC,(vZ.below aK (nl _)).below wY (nl _),(v8.below aK (nl _)).below wY (nl _)⟩).mono ?_;rintro e w4 ⟨u4,rfl,⟨a4,q4,rfl,l4,r4,s4⟩,hb4⟩;obtain⟨p4,c4,rfl,_⟩:=r4.shape;obtain⟨Di,Cr,rfl,_⟩:=s4.shape;have ua:=pH.trans (af hb4 pH.size);have qh:=(Below.refl _ w4).alloc (nl _) (.cells #[.bool PK.1.iter,.slice p4 PK.1.args.length c4,(.string ⟨PK.1.res.toArray⟩),.slice Di PK.1.sigs.length Cr] 36);have yM:=ua.alloc ua.size (.cells #[.bool PK.1.iter,.slice p4 PK.1.args.length c4,(.string ⟨PK.1.res.toArray⟩),.slice Di PK.1.sigs.length Cr] 36);have TE:=(aU (heap_alloc_new w4 (.cells #[.bool PK.1.iter,.slice p4 PK.1.args.length c4,(.string ⟨PK.1.res.toArray⟩),.slice Di PK.1.sigs.length Cr] 36))).1;have MY:=(aU (ah (ah MX hb4) qh)).1;have E6:=ah (ah sK hb4) qh;have S9:=(bL E6).1)
     | (go_at_call 72;refine HO.mono ?_;clear HO;rintro e w3 ⟨u3,rfl,⟨a3,q3,rfl,l3,r3,s3⟩,aK⟩;obtain⟨p3,c3,rfl,_⟩:=r3.shape;obtain⟨Dh,Cq,rfl,_⟩:=s3.shape;have sK:=ah Me aK;have S6:=(bL sK).1;have tZ:=ay.trans (af aK ay.size);have wY:=(Below.refl _ w3).alloc (nl _) (.cells #[.bool OI.1.iter,.slice p3 OI.1.args.length c3,(.string ⟨OI.1.res.toArray⟩),.slice Dh OI.1.sigs.length Cq] 36);have pH:=tZ.alloc tZ.size (.cells #[.bool OI.1.iter,.slice p3 OI.1.args.length c3,(.string ⟨OI.1.res.toArray⟩),.slice Dh OI.1.sigs.length Cq] 36);have MX:=heap_alloc_new w3 (.cells #[.bool OI.1.iter,.slice p3 OI.1.args.length c3,(.string ⟨OI.1.res.toArray⟩),.slice Dh OI.1.sigs.length Cq] 36);have sK:=ah sK wY;have MS:=(bL sK).1))
    go_ret2;rw[HX.out];exact⟨rfl,yM⟩
   case pos =>
    by_cases h1:PK.2=0
    case neg=>
     obtain⟨g1,g2⟩:=bC h1;have HX:=Lib.hid (hd.trans (rG (hlk.trans (by simp[h1]))));clear hd hlk h1;go_wp2_with (first
      | (go_at_call 64;refine(HP _ pH D' _ ⟨_,_,rfl,kC,(vZ.below aK (nl _)).below wY (nl _),(v8.below aK (nl _)).below wY (nl _)⟩).mono ?_;rintro e w4 ⟨u4,rfl,⟨a4,q4,rfl,l4,r4,s4⟩,hb4⟩;obtain⟨p4,c4,rfl,_⟩:=r4.shape;obtain⟨Di,Cr,rfl,_⟩:=s4.shape;have ua:=pH.trans (af hb4 pH.size);have qh:=(Below.refl _ w4).alloc (nl _) (.cells #[.bool PK.1.iter,.slice p4 PK.1.args.length c4,(.string ⟨PK.1.res.toArray⟩),.slice Di PK.1.sigs.length Cr] 36);have yM:=ua.alloc ua.size (.cells #[.bool PK.1.iter,.slice p4 PK.1.args.length c4,(.string ⟨PK.1.res.toArray⟩),.slice Di PK.1.sigs.length Cr] 36);have TE:=(aU (heap_alloc_new w4 (.cells #[.bool PK.1.iter,.slice p4 PK.1.args.length c4,(.string ⟨PK.1.res.toArray⟩),.slice Di PK.1.sigs.length Cr] 36))).1;have MY:=(aU (ah (ah MX hb4) qh)).1;have E6:=ah (ah sK hb4) qh;have S9:=(bL E6).1)
      | (go_at_call 72;refine HO.mono ?_;clear HO;rintro e w3 ⟨u3,rfl,⟨a3,q3,rfl,l3,r3,s3⟩,aK⟩;obtain⟨p3,c3,rfl,_⟩:=r3.shape;obtain⟨Dh,Cq,rfl,_⟩:=s3.shape;have sK:=ah Me aK;have S6:=(bL sK).1;have tZ:=ay.trans (af aK ay.size);have wY:=(Below.refl _ w3).alloc (nl _) (.cells #[.bool OI.1.iter,.slice p3 OI.1.args.length c3,(.string ⟨OI.1.res.toArray⟩),.slice Dh OI.1.sigs.length Cq] 36);have pH:=tZ.alloc tZ.size (.cells #[.bool OI.1.iter,.slice p3 OI.1.args.length c3,(.string ⟨OI.1.res.toArray⟩),.slice Dh OI.1.sigs.length Cq] 36);have MX:=heap_alloc_new w3 (.cells #[.bool OI.1.iter,.slice p3 OI.1.args.length c3,(.string ⟨OI.1.res.toArray⟩),.slice Dh OI.1.sigs.length Cq] 36);have sK:=ah sK wY;have MS:=(bL sK).1))
     go_ret2;rw[HX.out];exact⟨rfl,yM⟩
    case pos=>
     rcases hB:ic OI.1 PK.1 with _|_
     · have HX:=Lib.hid (hd.trans (rG (hlk.trans (by simp[hB]))))
       clear hd hlk;go_wp2_with (first
        | (go_at_call 139;refine(wX OI.1 PK.1 _ _ _ ⟨_,_,rfl,l3,((r3.below wY (nl _)).below hb4 (nl _)).below qh (nl _),((s3.below wY (nl _)).below hb4 (nl _)).below qh (nl _)⟩ ⟨_,_,rfl,l4,r4.below qh (nl _),s4.below qh (nl _)⟩).mono ?_;rintro e w5 ⟨rfl,cW⟩;rw[hB];have XJ:=(bL (ah E6 cW)).1;have Nl:=yM.trans (af cW yM.size))
        | (go_at_call 64;refine(HP _ pH D' _ ⟨_,_,rfl,kC,(vZ.below aK (nl _)).below wY (nl _),(v8.below aK (nl _)).below wY (nl _)⟩).mono ?_;rintro e w4 ⟨u4,rfl,⟨a4,q4,rfl,l4,r4,s4⟩,hb4⟩;obtain⟨p4,c4,rfl,_⟩:=r4.shape;obtain⟨Di,Cr,rfl,_⟩:=s4.shape;have ua:=pH.trans (af hb4 pH.size);have qh:=(Below.refl _ w4).alloc (nl _) (.cells #[.bool PK.1.iter,.slice p4 PK.1.args.length c4,(.string ⟨PK.1.res.toArray⟩),.slice Di PK.1.sigs.length Cr] 36);have yM:=ua.alloc ua.size (.cells #[.bool PK.1.iter,.slice p4 PK.1.args.length c4,(.string ⟨PK.1.res.toArray⟩),.slice Di PK.1.sigs.length Cr] 36);have TE:=(aU (heap_alloc_new w4 (.cells #[.bool PK.1.iter,.slice p4 PK.1.args.length c4,(.string ⟨PK.1.res.toArray⟩),.slice Di PK.1.sigs.length Cr] 36))).1;have MY:=(aU (ah (ah MX hb4) qh)).1;have E6:=ah (ah sK hb4) qh;have S9:=(bL E6).1)
        | (go_at_call 72;refine HO.mono ?_;clear HO;rintro e w3 ⟨u3,rfl,⟨a3,q3,rfl,l3,r3,s3⟩,aK⟩;obtain⟨p3,c3,rfl,_⟩:=r3.shape;obtain⟨Dh,Cq,rfl,_⟩:=s3.shape;have sK:=ah Me aK;have S6:=(bL sK).1;have tZ:=ay.trans (af aK ay.size);have wY:=(Below.refl _ w3).alloc (nl _) (.cells #[.bool OI.1.iter,.slice p3 OI.1.args.length c3,(.string ⟨OI.1.res.toArray⟩),.slice Dh OI.1.sigs.length Cq] 36);have pH:=tZ.alloc tZ.size (.cells #[.bool OI.1.iter,.slice p3 OI.1.args.length c3,(.string ⟨OI.1.res.toArray⟩),.slice Dh OI.1.sigs.length Cq] 36);have MX:=heap_alloc_new w3 (.cells #[.bool OI.1.iter,.slice p3 OI.1.args.length c3,(.string ⟨OI.1.res.toArray⟩),.slice Dh OI.1.sigs.length Cq] 36);have sK:=ah sK wY;have MS:=(bL sK).1))
       go_ret2;rw[HX.out];exact⟨rfl,Nl⟩
     · have HX:=Lib.hid (hd.trans (IZ (hlk.trans (by simp[hB,h0,h1]))))
       clear hd hlk;go_wp2_with (first
        | (go_at_call 139;refine(wX OI.1 PK.1 _ _ _ ⟨_,_,rfl,l3,((r3.below wY (nl _)).below hb4 (nl _)).below qh (nl _),((s3.below wY (nl _)).below hb4 (nl _)).below qh (nl _)⟩ ⟨_,_,rfl,l4,r4.below qh (nl _),s4.below qh (nl _)⟩).mono ?_;rintro e w5 ⟨rfl,cW⟩;rw[hB];have XJ:=(bL (ah E6 cW)).1;have Nl:=yM.trans (af cW yM.size))
        | (go_at_call 64;refine(HP _ pH D' _ ⟨_,_,rfl,kC,(vZ.below aK (nl _)).below wY (nl _),(v8.below aK (nl _)).below wY (nl _)⟩).mono ?_;rintro e w4 ⟨u4,rfl,⟨a4,q4,rfl,l4,r4,s4⟩,hb4⟩;obtain⟨p4,c4,rfl,_⟩:=r4.shape;obtain⟨Di,Cr,rfl,_⟩:=s4.shape;have ua:=pH.trans (af hb4 pH.size);have qh:=(Below.refl _ w4).alloc (nl _) (.cells #[.bool PK.1.iter,.slice p4 PK.1.args.length c4,(.string ⟨PK.1.res.toArray⟩),.slice Di PK.1.sigs.length Cr] 36);have yM:=ua.alloc ua.size (.cells #[.bool PK.1.iter,.slice p4 PK.1.args.length c4,(.string ⟨PK.1.res.toArray⟩),.slice Di PK.1.sigs.length Cr] 36);have TE:=(aU (heap_alloc_new w4 (.cells #[.bool PK.1.iter,.slice p4 PK.1.args.length c4,(.string ⟨PK.1.res.toArray⟩),.slice Di PK.1.sigs.length Cr] 36))).1;have MY:=(aU (ah (ah MX hb4) qh)).1;have E6:=ah (ah sK hb4) qh;have S9:=(bL E6).1)
        | (go_at_call 72;refine HO.mono ?_;clear HO;rintro e w3 ⟨u3,rfl,⟨a3,q3,rfl,l3,r3,s3⟩,aK⟩;obtain⟨p3,c3,rfl,_⟩:=r3.shape;obtain⟨Dh,Cq,rfl,_⟩:=s3.shape;have sK:=ah Me aK;have S6:=(bL sK).1;have tZ:=ay.trans (af aK ay.size);have wY:=(Below.refl _ w3).alloc (nl _) (.cells #[.bool OI.1.iter,.slice p3 OI.1.args.length c3,(.string ⟨OI.1.res.toArray⟩),.slice Dh OI.1.sigs.length Cq] 36);have pH:=tZ.alloc tZ.size (.cells #[.bool OI.1.iter,.slice p3 OI.1.args.length c3,(.string ⟨OI.1.res.toArray⟩),.slice Dh OI.1.sigs.length Cq] 36);have MX:=heap_alloc_new w3 (.cells #[.bool OI.1.iter,.slice p3 OI.1.args.length c3,(.string ⟨OI.1.res.toArray⟩),.slice Dh OI.1.sigs.length Cq] 36);have sK:=ah sK wY;have MS:=(bL sK).1))
       exact⟨⟨i+1,by omega,by go_num,Nl,ah (ah (ah (ah (ah ff aK) wY) hb4) qh) cW,HX⟩,by simp only[intOf];omega⟩
end Go.Proofs.YtakgjcfkdemipaaGreatDoor
namespace Go.Proofs.YtakgjcfkdemipaaGreatDoor
open Go.RowKit
theorem I3 {s:List UInt8} (h:(aq s).1=0):s.length≤100:=by
 rcases hq:aq s with⟨c,T⟩
 rw[hq] at h
 simp only at h
 subst h
 exact(bE hq).2.2.1
theorem qP {t:List UInt8} (h:(aq t).1=0):GW t:=by
 have hm:∀n,n≤100→n≤maxLen:=λn hn=>by unfold maxLen;omega
 refine⟨hm _ (I3 h),?_,?_,Nat.le_trans jy.2.2 (by decide),λx hx=>⟨Nat.le_trans (j5 (jy.1 x hx).1) (by decide),hm _ (I3 (jy.1 x hx).2)⟩⟩
 · unfold bQ
   split
   · rename_i h1
     rcases hq:lX t [4,7] with⟨c,T⟩;rw[hq] at h1;simp only at h1 ⊢;obtain⟨rfl,h2⟩:=h1;obtain⟨o1,e1,l1,_⟩:=bE (uJ hq).1;have h3:=Fo.ri h2;have h4:=(Fo.zv [] T.k T.n T.sub .nil).2.1;have h5:(Fo.one ⟨T.k,T.n,T.sub⟩).tx.length=T.txt.length:=by rw[Tr.eT]
     rw[e1] at h5;exact hm _ (by omega)
   · unfold maxLen;simp
 · by_cases h7:(aq t).2.k=7
   · exact hm _ (qX h h7).2.2.1
   · unfold dI
     rcases hq:lX t [7] with⟨c,T⟩
     by_cases hc:c=0
     · subst hc
       have:=uJ hq;rw[this.1] at h7;simp at this;exact absurd this.2 h7
     · rw[Eo hq hc]
       unfold maxLen;simp
def iM (c:aR):Prop:=oF c.bK∧c.ag.length≤100000∧(∀f∈c.bK,∀o∈f.ag,o.sig.args.length≤100000∧o.sig.sigs.length≤100000)∧∀t,(aq t).1=0→tj c t
def DP (D:Nat→Prop) (c:aR) (n:Nat):Prop:=
 ∀(v:Value) (t:List UInt8) (w:World),ScopeM D w v c→t.length≤maxLen→iz t<n→fN w→Calls Tryz.prog 59 #[v,str t] w λe w'=>e=.returned (.int .i64 (cV c n t))∧Below w.heap.size w w'
def vW (c:aR) (n:Nat) (want:List aG) (t:List UInt8):Bool:= !((decide (want≠[])&&decide (cV c n t≠0))||(dP c want t).isSome)
set_option maxRecDepth 8000 in
theorem tT {D D':Nat→Prop} (c:aR) (k:Nat) (hG:DP D c k) (fW:iM c) (v:Value) (want:List aG) (wv:Value) (t:List UInt8) (w:World) (hv:ScopeM D w v c) (hw:aJ D' w wv want) (oO:∀o∈want,o.sig.args.length≤100000∧o.sig.sigs.length≤100000) (CO:(aq t).1=0) (ZC:iz t<k) (hT:fN w):
 Calls Tryz.prog 76 #[v,wv,str t] w λe w'=>e=.returned (.bool (vW c k want t))∧Below w.heap.size w w':=by
 have hty:=qP CO
 have hkk:=gm CO
 obtain⟨m,q,cq,rfl⟩:=hv.shape
 have cI:=heap_alloc_new w (.cells #[.map (some m),.slice q c.ag.length cq,.bool c.par] 86)
 have hA:=(Below.refl _ w).alloc (nl _) (.cells #[.map (some m),.slice q c.ag.length cq,.bool c.par] 86)
 have HL:=λW (hW:Below w.heap.size w W)=>xL c _ want wv t W (hv.below hW (nl _)) (hw.below hW (nl _)) oO hty (fW.2.2.2 t CO) (hT.below hW (nl _)) fW.1 fW.2.1 (λ_=>hkk)
 have HG:=hG _ t _ (hv.below hA (nl _)) hty.1 ZC (hT.below hA (nl _))
 obtain⟨p,cw,rfl,_,hm,_⟩:=hw.shape
 unfold maxLen at hm
 have hw0:(decide (want≠[]))=decide (0<want.length):=by cases want<;>simp
 have bs:=gB cI
 have hfn:vW c k want t= !((decide (want≠[])&&decide (cV c k t≠0))||(dP c want t).isSome):=rfl
 rw[hw0] at hfn
 generalize vW c k want t=FN at *
 generalize cV c k t=GN at *
 generalize YC:dP c want t=LK at *
 clear YC hw0 hG fW hv hw oO hty hkk hT
 by_cases h0:0<want.length
 · by_cases hg:GN=0
   · subst hg
     have HX:=Lib.hid (show FN= !LK.isSome by rw[hfn];simp);clear hfn;cases LK
     all_goals
      dsimp only[Option.getD_none,Option.isSome_none,Option.getD_some,Option.isSome_some] at HL HX;go_enter Tryz.func76,Tryz.ntmps76;go_wp2_with (first
       | (go_at_call 79;refine(HL _ bJ).mono ?_;rintro e w2 ⟨rfl,aA⟩)
       | (go_at_call 59;refine HG.mono ?_;clear HG;rintro e w1 ⟨rfl,ay⟩;have bs1:=gB (ah cI ay);have bJ:=hA.trans (af ay (by simp))))
      go_ret;rw[HX.out];exact⟨rfl,bJ.trans (af aA bJ.size)⟩
   · obtain⟨g1,g2⟩:=bC hg
     have HX:=Lib.hid (show FN=false by rw[hfn];simp[h0,hg]);clear hfn hg;go_enter Tryz.func76,Tryz.ntmps76;go_wp2_with (go_at_call 59;refine HG.mono ?_;clear HG;rintro e w1 ⟨rfl,ay⟩;have bJ:=hA.trans (af ay (by simp)));go_ret;rw[HX.out];exact⟨rfl,bJ⟩
 · have HX:=Lib.hid (show FN= !LK.isSome by rw[hfn];simp[h0])
   obtain rfl:want=[]:=List.length_eq_zero_iff.1 (by omega);clear hfn h0;simp only[List.length_nil] at HL hm ⊢;cases LK
   all_goals
    dsimp only[Option.getD_none,Option.isSome_none,Option.getD_some,Option.isSome_some] at HL HX;go_enter Tryz.func76,Tryz.ntmps76;go_wp2_with (go_at_call 79;refine(HL _ hA).mono ?_;rintro e w2 ⟨rfl,aA⟩);go_ret;rw[HX.out];exact⟨rfl,hA.trans (af aA (by simp))⟩
end Go.Proofs.YtakgjcfkdemipaaGreatDoor
namespace Go.Proofs.YtakgjcfkdemipaaGreatDoor
open Go.RowKit
theorem gj {e:Nat} {l:List Nat} (h:e=0):dV (e::l)=dV l:=by rw[dV,if_pos h]
theorem eH {e:Nat} {l:List Nat} (h:e≠0):dV (e::l)=e:=by rw[dV,if_neg h]
theorem xQ {c:aR} {r:List UInt8→Nat} {u:List UInt8} (h:(aq u).2.k≠7):gH c r u=0:=by unfold gH;rw[if_neg h]
theorem j7 {c:aR} {r:List UInt8→Nat} {u:List UInt8} (h:(aq u).2.k=7) (hf:ez c.bK (dI u).1=none):gH c r u=5:=by unfold gH;rw[if_pos h,hf]
theorem fu {c:aR} {r:List UInt8→Nat} {u:List UInt8} {f:aB} (h:(aq u).2.k=7) (hf:ez c.bK (dI u).1=some f) (hx:¬(f.kind=3∧(bQ u).2.1=f.par)):gH c r u=5:=by unfold gH;rw[if_pos h,hf];simp only;rw[if_neg hx]
theorem uG {c:aR} {r:List UInt8→Nat} {u:List UInt8} {f:aB} (h:(aq u).2.k=7) (hf:ez c.bK (dI u).1=some f) (h3:f.kind=3) (hp:f.par=false) (ha:(bQ u).2.1=false):gH c r u=0:=by
 unfold gH
 rw[if_pos h,hf]
 simp only
 rw[if_pos ⟨h3,by rw[hp,ha]⟩,if_neg (by rw[ha];simp)]
theorem xP {c:aR} {n:Nat} {u:List UInt8} {f:aB} (h:(aq u).2.k=7) (hf:ez c.bK (dI u).1=some f) (h3:f.kind=3) (hp:f.par=true) (ha:(bQ u).2.1=true):gH c (cV c n) u=if vW c n f.ag (bQ u).1=true then 0 else 41:=by
 unfold gH vW
 rw[if_pos h,hf]
 simp only
 rw[if_pos ⟨h3,by rw[hp,ha]⟩,ha]
 by_cases h1:f.ag=[]<;>by_cases h2:cV c n (bQ u).1=0<;>cases (dP c f.ag (bQ u).1).isSome<;>simp[h1,h2]
set_option maxRecDepth 8000 in
theorem EY {D:Nat→Prop} (c:aR) (n:Nat) (hG:DP D c n) (fW:iM c):DP D c (n+1):=by
 intro v t w hv htl NA hT
 have HV:=Lib.hid (λW (hW:Below w.heap.size w W)=>hv.below hW (nl _))
 have HT:=Lib.hid (λW (hW:Below w.heap.size w W)=>hT.below hW (nl _))
 obtain⟨m,nv,rfl,hs,hN⟩:=hv
 have HS:=Lib.hid (λW (hW:Below w.heap.size w W)=>hs.below hW (nl _))
 obtain⟨q,cq,rfl,_⟩:=hN.shape
 have cI:=heap_alloc_new w (.cells #[.map (some m),.slice q c.ag.length cq,.bool c.par] 86)
 have hA:=(Below.refl _ w).alloc (nl _) (.cells #[.map (some m),.slice q c.ag.length cq,.bool c.par] 86)
 have HC:=CW t htl _ (HT.out _ hA)
 clear hs hN hT
 by_cases h0:(aq t).1=0
 case neg=>
  obtain⟨g1,g2⟩:=bC h0;have HX:=Lib.hid (show cV c (n+1) t=(aq t).1 by rw[cV,if_pos h0]);clear h0;generalize (aq t).1=C at *;generalize cV c (n+1) t=GN at *;go_enter Tryz.func59,Tryz.ntmps59;go_wp2_with fail
  go_step3
  go_wp2_with (go_at_call 116;refine HC.mono ?_;clear HC;rintro e w1 ⟨rfl,ay⟩);try rw[Exit.noGoto_ret]
  go_ret;rw[HX.out];exact⟨rfl,hA.trans (af ay (by simp))⟩
 case pos =>
  obtain⟨hi2,hil,Nv⟩:=uo h0
  by_cases ho:eW t=true∧c.par=false
  case pos=>
   obtain⟨kB,yO⟩:=ho;have HX:=Lib.hid (show cV c (n+1) t=43 by rw[cV,if_neg (by simp[h0]),if_pos ⟨kB,yO⟩]);have EI:=λW hW=>oe t htl W (HT.out W hW)
   rw[kB,h0] at EI;rw[h0] at HC;generalize cV c (n+1) t=GN at *;rw[yO] at cI hA HV HC;simp only[yO];clear h0 kB yO hi2 hil Nv;go_enter Tryz.func59,Tryz.ntmps59;go_wp2_with fail
   go_step3
   go_wp2_with (first
    | (go_at_call 117;refine(EI _ bJ).mono ?_;clear EI;rintro e w2 ⟨rfl,aA⟩;have LP:=gB (ah ff aA))
    | (go_at_call 116;refine HC.mono ?_;clear HC;rintro e w1 ⟨rfl,ay⟩;have ff:=ah cI ay;have bJ:=hA.trans (af ay (by simp))))
   try rw[Exit.noGoto_ret]
   go_ret;rw[HX.out];exact⟨rfl,bJ.trans (af aA bJ.size)⟩
  case neg =>
   have HX:=Lib.hid (show cV c (n+1) t=dV ((dO t).1.map (gH c (cV c n))) by rw[cV,if_neg (by simp[h0]),if_neg ho]);have EI:=λW hW=>oe t htl W (HT.out W hW)
   have On:=λW hW=>AM t htl W (HT.out W hW)
   rw[h0] at HC EI;generalize cV c (n+1) t=GN at *;unfold eG at On;rw[hi2] at On;generalize (dO t).1=l at *;have Sw:eW t=false∨c.par=true:=by cases h1:eW t<;>cases h2:c.par<;>simp_all
   clear ho h0 hi2;generalize eW t=O at *;have HK:=λ(u:List UInt8) (hu:u.length≤maxLen) W hW=>xG u hu W (HT.out W hW)
   have QU:O=false∨(O=true∧c.par=true):=by rcases Sw with h|h;exact .inl h;cases O;exact .inl rfl;exact .inr ⟨rfl,h⟩
   clear Sw;rcases QU with rfl|⟨rfl,OY⟩
   all_goals
    try rw[OY] at cI hA HC ⊢
    go_enter Tryz.func59,Tryz.ntmps59;go_wp2_with fail
    go_step3
    go_wp2_with (first
     | (go_at_call 118;refine(On _ bW).mono ?_;clear On;rintro e w3 ⟨vl,rfl,hown,aK⟩;obtain⟨pl,cl,rfl⟩:=aS hown;have iJ:=ah iw aK;have dg:=bW.trans (af aK bW.size))
     | (go_at_call 117;refine(EI _ bJ).mono ?_;clear EI;rintro e w2 ⟨rfl,aA⟩;have iw:=ah ff aA;have LP:=gB iw;have bW:=bJ.trans (af aA bJ.size))
     | (go_at_call 116;refine HC.mono ?_;clear HC;rintro e w1 ⟨rfl,ay⟩;have ff:=ah cI ay;have bJ:=hA.trans (af ay (by simp))))
    go_step3
    go_wp2_with fail;try rw[←OY] at iJ
    try clear OY
    have nW:SS (λ_=>True) w3 (.slice pl l.length cl) l:=SS.bG hown (λs hs=>Nat.le_trans (Nv s hs).2.1 (by decide)) (λ_ _=>trivial);have CD:=iJ;have Aj:=dg;clear hown iJ dg iw ff bJ bW ay aA aK LP hA cI;go_loopw [10,45] (λo y wr=>o=.int .i64 0∧∃i:Nat,i≤l.length∧y=.int .i64 i∧Below w.heap.size w wr∧wr.heap[w.heap.size]? =some (.cells #[.map (some m),.slice q c.ag.length cq,.bool c.par] 86 (0,0))∧SS (λ_=>True) wr (.slice pl l.length cl) l∧Hid (dV (l.map (gH c (cV c n)))=dV ((l.drop i).map (gH c (cV c n))))) (λ_ y _=>l.length - (intOf y).toNat)
    case atStart=>exact⟨rfl,0,Nat.zero_le _,by go_num,Aj,CD,nW,rfl⟩
    case round =>
     clear CD Aj nW;obtain⟨rfl,i,hi,rfl,hb,iE,nW,hE⟩:=hrel
     by_cases hlt:i<l.length
     case neg=>
      have HY:=Lib.hid (show GN=0 by rw[HX.out,hE.out,List.drop_eq_nil_of_le (by omega)];rfl);clear hE;go_wp2_with fail;try rw[Exit.noGoto_ret]
      go_ret;rw[HY.out];exact⟨rfl,hb⟩
     case pos =>
      obtain⟨u,yN⟩:∃u,l[i]? =some u:=⟨_,List.getElem?_eq_getElem hlt⟩
      obtain⟨U4,wq,huv⟩:=Nv u (List.mem_of_getElem? yN);have wq:u.length≤maxLen:=Nat.le_trans wq (by decide);obtain⟨b1,o1,rfl,_,pc⟩:=nW.at yN;have hd:=hE.out;rw[bp yN,List.map_cons] at hd;clear hE yN;have HK:=HK u wq wr hb
      by_cases kS:(aq u).2.k=7
      case neg=>
       have g1:(((aq u).2.k:Int) != 7)=true:=by rw[bne_iff_ne];omega
       have g2:(((aq u).2.k:Int)==7)=false:=by rw[beq_eq_false_iff_ne];omega
       have HY:=Lib.hid (hd.trans (gj (xQ kS)));clear kS;clear hd;go_wp2_with (go_at_call 119;refine HK.mono ?_;clear HK;rintro e w1 ⟨rfl,ay⟩;have ff:=ah iE ay;have bJ:=hb.trans (af ay hb.size);have hS1:=nW.below ay (nl _));exact⟨⟨rfl,i+1,hlt,by go_num,bJ,ff,hS1,HY⟩,by simp only[intOf];omega⟩
      case pos =>
       obtain⟨_,hal,GC,_,hac,_⟩:=qX U4 kS;have GC:(dI u).1.length≤maxLen:=Nat.le_trans GC (by decide);rw[kS] at HK;have qj:=λW hW=>xE u wq W (HT.out W hW)
       have mB:=λW hW=>uq u wq W (HT.out W hW)
       have BX:=λW hW=>tR c.bK m (dI u).1 W (HS.out W hW) fW.1 GC
       rcases hq:ez c.bK (dI u).1 with _|f
       · have HY:=Lib.hid (hd.trans ((eH (by rw[j7 kS hq];decide)).trans (j7 kS hq)))
         simp only[hq,Option.isSome_none] at BX;clear hd;go_wp2_with (first
          | (go_at_call 75;refine(BX _ dg).mono ?_;clear BX;rintro e w4 ⟨fv,rfl,f1,_,hb4⟩;obtain rfl:=f1 trivial;have dH:=dg.trans (af hb4 dg.size))
          | (go_at_call 121;refine(mB _ bW).mono ?_;clear mB;rintro e w3' ⟨rfl,aK⟩;have iJ:=ah iw aK;have BZ:=gB iJ;have dg:=bW.trans (af aK bW.size);have o9:=kA.below aK (nl _))
          | (go_at_call 120;refine(qj _ bJ).mono ?_;clear qj;rintro e w2 ⟨rfl,aA⟩;have iw:=ah ff aA;have bW:=bJ.trans (af aA bJ.size);have kA:=hS1.below aA (nl _))
          | (go_at_call 119;refine HK.mono ?_;clear HK;rintro e w1 ⟨rfl,ay⟩;have ff:=ah iE ay;have bJ:=hb.trans (af ay hb.size);have hS1:=nW.below ay (nl _)))
         try rw[Exit.noGoto_ret]
         go_ret;rw[HX.out,HY.out];exact⟨rfl,dH.alloc dH.size _⟩
       · have vS := fW.2.2.1 f (by unfold ez at hq; exact List.mem_of_find?_eq_some hq)
         simp only[hq,Option.isSome_some] at BX
         by_cases h3:f.kind=3
         case neg=>
          have HY:=Lib.hid (hd.trans ((eH (by rw[fu kS hq (λh=>h3 h.1)];decide)).trans (fu kS hq (λh=>h3 h.1))));clear hq;obtain⟨fn,fk,fp,eM,jU⟩:=f;simp only at h3;have g1:((fk:Int) != 3)=true:=by rw[bne_iff_ne];omega
          have g2:((fk:Int)==3)=false:=by rw[beq_eq_false_iff_ne];omega
          clear h3;clear hd;go_wp2_with (first
           | (go_at_call 75;refine(BX _ dg).mono ?_;clear BX;rintro e w4 ⟨fv,rfl,_,f2,hb4⟩;obtain⟨nv,ov,rfl,hfl,Al,CG⟩:=f2 _ rfl;obtain⟨p1,c1,rfl,_⟩:=Al.shape;obtain⟨p2,c2,rfl,_⟩:=CG.shape;have iV:=ah iJ hb4;have dH:=dg.trans (af hb4 dg.size);have qv:=o9.below hb4 (nl _);have zC:=(Below.refl _ w4).alloc (nl _) (.cells #[.string ⟨fn.toArray⟩,.int .u8 fk,.bool fp,.slice p1 eM.length c1,.slice p2 jU.length c2] 58);have qx:=aH (.cells #[.string ⟨fn.toArray⟩,.int .u8 fk,.bool fp,.slice p1 eM.length c1,.slice p2 jU.length c2] 58) iV;have Pn:=gB qx;have iq:=dH.alloc dH.size (.cells #[.string ⟨fn.toArray⟩,.int .u8 fk,.bool fp,.slice p1 eM.length c1,.slice p2 jU.length c2] 58);have Ca:=qv.below zC (nl _))
           | (go_at_call 121;refine(mB _ bW).mono ?_;clear mB;rintro e w3' ⟨rfl,aK⟩;have iJ:=ah iw aK;have BZ:=gB iJ;have dg:=bW.trans (af aK bW.size);have o9:=kA.below aK (nl _))
           | (go_at_call 120;refine(qj _ bJ).mono ?_;clear qj;rintro e w2 ⟨rfl,aA⟩;have iw:=ah ff aA;have bW:=bJ.trans (af aA bJ.size);have kA:=hS1.below aA (nl _))
           | (go_at_call 119;refine HK.mono ?_;clear HK;rintro e w1 ⟨rfl,ay⟩;have ff:=ah iE ay;have bJ:=hb.trans (af ay hb.size);have hS1:=nW.below ay (nl _)))
          try rw[Exit.noGoto_ret]
          go_ret;rw[HX.out,HY.out];exact⟨rfl,iq⟩
         case pos =>
          rcases hha:(bQ u).2.1 with _|_<;>rcases jb:f.par with _|_
          · have HY:=Lib.hid (hd.trans (gj (uG kS hq h3 jb hha)))
            clear hq;rw[hha] at mB hac;clear hha;obtain⟨fn,fk,fp,eM,jU⟩:=f;simp only at h3 jb vS;subst jb;have g1:((fk:Int) != 3)=false:=by subst h3;rfl
            have g2:((fk:Int)==3)=true:=by subst h3;rfl
            clear h3;clear hd;go_wp2_with (first
             | (go_at_call 75;refine(BX _ dg).mono ?_;clear BX;rintro e w4 ⟨fv,rfl,_,f2,hb4⟩;obtain⟨nv,ov,rfl,hfl,Al,CG⟩:=f2 _ rfl;obtain⟨p1,c1,rfl,_⟩:=Al.shape;obtain⟨p2,c2,rfl,_⟩:=CG.shape;have iV:=ah iJ hb4;have dH:=dg.trans (af hb4 dg.size);have qv:=o9.below hb4 (nl _);have zC:=(Below.refl _ w4).alloc (nl _) (.cells #[.string ⟨fn.toArray⟩,.int .u8 fk,.bool false,.slice p1 eM.length c1,.slice p2 jU.length c2] 58);have qx:=aH (.cells #[.string ⟨fn.toArray⟩,.int .u8 fk,.bool false,.slice p1 eM.length c1,.slice p2 jU.length c2] 58) iV;have Pn:=gB qx;have iq:=dH.alloc dH.size (.cells #[.string ⟨fn.toArray⟩,.int .u8 fk,.bool false,.slice p1 eM.length c1,.slice p2 jU.length c2] 58);have Ca:=qv.below zC (nl _))
             | (go_at_call 121;refine(mB _ bW).mono ?_;clear mB;rintro e w3' ⟨rfl,aK⟩;have iJ:=ah iw aK;have BZ:=gB iJ;have dg:=bW.trans (af aK bW.size);have o9:=kA.below aK (nl _))
             | (go_at_call 120;refine(qj _ bJ).mono ?_;clear qj;rintro e w2 ⟨rfl,aA⟩;have iw:=ah ff aA;have bW:=bJ.trans (af aA bJ.size);have kA:=hS1.below aA (nl _))
             | (go_at_call 119;refine HK.mono ?_;clear HK;rintro e w1 ⟨rfl,ay⟩;have ff:=ah iE ay;have bJ:=hb.trans (af ay hb.size);have hS1:=nW.below ay (nl _)))
            exact⟨⟨rfl,i+1,hlt,by go_num,iq,qx,Ca,HY⟩,by simp only[intOf];omega⟩
          · have HY:=Lib.hid (hd.trans ((eH (by rw[fu kS hq (λh=>by rw[hha,jb] at h;simp at h)];decide)).trans (fu kS hq (λh=>by rw[hha,jb] at h;simp at h))))
            clear hq;rw[hha] at mB hac;clear hha;obtain⟨fn,fk,fp,eM,jU⟩:=f;simp only at h3 jb vS;subst jb;have g1:((fk:Int) != 3)=false:=by subst h3;rfl
            have g2:((fk:Int)==3)=true:=by subst h3;rfl
            clear h3;clear hd;go_wp2_with (first
             | (go_at_call 75;refine(BX _ dg).mono ?_;clear BX;rintro e w4 ⟨fv,rfl,_,f2,hb4⟩;obtain⟨nv,ov,rfl,hfl,Al,CG⟩:=f2 _ rfl;obtain⟨p1,c1,rfl,_⟩:=Al.shape;obtain⟨p2,c2,rfl,_⟩:=CG.shape;have iV:=ah iJ hb4;have dH:=dg.trans (af hb4 dg.size);have qv:=o9.below hb4 (nl _);have zC:=(Below.refl _ w4).alloc (nl _) (.cells #[.string ⟨fn.toArray⟩,.int .u8 fk,.bool true,.slice p1 eM.length c1,.slice p2 jU.length c2] 58);have qx:=aH (.cells #[.string ⟨fn.toArray⟩,.int .u8 fk,.bool true,.slice p1 eM.length c1,.slice p2 jU.length c2] 58) iV;have Pn:=gB qx;have iq:=dH.alloc dH.size (.cells #[.string ⟨fn.toArray⟩,.int .u8 fk,.bool true,.slice p1 eM.length c1,.slice p2 jU.length c2] 58);have Ca:=qv.below zC (nl _))
             | (go_at_call 121;refine(mB _ bW).mono ?_;clear mB;rintro e w3' ⟨rfl,aK⟩;have iJ:=ah iw aK;have BZ:=gB iJ;have dg:=bW.trans (af aK bW.size);have o9:=kA.below aK (nl _))
             | (go_at_call 120;refine(qj _ bJ).mono ?_;clear qj;rintro e w2 ⟨rfl,aA⟩;have iw:=ah ff aA;have bW:=bJ.trans (af aA bJ.size);have kA:=hS1.below aA (nl _))
             | (go_at_call 119;refine HK.mono ?_;clear HK;rintro e w1 ⟨rfl,ay⟩;have ff:=ah iE ay;have bJ:=hb.trans (af ay hb.size);have hS1:=nW.below ay (nl _)))
            try rw[Exit.noGoto_ret]
            go_ret;rw[HX.out,HY.out];exact⟨rfl,iq⟩
          · have HY:=Lib.hid (hd.trans ((eH (by rw[fu kS hq (λh=>by rw[hha,jb] at h;simp at h)];decide)).trans (fu kS hq (λh=>by rw[hha,jb] at h;simp at h))))
            clear hq;rw[hha] at mB hac;clear hha;obtain⟨fn,fk,fp,eM,jU⟩:=f;simp only at h3 jb vS;subst jb;have g1:((fk:Int) != 3)=false:=by subst h3;rfl
            have g2:((fk:Int)==3)=true:=by subst h3;rfl
            clear h3;clear hd;go_wp2_with (first
             | (go_at_call 75;refine(BX _ dg).mono ?_;clear BX;rintro e w4 ⟨fv,rfl,_,f2,hb4⟩;obtain⟨nv,ov,rfl,hfl,Al,CG⟩:=f2 _ rfl;obtain⟨p1,c1,rfl,_⟩:=Al.shape;obtain⟨p2,c2,rfl,_⟩:=CG.shape;have iV:=ah iJ hb4;have dH:=dg.trans (af hb4 dg.size);have qv:=o9.below hb4 (nl _);have zC:=(Below.refl _ w4).alloc (nl _) (.cells #[.string ⟨fn.toArray⟩,.int .u8 fk,.bool false,.slice p1 eM.length c1,.slice p2 jU.length c2] 58);have qx:=aH (.cells #[.string ⟨fn.toArray⟩,.int .u8 fk,.bool false,.slice p1 eM.length c1,.slice p2 jU.length c2] 58) iV;have Pn:=gB qx;have iq:=dH.alloc dH.size (.cells #[.string ⟨fn.toArray⟩,.int .u8 fk,.bool false,.slice p1 eM.length c1,.slice p2 jU.length c2] 58);have Ca:=qv.below zC (nl _))
             | (go_at_call 121;refine(mB _ bW).mono ?_;clear mB;rintro e w3' ⟨rfl,aK⟩;have iJ:=ah iw aK;have BZ:=gB iJ;have dg:=bW.trans (af aK bW.size);have o9:=kA.below aK (nl _))
             | (go_at_call 120;refine(qj _ bJ).mono ?_;clear qj;rintro e w2 ⟨rfl,aA⟩;have iw:=ah ff aA;have bW:=bJ.trans (af aA bJ.size);have kA:=hS1.below aA (nl _))
             | (go_at_call 119;refine HK.mono ?_;clear HK;rintro e w1 ⟨rfl,ay⟩;have ff:=ah iE ay;have bJ:=hb.trans (af ay hb.size);have hS1:=nW.below ay (nl _)))
            try rw[Exit.noGoto_ret]
            go_ret;rw[HX.out,HY.out];exact⟨rfl,iq⟩
          · have hnf:=xP (n:=n) kS hq h3 jb hha
            rcases hfit:vW c n f.ag (bQ u).1 with _|_
            · rw[hfit,if_neg (by simp)] at hnf
              have HY:=Lib.hid (hd.trans ((eH (by rw[hnf];decide)).trans hnf));clear hnf;clear hq;rw[hha] at mB hac;clear hha;have Ig:=Lib.hid (hac rfl);clear hac;obtain⟨fn,fk,fp,eM,jU⟩:=f;simp only at h3 jb vS hfit;subst jb;have g1:((fk:Int) != 3)=false:=by subst h3;rfl
              have g2:((fk:Int)==3)=true:=by subst h3;rfl
              clear h3;clear hd;go_wp2_with (first
               | (go_at_call 76;refine(tT c n hG fW _ eM _ (bQ u).1 _ (HV.out _ iq) (Al.below zC (nl _)) vS Ig.out.1 (Nat.lt_of_lt_of_le Ig.out.2.2 (by omega)) (HT.out _ iq)).mono ?_;rintro e w6 ⟨rfl,jw⟩;rw[hfit];have QT:=ah qx jw;have Gy:=iq.trans (af jw iq.size);have Wc:=Ca.below jw (nl _))
               | (go_at_call 75;refine(BX _ dg).mono ?_;clear BX;rintro e w4 ⟨fv,rfl,_,f2,hb4⟩;obtain⟨nv,ov,rfl,hfl,Al,CG⟩:=f2 _ rfl;obtain⟨p1,c1,rfl,_⟩:=Al.shape;obtain⟨p2,c2,rfl,_⟩:=CG.shape;have iV:=ah iJ hb4;have dH:=dg.trans (af hb4 dg.size);have qv:=o9.below hb4 (nl _);have zC:=(Below.refl _ w4).alloc (nl _) (.cells #[.string ⟨fn.toArray⟩,.int .u8 fk,.bool true,.slice p1 eM.length c1,.slice p2 jU.length c2] 58);have qx:=aH (.cells #[.string ⟨fn.toArray⟩,.int .u8 fk,.bool true,.slice p1 eM.length c1,.slice p2 jU.length c2] 58) iV;have Pn:=gB qx;have iq:=dH.alloc dH.size (.cells #[.string ⟨fn.toArray⟩,.int .u8 fk,.bool true,.slice p1 eM.length c1,.slice p2 jU.length c2] 58);have Ca:=qv.below zC (nl _))
               | (go_at_call 121;refine(mB _ bW).mono ?_;clear mB;rintro e w3' ⟨rfl,aK⟩;have iJ:=ah iw aK;have BZ:=gB iJ;have dg:=bW.trans (af aK bW.size);have o9:=kA.below aK (nl _))
               | (go_at_call 120;refine(qj _ bJ).mono ?_;clear qj;rintro e w2 ⟨rfl,aA⟩;have iw:=ah ff aA;have bW:=bJ.trans (af aA bJ.size);have kA:=hS1.below aA (nl _))
               | (go_at_call 119;refine HK.mono ?_;clear HK;rintro e w1 ⟨rfl,ay⟩;have ff:=ah iE ay;have bJ:=hb.trans (af ay hb.size);have hS1:=nW.below ay (nl _)))
              try rw[Exit.noGoto_ret]
              go_ret;rw[HX.out,HY.out];exact⟨rfl,Gy⟩
            · rw[hfit,if_pos rfl] at hnf
              have HY:=Lib.hid (hd.trans (gj hnf));clear hnf;clear hq;rw[hha] at mB hac;clear hha;have Ig:=Lib.hid (hac rfl);clear hac;obtain⟨fn,fk,fp,eM,jU⟩:=f;simp only at h3 jb vS hfit;subst jb;have g1:((fk:Int) != 3)=false:=by subst h3;rfl
              have g2:((fk:Int)==3)=true:=by subst h3;rfl
              clear h3;clear hd;go_wp2_with (first
               | (go_at_call 76;refine(tT c n hG fW _ eM _ (bQ u).1 _ (HV.out _ iq) (Al.below zC (nl _)) vS Ig.out.1 (Nat.lt_of_lt_of_le Ig.out.2.2 (by omega)) (HT.out _ iq)).mono ?_;rintro e w6 ⟨rfl,jw⟩;rw[hfit];have QT:=ah qx jw;have Gy:=iq.trans (af jw iq.size);have Wc:=Ca.below jw (nl _))
               | (go_at_call 75;refine(BX _ dg).mono ?_;clear BX;rintro e w4 ⟨fv,rfl,_,f2,hb4⟩;obtain⟨nv,ov,rfl,hfl,Al,CG⟩:=f2 _ rfl;obtain⟨p1,c1,rfl,_⟩:=Al.shape;obtain⟨p2,c2,rfl,_⟩:=CG.shape;have iV:=ah iJ hb4;have dH:=dg.trans (af hb4 dg.size);have qv:=o9.below hb4 (nl _);have zC:=(Below.refl _ w4).alloc (nl _) (.cells #[.string ⟨fn.toArray⟩,.int .u8 fk,.bool true,.slice p1 eM.length c1,.slice p2 jU.length c2] 58);have qx:=aH (.cells #[.string ⟨fn.toArray⟩,.int .u8 fk,.bool true,.slice p1 eM.length c1,.slice p2 jU.length c2] 58) iV;have Pn:=gB qx;have iq:=dH.alloc dH.size (.cells #[.string ⟨fn.toArray⟩,.int .u8 fk,.bool true,.slice p1 eM.length c1,.slice p2 jU.length c2] 58);have Ca:=qv.below zC (nl _))
               | (go_at_call 121;refine(mB _ bW).mono ?_;clear mB;rintro e w3' ⟨rfl,aK⟩;have iJ:=ah iw aK;have BZ:=gB iJ;have dg:=bW.trans (af aK bW.size);have o9:=kA.below aK (nl _))
               | (go_at_call 120;refine(qj _ bJ).mono ?_;clear qj;rintro e w2 ⟨rfl,aA⟩;have iw:=ah ff aA;have bW:=bJ.trans (af aA bJ.size);have kA:=hS1.below aA (nl _))
               | (go_at_call 119;refine HK.mono ?_;clear HK;rintro e w1 ⟨rfl,ay⟩;have ff:=ah iE ay;have bJ:=hb.trans (af ay hb.size);have hS1:=nW.below ay (nl _)))
              exact⟨⟨rfl,i+1,hlt,by go_num,Gy,QT,Wc,HY⟩,by simp only[intOf];omega⟩
end Go.Proofs.YtakgjcfkdemipaaGreatDoor
namespace Go.Proofs.YtakgjcfkdemipaaGreatDoor
open Go.RowKit
theorem tV {D:Nat→Prop} (c:aR) (fW:iM c):∀n,DP D c n
 | 0=>λ_ _ _ _ _ h _=>absurd h (by omega)
 | n+1=>EY c n (tV c fW n) fW
theorem nj {D:Nat→Prop} (c:aR) (v:Value) (t:List UInt8) (w:World) (hv:ScopeM D w v c) (fW:iM c) (htl:t.length≤maxLen) (hT:fN w):
 Calls Tryz.prog 59 #[v,str t] w λe w'=>e=.returned (.int .i64 (dx c t))∧Below w.heap.size w w':=
 tV c fW 7 v t w hv htl (by have:=oh t;omega) hT
end Go.Proofs.YtakgjcfkdemipaaGreatDoor
namespace Go.Proofs.YtakgjcfkdemipaaGreatDoor
open Go.RowKit
theorem KZ:(Tryz.prog.info? 36).map (λi=>(i.zero,i.size,i.bytes))=some (some (.agg #[.bool false,.slice none 0 0,.string ⟨#[]⟩,.slice none 0 0]),4,72):=by kernel_rfl
theorem yw:Tryz.prog.underlying 115=some (.slice 36):=by kernel_rfl
def oC (D:Nat→Prop) (w:World):List Value→List cD→Prop
 | cs,[]=>cs=[]
 | cs,x::l=>∃a s r,cs=.bool x.iter::a::str x.res::s::r∧x.res.length≤maxLen∧SS D w a x.args∧SS D w s x.sigs∧oC D w r l
theorem oC.below {D:Nat→Prop} {K:Nat} {w w':World} (hb:Below K w w') (hK:w.heap.size≤K):∀{l:List cD} {cs:List Value},oC D w cs l→oC D w' cs l
 | [],_,h=>h
 | _::_,_,⟨a,s,r,h1,h0,h2,h3,h4⟩=>⟨a,s,r,h1,h0,h2.below hb hK,h3.below hb hK,oC.below hb hK h4⟩
theorem oC.mono {D D':Nat→Prop} {w:World} (hD:∀b,D b→D' b):∀{l:List cD} {cs:List Value},oC D w cs l→oC D' w cs l
 | [],_,h=>h
 | _::_,_,⟨a,s,r,h1,h0,h2,h3,h4⟩=>⟨a,s,r,h1,h0,h2.mono hD,h3.mono hD,oC.mono hD h4⟩
theorem oC.fresh {D:Nat→Prop} {w:World}:∀{l:List cD} {cs:List Value},oC D w cs l→oC (λb=>D b∧b<w.heap.size) w cs l
 | [],_,h=>h
 | _::_,_,⟨a,s,r,h1,h0,h2,h3,h4⟩=>⟨a,s,r,h1,h0,h2.fresh,h3.fresh,oC.fresh h4⟩
theorem oC.agree {D:Nat→Prop} {w w':World} (hk:∀b,D b→b<w.heap.size→w'.heap[b]? =w.heap[b]?):∀{l:List cD} {cs:List Value},oC D w cs l→oC D w' cs l
 | [],_,h=>h
 | _::_,_,⟨a,s,r,h1,h0,h2,h3,h4⟩=>⟨a,s,r,h1,h0,h2.agree hk,h3.agree hk,oC.agree hk h4⟩
theorem oC.append {D:Nat→Prop} {w:World} {k:List cD} {ds:List Value} (hk:oC D w ds k):∀{l:List cD} {cs:List Value},oC D w cs l→oC D w (cs++ds) (l++k)
 | [],_,h=>by rw[show _=_ from h];exact hk
 | _::_,_,⟨a',s',r,h1,k0,k2,k3,k4⟩=>by subst h1;exact⟨a',s',_,rfl,k0,k2,k3,oC.append hk k4⟩
theorem oC.get {D:Nat→Prop} {w:World}:∀{l:List cD} {cs:List Value} (i:Nat) {x:cD},oC D w cs l→l[i]? =some x→
 ∃a s,x.res.length≤maxLen∧SS D w a x.args∧SS D w s x.sigs∧cs[i * 4]? =some (.bool x.iter)∧cs[i * 4+1]? =some a∧cs[i * 4+2]? =some (str x.res)∧cs[i * 4+3]? =some s
 | [],_,_,_,_,h=>by simp at h
 | y::l,_,0,x,⟨a,s,r,h1,h0,h2,h3,h4⟩,h=>by
  simp only[List.getElem?_cons_zero,Option.some.injEq] at h;subst h;subst h1;exact⟨a,s,h0,h2,h3,rfl,rfl,rfl,rfl⟩
 | y::l,_,i+1,x,⟨a,s,r,h1,h0,h2,h3,h4⟩,h=>by
  rw[List.getElem?_cons_succ] at h;obtain⟨a',s',k0,k1,k2,k3,k4,k5,k6⟩:=oC.get i h4 h;subst h1;refine⟨a',s',k0,k1,k2,?_,?_,?_,?_⟩
  · rw[show(i+1) * 4=i * 4+4 by omega];exact k3
  · rw[show(i+1) * 4+1=i * 4+1+4 by omega];exact k4
  · rw[show(i+1) * 4+2=i * 4+2+4 by omega];exact k5
  · rw[show(i+1) * 4+3=i * 4+3+4 by omega];exact k6
def mV (B:Nat) (w:World) (v:Value) (l:List cD):Prop:=∃cs,w.ownsRow B 36 4 v l.length cs∧oC (λb=>v.ownBlock≠some b) w cs l
theorem mV.below {B K:Nat} {w w':World} {v:Value} {l:List cD} (h:mV B w v l) (hb:Below K w w') (hK:w.heap.size≤K):mV B w' v l:=by
 obtain⟨cs,h1,h2⟩:=h
 exact⟨cs,az h1 hb hK,h2.below hb hK⟩
theorem mV.shape {B:Nat} {w:World} {v:Value} {l:List cD} (h:mV B w v l):∃p c,v=.slice p l.length c:=by
 obtain⟨cs,h1,_⟩:=h
 exact aS h1
theorem mV.nil (B:Nat) (w:World):mV B w (.slice none 0 0) []:=⟨[],World.ownsRow_nil _ _ _ _,rfl⟩
theorem mV.at {B:Nat} {w:World} {p:Option Addr} {n c:Nat} {l:List cD} (h:mV B w (.slice p n c) l) {i:Nat} {x:cD} (hi:l[i]? =some x):
 ∃g a s,p=some ⟨g,0,none⟩∧x.res.length≤maxLen∧SS (λ_=>True) w a x.args∧SS (λ_=>True) w s x.sigs∧w.cell? ⟨g,0+i * 4,none⟩=some (.bool x.iter)∧w.cell? ⟨g,0+i * 4+1,none⟩=some a∧w.cell? ⟨g,0+i * 4+2,none⟩=some (str x.res)∧w.cell? ⟨g,0+i * 4+3,none⟩=some s:=by
 obtain⟨cs,h1,h2⟩:=h
 obtain⟨a,s,k0,k1,k2,k3,k4,k5,k6⟩:=h2.get i hi
 obtain⟨hl,_⟩:=List.getElem?_eq_some_iff.1 hi
 rcases h1.2 with⟨_,h0⟩|⟨g,cap,cur,h0,_⟩
 · omega
 · injection h0 with h0 _ _
   subst h0;have key:∀j u,cs[j]? =some u→w.cell? ⟨g,j,none⟩=some u:=by
    intro j u hj;have:=h1.cells (g:=g) rfl j u hj
    rwa [show(⟨g,0,none⟩:Addr).add j=⟨g,j,none⟩ from by unfold Addr.add;simp;omega] at this
   exact⟨g,a,s,rfl,k0,k1.mono λ_ _=>trivial,k2.mono λ_ _=>trivial,by rw[Nat.zero_add];exact key _ _ k3,by rw[Nat.zero_add];exact key _ _ k4,by rw[Nat.zero_add];exact key _ _ k5,by rw[Nat.zero_add];exact key _ _ k6⟩
theorem mV.append {B:Nat} {W W':World} {v v':Value} {l k:List cD} {ds cs:List Value} (hC:oC (λb=>v.ownBlock≠some b) W cs l) (hk:oC (λb=>v.ownBlock≠some b) W ds k) (h':W'.ownsRow B 36 4 v' (l.length+k.length) (cs++ds)) (hg:W.grownBy W' v.ownBlock) (ho:v'.ownBlock=v.ownBlock∨v'.ownBlock=some W.heap.size):mV B W' v' (l++k):=by
 refine⟨cs++ds,by rw[List.length_append];exact h',?_⟩
 have key:∀{l:List cD} {cs:List Value},oC (λb=>v.ownBlock≠some b) W cs l→oC (λb=>v'.ownBlock≠some b) W' cs l:=by
  intro l cs hc;refine(hc.fresh.agree (w':=W') λb hb hlt=>hg.block b hlt λe=>hb.1 e.symm).mono λb hb e=>?_
  rcases ho with ho|ho
  · exact hb.1 (by rw[←ho];exact e)
  · have h2:=hb.2
    rw[ho] at e;injection e with e;omega
 exact oC.append (key hk) (key hC)
end Go.Proofs.YtakgjcfkdemipaaGreatDoor
namespace Go.Proofs.YtakgjcfkdemipaaGreatDoor
open Go.RowKit
theorem dr {l:List aG} (h:bh l=true):l.length≤4∧∀o∈l,o.sig.args.length≤6∧o.sig.sigs.length≤6:=by
 unfold bh at h
 rw[Bool.and_eq_true,Bool.and_eq_true,List.all_eq_true,decide_eq_true_eq] at h
 exact⟨h.1.2,λo ho=>⟨(eC (h.1.1 o ho)).1,(eC (h.1.1 o ho)).2.1⟩⟩
theorem MH {c:aR} {t:List UInt8} (ht:(aq t).1=0) (hf:∀f∈c.bK,eU f=true) (hn:∀o∈c.ag,o.sig.args.length≤6∧o.sig.sigs.length≤6):tj c t:=by
 have hty:=qP ht
 have hpl:=(jy (t:=t)).2.2
 have hz:([]:List UInt8).length≤maxLen:=by simp
 have hkk:=gm ht
 have h8:(aq t).2.k=1∨(aq t).2.k=2∨(aq t).2.k=3∨(aq t).2.k=4∨(aq t).2.k=5∨(aq t).2.k=6∨(aq t).2.k=7∨(aq t).2.k=8:=by omega
 unfold tj cG
 rcases h8 with hk|hk|hk|hk|hk|hk|hk|hk
 all_goals rw[hk]
 · exact⟨hz,by simp[sg]⟩
 · exact⟨hz,by simp[sg]⟩
 · exact⟨hz,by simp[sg]⟩
 · exact⟨hz,by simp[sg]⟩
 · refine⟨hz,λo ho=>?_⟩
   simp only[List.mem_append,List.mem_cons,List.mem_flatMap,List.not_mem_nil,or_false] at ho;rcases ho with(rfl|⟨p,_,rfl|rfl⟩)|rfl<;>simp[sg]
   omega
 · refine⟨hz,λo ho=>?_⟩
   simp only[List.mem_cons,List.mem_flatMap,List.not_mem_nil,or_false] at ho;rcases ho with rfl|⟨p,_,rfl|rfl⟩<;>simp[sg]
 · refine⟨hty.2.1,λo ho=>?_⟩
   simp only at ho;rcases hq:ez c.bK (dI t).1 with _|f
   · rw[hq] at ho
     simp at ho
   · rw[hq] at ho
     have vS:f∈c.bK:=by unfold ez at hq;exact List.mem_of_find?_eq_some hq
     have:=eC ((ec (hf f vS)).2.2.2.2.2.2.2.1 o ho).2;exact⟨by omega,by omega⟩
 · refine⟨hz,λo ho=>?_⟩
   have:=hn o ho;exact⟨by omega,by omega⟩
theorem vw {l:List aB} {ag:List aG} {par:Bool} (ha:oF l) (hf:∀f∈l,eU f=true) (hn:bh ag=true):iM ⟨l,ag,par⟩:=by
 obtain⟨h1,h2⟩:=dr hn
 refine⟨ha,by simp only;omega,λf vS o ho=>?_,λt ht=>MH ht hf h2⟩
 have:=(dr (ec (hf f vS)).2.2.2.1).2 o ho
 exact⟨by omega,by omega⟩
end Go.Proofs.YtakgjcfkdemipaaGreatDoor
namespace Go.Proofs.YtakgjcfkdemipaaGreatDoor
open Go.RowKit
def iX (l:List aB):Nat→Option (List UInt8)
 | 0=>none
 | i+1=>(l[i]?).map (·.name)
theorem tH {f:aB} {l:List aB} {i:Nat} {p:Option (List UInt8)} (h:20≤i):dm (f::l) i p=some (i,2):=by rw[dm,if_pos h]
theorem tF {f:aB} {l:List aB} {i:Nat} {p:Option (List UInt8)} (h:¬20≤i) (hf:eU f=false):dm (f::l) i p=some (i,42):=by rw[dm,if_neg h,if_pos hf]
theorem qo {f:aB} {l:List aB} {i:Nat} {q:List UInt8} (h:¬20≤i) (hf:eU f=true) (hq:Op.bytesLess q f.name=false):dm (f::l) i (some q)=some (i,6):=by
 rw[dm,if_neg h,if_neg (by rw[hf];simp),if_pos (by simp[hq])]
theorem nQ {f:aB} {l:List aB} {i:Nat} {p:Option (List UInt8)} (h:¬20≤i) (hf:eU f=true) (hq:(p.any λq=> !Op.bytesLess q f.name)=false):dm (f::l) i p=dm l (i+1) (some f.name):=by
 rw[dm,if_neg h,if_neg (by rw[hf];simp),if_neg (by rw[hq];simp)]
theorem yu {all:List aB} {f:aB} {r:List aB} {i:Nat} (h:dV (((mJ f).flatMap aI).map (dx ⟨all,f.ag,f.par⟩))≠0):fL all (f::r) i=some (i,dV (((mJ f).flatMap aI).map (dx ⟨all,f.ag,f.par⟩))):=by
 unfold fL
 simp only
 rw[if_neg h]
theorem BP {all:List aB} {f:aB} {r:List aB} {i:Nat} (h:dV (((mJ f).flatMap aI).map (dx ⟨all,f.ag,f.par⟩))=0):fL all (f::r) i=fL all r (i+1):=by
 conv=>lhs;unfold fL
 simp only
 rw[if_pos h]
theorem kT {l:List aB} {r:Nat×Nat} (h:dm l 0 none=some r):ja l=r:=by unfold ja;rw[h];rfl
set_option maxRecDepth 8000 in
theorem yF {D : Nat → Prop} (l : List aB) (v : Value) (w : World) (hT : fN w) (hv : aZ D w v l) (hn : ∀ f ∈ l, f.ag.length ≤ 100000) :
 Calls Tryz.prog 40 #[v] w λe w'=>e=.returned (.tuple #[.int .i64 (ja l).1,.int .i64 (ja l).2])∧Below w.heap.size w w':=by
 obtain⟨p,c,rfl,_,hm,hle⟩:=hv.shape
 unfold maxLen at hm
 have HT:=Lib.hid (λW (hW:Below w.heap.size w W)=>hT.below hW (nl _))
 clear hT hle
 go_enter Tryz.func40,Tryz.ntmps40
 go_wp2_with fail
 go_loopw [22] (λy wx=>∃i:Nat,i≤l.length∧y=.int .i64 i∧Below w.heap.size w wx∧Hid (dm l 0 none=dm (l.drop i) i (iX l i))) (λy _=>l.length - (intOf y).toNat)
 case atStart=>exact⟨0,Nat.zero_le _,by go_num,Below.refl _ _,rfl⟩
 case round =>
  obtain⟨i,hi,rfl,hb,hA⟩:=hrel
  by_cases hlt:i<l.length
  case neg => as_aux_lemma =>
   have hie:i=l.length:=by omega
   have HX:=Lib.hid (show dm l 0 none=none by rw[hA.out,List.drop_eq_nil_of_le (by omega)];rfl);clear hA;have Y0:=iD l 0 none HX.out;have hap:=zO HX.out;obtain⟨Q6,PY,_,_⟩:=Y0;have Q8:l.length≤100000:=by
    rcases Q6 with rfl|h
    · simp
    · omega
   have O5:=Lib.hid (show ja l=(fL l l 0).getD (0,0) by unfold ja;rw[HX.out];rfl);have oN:=hv.below hb (nl _);clear HX;go_wp2_with (go_at_call 91;refine(sF l _ _ oN Q8).mono ?_;rintro e w1 ⟨M,rfl,hM,ay⟩);have OQ:=heap_alloc_new w1 (.cells #[.map (some M)] 84);have TD:=(Below.refl _ w1).alloc (nl _) (.cells #[.map (some M)] 84);have bJ:=(hb.trans (af ay hb.size)).alloc (by have:=hb.size;have:=ay.size;omega) (.cells #[.map (some M)] 84);have hM1:=hM.below TD (nl _);have YS:=(oN.below ay (nl _)).below TD (nl _);clear oN hM ay TD hb;go_loopw [56] (λy wx=>∃i:Nat,i≤l.length∧y=.int .i64 i∧Below w.heap.size w wx∧wx.heap[w1.heap.size]? =some (.cells #[.map (some M)] 84 (0,0))∧fI D wx M l∧Hid (fL l l 0=fL l (l.drop i) i)) (λy _=>l.length - (intOf y).toNat)
   case atStart=>exact⟨0,Nat.zero_le _,by go_num,bJ,OQ,hM1,rfl⟩
   case round =>
    clear bJ OQ hM1 YS;obtain⟨i,hi,rfl,hb,OQ,hM,D8⟩:=hrel
    by_cases hlt:i<l.length
    case neg=>as_aux_lemma=>
     have HZ:=Lib.hid (show ja l=(0,0) by rw[O5.out,D8.out,List.drop_eq_nil_of_le (by omega)];rfl);clear D8;go_wp2_with fail;go_ret2;rw[HZ.out];exact⟨rfl,hb⟩
    case pos => as_aux_lemma =>
     obtain⟨f,hkx⟩:∃f,l[i]? =some f:=⟨_,List.getElem?_eq_getElem hlt⟩
     have vS:=List.mem_of_getElem? hkx;have oN:=hv.below hb (nl _);obtain⟨b1,o1,nv,ov,rfl,_,hfl,hN,hO,c0,c1,c2,c3,c4⟩:=oN.at hkx;obtain⟨p1,z1,rfl,_⟩:=hN.shape;obtain⟨p2,z2,rfl,_⟩:=hO.shape;obtain⟨i0,fV,hz0,hz1,hz2⟩:=bu KZ;rw[bp hkx] at D8;have jb:=ec (PY f vS);have hnl:=(dr jb.2.2.2.1).1;have hol:=jb.2.2.2.2.2.2.1;have fW:iM ⟨l,f.ag,f.par⟩:=vw hap PY jb.2.2.2.1;have hc:=(ak OQ 0).trans rfl;have jE:=(Below.refl _ wr).alloc (nl _) (.cells #[.string ⟨f.name.toArray⟩,.int .u8 f.kind,.bool f.par,.slice p1 f.ag.length z1,.slice p2 f.ops.length z2] 58);have PX:=heap_alloc_new wr (.cells #[.string ⟨f.name.toArray⟩,.int .u8 f.kind,.bool f.par,.slice p1 f.ag.length z1,.slice p2 f.ops.length z2] 58);have Na:=ah OQ jE;have hc1:(wr.alloc (.cells #[.string ⟨f.name.toArray⟩,.int .u8 f.kind,.bool f.par,.slice p1 f.ag.length z1,.slice p2 f.ops.length z2] 58)).cell? ⟨w1.heap.size,0,none⟩=some (.map (some M)):=(ak Na 0).trans rfl;have PX:=aH (.cells #[.map (some M),.slice p1 f.ag.length z1,.bool f.par] 86) PX;have sV:=jE.alloc (by simp) (.cells #[.map (some M),.slice p1 f.ag.length z1,.bool f.par] 86);have GA:=dD (w:=wr.alloc (.cells #[.string ⟨f.name.toArray⟩,.int .u8 f.kind,.bool f.par,.slice p1 f.ag.length z1,.slice p2 f.ops.length z2] 58)) (n:=wr.heap.size+1) (by simp) #[.map (some M),.slice p1 f.ag.length z1,.bool f.par] 86;have XE:=(bL PX).1;have Fj:∀x∈f.ag.map (·.sig)++f.ops.map (·.sig),x.args.length≤6:=by
      intro x hx;rcases List.mem_append.1 hx with hx|hx
      · obtain⟨o,ho,rfl⟩:=List.mem_map.1 hx
        exact((dr jb.2.2.2.1).2 o ho).1
      · obtain⟨o,ho,rfl⟩:=List.mem_map.1 hx
        exact(eC (jb.2.2.2.2.2.2.2.1 o ho).2).1
     clear hkx jb;go_upto_region 17 with fail;have P9:=hN.below sV (nl _);have P8:=P9.fresh;have YI:=(hO.below sV (nl _)).fresh;have V7:=hM.below sV (nl _);have Sf:=hb.trans (af sV hb.size);have Ql:=aH (.cells #[.map (some M),.slice p1 f.ag.length z1,.bool f.par] 86) Na;clear hN hO c0 c1 c2 c3 c4 jE sV OQ Na hc hc1 oN hM hb;generalize (wr.alloc (.cells #[.string ⟨f.name.toArray⟩,.int .u8 f.kind,.bool f.par,.slice p1 f.ag.length z1,.slice p2 f.ops.length z2] 58)).alloc (.cells #[.map (some M),.slice p1 f.ag.length z1,.bool f.par] 86)=W2 at *;generalize wr.heap.size=PB at *;go_wp2_with fail;go_loopw [10,70] (λa y wx=>∃k:Nat,k≤f.ag.length∧y=.int .i64 k∧mV W2.heap.size wx a ((f.ag.take k).map (·.sig))∧Below W2.heap.size W2 wx) (λ_ y _=>f.ag.length - (intOf y).toNat)
     case atStart=>exact⟨0,Nat.zero_le _,by go_num,mV.nil _ _,Below.refl _ _⟩
     case round =>
      clear XE;obtain⟨k,hk,rfl,hown,jl⟩:=hrel;obtain⟨pv,cv,rfl⟩:=hown.shape
      by_cases hlt:k<f.ag.length
      case neg => as_aux_lemma =>
       have hke:k=f.ag.length:=by omega
       subst hke;simp only[List.take_length] at hown ⊢;have r9:=hown;have ud:=jl;have bF:=(bL (dY PX jl (bH PX))).1;clear hown jl;go_wp2_with fail;clear bF;go_loopw [10,83] (λa y wx=>∃k:Nat,k≤f.ops.length∧y=.int .i64 k∧mV W2.heap.size wx a (f.ag.map (·.sig)++(f.ops.take k).map (·.sig))∧Below W2.heap.size W2 wx) (λ_ y _=>f.ops.length - (intOf y).toNat)
       case atStart=>exact⟨0,Nat.zero_le _,by go_num,by simpa using r9,ud⟩
       case round =>
        clear r9 ud;obtain⟨k,hk,rfl,hown,jl⟩:=hrel;obtain⟨pv,cv,rfl⟩:=hown.shape
        by_cases hlt:k<f.ops.length
        case neg => as_aux_lemma =>
         have hke:k=f.ops.length:=by omega
         subst hke;simp only[List.take_length] at hown ⊢;have r9:=hown;have ud:=jl;have Ak:(f.ag.map (·.sig)++f.ops.map (·.sig)).length≤30:=by rw[List.length_append,List.length_map,List.length_map];omega
         have Mh:Hid (mJ f=f.ag.map (·.sig)++f.ops.map (·.sig)):=rfl;generalize f.ag.map (·.sig)++f.ops.map (·.sig)=LS at *;clear hown jl;go_wp2_with fail;go_loopw [95] (λy wx=>∃k:Nat,k≤LS.length∧y=.int .i64 k∧mV W2.heap.size wx (.slice pv LS.length cv) LS∧Below W2.heap.size W2 wx∧Hid (dV ((LS.flatMap aI).map (dx ⟨l,f.ag,f.par⟩))=dV (((LS.drop k).flatMap aI).map (dx ⟨l,f.ag,f.par⟩)))) (λy _=>LS.length - (intOf y).toNat)
         case atStart=>exact⟨0,Nat.zero_le _,by go_num,r9,ud,rfl⟩
         case round=>
          clear r9 ud;obtain⟨k,hk,rfl,hown,jl,hF⟩:=hrel
          by_cases hlt5:k<LS.length
          case neg=>as_aux_lemma=>
           have h0:dV ((LS.flatMap aI).map (dx ⟨l,f.ag,f.par⟩))=0:=by rw[hF.out,List.drop_eq_nil_of_le (by omega)];rfl
           have HZ:=Lib.hid (show fL l l 0=fL l (l.drop (i+1)) (i+1) by rw[D8.out,BP (by rw[Mh.out];exact h0)]);clear hF h0;go_wp2_with fail;exact⟨⟨i+1,by omega,by go_num,Sf.trans (af jl Sf.size),dY Ql jl (bH Ql),V7.below jl (nl _),HZ⟩,by simp only[intOf];omega⟩
          case pos => as_aux_lemma =>
           obtain⟨x,hx⟩:∃x,LS[k]? =some x:=⟨_,List.getElem?_eq_getElem hlt5⟩
           obtain⟨g,av,sv,hpe,kC,dy,cQ,d0,d1,d2,d3⟩:=hown.at hx;subst hpe;simp only[Nat.zero_add] at d0 d1 d2 d3;obtain⟨pa,ca,rfl,_⟩:=dy.shape;obtain⟨ps,cs,rfl,_⟩:=cQ.shape;have hxl:=Fj x (List.mem_of_getElem? hx);have hd:=hF.out;rw[bp hx,List.flatMap_cons,List.map_append] at hd;clear hF hx;have qh:=(Below.refl _ wr).alloc (nl _) (.cells #[.bool x.iter,.slice pa x.args.length ca,.string ⟨x.res.toArray⟩,.slice ps x.sigs.length cs] 36);have dH:=jl.alloc jl.size (.cells #[.bool x.iter,.slice pa x.args.length ca,.string ⟨x.res.toArray⟩,.slice ps x.sigs.length cs] 36);have LI:=rQ _ x _ ⟨_,_,rfl,kC,dy.below qh (nl _),cQ.below qh (nl _)⟩ (by omega);have bM:=hown.below qh (nl _);clear hown dy cQ jl;generalize aI x=T at *;obtain⟨VM,TU⟩:∃r,r=((LS.drop (k+1)).flatMap aI).map (dx ⟨l,f.ag,f.par⟩):=⟨_,rfl⟩
           rw[←TU] at hd;have TW:=Lib.hid TU;have VX:=Lib.hid hd;clear TU hd;go_wp2_with (go_at_call 92;refine LI.mono ?_;clear LI;rintro e w5 ⟨tv,rfl,OR,cW⟩;obtain⟨pt,ct,rfl,_,Sr,_⟩:=OR.shape);have QM:=dH.trans (af cW dH.size);have dJ:=bM.below cW (nl _);unfold maxLen at Sr;clear dH cW bM qh;go_loopw [102] (λy wx=>∃j:Nat,j≤T.length∧y=.int .i64 j∧Below w5.heap.size w5 wx∧Hid (dV ((LS.flatMap aI).map (dx ⟨l,f.ag,f.par⟩))=dV (((T.drop j).map (dx ⟨l,f.ag,f.par⟩))++VM))) (λy _=>T.length - (intOf y).toNat)
           case atStart=>exact⟨0,Nat.zero_le _,by go_num,Below.refl _ _,VX⟩
           case round=>
            clear VX;obtain⟨j,hj,rfl,jw,hG⟩:=hrel;have Mk:=QM.trans (af jw QM.size)
            by_cases KR:j<T.length
            case neg=>as_aux_lemma=>
             have HZ:=Lib.hid ((show dV ((LS.flatMap aI).map (dx ⟨l,f.ag,f.par⟩))=dV VM by rw[hG.out,List.drop_eq_nil_of_le (by omega)];rfl).trans (by rw[TW.out]));clear hG;go_wp2_with fail;exact⟨⟨k+1,hlt5,by go_num,dJ.below jw (nl _),Mk,HZ⟩,by have h9:=hlt5;simp only[intOf];omega⟩
            case pos=>as_aux_lemma=>
             obtain⟨u,yN⟩:∃u,T[j]? =some u:=⟨_,List.getElem?_eq_getElem KR⟩
             have Wg:=OR.below jw (nl _);obtain⟨b1,o1,rfl,_,pc⟩:=Wg.at yN;have wq:=Wg.le u (List.mem_of_getElem? yN);have hd:=hG.out;rw[bp yN,List.map_cons,List.cons_append] at hd;clear hG yN;have Nh:=Sf.trans (af Mk Sf.size);have bS:=gB (dY GA Mk (bH GA));have GM:=nj (D:=D) ⟨l,f.ag,f.par⟩ (.agg #[.map (some M),.slice p1 f.ag.length z1,.bool f.par]) u wr ⟨M,_,rfl,V7.below Mk (nl _),(P9.below Mk (nl _))⟩ fW wq (HT.out _ Nh);generalize dx ⟨l,f.ag,f.par⟩ u=GK at *
             by_cases h0:GK=0
             · subst h0
               rw[gj rfl] at hd;have HZ:=Lib.hid hd;clear hd;go_wp2_with (go_at_call 59;refine GM.mono ?_;clear GM;rintro e w7 ⟨rfl,qw⟩);exact⟨⟨j+1,KR,by go_num,jw.trans (af qw jw.size),HZ⟩,by simp only[intOf];omega⟩
             · obtain⟨g1,g2⟩:=bC h0
               rw[eH h0] at hd;have HZ:=Lib.hid (show ja l=(i,GK) by rw[O5.out,D8.out,yu (by rw[Mh.out,hd];exact h0),Mh.out,hd];rfl);clear hd h0;go_wp2_with (go_at_call 59;refine GM.mono ?_;clear GM;rintro e w7 ⟨rfl,qw⟩);go_ret2;rw[HZ.out];exact⟨rfl,Nh.trans (af qw Nh.size)⟩
        case pos=>as_aux_lemma=>
         obtain⟨x,hx⟩:∃x,f.ops[k]? =some x:=⟨_,List.getElem?_eq_getElem hlt⟩
         obtain⟨b1,o1,av,sv,kj,KD,⟨Az,kC⟩,dy,cQ,uR,kK,mR,qG,sN⟩:=(YI.below jl (nl _)).at hx;subst kj;obtain⟨pa,ca,rfl,_⟩:=dy.shape;obtain⟨ps,cs,rfl,_⟩:=cQ.shape;have pG:=Lib.hid (show(f.ag.map (·.sig)++(f.ops.take k).map (·.sig))++[x.sig]=f.ag.map (·.sig)++(f.ops.take (k+1)).map (·.sig) by rw[List.take_add_one,hx];simp);have hlen:(f.ag.map (·.sig)++(f.ops.take k).map (·.sig)).length≤30:=by simp;omega
         generalize (f.ag.map (·.sig)++(f.ops.take k).map (·.sig))=LS at *;clear hx;obtain⟨cc,hcs,hC⟩:=hown;have jE:=(Below.refl _ wr).alloc (nl _) (.cells #[str x.name,.bool x.sig.iter,.slice pa x.sig.args.length ca,str x.sig.res,.slice ps x.sig.sigs.length cs] 50);have bJ:=jl.alloc jl.size (.cells #[str x.name,.bool x.sig.iter,.slice pa x.sig.args.length ca,str x.sig.res,.slice ps x.sig.sigs.length cs] 50);have pI:=az hcs jE (nl _);have E1:=hC.below jE (nl _);have vZ:=dy.below jE (nl _);have v8:=cQ.below jE (nl _);have hp1:=(bL (heap_alloc_new wr (.cells #[str x.name,.bool x.sig.iter,.slice pa x.sig.args.length ca,str x.sig.res,.slice ps x.sig.sigs.length cs] 50))).1;clear hC jE dy cQ;go_wp2_with (at_builtin;refine aL _ rfl _ _ 115 rfl W2.heap.size 36 i0 _ 4 72 yw fV hz0 hz1 hz2 rfl (by decide) _ _ cc rfl (pI.alloc _) ⟨wr.heap.size+1,0,none⟩ 1 1 [.bool x.sig.iter,.slice pa x.sig.args.length ca,str x.sig.res,.slice ps x.sig.sigs.length cs] rfl rfl (by have:=ew (wr.alloc (.cells #[str x.name,.bool x.sig.iter,.slice pa x.sig.args.length ca,str x.sig.res,.slice ps x.sig.sigs.length cs] 50)) [.bool x.sig.iter,.slice pa x.sig.args.length ca,str x.sig.res,.slice ps x.sig.sigs.length cs] 36;simpa using this) (by intro u hu;simp only[List.mem_cons,List.not_mem_nil,or_false] at hu;rcases hu with rfl|rfl|rfl|rfl<;>rfl) (by decide) (by unfold maxLen;omega) (by omega) (Nat.le_trans bJ.size (by simp)) ?_;intro v' w5 dJ hgr n5);have Gz:=(Below.refl _ (wr.alloc (.cells #[str x.name,.bool x.sig.iter,.slice pa x.sig.args.length ca,str x.sig.res,.slice ps x.sig.sigs.length cs] 50))).alloc (nl _) (.cells #[.bool x.sig.iter,.slice pa x.sig.args.length ca,str x.sig.res,.slice ps x.sig.sigs.length cs] 36);have hne:∀b,D b∧b<W2.heap.size→(Value.slice pv LS.length cv).ownBlock≠some b:=λb hb e=>by have:=(pI.lt _ e).1;omega
         have h5:=mV.append (k:=[x.sig]) (E1.below Gz (nl _)) (oC.below Gz (nl _) ⟨_,_,[],rfl,kC,vZ.mono hne,v8.mono hne,rfl⟩) dJ hgr n5;have iq:=Below.grown (B:=W2.heap.size) (bJ.alloc bJ.size (.cells #[.bool x.sig.iter,.slice pa x.sig.args.length ca,str x.sig.res,.slice ps x.sig.sigs.length cs] 36)) hgr (Nat.le_trans bJ.size (by simp)) (λk e=>(pI.lt k e).1);refine⟨⟨k+1,hlt,by go_num,pG.out▸h5,iq⟩,by simp only[intOf];omega⟩
      case pos=>as_aux_lemma=>
       obtain⟨x,hx⟩:∃x,f.ag[k]? =some x:=⟨_,List.getElem?_eq_getElem hlt⟩
       obtain⟨b1,o1,av,sv,kj,KD,⟨Az,kC⟩,dy,cQ,uR,kK,mR,qG,sN⟩:=(P8.below jl (nl _)).at hx;subst kj;obtain⟨pa,ca,rfl,_⟩:=dy.shape;obtain⟨ps,cs,rfl,_⟩:=cQ.shape;have pG:=Lib.hid (show((f.ag.take k).map (·.sig))++[x.sig]=(f.ag.take (k+1)).map (·.sig) by rw[List.take_add_one,hx];simp);have hlen:((f.ag.take k).map (·.sig)).length≤30:=by simp;omega
       generalize ((f.ag.take k).map (·.sig))=LS at *;clear hx;obtain⟨cc,hcs,hC⟩:=hown;have jE:=(Below.refl _ wr).alloc (nl _) (.cells #[str x.name,.bool x.sig.iter,.slice pa x.sig.args.length ca,str x.sig.res,.slice ps x.sig.sigs.length cs] 79);have bJ:=jl.alloc jl.size (.cells #[str x.name,.bool x.sig.iter,.slice pa x.sig.args.length ca,str x.sig.res,.slice ps x.sig.sigs.length cs] 79);have pI:=az hcs jE (nl _);have E1:=hC.below jE (nl _);have vZ:=dy.below jE (nl _);have v8:=cQ.below jE (nl _);have hp1:=(bL (heap_alloc_new wr (.cells #[str x.name,.bool x.sig.iter,.slice pa x.sig.args.length ca,str x.sig.res,.slice ps x.sig.sigs.length cs] 79))).1;clear hC jE dy cQ;go_wp2_with (at_builtin;refine aL _ rfl _ _ 115 rfl W2.heap.size 36 i0 _ 4 72 yw fV hz0 hz1 hz2 rfl (by decide) _ _ cc rfl (pI.alloc _) ⟨wr.heap.size+1,0,none⟩ 1 1 [.bool x.sig.iter,.slice pa x.sig.args.length ca,str x.sig.res,.slice ps x.sig.sigs.length cs] rfl rfl (by have:=ew (wr.alloc (.cells #[str x.name,.bool x.sig.iter,.slice pa x.sig.args.length ca,str x.sig.res,.slice ps x.sig.sigs.length cs] 79)) [.bool x.sig.iter,.slice pa x.sig.args.length ca,str x.sig.res,.slice ps x.sig.sigs.length cs] 36;simpa using this) (by intro u hu;simp only[List.mem_cons,List.not_mem_nil,or_false] at hu;rcases hu with rfl|rfl|rfl|rfl<;>rfl) (by decide) (by unfold maxLen;omega) (by omega) (Nat.le_trans bJ.size (by simp)) ?_;intro v' w5 dJ hgr n5);have Gz:=(Below.refl _ (wr.alloc (.cells #[str x.name,.bool x.sig.iter,.slice pa x.sig.args.length ca,str x.sig.res,.slice ps x.sig.sigs.length cs] 79))).alloc (nl _) (.cells #[.bool x.sig.iter,.slice pa x.sig.args.length ca,str x.sig.res,.slice ps x.sig.sigs.length cs] 36);have hne:∀b,D b∧b<W2.heap.size→(Value.slice pv LS.length cv).ownBlock≠some b:=λb hb e=>by have:=(pI.lt _ e).1;omega
       have h5:=mV.append (k:=[x.sig]) (E1.below Gz (nl _)) (oC.below Gz (nl _) ⟨_,_,[],rfl,kC,vZ.mono hne,v8.mono hne,rfl⟩) dJ hgr n5;have iq:=Below.grown (B:=W2.heap.size) (bJ.alloc bJ.size (.cells #[.bool x.sig.iter,.slice pa x.sig.args.length ca,str x.sig.res,.slice ps x.sig.sigs.length cs] 36)) hgr (Nat.le_trans bJ.size (by simp)) (λk e=>(pI.lt k e).1);refine⟨⟨k+1,hlt,by go_num,pG.out▸h5,iq⟩,by simp only[intOf];omega⟩
  case pos => as_aux_lemma =>
   obtain⟨f,hkx⟩:∃f,l[i]? =some f:=⟨_,List.getElem?_eq_getElem hlt⟩
   have oN:=hv.below hb (nl _);obtain⟨b1,o1,nv,ov,rfl,_,hfl,hN,hO,c0,c1,c2,c3,c4⟩:=oN.at hkx;obtain⟨p1,z1,rfl,_⟩:=hN.shape;obtain⟨p2,z2,rfl,_⟩:=hO.shape;have hd:=hA.out;rw[bp hkx] at hd;clear hA
   by_cases h20:20≤i
   · have HX:=Lib.hid (kT (hd.trans (tH h20)))
     have g0:(20:Int)≤(i:Int):=by omega
     clear hd hkx;go_wp2_with fail;go_ret2;rw[HX.out];exact⟨rfl,hb.alloc hb.size _⟩
   · have g0 : ¬(20 : Int) ≤ (i : Int) := by omega
     have iE:=heap_alloc_new wr (.cells #[.string ⟨f.name.toArray⟩,.int .u8 f.kind,.bool f.par,.slice p1 f.ag.length z1,.slice p2 f.ops.length z2] 58);have hE:=(Below.refl _ wr).alloc (nl _) (.cells #[.string ⟨f.name.toArray⟩,.int .u8 f.kind,.bool f.par,.slice p1 f.ag.length z1,.slice p2 f.ops.length z2] 58);have hB:=hb.alloc hb.size (.cells #[.string ⟨f.name.toArray⟩,.int .u8 f.kind,.bool f.par,.slice p1 f.ag.length z1,.slice p2 f.ops.length z2] 58);have HC:=o8 _ f _ (HT.out _ hB) ⟨_,_,rfl,hfl,hN.below hE (nl _),hO.below hE (nl _)⟩ (hn f (List.mem_of_getElem? hkx));rcases nY:eU f with _|_
     · rw[kW nY] at HC
       have HX:=Lib.hid (kT (hd.trans (tF h20 nY)));clear hd hkx nY;go_wp2_with (go_at_call 38;refine HC.mono ?_;clear HC;rintro e w1 ⟨rfl,ay⟩);go_ret2;rw[HX.out];exact⟨rfl,hB.trans (af ay hB.size)⟩
     · rw [q8 nY] at HC
       have YZ:=(bL iE).1;cases i with
       | zero=>
        have HX:=Lib.hid (show dm l 0 none=dm (l.drop 1) 1 (iX l 1) by rw[hd,nQ h20 nY (by rfl)];simp[iX,hkx]);simp only[Nat.zero_mul,Nat.add_zero] at c0 c1 c2 c3 c4;clear hd hkx nY;go_upto_region 8 with(go_at_call 38;refine HC.mono ?_;clear HC;rintro e w1 ⟨rfl,ay⟩;have rV:=(bL (ah iE ay)).1);go_quiet (fail);go_wp2_with fail;exact⟨⟨1,by omega,by go_num,zQ (hB.trans (af ay hB.size)) _,HX⟩,by simp only[intOf];omega⟩
       | succ j=>
        have hj:j<l.length:=by omega
        obtain⟨y,gM⟩:∃y,l[j]? =some y:=⟨_,List.getElem?_eq_getElem hj⟩
        obtain⟨b2,o2,Vl,Vm,e2,_,_,_,_,d0,_⟩:=oN.at gM;injection e2 with e2;injection e2 with e2 e3;subst e2 e3;have d0:=Below.keep hE d0;rcases hl:Op.bytesLess y.name f.name with _|_
        · have HX:=Lib.hid (kT (hd.trans (by rw[show iX l (j+1)=some y.name by rw[iX,gM];rfl];exact qo h20 nY hl)))
          clear hd hkx gM nY;go_upto_region 8 with(go_at_call 38;refine HC.mono ?_;clear HC;rintro e w1 ⟨rfl,ay⟩;have rV:=(bL (ah iE ay)).1;have d0:=Below.keep ay d0);go_quiet (fail);go_wp2_with fail;go_ret2;rw[HX.out];exact⟨rfl,zQ (hB.trans (af ay hB.size)) _⟩
        · have HX:=Lib.hid (show dm l 0 none=dm (l.drop (j+2)) (j+2) (iX l (j+2)) by rw[hd,nQ h20 nY (by rw[show iX l (j+1)=some y.name by rw[iX,gM];rfl];simp[hl])];simp[iX,hkx])
          clear hd hkx gM nY;go_upto_region 8 with(go_at_call 38;refine HC.mono ?_;clear HC;rintro e w1 ⟨rfl,ay⟩;have rV:=(bL (ah iE ay)).1;have d0:=Below.keep ay d0);go_quiet (fail);go_wp2_with fail;exact⟨⟨j+2,by omega,by go_num,zQ (hB.trans (af ay hB.size)) _,HX⟩,by simp only[intOf];omega⟩
end Go.Proofs.YtakgjcfkdemipaaGreatDoor
