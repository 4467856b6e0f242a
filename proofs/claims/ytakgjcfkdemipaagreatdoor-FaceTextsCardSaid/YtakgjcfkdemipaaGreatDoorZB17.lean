/-
  Lemmas for the statement: contracts of the reference argusref04: SameStrings, SameSig. Conditions: bounds of lengths; the variable strings.asciiSpace.
-/
import Derived.Deep.CutRange
import Derived.Test.YtakgjcfkdemipaaGreatDoorZBn
import Derived.Test.YtakgjcfkdemipaaGreatDoorZB6
set_option maxHeartbeats 3200000
namespace Go.Proofs.YtakgjcfkdemipaaGreatDoor
open Go.RowKit
theorem eV:Tryz.prog.underlying 34=some (.slice 9):=by kernel_rfl
set_option maxRecDepth 4000 in
theorem Gm {D E:Nat→Prop} (a b:List (List UInt8)) (v u:Value) (w:World) (hv:SS D w v a) (hu:SS E w u b):
 Calls Tryz.prog 248 #[v,u] w λe w'=>e=.returned (.bool (decide (a=b)))∧Below w.heap.size w w':=by
 obtain⟨p,c,rfl,_,ha,_⟩:=hv.shape
 obtain⟨q,d,rfl,_,hb,_⟩:=hu.shape
 unfold maxLen at ha hb
 by_cases hl:a.length=b.length
 case neg=>
  have hx:((a.length:Int) != (b.length:Int))=true:=by rw[bne_iff_ne];omega
  have hs:=zh (show decide (a=b)=false by rw[decide_eq_false_iff_not];intro e;exact hl (by rw[e]));go_enter Tryz.func248,Tryz.ntmps248;go_wp2_with fail;go_ret;exact⟨bI hs.out.symm,zb _⟩
 case pos =>
  rw[←hl] at hu ⊢;have HL:=zh hl;clear hl hb;go_enter Tryz.func248,Tryz.ntmps248;go_wp2_with fail;go_loopw [13] (λx wx=>∃k:Nat,k≤a.length∧x=.int .i64 k∧Hid (decide (a=b)=decide (a.drop k=b.drop k))∧Below w.heap.size w wx) (λx _=>a.length - (intOf x).toNat)
  case atStart=>exact⟨0,Nat.zero_le _,by go_num,rfl,zb _⟩
  case round=>
   obtain⟨k,hk,rfl,hx,iu⟩:=hrel
   by_cases hlt:k<a.length
   case neg=>
    have hs:=zh (show decide (a=b)=true by rw[hx,List.drop_eq_nil_of_le (by omega),List.drop_eq_nil_of_le (by rw[←HL.out];omega)];rfl);go_wp2_with fail;go_ret;exact⟨bI hs.out.symm,iu⟩
   case pos=>
    obtain⟨x,hkx⟩:∃x,a[k]? =some x:=⟨_,List.getElem?_eq_getElem hlt⟩
    obtain⟨y,j8⟩:∃y,b[k]? =some y:=⟨_,List.getElem?_eq_getElem (by rw[←HL.out];exact hlt)⟩
    have hda:a.drop k=x::a.drop (k+1):=bp hkx;have hdb:b.drop k=y::b.drop (k+1):=bp j8;obtain⟨b1,o1,rfl,_,c1⟩:=(hv.below iu zr).at hkx;obtain⟨b2,o2,rfl,_,c2⟩:=(hu.below iu zr).at j8;rw[hda,hdb] at hx;rcases he:(x==y) with _|_
    · have hs:=zh (show decide (a=b)=false by rw[hx,decide_eq_false_iff_not];intro e;injection e with e1;rw[e1] at he;simp at he)
      have A5:(x != y)=true:=by simpa[bne] using he
      clear hx hkx j8 hda hdb;go_upto_region 6 with fail
      go_region
      go_wp2_with fail;go_ret;exact⟨bI hs.out.symm,iu.drew⟩
    · have hxy:x=y:=by simpa using he
      have hs:=zh (show decide (a=b)=decide (a.drop (k+1)=b.drop (k+1)) by rw[hx,hxy];simp);have A5:(x != y)=false:=by simpa[bne] using he
      clear hx hkx j8 hda hdb hxy;go_upto_region 6 with fail
      go_region
      go_wp2_with fail;exact⟨⟨k+1,hlt,by go_num,hs,iu.drew⟩,by simp only[intOf];omega⟩
theorem AY {D E:Nat→Prop} (a b:List (List UInt8)) (v u:Value) (w:World) (hv:SS D w v a) (hu:SS E w u b):
 Calls Tryz.prog 201 #[v,u] w λe w'=>e=.returned (.bool (decide (a=b)))∧Below w.heap.size w w':=by
 have hC:=Gm a b v u w hv hu
 obtain⟨p,c,rfl,_⟩:=hv.shape
 obtain⟨q,d,rfl,_⟩:=hu.shape
 generalize decide (a=b)=r at hC ⊢
 go_enter Tryz.func201,Tryz.ntmps201
 go_wp2_with (go_at_call 248;refine hC.mono ?_;clear hC;rintro e w1 ⟨rfl,au⟩)
 go_ret
 exact⟨rfl,au⟩
theorem ah {w w':World} {b:Nat} {o:Obj} (h:w.heap[b]? =some o) (hb:Below w.heap.size w w'):w'.heap[b]? =some o:=cG h hb (bA h)
theorem size_set (w:World) (a:Addr) (u:Value):(w.setCell a u).heap.size=w.heap.size:=by simp[World.setCell]
theorem Eg {w w':World} {b j:Nat} {u:Value} {cs:Array Value} {t:TypeId} (h:w.heap[b]? =some (.cells cs t (0,0))) (hb:Below (w.setCell ⟨b,j,none⟩ u).heap.size (w.setCell ⟨b,j,none⟩ u) w'):w'.heap[b]? =some (.cells (cs.setIfInBounds j u) t (0,0)):=
 ah (heap_setCell_same w b j cs t u h) hb
theorem zN {w w':World} {b b' j:Nat} {u:Value} {o:Obj} (h:w.heap[b]? =some o) (hne:b≠b') (hb:Below (w.setCell ⟨b',j,none⟩ u).heap.size (w.setCell ⟨b',j,none⟩ u) w'):w'.heap[b]? =some o:=
 ah ((heap_setCell_other w ⟨b',j,none⟩ b u hne).trans h) hb
theorem qa (w:World) (a b c d:Value) (t:TypeId):(w.alloc (.cells #[a,b,c,d] t)).cell? ⟨w.heap.size,0,none⟩=some a∧(w.alloc (.cells #[a,b,c,d] t)).cell? ⟨w.heap.size,1,none⟩=some b∧(w.alloc (.cells #[a,b,c,d] t)).cell? ⟨w.heap.size,2,none⟩=some c∧(w.alloc (.cells #[a,b,c,d] t)).cell? ⟨w.heap.size,3,none⟩=some d:=by
 have h:=heap_alloc_new w (.cells #[a,b,c,d] t)
 exact⟨(ak h 0).trans rfl,(ak h 1).trans rfl,(ak h 2).trans rfl,(ak h 3).trans rfl⟩
set_option maxRecDepth 4000 in
theorem tr {D E:Nat→Prop} (a b:bP) (v u:Value) (w:World) (hv:aT D w v a) (hu:aT E w u b):
 Calls Tryz.prog 139 #[v,u] w λe w'=>e=.returned (.bool (pK a b))∧Below w.heap.size w w':=by
 obtain⟨av,ax,rfl,_,ha,hs⟩:=hv
 obtain⟨bv,bx,rfl,_,hb,ht⟩:=hu
 obtain⟨p1,c1,rfl,_⟩:=ha.shape
 obtain⟨p2,c2,rfl,_⟩:=hs.shape
 obtain⟨p3,c3,rfl,_⟩:=hb.shape
 obtain⟨p4,c4,rfl,_⟩:=ht.shape
 obtain⟨ai,aa,ar,BF⟩:=a
 obtain⟨bi,ba,br,wu⟩:=b
 dsimp only at ha hs hb ht
 unfold pK
 dsimp only
 have hX:=(zb w).alloc zr (.cells #[.bool ai,.slice p1 aa.length c1,str ar,.slice p2 BF.length c2] 36)
 have hY:=hX.alloc (by simp) (.cells #[.bool bi,.slice p3 ba.length c3,str br,.slice p4 wu.length c4] 36)
 obtain⟨x0,x1,x2,x3⟩:=qa w (.bool ai) (.slice p1 aa.length c1) (str ar) (.slice p2 BF.length c2) 36
 obtain⟨y0,y1,y2,y3⟩:=qa (w.alloc (.cells #[.bool ai,.slice p1 aa.length c1,str ar,.slice p2 BF.length c2] 36)) (.bool bi) (.slice p3 ba.length c3) (str br) (.slice p4 wu.length c4) 36
 have hk:=λo=>(zb (w.alloc (.cells #[.bool ai,.slice p1 aa.length c1,str ar,.slice p2 BF.length c2] 36))).alloc zr o
 have z0:=Below.keep (hk (.cells #[.bool bi,.slice p3 ba.length c3,str br,.slice p4 wu.length c4] 36)) x0
 have z1:=Below.keep (hk (.cells #[.bool bi,.slice p3 ba.length c3,str br,.slice p4 wu.length c4] 36)) x1
 have z2:=Below.keep (hk (.cells #[.bool bi,.slice p3 ba.length c3,str br,.slice p4 wu.length c4] 36)) x2
 have z3:=Below.keep (hk (.cells #[.bool bi,.slice p3 ba.length c3,str br,.slice p4 wu.length c4] 36)) x3
 rw[World.size_alloc] at y0 y1 y2 y3
 clear x0 x1 x2 x3 hk
 have ha:=ha.below hY zr
 have hs:=hs.below hY zr
 have hb:=hb.below hY zr
 have ht:=ht.below hY zr
 by_cases hi:ai=bi
 case neg=>
  have g1:(ai==bi)=false:=by simpa using hi
  have g2:=zh (show decide (ai=bi)=false by simpa using hi);go_enter Tryz.func139,Tryz.ntmps139;go_wp2_with fail;go_ret;exact⟨by first|rfl|(rw[g2.out];rfl),hY⟩
 case pos =>
  subst hi
  by_cases hr:ar=br
  case neg=>
   have g1:(ar==br)=false:=by simpa using hr
   have g2:=zh (show decide (ar=br)=false by simpa using hr);go_enter Tryz.func139,Tryz.ntmps139;go_wp2_with fail;go_ret;exact⟨by first|rfl|(rw[g2.out];simp),hY⟩
  case pos =>
   subst hr;have hE:=AY _ _ _ _ _ ha hb;have hF:=λW (hW:Below (w.heap.size+1+1) ((w.alloc (.cells #[.bool ai,.slice p1 aa.length c1,str ar,.slice p2 BF.length c2] 36)).alloc (.cells #[.bool ai,.slice p3 ba.length c3,str ar,.slice p4 wu.length c4] 36)) W)=>AY _ _ _ _ _ (hs.below hW (by simp)) (ht.below hW (by simp))
   clear ha hb hs ht;rcases g1:decide (aa=ba) with _|_
   · rw[g1] at hE
     have G:=zh g1;clear g1;go_enter Tryz.func139,Tryz.ntmps139;go_wp2_with (go_at_call 201;refine hE.mono ?_;clear hE;rintro e w1 ⟨rfl,au⟩);go_ret;exact⟨by first|rfl|(rw[G.out];simp),hY.trans (af au (by simp;omega))⟩
   · rw[g1] at hE
     have G:=zh g1;clear g1;generalize decide (BF=wu)=r at hF ⊢;cases r
     all_goals
      go_enter Tryz.func139,Tryz.ntmps139;go_wp2_with (first
       | (go_at_call 201;refine(hF w1 (af au (by simp))).mono ?_;clear hF;rintro e w2 ⟨rfl,aC⟩)
       | (go_at_call 201;refine hE.mono ?_;clear hE;rintro e w1 ⟨rfl,au⟩;have z3:=Below.keep au z3;have y3:=Below.keep au y3))
      go_ret;exact⟨by first|rfl|(rw[G.out];simp),(hY.trans (af au (by simp;omega))).trans (af aC (by have:=au.size;simp at this;omega))⟩
set_option maxRecDepth 4000 in
theorem CM {D E:Nat→Prop} (a b:List (List UInt8)) (v u:Value) (w:World) (hv:SS D w v a) (hu:SS E w u b):
 Calls Tryz.prog 104 #[v,u] w λe w'=>e=.returned (.bool (decide (a=b)))∧Below w.heap.size w w':=by
 obtain⟨p,c,rfl,_,ha,_⟩:=hv.shape
 obtain⟨q,d,rfl,_,hb,_⟩:=hu.shape
 unfold maxLen at ha hb
 by_cases hl:a.length=b.length
 case neg=>
  have hx:((a.length:Int) != (b.length:Int))=true:=by rw[bne_iff_ne];omega
  have hs:=zh (show decide (a=b)=false by rw[decide_eq_false_iff_not];intro e;exact hl (by rw[e]));go_enter Tryz.func104,Tryz.ntmps104;go_wp2_with fail;go_ret;exact⟨bI hs.out.symm,zb _⟩
 case pos =>
  rw[←hl] at hu ⊢;have HL:=zh hl;clear hl hb;go_enter Tryz.func104,Tryz.ntmps104;go_wp2_with fail;go_loopw [5] (λx wx=>∃k:Nat,k≤a.length∧x=.int .i64 k∧Hid (decide (a=b)=decide (a.drop k=b.drop k))∧Below w.heap.size w wx) (λx _=>a.length - (intOf x).toNat)
  case atStart=>exact⟨0,Nat.zero_le _,by go_num,rfl,zb _⟩
  case round=>
   obtain⟨k,hk,rfl,hx,iu⟩:=hrel
   by_cases hlt:k<a.length
   case neg=>
    have hs:=zh (show decide (a=b)=true by rw[hx,List.drop_eq_nil_of_le (by omega),List.drop_eq_nil_of_le (by rw[←HL.out];omega)];rfl);go_wp2_with fail;go_ret;exact⟨bI hs.out.symm,iu⟩
   case pos=>
    obtain⟨x,hkx⟩:∃x,a[k]? =some x:=⟨_,List.getElem?_eq_getElem hlt⟩
    obtain⟨y,j8⟩:∃y,b[k]? =some y:=⟨_,List.getElem?_eq_getElem (by rw[←HL.out];exact hlt)⟩
    have hda:a.drop k=x::a.drop (k+1):=bp hkx;have hdb:b.drop k=y::b.drop (k+1):=bp j8;obtain⟨b1,o1,rfl,_,c1⟩:=(hv.below iu zr).at hkx;obtain⟨b2,o2,rfl,_,c2⟩:=(hu.below iu zr).at j8;rw[hda,hdb] at hx;rcases he:(x==y) with _|_
    · have hs:=zh (show decide (a=b)=false by rw[hx,decide_eq_false_iff_not];intro e;injection e with e1;rw[e1] at he;simp at he)
      have A5:(x != y)=true:=by simpa[bne] using he
      clear hx hkx j8 hda hdb;go_upto_region 6 with fail
      go_region
      go_wp2_with fail;go_ret;exact⟨bI hs.out.symm,iu.drew⟩
    · have hxy:x=y:=by simpa using he
      have hs:=zh (show decide (a=b)=decide (a.drop (k+1)=b.drop (k+1)) by rw[hx,hxy];simp);have A5:(x != y)=false:=by simpa[bne] using he
      clear hx hkx j8 hda hdb hxy;go_upto_region 6 with fail
      go_region
      go_wp2_with fail;exact⟨⟨k+1,hlt,by go_num,hs,iu.drew⟩,by simp only[intOf];omega⟩
theorem rT {D E:Nat→Prop} (a b:List (List UInt8)) (v u:Value) (w:World) (hv:SS D w v a) (hu:SS E w u b):
 Calls Tryz.prog 49 #[v,u] w λe w'=>e=.returned (.bool (decide (a=b)))∧Below w.heap.size w w':=by
 have HC:=CM a b v u w hv hu
 obtain⟨p,c,rfl,_⟩:=hv.shape
 obtain⟨q,d,rfl,_⟩:=hu.shape
 go_enter Tryz.func49,Tryz.ntmps49
 go_wp2_with (go_at_call 104;refine HC.mono ?_;clear HC;rintro e w1 ⟨rfl,au⟩)
 go_ret
 exact⟨rfl,au⟩
set_option maxRecDepth 4000 in
theorem EN {D E:Nat→Prop} (a b:bP) (v u:Value) (w:World) (hv:aT D w v a) (hu:aT E w u b):
 Calls Tryz.prog 26 #[v,u] w λe w'=>e=.returned (.bool (pK a b))∧Below w.heap.size w w':=by
 obtain⟨av,ax,rfl,_,ha,hs⟩:=hv
 obtain⟨bv,bx,rfl,_,hb,ht⟩:=hu
 obtain⟨p1,c1,rfl,_⟩:=ha.shape
 obtain⟨p2,c2,rfl,_⟩:=hs.shape
 obtain⟨p3,c3,rfl,_⟩:=hb.shape
 obtain⟨p4,c4,rfl,_⟩:=ht.shape
 obtain⟨ai,aa,ar,BF⟩:=a
 obtain⟨bi,ba,br,wu⟩:=b
 dsimp only at ha hs hb ht
 unfold pK
 dsimp only
 have hX:=(zb w).alloc zr (.cells #[.bool ai,.slice p1 aa.length c1,str ar,.slice p2 BF.length c2] 36)
 have hY:=hX.alloc (by simp) (.cells #[.bool bi,.slice p3 ba.length c3,str br,.slice p4 wu.length c4] 36)
 obtain⟨x0,x1,x2,x3⟩:=qa w (.bool ai) (.slice p1 aa.length c1) (str ar) (.slice p2 BF.length c2) 36
 obtain⟨y0,y1,y2,y3⟩:=qa (w.alloc (.cells #[.bool ai,.slice p1 aa.length c1,str ar,.slice p2 BF.length c2] 36)) (.bool bi) (.slice p3 ba.length c3) (str br) (.slice p4 wu.length c4) 36
 have hk:=λo=>(zb (w.alloc (.cells #[.bool ai,.slice p1 aa.length c1,str ar,.slice p2 BF.length c2] 36))).alloc zr o
 have z0:=Below.keep (hk (.cells #[.bool bi,.slice p3 ba.length c3,str br,.slice p4 wu.length c4] 36)) x0
 have z1:=Below.keep (hk (.cells #[.bool bi,.slice p3 ba.length c3,str br,.slice p4 wu.length c4] 36)) x1
 have z2:=Below.keep (hk (.cells #[.bool bi,.slice p3 ba.length c3,str br,.slice p4 wu.length c4] 36)) x2
 have z3:=Below.keep (hk (.cells #[.bool bi,.slice p3 ba.length c3,str br,.slice p4 wu.length c4] 36)) x3
 rw[World.size_alloc] at y0 y1 y2 y3
 clear x0 x1 x2 x3 hk
 have ha:=ha.below hY zr
 have hs:=hs.below hY zr
 have hb:=hb.below hY zr
 have ht:=ht.below hY zr
 by_cases hi:ai=bi
 case neg=>
  have g1:(ai==bi)=false:=by simpa using hi
  have g2:=zh (show decide (ai=bi)=false by simpa using hi);go_enter Tryz.func26,Tryz.ntmps26;go_wp2_with fail;go_ret;exact⟨by first|rfl|(rw[g2.out];rfl),hY⟩
 case pos =>
  subst hi
  by_cases hr:ar=br
  case neg=>
   have g1:(ar==br)=false:=by simpa using hr
   have g2:=zh (show decide (ar=br)=false by simpa using hr);go_enter Tryz.func26,Tryz.ntmps26;go_wp2_with fail;go_ret;exact⟨by first|rfl|(rw[g2.out];simp),hY⟩
  case pos =>
   subst hr;have hE:=rT _ _ _ _ _ ha hb;have hF:=λW (hW:Below (w.heap.size+1+1) ((w.alloc (.cells #[.bool ai,.slice p1 aa.length c1,str ar,.slice p2 BF.length c2] 36)).alloc (.cells #[.bool ai,.slice p3 ba.length c3,str ar,.slice p4 wu.length c4] 36)) W)=>rT _ _ _ _ _ (hs.below hW (by simp)) (ht.below hW (by simp))
   clear ha hb hs ht;rcases g1:decide (aa=ba) with _|_
   · rw[g1] at hE
     have G:=zh g1;clear g1;go_enter Tryz.func26,Tryz.ntmps26;go_wp2_with (go_at_call 49;refine hE.mono ?_;clear hE;rintro e w1 ⟨rfl,au⟩);go_ret;exact⟨by first|rfl|(rw[G.out];simp),hY.trans (af au (by simp;omega))⟩
   · rw[g1] at hE
     have G:=zh g1;clear g1;generalize decide (BF=wu)=r at hF ⊢;cases r
     all_goals
      go_enter Tryz.func26,Tryz.ntmps26;go_wp2_with (first
       | (go_at_call 49;refine(hF w1 (af au (by simp))).mono ?_;clear hF;rintro e w2 ⟨rfl,aC⟩)
       | (go_at_call 49;refine hE.mono ?_;clear hE;rintro e w1 ⟨rfl,au⟩;have z3:=Below.keep au z3;have y3:=Below.keep au y3))
      go_ret;exact⟨by first|rfl|(rw[G.out];simp),(hY.trans (af au (by simp;omega))).trans (af aC (by have:=au.size;simp at this;omega))⟩
end Go.Proofs.YtakgjcfkdemipaaGreatDoor
