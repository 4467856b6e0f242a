/-
  Lemmas for the statement: contract: of the package face: Check. Conditions: bounds of lengths; the variable strings.asciiSpace.
-/
import Derived.Test.YtemjidmkolfgnaaGreatDoorSBn
import Derived.Test.YtemjidmkolfgnaaGreatDoorSB22
import Derived.Test.YtemjidmkolfgnaaGreatDoorSB34
set_option maxHeartbeats 12800000
namespace Go.Proofs.YtemjidmkolfgnaaGreatDoor
section
open Go.RowKit Go.Maps
theorem EL {par:Bool} {acc:List (List UInt8)} {o:dw} {l:List dw} (h:hasB acc o.name=true):gP par acc (o::l)=false:=by rw[gP,h];rfl
theorem EM {par:Bool} {acc:List (List UInt8)} {o:dw} {l:List dw} (h:isName o.name=false):gP par acc (o::l)=false:=by rw[gP,h];simp
theorem EN {par:Bool} {acc:List (List UInt8)} {o:dw} {l:List dw} (h:eB o.sig par=false):gP par acc (o::l)=false:=by rw[gP,h];simp
theorem EO {par:Bool} {acc:List (List UInt8)} {o:dw} {l:List dw} (h1:hasB acc o.name=false) (h2:isName o.name=true) (h3:eB o.sig par=true):gP par acc (o::l)=gP par (acc++[o.name]) l:=by rw[gP,h1,h2,h3];simp
theorem zI {l:List dw} {i:Nat} {x:dw} (h:l[i]? =some x):(l.take i).map (·.name)++[x.name]=(l.take (i+1)).map (·.name):=by rw[List.take_add_one,h];simp
theorem yX (f:aZ) (h:1≤f.ops.length):(f.kind=3∧iK f=true)∨(f.kind≠3∧f.ops.length≠1∧iK f=false)∨(f.kind≠3∧∃o,f.ops=[o]∧((o.name≠f.name∧iK f=false)∨(o.name=f.name∧o.sig.iter≠decide (f.kind=2)∧iK f=false)∨(o.name=f.name∧o.sig.iter=decide (f.kind=2)∧iK f=true))):=by
 obtain⟨name,kind,par,aB,ops⟩:=f
 unfold iK
 simp only at *
 by_cases hk:kind=3
 · exact .inl ⟨hk,by simp[hk]⟩
 · right
   match ops,h with
   | [o], _ =>
    right
    refine⟨hk,o,rfl,?_⟩
    by_cases h1:o.name=name
    · by_cases h2:o.sig.iter=decide (kind=2)
      · exact .inr (.inr ⟨h1,h2,by simp[hk,h1,h2]⟩)
      · exact .inr (.inl ⟨h1,h2,by simp[hk,h2]⟩)
    · exact .inl ⟨h1,by simp[hk,h1]⟩
   | a::b::l,_=>
    left
    exact⟨hk,by simp,by simp[hk]⟩
theorem K3 {B:Nat} {a w:World} (h:Below B a w) (n:Nat):Below B a (w.drewN n):=h.trans ⟨rfl,rfl,rfl,nl _,λ_ _=>rfl⟩
def mR (f:aZ):Nat:=if(gP f.par [] f.ops&&iK f)=true then 0 else 42
theorem qI {f:aZ} {p:Bool} (hp:f.par=p) (h:gP p [] f.ops=false):mR f=42:=by unfold mR;rw[hp,h];rfl
theorem lY {f:aZ} {p:Bool} (hp:f.par=p) (h:gP p [] f.ops=true) (h2:iK f=false):mR f=42:=by unfold mR;rw[hp,h,h2];rfl
theorem xw {f:aZ} {p:Bool} (hp:f.par=p) (h:gP p [] f.ops=true) (h2:iK f=true):mR f=0:=by unfold mR;rw[hp,h,h2];rfl
theorem bY.below {w w':World} {b K:Nat} {acc:List (List UInt8)} (h:bY w b acc) (hb:Below K w w') (hK:w.heap.size≤K):bY w' b acc:=h.of_block (hb.block b (Nat.lt_of_lt_of_le h.lt hK))
set_option maxRecDepth 8000 in
theorem vO {D : Nat → Prop} (v : Value) (f : aZ) (w : World) (ht : gx w) (hv : kQ D w v f) (hn : f.aB.length ≤ 100000)
 (k1:isName f.name=true) (k2:1≤f.kind) (k3:f.kind≤3) (k4:dx f.aB=true) (k5:(f.par||f.aB.isEmpty)=true) (k6:1≤f.ops.length) (k7:f.ops.length≤20):
 Calls Tryz.prog 143 #[v] w λe w'=>e=.returned (.int .i64 (mR f))∧Below w.heap.size w w':=by
 have J6:=zh (yX f k6)
 have hmm:=@run_makeMap Tryz.prog
 have HF:=zh (Eq.refl f)
 obtain⟨nv,ov,rfl,hnl,h1,h2⟩:=hv
 have HN:=λW (hW:Below w.heap.size w W)=>bp f.name W (ht.below hW zr) hnl
 have HD:=λW (hW:Below w.heap.size w W)=>qx f.aB nv W (ht.below hW zr) (h1.below hW zr) hn
 obtain⟨p1,c1,rfl,_⟩:=h1.shape
 obtain⟨p2,c2,rfl,_,hm2,hle⟩:=h2.shape
 have HL:=zh hle
 rw[k1] at HN
 rw[k4] at HD
 have hB:=((zb w).alloc zr (.cells #[str f.name,.int .u8 f.kind,.bool f.par,.slice p1 f.aB.length c1,.slice p2 f.ops.length c2] 123))
 have hg:=heap_alloc_new w (.cells #[str f.name,.int .u8 f.kind,.bool f.par,.slice p1 f.aB.length c1,.slice p2 f.ops.length c2] 123)
 clear h1
 have g2:¬(f.kind:Int)<1:=by omega
 have b2:decide ((f.kind:Int)<1)=false:=decide_eq_false g2
 have g3:¬(3:Int)<(f.kind:Int):=by omega
 have b3:decide ((3:Int)<(f.kind:Int))=false:=decide_eq_false g3
 have g6:¬(f.ops.length:Int)<1:=by omega
 have b6:decide ((f.ops.length:Int)<1)=false:=decide_eq_false g6
 have g7:¬(20:Int)<(f.ops.length:Int):=by omega
 have b7:decide ((20:Int)<(f.ops.length:Int))=false:=decide_eq_false g7
 have g5:f.par=true∨(f.par=false∧decide (0<f.aB.length)=false):=by
  cases hp:f.par
  · refine .inr ⟨rfl,?_⟩
    rw[hp] at k5;have:f.aB=[]:=by simpa using k5
    rw[this]
    rfl
  · exact .inl rfl
 generalize hpar:f.par=par at *
 have HP:=zh hpar
 have D8:=zh k6
 have MI:=zh k7
 clear k1 k2 k3 k4 k5 k6 k7 hpar
 rcases g5 with rfl|⟨rfl,g5⟩
 all_goals
  go_enter Tryz.func143,Tryz.ntmps143;go_wp2_with (first
   | (go_at_call 59;refine(HN _ hB).mono ?_;clear HN;rintro e w1 ⟨rfl,aP⟩;have hg:=ag hg aP;have bx:=(cH hg).1;have hB:=hB.trans (aa aP hB.size))
   | (go_at_call 176;refine(HD _ hB).mono ?_;clear HD;rintro e w2 ⟨rfl,bO⟩;have hg:=ag hg bO;have bx:=(cH hg).1;have Te:=(cH (aK (.map #[] 0) hg)).1;have hB:=hB.trans (aa bO hB.size)))
  have TR:=aj hg;have yo:bY (w2.alloc (.map #[] 0)) w2.heap.size []:=bY.made w2;have hB:=hB.alloc hB.size (.map #[] 0);have hg:=aK (.map #[] 0) hg;generalize hM2:w2.heap.size=M at *;clear bx Te;generalize w2.alloc (.map #[] 0)=W at *;go_loopw [53] (λy wx=>∃i:Nat,i≤f.ops.length∧y=.int .i64 i∧bY wx M ((f.ops.take i).map (·.name))∧wx.heap[w.heap.size]? =W.heap[w.heap.size]? ∧Below w.heap.size w wx∧Hid (gP f.par [] f.ops=gP f.par ((f.ops.take i).map (·.name)) (f.ops.drop i))) (λy _=>f.ops.length - (intOf y).toNat)
  case atStart=>exact⟨0,Nat.zero_le _,by go_num,yo,rfl,hB,rfl⟩
  case round =>
   obtain⟨i,hi,rfl,dL,Ml,hb,hA⟩:=hrel;have VL:=zh Ml;have UD:=zh hg;have hg:=Ml.trans hg;clear Ml
   by_cases hlt:i<f.ops.length
   case neg =>
    have hie:f.ops.drop i=[]:=List.drop_eq_nil_of_le (by omega);have HX:=zh (show gP f.par [] f.ops=true by rw[hA.out,hie];rfl);clear hA hie;have bg:=(cH hg).1;have hl0:=D8.out;rcases J6.out with⟨a1,a2⟩|⟨a1,a2,a3⟩|⟨a1,o,a2,a3⟩
    · have HZ:=zh (xw rfl HX.out a2)
      have g:((f.kind:Int) != 3)=false:=by rw[a1];rfl
      clear a1 a2 J6 hl0;go_upto_region 11 with fail;have gL:0<f.ops.length:=D8.out;go_quiet (fail);go_wp2_with fail;go_ret;exact⟨by rw[HZ.out];rfl,K3 hb _⟩
    · have HZ:=zh (lY rfl HX.out a3)
      have g:((f.kind:Int) != 3)=true:=by rw[bne_iff_ne];omega
      have g1:((f.ops.length:Int) != 1)=true:=by rw[bne_iff_ne];omega
      clear a1 a2 a3 J6 hl0;go_upto_region 11 with fail;have gL:0<f.ops.length:=D8.out;go_quiet (fail);go_wp2_with fail;go_ret;exact⟨by rw[HZ.out];rfl,K3 hb _⟩
    · have hlen : f.ops.length = 1 := by rw [a2]; rfl
      have g:((f.kind:Int) != 3)=true:=by rw[bne_iff_ne];omega
      have g1:((f.ops.length:Int) != 1)=false:=by rw[hlen];rfl
      obtain⟨b1,o1,av,sv,rfl,_,_,_,_,d0,d1,_,_,_⟩:=h2.at (k:=0) (x:=o) (by rw[a2];rfl);have d0:=Below.keep hb d0;have d1:=Below.keep hb d1;rw[Nat.zero_mul,Nat.add_zero] at d0 d1;have hk2:decide (f.kind=2)=((f.kind:Int)==2):=by
       by_cases h:f.kind=2
       · rw[h];rfl
       · rw[decide_eq_false h,eq_comm,beq_eq_false_iff_ne];omega
      rcases a3 with⟨a3,a4⟩|⟨a3,a4,a5⟩|⟨a3,a4,a5⟩
      · have HZ := zh (lY rfl HX.out a4)
        have g2:=zh (show(o.name==f.name)=false by simpa using a3);clear a1 a2 a3 a4 J6 hl0 hlen hk2;generalize o.sig.iter=it at d1;go_upto_region 11 with fail;have gL:0<f.ops.length:=D8.out;have g2:=g2.out;refine u0 (D:=Any) (w:=wr) 30 [(1,vP w.heap.size 0)] [vP w.heap.size 1,.eq (.int .u8 f.kind),vY,vY,vP w.heap.size 4,vL b1 o1 f.ops.length c2,vI f.ops.length,vN,vN,vP w.heap.size 4,vL b1 o1 f.ops.length c2,vP b1 o1,vP b1 o1,vT o.name,vP w.heap.size 0,vT f.name,vY,vY,vY,vK,vK,vK,vK,vK,vK,vK,vK,vK,vK,vY,vY] (eD [(⟨w.heap.size,0,none⟩,str f.name),(⟨w.heap.size,1,none⟩,.int .u8 f.kind),(⟨w.heap.size,4,none⟩,.slice (some ⟨b1,o1,none⟩) f.ops.length c2),(⟨b1,o1,none⟩,str o.name)]) (by kernel_rfl) rfl (λ_ _ h hb=>h.below hb) (by(iterate 4 refine Dh (by first|exact Below.keep (zb wr).drew (by first|exact bg.1|exact bg.2.1|exact bg.2.2.2.2|exact d0|exact d1)) ?_);exact IW) ⟨rfl,trivial⟩ ?_ ?_
        · iterate 31
           refine And.intro ?_ ?_
           · first
             | exact nS (by kernel_rfl) rfl
             | exact iU rfl rfl (by kernel_rfl)
             | exact td rfl (by kernel_rfl) (by kernel_rfl) rfl rfl
             | exact gQ rfl (by kernel_rfl) rfl rfl (λw=>by simp[go_sem])
             | exact iQ rfl (by kernel_rfl) rfl rfl rfl (λw=>by simp[go_sem,gL])
             | exact dV rfl (by kernel_rfl) rfl rfl (λw hS=>by simp[go_sem,(hS.get 0 rfl),(hS.get 1 rfl),(hS.get 2 rfl),(hS.get 3 rfl)])
             | exact gJ rfl (by kernel_rfl) rfl rfl rfl (λw=>by simp[go_sem,g,g1,g2])
          exact trivial
        · intro aE wE Pp Jp _
          simp only[pq,pz,pw];go_wp2_with fail;go_ret;exact⟨by rw[HZ.out];rfl,hb.trans (aa Jp hb.size)⟩
      · have HZ := zh (lY rfl HX.out a5)
        have g2:=zh (show(o.name==f.name)=true by simpa using a3);rw[hk2] at a4;obtain⟨kq,g4⟩:∃kq,((f.kind:Int)==2)=kq:=⟨_,rfl⟩
        rw[g4] at a4;have g4:=zh g4;clear a1 a2 a3 a5 J6 hl0 hlen hk2;generalize o.sig.iter=it at d1 a4;have g5:=zh (show ¬it=kq by revert a4;cases it<;>cases kq<;>simp);clear a4;go_upto_region 11 with fail;have gL:0<f.ops.length:=D8.out;have g2:=g2.out;have g4:=g4.out;refine u0 (D:=Any) (w:=wr) 30 [(1,vP w.heap.size 0)] [vP w.heap.size 1,.eq (.int .u8 f.kind),vY,vY,vP w.heap.size 4,vL b1 o1 f.ops.length c2,vI f.ops.length,vN,vN,vP w.heap.size 4,vL b1 o1 f.ops.length c2,vP b1 o1,vP b1 o1,vT o.name,vP w.heap.size 0,vT f.name,vN,vN,vN,vP w.heap.size 4,vL b1 o1 f.ops.length c2,vP b1 o1,vP b1 (o1+1),vP b1 (o1+1),.eq (.bool it),vP w.heap.size 1,.eq (.int .u8 f.kind),.eq (.bool kq),vY,vY,vY] (eD [(⟨w.heap.size,0,none⟩,str f.name),(⟨w.heap.size,1,none⟩,.int .u8 f.kind),(⟨w.heap.size,4,none⟩,.slice (some ⟨b1,o1,none⟩) f.ops.length c2),(⟨b1,o1,none⟩,str o.name),(⟨b1,o1+1,none⟩,.bool it)]) (by kernel_rfl) rfl (λ_ _ h hb=>h.below hb) (by(iterate 5 refine Dh (by first|exact Below.keep (zb wr).drew (by first|exact bg.1|exact bg.2.1|exact bg.2.2.2.2|exact d0|exact d1)) ?_);exact IW) ⟨rfl,trivial⟩ ?_ ?_
        · iterate 31
           refine And.intro ?_ ?_
           · first
             | exact nS (by kernel_rfl) rfl
             | exact iU rfl rfl (by kernel_rfl)
             | exact td rfl (by kernel_rfl) (by kernel_rfl) rfl rfl
             | exact gQ rfl (by kernel_rfl) rfl rfl (λw=>by simp[go_sem])
             | exact iQ rfl (by kernel_rfl) rfl rfl rfl (λw=>by simp[go_sem,gL])
             | exact dV rfl (by kernel_rfl) rfl rfl (λw hS=>by simp[go_sem,(hS.get 0 rfl),(hS.get 1 rfl),(hS.get 2 rfl),(hS.get 3 rfl),(hS.get 4 rfl)])
             | exact gJ rfl (by kernel_rfl) rfl rfl rfl (λw=>by simp[go_sem,g,g1,g2,g4,g5.out])
          exact trivial
        · intro aE wE Pp Jp _
          simp only[pq,pz,pw];go_wp2_with fail;go_ret;exact⟨by rw[HZ.out];rfl,hb.trans (aa Jp hb.size)⟩
      · have HZ := zh (xw rfl HX.out a5)
        have g2:=zh (show(o.name==f.name)=true by simpa using a3);rw[hk2] at a4;obtain⟨kq,g4⟩:∃kq,((f.kind:Int)==2)=kq:=⟨_,rfl⟩
        rw[g4] at a4;have g4:=zh g4;clear a1 a2 a3 a5 J6 hl0 hlen hk2;generalize o.sig.iter=it at d1 a4;have g5:=zh (show it=kq by revert a4;cases it<;>cases kq<;>simp);clear a4;go_upto_region 11 with fail;have gL:0<f.ops.length:=D8.out;have g2:=g2.out;have g4:=g4.out;refine u0 (D:=Any) (w:=wr) 30 [(1,vP w.heap.size 0)] [vP w.heap.size 1,.eq (.int .u8 f.kind),vY,vY,vP w.heap.size 4,vL b1 o1 f.ops.length c2,vI f.ops.length,vN,vN,vP w.heap.size 4,vL b1 o1 f.ops.length c2,vP b1 o1,vP b1 o1,vT o.name,vP w.heap.size 0,vT f.name,vN,vN,vN,vP w.heap.size 4,vL b1 o1 f.ops.length c2,vP b1 o1,vP b1 (o1+1),vP b1 (o1+1),.eq (.bool it),vP w.heap.size 1,.eq (.int .u8 f.kind),.eq (.bool kq),vN,vN,vN] (eD [(⟨w.heap.size,0,none⟩,str f.name),(⟨w.heap.size,1,none⟩,.int .u8 f.kind),(⟨w.heap.size,4,none⟩,.slice (some ⟨b1,o1,none⟩) f.ops.length c2),(⟨b1,o1,none⟩,str o.name),(⟨b1,o1+1,none⟩,.bool it)]) (by kernel_rfl) rfl (λ_ _ h hb=>h.below hb) (by(iterate 5 refine Dh (by first|exact Below.keep (zb wr).drew (by first|exact bg.1|exact bg.2.1|exact bg.2.2.2.2|exact d0|exact d1)) ?_);exact IW) ⟨rfl,trivial⟩ ?_ ?_
        · iterate 31
           refine And.intro ?_ ?_
           · first
             | exact nS (by kernel_rfl) rfl
             | exact iU rfl rfl (by kernel_rfl)
             | exact td rfl (by kernel_rfl) (by kernel_rfl) rfl rfl
             | exact gQ rfl (by kernel_rfl) rfl rfl (λw=>by simp[go_sem])
             | exact iQ rfl (by kernel_rfl) rfl rfl rfl (λw=>by simp[go_sem,gL])
             | exact dV rfl (by kernel_rfl) rfl rfl (λw hS=>by simp[go_sem,(hS.get 0 rfl),(hS.get 1 rfl),(hS.get 2 rfl),(hS.get 3 rfl),(hS.get 4 rfl)])
             | exact gJ rfl (by kernel_rfl) rfl rfl rfl (λw=>by simp[go_sem,g,g1,g2,g4,g5.out])
          exact trivial
        · intro aE wE Pp Jp _
          simp only[pq,pz,pw];go_wp2_with fail;go_ret;exact⟨by rw[HZ.out];rfl,hb.trans (aa Jp hb.size)⟩
   case pos =>
    obtain⟨x,hkx⟩:∃x,f.ops[i]? =some x:=⟨_,List.getElem?_eq_getElem hlt⟩
    obtain⟨b1,o1,av,sv,rfl,_,hxl,ha,hs,d0,d1,d2,d3,d4⟩:=h2.at hkx;have d0:=Below.keep hb d0;have d1:=Below.keep hb d1;have d2:=Below.keep hb d2;have d3:=Below.keep hb d3;have d4:=Below.keep hb d4;have hd:=hA.out;rw[eX hkx] at hd;have S4:=zh (zI hkx);clear hA hkx;have HS:=λW (hW:Below w.heap.size w W)=>xx (.agg #[.bool x.sig.iter,av,str x.sig.res,sv]) x.sig f.par W (ht.below hW zr) ⟨av,sv,rfl,hxl.2,ha.below hW zr,hs.below hW zr⟩
    obtain⟨pa,ca,rfl,_⟩:=ha.shape;obtain⟨ps,cs,rfl,_⟩:=hs.shape;have xR:=hb.alloc hb.size (.cells #[str x.name,.bool x.sig.iter,.slice pa x.sig.args.length ca,str x.sig.res,.slice ps x.sig.sigs.length cs] 181);have Ae:=dL.kept (World.grownBy_alloc wr (.cells #[str x.name,.bool x.sig.iter,.slice pa x.sig.args.length ca,str x.sig.res,.slice ps x.sig.sigs.length cs] 181) none) (by simp);have hlk:=Ae.look hxl.1;have G8:=bp x.name (wr.alloc (.cells #[str x.name,.bool x.sig.iter,.slice pa x.sig.args.length ca,str x.sig.res,.slice ps x.sig.sigs.length cs] 181)) (ht.below xR zr) hxl.1;have hx:=heap_alloc_new wr (.cells #[str x.name,.bool x.sig.iter,.slice pa x.sig.args.length ca,str x.sig.res,.slice ps x.sig.sigs.length cs] 181);have hg:=aK (.cells #[str x.name,.bool x.sig.iter,.slice pa x.sig.args.length ca,str x.sig.res,.slice ps x.sig.sigs.length cs] 181) hg;clear ha hs;have DV:((f.ops.take i).map (·.name)).length<maxLen:=by
     rw[List.length_map,List.length_take];have:=MI.out;unfold maxLen;omega
    rcases q1:hasB ((f.ops.take i).map (·.name)) x.name with _|_
    · rw [q1] at hlk
      rcases q2:isName x.name with _|_
      · rw[q2] at G8
        have HX:=zh (qI rfl (hd.trans (EM q2)));clear hd q1 q2;go_wp2_with (go_at_call 59;refine G8.mono ?_;clear G8;rintro e w3 ⟨rfl,cK⟩;have hx:=ag hx cK;have hg:=ag hg cK;have bx:=(cH hx).1;have bg:=(cH hg).1;have eV:=xR.trans (aa cK xR.size));go_ret;exact⟨by rw[HX.out];rfl,eV⟩
      · rw [q2] at G8
        rcases q3:eB x.sig f.par with _|_
        · rw[q3,HP.out] at HS
          have HX:=zh (qI rfl (hd.trans (EN q3)));clear hd q1 q2 q3;go_wp2_with (first|(go_at_call 59;refine G8.mono ?_;clear G8;rintro e w3 ⟨rfl,cK⟩;have hx:=ag hx cK;have hg:=ag hg cK;have bx:=(cH hx).1;have bg:=(cH hg).1;have eV:=xR.trans (aa cK xR.size))|(go_at_call 177;refine(HS _ eV).mono ?_;clear HS;rintro e w4 ⟨rfl,hb4⟩;have hx:=ag hx hb4;have hg:=ag hg hb4;have bx:=(cH hx).1;have jN:=eV.trans (aa hb4 eV.size)));go_ret;exact⟨by rw[HX.out];rfl,jN⟩
        · rw[q3,HP.out] at HS
          have HX:=zh (hd.trans (EO q1 q2 q3));clear hd q1 q2 q3;go_wp2_with (first
           | (go_at_call 59;refine G8.mono ?_;clear G8;rintro e w3 ⟨rfl,cK⟩;have hx:=ag hx cK;have hg:=ag hg cK;have bx:=(cH hx).1;have bg:=(cH hg).1;have eV:=xR.trans (aa cK xR.size))
           | (go_at_call 177;refine(HS _ eV).mono ?_;clear HS;rintro e w4 ⟨rfl,hb4⟩;have hx:=ag hx hb4;have hg:=ag hg hb4;have bx:=(cH hx).1;have jN:=eV.trans (aa hb4 eV.size))
           | (at_mapUpdate;refine kg _ rfl _ _ _ rfl M ((f.ops.take i).map (·.name)) rfl ((Ae.below cK zr).below hb4 zr) DV x.name rfl rfl hxl.1 ?_;intro w5 Ih qa))
          have HY:=HX.out;rw[S4.out] at Ih HY;refine⟨⟨i+1,hlt,by go_num,Ih,?_,jN.grown qa jN.size (λk e=>by cases e;omega),HY⟩,by simp only[intOf];omega⟩;rw[lM qa hg (by intro e;injection e with e;omega)];exact UD.out.symm
    · rw[q1] at hlk
      have HX:=zh (qI rfl (hd.trans (EL q1)));clear hd q1;go_wp2_with fail;go_ret;exact⟨by rw[HX.out];rfl,xR⟩
theorem yh {D:Nat→Prop} (v:Value) (f:aZ) (w:World) (ht:gx w) (hv:kQ D w v f) (hn:f.aB.length≤100000):
 Calls Tryz.prog 143 #[v] w λe w'=>e=.returned (.int .i64 (sj f))∧Below w.heap.size w w':=by
 have he:=Ds f
 rcases hq:(isName f.name&&(decide (1≤f.kind)&&(decide (f.kind≤3)&&(dx f.aB&&((f.par||f.aB.isEmpty)&&(decide (1≤f.ops.length)&&decide (f.ops.length≤20))))))) with _|_
 · have hf:gT f=false:=by
    rw[he];simp only[←Bool.and_assoc] at hq ⊢;rw[hq];simp
   rw[Dr hf];exact tV v f w ht hv hn hq
 · have h2:=hq
   simp only[Bool.and_eq_true,decide_eq_true_eq] at h2;obtain⟨k1,k2,k3,k4,k5,k6,k7⟩:=h2;have hr:mR f=sj f:=by
    unfold mR sj;rw[he];have:(isName f.name&&(decide (1≤f.kind)&&(decide (f.kind≤3)&&(dx f.aB&&((f.par||f.aB.isEmpty)&&(decide (1≤f.ops.length)&&(decide (f.ops.length≤20)&&(gP f.par [] f.ops&&iK f))))))))=(gP f.par [] f.ops&&iK f):=by
     rw[k1,decide_eq_true k2,decide_eq_true k3,k4,k5,decide_eq_true k6,decide_eq_true k7];simp
    rw[this]
   rw[←hr];exact vO v f w ht hv hn k1 k2 k3 k4 (by rw[Bool.or_eq_true];simpa using k5) k6 k7
end
section
open Go.RowKit
section
variable {D:Nat→Prop} {ops:Array Oper} {h:Nat} {V:List VS} {E:List (Nat×VS)} {S:World→Prop} {k:Nat} {o:Oper}
theorem GX {f:FuncId} {tys:Array TypeId} {s:VS} (ho:o.op=.call {callee:=.value (.func f),args:= #[],argTypes:=tys }) (en:∀args w,(callFunc f args).run Tryz.prog w=.ok (.enter f args) w)
 (hw:cw ops h V o=some true) (hk:V[k]? =some s) (hc:∀(w:World),S w→Calls Tryz.prog f #[] w λe w'=>∃u,e=.returned u∧s.holds D w' u∧Below w.heap.size w w'):bB D Tryz.prog S ops h V E k o:=
 rQ [] hw hk rfl λa w Q hS _ next hn=>by
  have hrun:(execOp a.eval o).run Tryz.prog w=.ok (.enter f #[]) w:=by
   simp[execOp,ho,resolve,Deferred.ofValue,invoke,Act.eval,en]
  unfold Oper.wp;rw[hrun,Oper.upon_enter];refine(hc w hS).mono ?_;rintro e w' ⟨u,rfl,hu,hb⟩;exact hn u w' hu hb
end
theorem y8 {l:List dw} (h:dx l=true):l.length≤4∧∀o∈l,o.sig.args.length≤6∧o.sig.sigs.length≤6:=by
 unfold dx at h
 rw[Bool.and_eq_true,Bool.and_eq_true,List.all_eq_true,decide_eq_true_eq] at h
 exact⟨h.1.2,λo ho=>⟨(gY (h.1.1 o ho)).1,(gY (h.1.1 o ho)).2.1⟩⟩
end
open Go Go.RowKit
section
variable {D:Nat→Prop} {ops:Array Oper} {h:Nat} {V:List VS} {E:List (Nat×VS)} {S:World→Prop} {k:Nat} {o:Oper}
theorem Nk {t:TypeId} {x y z:Operand} {s u q:List UInt8} (ho:o.op=.buildSlice t 3 #[(0,x),(1,y),(2,z)]) (ht:t=31) (hw:cw ops h V o=some true) (hk:V[k]? =some (.ss [s,u,q])) (hx:aL ops h V E o x=some (.eq (str s))) (hy:aL ops h V E o y=some (.eq (str u))) (hz:aL ops h V E o z=some (.eq (str q)))
 (hl:s.length≤maxLen) (hl2:u.length≤maxLen) (NZ:q.length≤maxLen) (hD:∀w,S w→D w.heap.size):bB D Tryz.prog S ops h V E k o:=
 rQ [(x,.eq (str s)),(y,.eq (str u)),(z,.eq (str q))] hw hk (by simp[hx,hy,hz]) λa w Q hS hi next hn=>by
  have h1:a.eval x=str s:=hi (x,.eq (str s)) (by simp);have h2:a.eval y=str u:=hi (y,.eq (str u)) (by simp);have h3:a.eval z=str q:=hi (z,.eq (str q)) (by simp);subst ht;unfold Oper.wp;have hrun:∀ev:Operand→Value,ev x=str s→ev y=str u→ev z=str q→(execOp ev o).run Tryz.prog w=.ok (.value (.slice (some ⟨w.heap.size,0,none⟩) 3 3)) (w.alloc (.cells #[str s,str u,str q] 9)):=λev h1 h2 h3=>by
   unfold execOp;simp[ho,h1,h2,h3,go_sem]
  rw[hrun _ h1 h2 h3];exact hn _ _ (SS.new D w (hD w hS) [s,u,q] 9 (0,0) (by unfold maxLen;simp) (by
   intro g hg;simp only[List.mem_cons,List.not_mem_nil,or_false] at hg;rcases hg with rfl|rfl|rfl<;>assumption)) ((zb w).alloc zr _)
end
def FA (k:Nat):List UInt8:=if k=1 then [112,114,111,99] else if k=2 then [105,116,101,114] else [99,108,117,115,116,101,114]
theorem Aj (k:Nat):(FA k).length≤7:=by unfold FA;split;simp;split<;>simp
theorem Ep (w:World):(Instr.index 172 (.agg #[str [],str [112,114,111,99],str [105,116,101,114],str [99,108,117,115,116,101,114]]) (.int .u8 1)).run Tryz.prog w=.ok (str [112,114,111,99]) w∧(Instr.index 172 (.agg #[str [],str [112,114,111,99],str [105,116,101,114],str [99,108,117,115,116,101,114]]) (.int .u8 2)).run Tryz.prog w=.ok (str [105,116,101,114]) w∧(Instr.index 172 (.agg #[str [],str [112,114,111,99],str [105,116,101,114],str [99,108,117,115,116,101,114]]) (.int .u8 3)).run Tryz.prog w=.ok (str [99,108,117,115,116,101,114]) w:=⟨by kernel_rfl,by kernel_rfl,by kernel_rfl⟩
theorem Gs {o:Oper} {t:TypeId} {x y:Operand} {k:Nat} (h1:1≤k) (h3:k≤3) (ho:o.op=.index t x y:=by rfl) (ht:t=172:=by rfl) (ev:Operand→Value) (w:World) (e1:ev x=.agg #[str [],str [112,114,111,99],str [105,116,101,114],str [99,108,117,115,116,101,114]]) (e2:ev y=.int .u8 k):(execOp ev o).run Tryz.prog w=.ok (.value (str (FA k))) w:=by
 subst ht
 have:k=1∨k=2∨k=3:=by omega
 obtain⟨q1,q2,q3⟩:=Ep w
 rcases this with rfl|rfl|rfl<;>simp[execOp,ho,e1,e2,go_sem,FA,q1,q2,q3]
theorem yg {f:aZ} (hf:gT f=true):f.name.length≤12∧(∀o∈f.aB,o.name.length≤12∧pF o.sig)∧∀o∈f.ops,o.name.length≤12∧pF o.sig:=by
 have hp:=jM hf
 have hn:=hp.2.2.2.1
 refine⟨ja hp.1,λo ho=>?_,λo ho=>?_⟩
 · unfold dx at hn
   simp only[Bool.and_eq_true,List.all_eq_true,decide_eq_true_eq] at hn;exact⟨ja (nh hn.2 _ (List.mem_map_of_mem ho)),AA (hn.1.1 o ho)⟩
 · have:=hp.2.2.2.2.2.2.2.1 o ho
   exact⟨ja this.1,AA this.2⟩
set_option maxRecDepth 8000 in
theorem Co {D : Nat → Prop} (v : Value) (f : aZ) (w : World) (ht : gx w) (hv : kQ D w v f) (hn : f.aB.length ≤ 100000) :
 Calls Tryz.prog 108 #[v] w λe w'=>e=.returned (.tuple #[str (gm f).1,.int .i64 (gm f).2])∧Below w.heap.size w w':=by
 obtain⟨nv,ov,rfl,hnl,hN,hO⟩:=hv
 have hA:=(zb w).alloc zr (.cells #[str f.name,.int .u8 f.kind,.bool f.par,nv,ov] 123)
 have nE:=heap_alloc_new w (.cells #[str f.name,.int .u8 f.kind,.bool f.par,nv,ov] 123)
 have NQ:=hN.below hA zr
 have NR:=hO.below hA zr
 have HC:=yh _ f (w.alloc (.cells #[str f.name,.int .u8 f.kind,.bool f.par,nv,ov] 123)) (ht.below hA zr) ⟨nv,ov,rfl,hnl,NQ,NR⟩ hn
 have HW:gm f=if gT f=true then(pT f,0) else([],42):=rfl
 have HE:sj f=if gT f=true then 0 else 42:=rfl
 obtain⟨p1,c1,rfl,_⟩:=hN.shape
 obtain⟨p2,c2,rfl,_⟩:=hO.shape
 generalize gm f=WR at *
 rcases hf:gT f with _|_
 · rw[HE,hf] at HC
   rw[hf] at HW;have HX:=zh HW;clear HW HE hN hO NQ NR hf;go_enter Tryz.func108,Tryz.ntmps108;go_wp2_with (go_at_call 143;refine HC.mono ?_;clear HC;rintro e w2 ⟨rfl,bO⟩);go_ret2;rw[HX.out];exact⟨rfl,hA.trans (aa bO (by simp))⟩
 · rw [HE, hf] at HC
   rw[hf] at HW;have hp:=jM hf;obtain⟨hnm,KA,hos⟩:=yg hf;have hk1:=hp.2.1;have vV:=hp.2.2.1;have yy:=(y8 hp.2.2.2.1).1;have hlo:=hp.2.2.2.2.2.2.1;have sA:(FA f.kind).length≤maxLen:=by have:=Aj f.kind;unfold maxLen;omega
   have UJ:=Aj f.kind;obtain⟨J,hJ⟩:∃J,[FA f.kind,[32],f.name].flatten=J:=⟨_,rfl⟩
   have V9:J.length≤30:=by rw[←hJ];simp;omega
   obtain⟨X,hX⟩:∃X,(J++(if f.par=true then [91,116,93] else []))++[10]=X:=⟨_,rfl⟩
   have Wh:X.length≤40:=by rw[←hX];cases f.par<;>simp<;>omega
   have hft:pT f=X++f.aB.flatMap (cG [104,97,115])++f.ops.flatMap (cG [111,112]):=by
    unfold pT;rw[←hX,←hJ];unfold FA;cases f.par<;>simp
   have HX:=zh (show WR=(X++f.aB.flatMap (cG [104,97,115])++f.ops.flatMap (cG [111,112]),0) by rw[HW,hft];rfl);have RJ:=jT (wd:=[104,97,115]) (by simp) f.aB KA;have Kj:=jT (wd:=[111,112]) (by simp) f.ops hos;clear HW HE hft hN hO hf hp;obtain⟨W0,pX⟩:∃W0,w.alloc (.cells #[str f.name,.int .u8 f.kind,.bool f.par,.slice p1 f.aB.length c1,.slice p2 f.ops.length c2] 123)=W0:=⟨_,rfl⟩
   have HC:Calls Tryz.prog 143 #[.agg #[str f.name,.int .u8 f.kind,.bool f.par,.slice p1 f.aB.length c1,.slice p2 f.ops.length c2]] (w.alloc (.cells #[str f.name,.int .u8 f.kind,.bool f.par,.slice p1 f.aB.length c1,.slice p2 f.ops.length c2] 123)) λe w'=>e=.returned (.int .i64 0)∧Below W0.heap.size W0 w':=by rw[←pX];exact HC
   have Qq:w.heap.size≤W0.heap.size:=by rw[←pX];simp
   rw[pX] at hA nE NQ NR;clear pX;have bx:=cH nE;rcases hpar:f.par with _|_
   all_goals
    rw[hpar] at hX HC;simp only[Bool.false_eq_true,if_false,if_true,List.append_nil] at hX;go_enter Tryz.func108,Tryz.ntmps108;go_upto_region 4 with(go_at_call 143;refine HC.mono ?_;clear HC;rintro e w2 ⟨rfl,bO⟩);have Md:=ag nE bO;have On:=cH Md;have k0:=Below.keep (zb w2).drew On.1.1;have k1:=Below.keep (zb w2).drew On.1.2.1;clear On bx Md;refine gM (D:=Any) 8 [(1,.eq (.pointer (some ⟨w.heap.size,0,none⟩)))] [(.eq (.agg #[str [],str [112,114,111,99],str [105,116,101,114],str [99,108,117,115,116,101,114]])),(.eq (.pointer (some ⟨w.heap.size,1,none⟩))),(.eq (.int .u8 f.kind)),(.eq (str (FA f.kind))),(.eq (.pointer (some ⟨w.heap.size,0,none⟩))),(.eq (str f.name)),(.ss [FA f.kind,[32],f.name]),(.eq (str J)),(.eq (str J))] (eD [(⟨w.heap.size,1,none⟩,.int .u8 f.kind),(⟨w.heap.size,0,none⟩,str f.name)]) (by kernel_rfl) (by kernel_rfl) (by kernel_rfl) (by kernel_rfl) (by kernel_rfl) (λ_ _ h hb=>h.below hb) (λp hp=>by simp only[List.mem_cons,List.not_mem_nil,or_false] at hp;rcases hp with rfl|rfl<;>assumption) ?_ ?_ ?_
    · intro p hp
      simp only[List.mem_cons,List.not_mem_nil,or_false] at hp;rcases hp with rfl
      · exact rfl
    · iterate 9
       refine And.intro ?_ ?_
       · first
         | exact nS (by kernel_rfl) rfl
         | exact Oc (.inl rfl) (by kernel_rfl) rfl (by kernel_rfl)
         | exact Oc (.inr rfl) (by kernel_rfl) rfl (by kernel_rfl)
         | exact E1 rfl (by kernel_rfl) rfl rfl (by kernel_rfl)
         | exact Iz rfl (by kernel_rfl) rfl rfl rfl
         | exact td rfl (by kernel_rfl) (by kernel_rfl) rfl rfl
         | exact gQ rfl (by kernel_rfl) rfl rfl (λw=>by simp[go_sem])
         | exact iQ rfl (by kernel_rfl) rfl rfl rfl (λw=>by simp[go_sem])
         | exact dV rfl (by kernel_rfl) rfl rfl (λw hS=>by simp[go_sem,(hS.get 0 rfl),(hS.get 1 rfl)])
         | exact GX rfl (enters_of Tryz.func105 (by kernel_rfl) rfl) (by kernel_rfl) rfl (λwx _=>(sI wx).mono (by rintro e w' ⟨rfl,hb⟩;exact⟨_,rfl,rfl,hb⟩))
         | exact B5 (u:=.agg #[str [],str [112,114,111,99],str [105,116,101,114],str [99,108,117,115,116,101,114]]) (v:=.int .u8 f.kind) (.tmp 15) (.tmp 17) (by kernel_rfl) rfl rfl (by kernel_rfl) (λev wx _ h1 h2=>Gs hk1 vV rfl rfl ev wx h1 h2)
         | exact Nk rfl rfl (by kernel_rfl) rfl rfl rfl (by kernel_rfl) sA (by simp[maxLen]) hnl (λ_ _=>trivial)
         | exact uS (s1:=.ss [FA f.kind,[32],f.name]) rfl (enters_of Tryz.func144 (by kernel_rfl) rfl) (by kernel_rfl) rfl rfl (λv wx _ h1=>(gD (D:=Any) hJ v wx h1 (by omega) (by simp)).mono (by rintro e w' ⟨rfl,hb⟩;exact⟨_,rfl,rfl,hb⟩))
         | exact gJ rfl (by kernel_rfl) rfl rfl rfl (λw=>by simp[go_sem])
      exact trivial
    · intro aE vE wE Pp Jp R5 _ U5
      obtain rfl:vE=str J:=U5 _ rfl;rw[R5];clear R5;simp only[List.take_succ_cons,List.take_zero,bD,pz,pw];have Rh:Below W0.heap.size W0 wE:=bO.trans (aa Jp bO.size);have VR:=cH (ag nE Rh);have V2:¬9223372036854775807<J.length+3:=by omega
      have V3:¬9223372036854775807<J.length+1:=by omega
      have V4:¬9223372036854775807<J.length+3+1:=by omega
      skip;go_wp2_with fail;have hs:True:=trivial;go_loopw [5,32] (λa y wx=>∃i:Nat,i≤f.aB.length∧y=.int .i64 i∧a=str (X++(f.aB.take i).flatMap (cG [104,97,115]))∧Below W0.heap.size W0 wx) (λ_ y _=>f.aB.length - (intOf y).toNat)
      case atStart=>exact⟨0,Nat.zero_le _,by go_num,by simp[←hX],Rh⟩
      case round =>
       clear hs;obtain⟨i,hi,rfl,rfl,hB⟩:=hrel;have LX:=NQ.below hB zr
       by_cases hlt:i<f.aB.length
       case neg=>
        have hie:i=f.aB.length:=by omega
        subst hie;rw[List.take_length];obtain⟨Y,HY⟩:∃Y,Hid (X++f.aB.flatMap (cG [104,97,115])=Y):=⟨_,zh rfl⟩
        have Wi:Y.length≤10000:=by rw[←HY.out,List.length_append];have:=Nat.mul_le_mul_right 2000 yy;omega
        rw[HY.out];have Tf:=cH (ag nE hB);have Rj:=hB;go_wp2_with fail;clear hB;have hs:True:=trivial;go_loopw [5,47] (λa y wx=>∃i:Nat,i≤f.ops.length∧y=.int .i64 i∧a=str (Y++(f.ops.take i).flatMap (cG [111,112]))∧Below W0.heap.size W0 wx) (λ_ y _=>f.ops.length - (intOf y).toNat)
        case atStart=>exact⟨0,Nat.zero_le _,by go_num,by simp,Rj⟩
        case round=>
         clear Rj Tf hi;clear hs;obtain⟨i,hi,rfl,rfl,hB⟩:=hrel;have LX:=NR.below hB zr
         by_cases hlt:i<f.ops.length
         case neg=>
          have hie:i=f.ops.length:=by omega
          subst hie;rw[List.take_length];have Oi:=zh (HY.out▸HX.out);go_wp2_with fail;go_ret2;rw[Oi.out];exact⟨rfl,hA.trans (aa hB Qq)⟩
         case pos=>
          obtain⟨x,hx⟩:∃x,f.ops[i]? =some x:=⟨_,List.getElem?_eq_getElem hlt⟩
          have uh:=List.mem_of_getElem? hx;obtain⟨b1,o1,av,sv,ri,TH,⟨Gp,QB⟩,Bb,fR,Vu,Vv,Vw,Vx,Vy⟩:=LX.at hx;subst ri;obtain⟨pa,ca,rfl,_⟩:=Bb.shape;obtain⟨ps,cs,rfl,_⟩:=fR.shape;have o6:=(zb wr).alloc zr (.cells #[str x.name,.bool x.sig.iter,.slice pa x.sig.args.length ca,str x.sig.res,.slice ps x.sig.sigs.length cs] 181);have fc:=hB.alloc hB.size (.cells #[str x.name,.bool x.sig.iter,.slice pa x.sig.args.length ca,str x.sig.res,.slice ps x.sig.sigs.length cs] 181);have Tc:=cH (heap_alloc_new wr (.cells #[str x.name,.bool x.sig.iter,.slice pa x.sig.args.length ca,str x.sig.res,.slice ps x.sig.sigs.length cs] 181));have HL:=wP [111,112] x.name _ x.sig _ ⟨_,_,rfl,QB,Bb.below o6 zr,fR.below o6 zr⟩ (by simp) (hos x uh).1 (hos x uh).2;have F6:=uz (wd:=[111,112]) (by simp) (hos x uh).1 (hos x uh).2;have Of:=zh (show(Y++(f.ops.take i).flatMap (cG [111,112]))++cG [111,112] ⟨x.name,x.sig⟩=Y++(f.ops.take (i+1)).flatMap (cG [111,112]) by rw[List.take_add_one,hx,Option.toList_some,List.flatMap_append,List.append_assoc];simp);have F9:(Y++(f.ops.take i).flatMap (cG [111,112])).length≤100000:=by
           have h2:=jT (wd:=[111,112]) (by simp) (f.ops.take i) (λo ho=>hos o (List.mem_of_mem_take ho));rw[List.length_take] at h2;rw[List.length_append];have h3:=Nat.mul_le_mul_right 2000 (show min i f.ops.length≤20 by omega);omega
          generalize (Y++(f.ops.take i).flatMap (cG [111,112]))=A at *;have F6:(cG [111,112] ⟨x.name,x.sig⟩).length≤2000:=F6;generalize cG [111,112] ⟨x.name,x.sig⟩=B at *;have Tw:¬9223372036854775807<A.length+B.length:=by omega
          clear hx LX o6;go_wp2_with (go_at_call 145;refine HL.mono ?_;clear HL;rintro e w3 ⟨rfl,cK⟩);exact⟨⟨i+1,hlt,by go_num,by rw[←Of.out],fc.trans (aa cK fc.size)⟩,by simp only[intOf];omega⟩
       case pos=>
        obtain⟨x,hx⟩:∃x,f.aB[i]? =some x:=⟨_,List.getElem?_eq_getElem hlt⟩
        have uh:=List.mem_of_getElem? hx;obtain⟨b1,o1,av,sv,ri,TH,⟨Gp,QB⟩,Bb,fR,Vu,Vv,Vw,Vx,Vy⟩:=LX.at hx;subst ri;obtain⟨pa,ca,rfl,_⟩:=Bb.shape;obtain⟨ps,cs,rfl,_⟩:=fR.shape;have o6:=(zb wr).alloc zr (.cells #[str x.name,.bool x.sig.iter,.slice pa x.sig.args.length ca,str x.sig.res,.slice ps x.sig.sigs.length cs] 179);have fc:=hB.alloc hB.size (.cells #[str x.name,.bool x.sig.iter,.slice pa x.sig.args.length ca,str x.sig.res,.slice ps x.sig.sigs.length cs] 179);have Tc:=cH (heap_alloc_new wr (.cells #[str x.name,.bool x.sig.iter,.slice pa x.sig.args.length ca,str x.sig.res,.slice ps x.sig.sigs.length cs] 179));have HL:=wP [104,97,115] x.name _ x.sig _ ⟨_,_,rfl,QB,Bb.below o6 zr,fR.below o6 zr⟩ (by simp) (KA x uh).1 (KA x uh).2;have F6:=uz (wd:=[104,97,115]) (by simp) (KA x uh).1 (KA x uh).2;have Of:=zh (show(X++(f.aB.take i).flatMap (cG [104,97,115]))++cG [104,97,115] ⟨x.name,x.sig⟩=X++(f.aB.take (i+1)).flatMap (cG [104,97,115]) by rw[List.take_add_one,hx,Option.toList_some,List.flatMap_append,List.append_assoc];simp);have F9:(X++(f.aB.take i).flatMap (cG [104,97,115])).length≤100000:=by
         have h2:=jT (wd:=[104,97,115]) (by simp) (f.aB.take i) (λo ho=>KA o (List.mem_of_mem_take ho));rw[List.length_take] at h2;rw[List.length_append];have h3:=Nat.mul_le_mul_right 2000 (show min i f.aB.length≤20 by omega);omega
        generalize (X++(f.aB.take i).flatMap (cG [104,97,115]))=A at *;have F6:(cG [104,97,115] ⟨x.name,x.sig⟩).length≤2000:=F6;generalize cG [104,97,115] ⟨x.name,x.sig⟩=B at *;have Tw:¬9223372036854775807<A.length+B.length:=by omega
        clear hx LX o6;go_wp2_with (go_at_call 145;refine HL.mono ?_;clear HL;rintro e w3 ⟨rfl,cK⟩);exact⟨⟨i+1,hlt,by go_num,by rw[←Of.out],fc.trans (aa cK fc.size)⟩,by simp only[intOf];omega⟩
end Go.Proofs.YtemjidmkolfgnaaGreatDoor
