/-
  Lemmas for the statement: contract: of the package face: Check. Contract: of the package face: (maker).ints. Rows of operations that a region makes, and append behind them. Conditions: bounds of lengths; the variable strings.asciiSpace.
-/
import Derived.Test.YtakgjcfkdemipaaGreatDoorZGn
import Derived.Test.YtakgjcfkdemipaaGreatDoorZG19
import Derived.Test.YtakgjcfkdemipaaGreatDoorZG20
set_option maxHeartbeats 12800000
namespace Go.Proofs.YtakgjcfkdemipaaGreatDoor
open Go.RowKit Go.Maps
theorem Bd {par:Bool} {acc:List (List UInt8)} {o:aG} {l:List aG} (h:hasB acc o.name=true):fR par acc (o::l)=false:=by rw[fR,h];rfl
theorem uK {par:Bool} {acc:List (List UInt8)} {o:aG} {l:List aG} (h:isName o.name=false):fR par acc (o::l)=false:=by rw[fR,h];simp
theorem uL {par:Bool} {acc:List (List UInt8)} {o:aG} {l:List aG} (h:ek o.sig par=false):fR par acc (o::l)=false:=by rw[fR,h];simp
theorem uM {par:Bool} {acc:List (List UInt8)} {o:aG} {l:List aG} (h1:hasB acc o.name=false) (h2:isName o.name=true) (h3:ek o.sig par=true):fR par acc (o::l)=fR par (acc++[o.name]) l:=by rw[fR,h1,h2,h3];simp
theorem qf {l:List aG} {i:Nat} {x:aG} (h:l[i]? =some x):(l.take i).map (·.name)++[x.name]=(l.take (i+1)).map (·.name):=by rw[List.take_add_one,h];simp
theorem uC (f:aB) (h:1≤f.ops.length):(f.kind=3∧jH f=true)∨(f.kind≠3∧f.ops.length≠1∧jH f=false)∨(f.kind≠3∧∃o,f.ops=[o]∧((o.name≠f.name∧jH f=false)∨(o.name=f.name∧o.sig.iter≠decide (f.kind=2)∧jH f=false)∨(o.name=f.name∧o.sig.iter=decide (f.kind=2)∧jH f=true))):=by
 obtain⟨name,kind,par,ag,ops⟩:=f
 unfold jH
 simp only at *
 by_cases hk:kind=3
 · exact .inl ⟨hk,by simp[hk]⟩
 · right
   match ops,h with
   | [o], _ =>
    right
    refine⟨hk,o,rfl,?_⟩
    by_cases h1:o.name=name
    · by_cases h2:o.sig.iter=decide (kind=2)
      · exact .inr (.inr ⟨h1,h2,by simp[hk,h1,h2]⟩)
      · exact .inr (.inl ⟨h1,h2,by simp[hk,h2]⟩)
    · exact .inl ⟨h1,by simp[hk,h1]⟩
   | a::b::l,_=>
    left
    exact⟨hk,by simp,by simp[hk]⟩
theorem zQ {B:Nat} {a w:World} (h:Below B a w) (n:Nat):Below B a (w.drewN n):=h.trans ⟨rfl,rfl,rfl,nl _,λ_ _=>rfl⟩
def qJ (f:aB):Nat:=if(fR f.par [] f.ops&&jH f)=true then 0 else 42
theorem vn {f:aB} {p:Bool} (hp:f.par=p) (h:fR p [] f.ops=false):qJ f=42:=by unfold qJ;rw[hp,h];rfl
theorem p8 {f:aB} {p:Bool} (hp:f.par=p) (h:fR p [] f.ops=true) (h2:jH f=false):qJ f=42:=by unfold qJ;rw[hp,h,h2];rfl
theorem Br {f:aB} {p:Bool} (hp:f.par=p) (h:fR p [] f.ops=true) (h2:jH f=true):qJ f=0:=by unfold qJ;rw[hp,h,h2];rfl
theorem bB.below {w w':World} {b K:Nat} {acc:List (List UInt8)} (h:bB w b acc) (hb:Below K w w') (hK:w.heap.size≤K):bB w' b acc:=h.of_block (hb.block b (Nat.lt_of_lt_of_le h.lt hK))
set_option maxRecDepth 8000 in
theorem Ae {D : Nat → Prop} (v : Value) (f : aB) (w : World) (ht : fN w) (hv : fE D w v f) (hn : f.ag.length ≤ 100000)
 (k1:isName f.name=true) (k2:1≤f.kind) (k3:f.kind≤3) (k4:bh f.ag=true) (k5:(f.par||f.ag.isEmpty)=true) (k6:1≤f.ops.length) (k7:f.ops.length≤20):
 Calls Tryz.prog 38 #[v] w λe w'=>e=.returned (.int .i64 (qJ f))∧Below w.heap.size w w':=by
 have Oo:=Lib.hid (uC f k6)
 have hmm:=@run_makeMap Tryz.prog
 have HF:=Lib.hid (Eq.refl f)
 obtain⟨nv,ov,rfl,hnl,h1,h2⟩:=hv
 have HN:=λW (hW:Below w.heap.size w W)=>dM f.name W (ht.below hW (nl _)) hnl
 have HD:=λW (hW:Below w.heap.size w W)=>lW f.ag nv W (ht.below hW (nl _)) (h1.below hW (nl _)) hn
 obtain⟨p1,c1,rfl,_⟩:=h1.shape
 obtain⟨p2,c2,rfl,_,hm2,hle⟩:=h2.shape
 have HL:=Lib.hid hle
 rw[k1] at HN
 rw[k4] at HD
 have hB:=((Below.refl _ w).alloc (nl _) (.cells #[str f.name,.int .u8 f.kind,.bool f.par,.slice p1 f.ag.length c1,.slice p2 f.ops.length c2] 58))
 have hg:=heap_alloc_new w (.cells #[str f.name,.int .u8 f.kind,.bool f.par,.slice p1 f.ag.length c1,.slice p2 f.ops.length c2] 58)
 clear h1
 have g2:¬(f.kind:Int)<1:=by omega
 have b2:decide ((f.kind:Int)<1)=false:=decide_eq_false g2
 have g3:¬(3:Int)<(f.kind:Int):=by omega
 have b3:decide ((3:Int)<(f.kind:Int))=false:=decide_eq_false g3
 have g6:¬(f.ops.length:Int)<1:=by omega
 have b6:decide ((f.ops.length:Int)<1)=false:=decide_eq_false g6
 have g7:¬(20:Int)<(f.ops.length:Int):=by omega
 have b7:decide ((20:Int)<(f.ops.length:Int))=false:=decide_eq_false g7
 have g5:f.par=true∨(f.par=false∧decide (0<f.ag.length)=false):=by
  cases hp:f.par
  · refine .inr ⟨rfl,?_⟩
    rw[hp] at k5;have:f.ag=[]:=by simpa using k5
    rw[this]
    rfl
  · exact .inl rfl
 generalize hpar:f.par=par at *
 have HP:=Lib.hid hpar
 have Ed:=Lib.hid k6
 have ZB:=Lib.hid k7
 clear k1 k2 k3 k4 k5 k6 k7 hpar
 rcases g5 with rfl|⟨rfl,g5⟩
 all_goals
  go_enter Tryz.func38,Tryz.ntmps38;go_wp2_with (first
   | (go_at_call 88;refine(HN _ hB).mono ?_;clear HN;rintro e w1 ⟨rfl,ay⟩;have hg:=ah hg ay;have bx:=(bL hg).1;have hB:=hB.trans (af ay hB.size))
   | (go_at_call 78;refine(HD _ hB).mono ?_;clear HD;rintro e w2 ⟨rfl,aA⟩;have hg:=ah hg aA;have bx:=(bL hg).1;have XL:=(bL (aH (.map #[] 0) hg)).1;have hB:=hB.trans (af aA hB.size)))
  have YE:=bH hg;have GA:bB (w2.alloc (.map #[] 0)) w2.heap.size []:=bB.made w2;have hB:=hB.alloc hB.size (.map #[] 0);have hg:=aH (.map #[] 0) hg;generalize hM2:w2.heap.size=M at *;clear bx XL;generalize w2.alloc (.map #[] 0)=W at *;go_loopw [53] (λy wx=>∃i:Nat,i≤f.ops.length∧y=.int .i64 i∧bB wx M ((f.ops.take i).map (·.name))∧wx.heap[w.heap.size]? =W.heap[w.heap.size]? ∧Below w.heap.size w wx∧Hid (fR f.par [] f.ops=fR f.par ((f.ops.take i).map (·.name)) (f.ops.drop i))) (λy _=>f.ops.length - (intOf y).toNat)
  case atStart=>exact⟨0,Nat.zero_le _,by go_num,GA,rfl,hB,rfl⟩
  case round =>
   obtain⟨i,hi,rfl,fO,Ux,hb,hA⟩:=hrel;have HGX:=Lib.hid Ux;have Y7:=Lib.hid hg;have hg:=Ux.trans hg;clear Ux
   by_cases hlt:i<f.ops.length
   case neg =>
    have hie:f.ops.drop i=[]:=List.drop_eq_nil_of_le (by omega);have HX:=Lib.hid (show fR f.par [] f.ops=true by rw[hA.out,hie];rfl);clear hA hie;have bg:=(bL hg).1;have hl0:=Ed.out;rcases Oo.out with⟨a1,a2⟩|⟨a1,a2,a3⟩|⟨a1,o,a2,a3⟩
    · have HZ:=Lib.hid (Br rfl HX.out a2)
      have g:((f.kind:Int) != 3)=false:=by rw[a1];rfl
      clear a1 a2 Oo hl0;go_upto_region 11 with fail;have gL:0<f.ops.length:=Ed.out;go_quiet (fail);go_wp2_with fail;go_ret;exact⟨by rw[HZ.out];rfl,zQ hb _⟩
    · have HZ:=Lib.hid (p8 rfl HX.out a3)
      have g:((f.kind:Int) != 3)=true:=by rw[bne_iff_ne];omega
      have g1:((f.ops.length:Int) != 1)=true:=by rw[bne_iff_ne];omega
      clear a1 a2 a3 Oo hl0;go_upto_region 11 with fail;have gL:0<f.ops.length:=Ed.out;go_quiet (fail);go_wp2_with fail;go_ret;exact⟨by rw[HZ.out];rfl,zQ hb _⟩
    · have hlen : f.ops.length = 1 := by rw [a2]; rfl
      have g:((f.kind:Int) != 3)=true:=by rw[bne_iff_ne];omega
      have g1:((f.ops.length:Int) != 1)=false:=by rw[hlen];rfl
      obtain⟨b1,o1,av,sv,rfl,_,_,_,_,d0,d1,_,_,_⟩:=h2.at (k:=0) (x:=o) (by rw[a2];rfl);have d0:=Below.keep hb d0;have d1:=Below.keep hb d1;rw[Nat.zero_mul,Nat.add_zero] at d0 d1;have hk2:decide (f.kind=2)=((f.kind:Int)==2):=by
       by_cases h:f.kind=2
       · rw[h];rfl
       · rw[decide_eq_false h,eq_comm,beq_eq_false_iff_ne];omega
      rcases a3 with⟨a3,a4⟩|⟨a3,a4,a5⟩|⟨a3,a4,a5⟩
      · have HZ := Lib.hid (p8 rfl HX.out a4)
        have g2:=Lib.hid (show(o.name==f.name)=false by simpa using a3);clear a1 a2 a3 a4 Oo hl0 hlen hk2;generalize o.sig.iter=it at d1;go_upto_region 11 with fail;have gL:0<f.ops.length:=Ed.out;have g2:=g2.out;refine dw (D:=Any) (w:=wr) 30 [(1,vP w.heap.size 0)] [vP w.heap.size 1,.eq (.int .u8 f.kind),vY,vY,vP w.heap.size 4,vL b1 o1 f.ops.length c2,vI f.ops.length,vN,vN,vP w.heap.size 4,vL b1 o1 f.ops.length c2,vP b1 o1,vP b1 o1,vT o.name,vP w.heap.size 0,vT f.name,vY,vY,vY,vK,vK,vK,vK,vK,vK,vK,vK,vK,vK,vY,vY] (aW [(⟨w.heap.size,0,none⟩,str f.name),(⟨w.heap.size,1,none⟩,.int .u8 f.kind),(⟨w.heap.size,4,none⟩,.slice (some ⟨b1,o1,none⟩) f.ops.length c2),(⟨b1,o1,none⟩,str o.name)]) (by kernel_rfl) rfl (λ_ _ h hb=>h.below hb) (by(iterate 4 refine cM (by first|exact Below.keep (Below.refl _ wr).drew (by first|exact bg.1|exact bg.2.1|exact bg.2.2.2.2|exact d0|exact d1)) ?_);exact gD) ⟨rfl,trivial⟩ ?_ ?_
        · iterate 31
           refine And.intro ?_ ?_
           · first
             | exact bV (by kernel_rfl) rfl
             | exact mT rfl rfl (by kernel_rfl)
             | exact dS rfl (by kernel_rfl) (by kernel_rfl) rfl rfl
             | exact fK rfl (by kernel_rfl) rfl rfl (λw=>by simp[go_sem])
             | exact fZ rfl (by kernel_rfl) rfl rfl rfl (λw=>by simp[go_sem,gL])
             | exact fq rfl (by kernel_rfl) rfl rfl (λw hS=>by simp[go_sem,(hS.get 0 rfl),(hS.get 1 rfl),(hS.get 2 rfl),(hS.get 3 rfl)])
             | exact dA rfl (by kernel_rfl) rfl rfl rfl (λw=>by simp[go_sem,g,g1,g2])
          exact trivial
        · intro aE wE jv eu _
          simp only[pq,pz,pw];go_wp2_with fail;go_ret;exact⟨by rw[HZ.out];rfl,hb.trans (af eu hb.size)⟩
      · have HZ := Lib.hid (p8 rfl HX.out a5)
        have g2:=Lib.hid (show(o.name==f.name)=true by simpa using a3);rw[hk2] at a4;obtain⟨kq,g4⟩:∃kq,((f.kind:Int)==2)=kq:=⟨_,rfl⟩
        rw[g4] at a4;have g4:=Lib.hid g4;clear a1 a2 a3 a5 Oo hl0 hlen hk2;generalize o.sig.iter=it at d1 a4;have g5:=Lib.hid (show ¬it=kq by revert a4;cases it<;>cases kq<;>simp);clear a4;go_upto_region 11 with fail;have gL:0<f.ops.length:=Ed.out;have g2:=g2.out;have g4:=g4.out;refine dw (D:=Any) (w:=wr) 30 [(1,vP w.heap.size 0)] [vP w.heap.size 1,.eq (.int .u8 f.kind),vY,vY,vP w.heap.size 4,vL b1 o1 f.ops.length c2,vI f.ops.length,vN,vN,vP w.heap.size 4,vL b1 o1 f.ops.length c2,vP b1 o1,vP b1 o1,vT o.name,vP w.heap.size 0,vT f.name,vN,vN,vN,vP w.heap.size 4,vL b1 o1 f.ops.length c2,vP b1 o1,vP b1 (o1+1),vP b1 (o1+1),.eq (.bool it),vP w.heap.size 1,.eq (.int .u8 f.kind),.eq (.bool kq),vY,vY,vY] (aW [(⟨w.heap.size,0,none⟩,str f.name),(⟨w.heap.size,1,none⟩,.int .u8 f.kind),(⟨w.heap.size,4,none⟩,.slice (some ⟨b1,o1,none⟩) f.ops.length c2),(⟨b1,o1,none⟩,str o.name),(⟨b1,o1+1,none⟩,.bool it)]) (by kernel_rfl) rfl (λ_ _ h hb=>h.below hb) (by(iterate 5 refine cM (by first|exact Below.keep (Below.refl _ wr).drew (by first|exact bg.1|exact bg.2.1|exact bg.2.2.2.2|exact d0|exact d1)) ?_);exact gD) ⟨rfl,trivial⟩ ?_ ?_
        · iterate 31
           refine And.intro ?_ ?_
           · first
             | exact bV (by kernel_rfl) rfl
             | exact mT rfl rfl (by kernel_rfl)
             | exact dS rfl (by kernel_rfl) (by kernel_rfl) rfl rfl
             | exact fK rfl (by kernel_rfl) rfl rfl (λw=>by simp[go_sem])
             | exact fZ rfl (by kernel_rfl) rfl rfl rfl (λw=>by simp[go_sem,gL])
             | exact fq rfl (by kernel_rfl) rfl rfl (λw hS=>by simp[go_sem,(hS.get 0 rfl),(hS.get 1 rfl),(hS.get 2 rfl),(hS.get 3 rfl),(hS.get 4 rfl)])
             | exact dA rfl (by kernel_rfl) rfl rfl rfl (λw=>by simp[go_sem,g,g1,g2,g4,g5.out])
          exact trivial
        · intro aE wE jv eu _
          simp only[pq,pz,pw];go_wp2_with fail;go_ret;exact⟨by rw[HZ.out];rfl,hb.trans (af eu hb.size)⟩
      · have HZ := Lib.hid (Br rfl HX.out a5)
        have g2:=Lib.hid (show(o.name==f.name)=true by simpa using a3);rw[hk2] at a4;obtain⟨kq,g4⟩:∃kq,((f.kind:Int)==2)=kq:=⟨_,rfl⟩
        rw[g4] at a4;have g4:=Lib.hid g4;clear a1 a2 a3 a5 Oo hl0 hlen hk2;generalize o.sig.iter=it at d1 a4;have g5:=Lib.hid (show it=kq by revert a4;cases it<;>cases kq<;>simp);clear a4;go_upto_region 11 with fail;have gL:0<f.ops.length:=Ed.out;have g2:=g2.out;have g4:=g4.out;refine dw (D:=Any) (w:=wr) 30 [(1,vP w.heap.size 0)] [vP w.heap.size 1,.eq (.int .u8 f.kind),vY,vY,vP w.heap.size 4,vL b1 o1 f.ops.length c2,vI f.ops.length,vN,vN,vP w.heap.size 4,vL b1 o1 f.ops.length c2,vP b1 o1,vP b1 o1,vT o.name,vP w.heap.size 0,vT f.name,vN,vN,vN,vP w.heap.size 4,vL b1 o1 f.ops.length c2,vP b1 o1,vP b1 (o1+1),vP b1 (o1+1),.eq (.bool it),vP w.heap.size 1,.eq (.int .u8 f.kind),.eq (.bool kq),vN,vN,vN] (aW [(⟨w.heap.size,0,none⟩,str f.name),(⟨w.heap.size,1,none⟩,.int .u8 f.kind),(⟨w.heap.size,4,none⟩,.slice (some ⟨b1,o1,none⟩) f.ops.length c2),(⟨b1,o1,none⟩,str o.name),(⟨b1,o1+1,none⟩,.bool it)]) (by kernel_rfl) rfl (λ_ _ h hb=>h.below hb) (by(iterate 5 refine cM (by first|exact Below.keep (Below.refl _ wr).drew (by first|exact bg.1|exact bg.2.1|exact bg.2.2.2.2|exact d0|exact d1)) ?_);exact gD) ⟨rfl,trivial⟩ ?_ ?_
        · iterate 31
           refine And.intro ?_ ?_
           · first
             | exact bV (by kernel_rfl) rfl
             | exact mT rfl rfl (by kernel_rfl)
             | exact dS rfl (by kernel_rfl) (by kernel_rfl) rfl rfl
             | exact fK rfl (by kernel_rfl) rfl rfl (λw=>by simp[go_sem])
             | exact fZ rfl (by kernel_rfl) rfl rfl rfl (λw=>by simp[go_sem,gL])
             | exact fq rfl (by kernel_rfl) rfl rfl (λw hS=>by simp[go_sem,(hS.get 0 rfl),(hS.get 1 rfl),(hS.get 2 rfl),(hS.get 3 rfl),(hS.get 4 rfl)])
             | exact dA rfl (by kernel_rfl) rfl rfl rfl (λw=>by simp[go_sem,g,g1,g2,g4,g5.out])
          exact trivial
        · intro aE wE jv eu _
          simp only[pq,pz,pw];go_wp2_with fail;go_ret;exact⟨by rw[HZ.out];rfl,hb.trans (af eu hb.size)⟩
   case pos =>
    obtain⟨x,hkx⟩:∃x,f.ops[i]? =some x:=⟨_,List.getElem?_eq_getElem hlt⟩
    obtain⟨b1,o1,av,sv,rfl,_,hxl,ha,hs,d0,d1,d2,d3,d4⟩:=h2.at hkx;have d0:=Below.keep hb d0;have d1:=Below.keep hb d1;have d2:=Below.keep hb d2;have d3:=Below.keep hb d3;have d4:=Below.keep hb d4;have hd:=hA.out;rw[bp hkx] at hd;have Pb:=Lib.hid (qf hkx);clear hA hkx;have HS:=λW (hW:Below w.heap.size w W)=>BC (.agg #[.bool x.sig.iter,av,str x.sig.res,sv]) x.sig f.par W (ht.below hW (nl _)) ⟨av,sv,rfl,hxl.2,ha.below hW (nl _),hs.below hW (nl _)⟩
    obtain⟨pa,ca,rfl,_⟩:=ha.shape;obtain⟨ps,cs,rfl,_⟩:=hs.shape;have mQ:=hb.alloc hb.size (.cells #[str x.name,.bool x.sig.iter,.slice pa x.sig.args.length ca,str x.sig.res,.slice ps x.sig.sigs.length cs] 50);have xy:=fO.kept (World.grownBy_alloc wr (.cells #[str x.name,.bool x.sig.iter,.slice pa x.sig.args.length ca,str x.sig.res,.slice ps x.sig.sigs.length cs] 50) none) (by simp);have hlk:=xy.look hxl.1;have LD:=dM x.name (wr.alloc (.cells #[str x.name,.bool x.sig.iter,.slice pa x.sig.args.length ca,str x.sig.res,.slice ps x.sig.sigs.length cs] 50)) (ht.below mQ (nl _)) hxl.1;have hx:=heap_alloc_new wr (.cells #[str x.name,.bool x.sig.iter,.slice pa x.sig.args.length ca,str x.sig.res,.slice ps x.sig.sigs.length cs] 50);have hg:=aH (.cells #[str x.name,.bool x.sig.iter,.slice pa x.sig.args.length ca,str x.sig.res,.slice ps x.sig.sigs.length cs] 50) hg;clear ha hs;have UO:((f.ops.take i).map (·.name)).length<maxLen:=by
     rw[List.length_map,List.length_take];have:=ZB.out;unfold maxLen;omega
    rcases q1:hasB ((f.ops.take i).map (·.name)) x.name with _|_
    · rw [q1] at hlk
      rcases q2:isName x.name with _|_
      · rw[q2] at LD
        have HX:=Lib.hid (vn rfl (hd.trans (uK q2)));clear hd q1 q2;go_wp2_with (go_at_call 88;refine LD.mono ?_;clear LD;rintro e w3 ⟨rfl,aK⟩;have hx:=ah hx aK;have hg:=ah hg aK;have bx:=(bL hx).1;have bg:=(bL hg).1;have dg:=mQ.trans (af aK mQ.size));go_ret;exact⟨by rw[HX.out];rfl,dg⟩
      · rw [q2] at LD
        rcases q3:ek x.sig f.par with _|_
        · rw[q3,HP.out] at HS
          have HX:=Lib.hid (vn rfl (hd.trans (uL q3)));clear hd q1 q2 q3;go_wp2_with (first|(go_at_call 88;refine LD.mono ?_;clear LD;rintro e w3 ⟨rfl,aK⟩;have hx:=ah hx aK;have hg:=ah hg aK;have bx:=(bL hx).1;have bg:=(bL hg).1;have dg:=mQ.trans (af aK mQ.size))|(go_at_call 89;refine(HS _ dg).mono ?_;clear HS;rintro e w4 ⟨rfl,hb4⟩;have hx:=ah hx hb4;have hg:=ah hg hb4;have bx:=(bL hx).1;have dH:=dg.trans (af hb4 dg.size)));go_ret;exact⟨by rw[HX.out];rfl,dH⟩
        · rw[q3,HP.out] at HS
          have HX:=Lib.hid (hd.trans (uM q1 q2 q3));clear hd q1 q2 q3;go_wp2_with (first
           | (go_at_call 88;refine LD.mono ?_;clear LD;rintro e w3 ⟨rfl,aK⟩;have hx:=ah hx aK;have hg:=ah hg aK;have bx:=(bL hx).1;have bg:=(bL hg).1;have dg:=mQ.trans (af aK mQ.size))
           | (go_at_call 89;refine(HS _ dg).mono ?_;clear HS;rintro e w4 ⟨rfl,hb4⟩;have hx:=ah hx hb4;have hg:=ah hg hb4;have bx:=(bL hx).1;have dH:=dg.trans (af hb4 dg.size))
           | (at_mapUpdate;refine ki _ rfl _ _ _ rfl M ((f.ops.take i).map (·.name)) rfl ((xy.below aK (nl _)).below hb4 (nl _)) UO x.name rfl rfl hxl.1 ?_;intro w5 kY Aq))
          have HY:=HX.out;rw[Pb.out] at kY HY;refine⟨⟨i+1,hlt,by go_num,kY,?_,dH.grown Aq dH.size (λk e=>by cases e;omega),HY⟩,by simp only[intOf];omega⟩;rw[dG Aq hg (by intro e;injection e with e;omega)];exact Y7.out.symm
    · rw[q1] at hlk
      have HX:=Lib.hid (vn rfl (hd.trans (Bd q1)));clear hd q1;go_wp2_with fail;go_ret;exact⟨by rw[HX.out];rfl,mQ⟩
theorem o8 {D:Nat→Prop} (v:Value) (f:aB) (w:World) (ht:fN w) (hv:fE D w v f) (hn:f.ag.length≤100000):
 Calls Tryz.prog 38 #[v] w λe w'=>e=.returned (.int .i64 (jS f))∧Below w.heap.size w w':=by
 have he:=ni f
 rcases hq:(isName f.name&&(decide (1≤f.kind)&&(decide (f.kind≤3)&&(bh f.ag&&((f.par||f.ag.isEmpty)&&(decide (1≤f.ops.length)&&decide (f.ops.length≤20))))))) with _|_
 · have hf:eU f=false:=by
    rw[he];simp only[←Bool.and_assoc] at hq ⊢;rw[hq];simp
   rw[kW hf];exact yJ v f w ht hv hn hq
 · have h2:=hq
   simp only[Bool.and_eq_true,decide_eq_true_eq] at h2;obtain⟨k1,k2,k3,k4,k5,k6,k7⟩:=h2;have hr:qJ f=jS f:=by
    unfold qJ jS;rw[he];have:(isName f.name&&(decide (1≤f.kind)&&(decide (f.kind≤3)&&(bh f.ag&&((f.par||f.ag.isEmpty)&&(decide (1≤f.ops.length)&&(decide (f.ops.length≤20)&&(fR f.par [] f.ops&&jH f))))))))=(fR f.par [] f.ops&&jH f):=by
     rw[k1,decide_eq_true k2,decide_eq_true k3,k4,k5,decide_eq_true k6,decide_eq_true k7];simp
    rw[this]
   rw[←hr];exact Ae v f w ht hv hn k1 k2 k3 k4 (by rw[Bool.or_eq_true];simpa using k5) k6 k7
end Go.Proofs.YtakgjcfkdemipaaGreatDoor
namespace Go.Proofs.YtakgjcfkdemipaaGreatDoor
open Go Go.RowKit
section
variable {B:Nat} {ops:Array Oper} {h:Nat} {V:List VS} {E:List (Nat×VS)} {S:World→Prop} {k:Nat} {o:Oper}
theorem JH {x:Operand} {tys:Array TypeId} {m n c:Nat} {q:Option Addr} {p:Bool} {t:List UInt8} (ho:o.op=.call {callee:=.value (.func 238),args:= #[x],argTypes:=tys }) (hw:dN ops h V o=some true) (hk:V[k]? =some (.op (dK t)))
 (hx:aM ops h V E o x=some (.eq (.agg #[.map (some m),.slice q n c,.bool p,str t]))) (ht:t.length≤maxLen) (hD:∀w,S w→B≤w.heap.size):bX (λb=>B≤b) Tryz.prog S ops h V E k o:=
 eP ho (enters_of Tryz.func238 (by kernel_rfl) rfl) hw hk hx λv w hS h1=>by
  rw[show v=_ from h1];refine(lN _ m _ p t w ⟨rfl,_,_,_,rfl⟩ ht).mono ?_;rintro e w' ⟨u,rfl,hu,hb⟩;exact⟨u,rfl,hu.mono λb hb=>Nat.le_trans (hD w hS) hb,hb⟩
theorem JL {x y:Operand} {tys:Array TypeId} {r:List UInt8} {L:List (List UInt8)} (ho:o.op=.call {callee:=.value (.func 239),args:= #[x,y],argTypes:=tys }) (hw:dN ops h V o=some true) (hk:V[k]? =some (.sig ⟨false,L,r,[]⟩))
 (hx:aM ops h V E o x=some (.eq (str r))) (hy:aM ops h V E o y=some (.ss L)) (hr:r.length≤maxLen):bX (λb=>B≤b) Tryz.prog S ops h V E k o:=
 eS ho (enters_of Tryz.func239 (by kernel_rfl) rfl) hw hk hx hy λv v2 w hS h1 h2=>by
  obtain⟨p,c,e,_⟩:=SS.shape h2;rw[show v=_ from h1];refine(s8 r v2 w ⟨p,_,c,e⟩).mono ?_;rintro e w' ⟨rfl,hb⟩;exact⟨_,rfl,⟨_,_,rfl,hr,SS.below h2 hb (nl _),SS.nil _ _ _ _⟩,hb⟩
theorem Oh {x y:Operand} {tys:Array TypeId} {r:List UInt8} (ho:o.op=.call {callee:=.value (.func 239),args:= #[x,y],argTypes:=tys }) (hw:dN ops h V o=some true) (hk:V[k]? =some (.sig ⟨false,[],r,[]⟩))
 (hx:aM ops h V E o x=some (.eq (str r))) (hy:aM ops h V E o y=some (.eq (.slice none 0 0))) (hr:r.length≤maxLen):bX (λb=>B≤b) Tryz.prog S ops h V E k o:=
 eS ho (enters_of Tryz.func239 (by kernel_rfl) rfl) hw hk hx hy λv v2 w hS h1 h2=>by
  rw[show v=_ from h1,show v2=_ from h2];refine(s8 r _ w ⟨none,0,0,rfl⟩).mono ?_;rintro e w' ⟨rfl,hb⟩;exact⟨_,rfl,⟨_,_,rfl,hr,SS.nil _ _ _ _,SS.nil _ _ _ _⟩,hb⟩
theorem RR {x y:Operand} {tys:Array TypeId} {s:cD} {g:List UInt8} (ho:o.op=.call {callee:=.value (.func 240),args:= #[x,y],argTypes:=tys }) (hw:dN ops h V o=some true) (hk:V[k]? =some (.sig ⟨s.iter,s.args,s.res,[g]⟩))
 (hx:aM ops h V E o x=some (.sig s)) (hy:aM ops h V E o y=some (.eq (str g))) (hg:g.length≤maxLen) (hD:∀w,S w→B≤w.heap.size):bX (λb=>B≤b) Tryz.prog S ops h V E k o:=
 eS ho (enters_of Tryz.func240 (by kernel_rfl) rfl) hw hk hx hy λv v2 w hS h1 h2=>by
  rw[show v2=_ from h2];refine(sC v s g w h1 hg).mono ?_;rintro e w' ⟨u,rfl,⟨a,q,e1,t,e2,ht⟩,hb⟩;obtain⟨a',q',e3,hr,ha,_⟩:=h1;obtain⟨rfl,_⟩:a=a'∧q=q':=by
   rw[e1] at e3
   simpa using e3
  exact⟨u,rfl,⟨a,t,e2,hr,ha.below hb (nl _),ht.mono λb hb=>Nat.le_trans (hD w hS) hb⟩,hb⟩
theorem JI {t:TypeId} {x y:Operand} {nm:List UInt8} {s:cD} (ho:o.op=.build t #[(0,x),(1,y)]) (ht:t=50) (hw:dN ops h V o=some true) (hk:V[k]? =some (.op ⟨nm,s⟩)) (hx:aM ops h V E o x=some (.eq (str nm))) (hy:aM ops h V E o y=some (.sig s)) (hl:nm.length≤maxLen):bX (λb=>B≤b) Tryz.prog S ops h V E k o:=
 qN [(x,.eq (str nm)),(y,.sig s)] hw hk (by simp[hx,hy]) λa w Q hS hi next hn=>by
  have h1:a.eval x=str nm:=hi (x,.eq (str nm)) (by simp);obtain⟨av,sv,h2,hr,ha,hs⟩:aT (λb=>B≤b) w (a.eval y) s:=hi (y,.sig s) (by simp);subst ht;unfold Oper.wp;have hrun:∀ev:Operand→Value,ev x=str nm→ev y=.agg #[.bool s.iter,av,str s.res,sv]→(execOp ev o).run Tryz.prog w=.ok (.value (.agg #[str nm,.bool s.iter,av,str s.res,sv])) w:=λev h1 h2=>by
   unfold execOp;simp[ho,h1,h2,go_sem]
  rw[hrun _ h1 h2];exact hn _ _ ⟨av,sv,rfl,⟨hl,hr⟩,ha,hs⟩ (Below.refl _ _)
theorem Vt {t:TypeId} {x y z:Operand} {s u g:List UInt8} (ho:o.op=.buildSlice t 3 #[(0,x),(1,y),(2,z)]) (ht:t=34) (hw:dN ops h V o=some true) (hk:V[k]? =some (.ss [s,u,g])) (hx:aM ops h V E o x=some (.eq (str s))) (hy:aM ops h V E o y=some (.eq (str u))) (hz:aM ops h V E o z=some (.eq (str g))) (hl:∀q∈[s,u,g],q.length≤maxLen) (hD:∀w,S w→B≤w.heap.size):bX (λb=>B≤b) Tryz.prog S ops h V E k o:=
 qN [(x,.eq (str s)),(y,.eq (str u)),(z,.eq (str g))] hw hk (by simp[hx,hy,hz]) λa w Q hS hi next hn=>by
  have h1:a.eval x=str s:=hi (x,.eq (str s)) (by simp);have h2:a.eval y=str u:=hi (y,.eq (str u)) (by simp);have h3:a.eval z=str g:=hi (z,.eq (str g)) (by simp);subst ht;unfold Oper.wp;have hrun:∀ev:Operand→Value,ev x=str s→ev y=str u→ev z=str g→(execOp ev o).run Tryz.prog w=.ok (.value (.slice (some ⟨w.heap.size,0,none⟩) 3 3)) (w.alloc (.cells #[str s,str u,str g] 9)):=λev h1 h2 h3=>by
   unfold execOp;simp[ho,h1,h2,h3,go_sem]
  rw[hrun _ h1 h2 h3];exact hn _ _ (SS.new _ w (hD w hS) [s,u,g] 9 (0,0) (by unfold maxLen;simp) hl) ((Below.refl _ w).alloc (nl _) _)
theorem gR.cons {D:Nat→Prop} {w:World} {v:Value} {x:aG} (h:gR D w v x):∃a s,v=.agg #[str x.name,.bool x.sig.iter,a,str x.sig.res,s]∧∀l cs,bN D w cs l→bN D w (str x.name::.bool x.sig.iter::a::str x.sig.res::s::cs) (x::l):=by
 obtain⟨a,s,e,h1,h2,h3⟩:=h
 exact⟨a,s,e,λl cs hc=>⟨a,s,cs,rfl,h1,h2,h3,hc⟩⟩
theorem Od {t:TypeId} {x1 x2 x3:Operand} {o1 o2 o3:aG} (ho:o.op=.buildSlice t 3 #[(0,x1),(1,x2),(2,x3)]) (ht:t=31) (hw:dN ops h V o=some true) (hk:V[k]? =some (.prop λw v=>dU B w v [o1,o2,o3])) (h1:aM ops h V E o x1=some (.op o1)) (h2:aM ops h V E o x2=some (.op o2)) (h3:aM ops h V E o x3=some (.op o3)) (hD:∀w,S w→B≤w.heap.size):bX (λb=>B≤b) Tryz.prog S ops h V E k o:=
 qN [(x1,.op o1),(x2,.op o2),(x3,.op o3)] hw hk (by simp[h1,h2,h3]) λa w Q hS hi next hn=>by
  obtain⟨a1,s1,e1,c1⟩:=gR.cons (show gR (λb=>B≤b) w (a.eval x1) o1 from hi (x1,.op o1) (by simp));obtain⟨a2,s2,e2,c2⟩:=gR.cons (show gR (λb=>B≤b) w (a.eval x2) o2 from hi (x2,.op o2) (by simp));obtain⟨a3,s3,e3,c3⟩:=gR.cons (show gR (λb=>B≤b) w (a.eval x3) o3 from hi (x3,.op o3) (by simp));subst ht;unfold Oper.wp;have hrun:∀ev:Operand→Value,ev x1=.agg #[str o1.name,.bool o1.sig.iter,a1,str o1.sig.res,s1]→ev x2=.agg #[str o2.name,.bool o2.sig.iter,a2,str o2.sig.res,s2]→ev x3=.agg #[str o3.name,.bool o3.sig.iter,a3,str o3.sig.res,s3]→(execOp ev o).run Tryz.prog w=.ok (.value (.slice (some ⟨w.heap.size,0,none⟩) 3 3)) (w.alloc (.cells #[str o1.name,.bool o1.sig.iter,a1,str o1.sig.res,s1,str o2.name,.bool o2.sig.iter,a2,str o2.sig.res,s2,str o3.name,.bool o3.sig.iter,a3,str o3.sig.res,s3] 50)):=λev g1 g2 g3=>by
   unfold execOp;simp[ho,g1,g2,g3,go_sem]
  rw[hrun _ e1 e2 e3];have hc:bN (λb=>B≤b) w _ [o1,o2,o3]:=c1 _ _ (c2 _ _ (c3 [] [] rfl));exact hn _ _ (λw' hb=>dU.below (lD (n:=3) w (hD w hS) rfl (by unfold maxLen;simp) hc) hb (nl _)) ((Below.refl _ w).alloc (nl _) _)
theorem Oe {t:TypeId} {x1 x2 x3 x4:Operand} {o1 o2 o3 o4:aG} (ho:o.op=.buildSlice t 4 #[(0,x1),(1,x2),(2,x3),(3,x4)]) (ht:t=31) (hw:dN ops h V o=some true) (hk:V[k]? =some (.prop λw v=>dU B w v [o1,o2,o3,o4])) (h1:aM ops h V E o x1=some (.op o1)) (h2:aM ops h V E o x2=some (.op o2)) (h3:aM ops h V E o x3=some (.op o3)) (h4:aM ops h V E o x4=some (.op o4)) (hD:∀w,S w→B≤w.heap.size):bX (λb=>B≤b) Tryz.prog S ops h V E k o:=
 qN [(x1,.op o1),(x2,.op o2),(x3,.op o3),(x4,.op o4)] hw hk (by simp[h1,h2,h3,h4]) λa w Q hS hi next hn=>by
  obtain⟨a1,s1,e1,c1⟩:=gR.cons (show gR (λb=>B≤b) w (a.eval x1) o1 from hi (x1,.op o1) (by simp));obtain⟨a2,s2,e2,c2⟩:=gR.cons (show gR (λb=>B≤b) w (a.eval x2) o2 from hi (x2,.op o2) (by simp));obtain⟨a3,s3,e3,c3⟩:=gR.cons (show gR (λb=>B≤b) w (a.eval x3) o3 from hi (x3,.op o3) (by simp));obtain⟨a4,s4,e4,c4⟩:=gR.cons (show gR (λb=>B≤b) w (a.eval x4) o4 from hi (x4,.op o4) (by simp));subst ht;unfold Oper.wp;have hrun:∀ev:Operand→Value,ev x1=.agg #[str o1.name,.bool o1.sig.iter,a1,str o1.sig.res,s1]→ev x2=.agg #[str o2.name,.bool o2.sig.iter,a2,str o2.sig.res,s2]→ev x3=.agg #[str o3.name,.bool o3.sig.iter,a3,str o3.sig.res,s3]→ev x4=.agg #[str o4.name,.bool o4.sig.iter,a4,str o4.sig.res,s4]→(execOp ev o).run Tryz.prog w=.ok (.value (.slice (some ⟨w.heap.size,0,none⟩) 4 4)) (w.alloc (.cells #[str o1.name,.bool o1.sig.iter,a1,str o1.sig.res,s1,str o2.name,.bool o2.sig.iter,a2,str o2.sig.res,s2,str o3.name,.bool o3.sig.iter,a3,str o3.sig.res,s3,str o4.name,.bool o4.sig.iter,a4,str o4.sig.res,s4] 50)):=λev g1 g2 g3 g4=>by
   unfold execOp;simp[ho,g1,g2,g3,g4,go_sem]
  rw[hrun _ e1 e2 e3 e4];have hc:bN (λb=>B≤b) w _ [o1,o2,o3,o4]:=c1 _ _ (c2 _ _ (c3 _ _ (c4 [] [] rfl)));exact hn _ _ (λw' hb=>dU.below (lD (n:=4) w (hD w hS) rfl (by unfold maxLen;simp) hc) hb (nl _)) ((Below.refl _ w).alloc (nl _) _)
theorem Of {t:TypeId} {x1 x2 x3 x4 x5 x6 x7:Operand} {o1 o2 o3 o4 o5 o6 o7:aG} (ho:o.op=.buildSlice t 7 #[(0,x1),(1,x2),(2,x3),(3,x4),(4,x5),(5,x6),(6,x7)]) (ht:t=31) (hw:dN ops h V o=some true) (hk:V[k]? =some (.prop λw v=>dU B w v [o1,o2,o3,o4,o5,o6,o7])) (h1:aM ops h V E o x1=some (.op o1)) (h2:aM ops h V E o x2=some (.op o2)) (h3:aM ops h V E o x3=some (.op o3)) (h4:aM ops h V E o x4=some (.op o4)) (h5:aM ops h V E o x5=some (.op o5)) (h6:aM ops h V E o x6=some (.op o6)) (h7:aM ops h V E o x7=some (.op o7)) (hD:∀w,S w→B≤w.heap.size):bX (λb=>B≤b) Tryz.prog S ops h V E k o:=
 qN [(x1,.op o1),(x2,.op o2),(x3,.op o3),(x4,.op o4),(x5,.op o5),(x6,.op o6),(x7,.op o7)] hw hk (by simp[h1,h2,h3,h4,h5,h6,h7]) λa w Q hS hi next hn=>by
  obtain⟨a1,s1,e1,c1⟩:=gR.cons (show gR (λb=>B≤b) w (a.eval x1) o1 from hi (x1,.op o1) (by simp));obtain⟨a2,s2,e2,c2⟩:=gR.cons (show gR (λb=>B≤b) w (a.eval x2) o2 from hi (x2,.op o2) (by simp));obtain⟨a3,s3,e3,c3⟩:=gR.cons (show gR (λb=>B≤b) w (a.eval x3) o3 from hi (x3,.op o3) (by simp));obtain⟨a4,s4,e4,c4⟩:=gR.cons (show gR (λb=>B≤b) w (a.eval x4) o4 from hi (x4,.op o4) (by simp));obtain⟨a5,s5,e5,c5⟩:=gR.cons (show gR (λb=>B≤b) w (a.eval x5) o5 from hi (x5,.op o5) (by simp));obtain⟨a6,s6,e6,c6⟩:=gR.cons (show gR (λb=>B≤b) w (a.eval x6) o6 from hi (x6,.op o6) (by simp));obtain⟨a7,s7,e7,c7⟩:=gR.cons (show gR (λb=>B≤b) w (a.eval x7) o7 from hi (x7,.op o7) (by simp));subst ht;unfold Oper.wp;have hrun:∀ev:Operand→Value,ev x1=.agg #[str o1.name,.bool o1.sig.iter,a1,str o1.sig.res,s1]→ev x2=.agg #[str o2.name,.bool o2.sig.iter,a2,str o2.sig.res,s2]→ev x3=.agg #[str o3.name,.bool o3.sig.iter,a3,str o3.sig.res,s3]→ev x4=.agg #[str o4.name,.bool o4.sig.iter,a4,str o4.sig.res,s4]→ev x5=.agg #[str o5.name,.bool o5.sig.iter,a5,str o5.sig.res,s5]→ev x6=.agg #[str o6.name,.bool o6.sig.iter,a6,str o6.sig.res,s6]→ev x7=.agg #[str o7.name,.bool o7.sig.iter,a7,str o7.sig.res,s7]→(execOp ev o).run Tryz.prog w=.ok (.value (.slice (some ⟨w.heap.size,0,none⟩) 7 7)) (w.alloc (.cells #[str o1.name,.bool o1.sig.iter,a1,str o1.sig.res,s1,str o2.name,.bool o2.sig.iter,a2,str o2.sig.res,s2,str o3.name,.bool o3.sig.iter,a3,str o3.sig.res,s3,str o4.name,.bool o4.sig.iter,a4,str o4.sig.res,s4,str o5.name,.bool o5.sig.iter,a5,str o5.sig.res,s5,str o6.name,.bool o6.sig.iter,a6,str o6.sig.res,s6,str o7.name,.bool o7.sig.iter,a7,str o7.sig.res,s7] 50)):=λev g1 g2 g3 g4 g5 g6 g7=>by
   unfold execOp;simp[ho,g1,g2,g3,g4,g5,g6,g7,go_sem]
  rw[hrun _ e1 e2 e3 e4 e5 e6 e7];have hc:bN (λb=>B≤b) w _ [o1,o2,o3,o4,o5,o6,o7]:=c1 _ _ (c2 _ _ (c3 _ _ (c4 _ _ (c5 _ _ (c6 _ _ (c7 [] [] rfl))))));exact hn _ _ (λw' hb=>dU.below (lD (n:=7) w (hD w hS) rfl (by unfold maxLen;simp) hc) hb (nl _)) ((Below.refl _ w).alloc (nl _) _)
end
end Go.Proofs.YtakgjcfkdemipaaGreatDoor
namespace Go.Proofs.YtakgjcfkdemipaaGreatDoor
open Go.RowKit
theorem pJ:(Tryz.prog.info? 50).map (λi=>(i.zero,i.size,i.bytes))=some (some (.agg #[.string ⟨#[]⟩,.bool false,.slice none 0 0,.string ⟨#[]⟩,.slice none 0 0]),5,88):=by kernel_rfl
theorem iT:Tryz.prog.underlying 31=some (.slice 50):=by kernel_rfl
theorem ew (w:World) (cs:List Value) (t:TypeId):∀j u,cs[j]? =some u→(w.alloc (.cells cs.toArray t)).cell? ((⟨w.heap.size,0,none⟩:Addr).add j)=some u:=by
 intro j u hu
 rw[Go.WideShapes.add_plain,Nat.zero_add]
 refine(ak (heap_alloc_new w _) j).trans ?_
 simpa using hu
set_option maxRecDepth 8000 in
theorem IQ (v : Value) (m : Nat) (nv : Value) (p : Bool) (t : List UInt8) (w : World) (hv : yC v m nv p t) (ht : t.length ≤ maxLen) :
 Calls Tryz.prog 177 #[v] w λe w'=>∃u,e=.returned u∧dU w.heap.size w' u (([⟨[101,113,117,97,108],⟨false,[t,t],[98,111,111,108],[]⟩⟩,⟨[108,101],⟨false,[t,t],[98,111,111,108],[]⟩⟩,⟨[108,116],⟨false,[t,t],[98,111,111,108],[]⟩⟩]:List aG)++([[97,100,100],[115,117,98],[109,117,108]]:List (List UInt8)).map (λn=>(⟨n,⟨false,[t,t],t,[[111,118,101,114,102,108,111,119]]⟩⟩:aG))++([[100,105,118],[109,111,100]]:List (List UInt8)).map (λn=>(⟨n,⟨false,[t,t],t,[[122,101,114,111,100,105,118,105,100,101]]⟩⟩:aG)))∧Below w.heap.size w w':=by
 obtain⟨rfl,q,n,c,rfl⟩:=hv
 obtain⟨i0,fV,hz0,hz1,hz2⟩:=bu pJ
 have cI:=heap_alloc_new w (.cells #[.map (some m),.slice q n c,.bool p,str t] 145)
 have hA:=(Below.refl _ w).alloc (nl _) (.cells #[.map (some m),.slice q n c,.bool p,str t] 145)
 go_enter Tryz.func177,Tryz.ntmps177
 go_upto_region 1 with fail
 have rV:=(aU cI).1
 refine zA (D:=λb=>w.heap.size≤b) (d:=some 3) 17 [(1,vP w.heap.size 0)] [.eq (.agg #[.map (some m),.slice q n c,.bool p,str t]),.op (dK t),vP w.heap.size 3,vT t,vP w.heap.size 3,vT t,.ss [t,t],.sig ⟨false,[t,t],[98,111,111,108],[]⟩,.op ⟨[108,101],⟨false,[t,t],[98,111,111,108],[]⟩⟩,vP w.heap.size 3,vT t,vP w.heap.size 3,vT t,.ss [t,t],.sig ⟨false,[t,t],[98,111,111,108],[]⟩,.op ⟨[108,116],⟨false,[t,t],[98,111,111,108],[]⟩⟩,.prop λw' v=>dU w.heap.size w' v [⟨[101,113,117,97,108],⟨false,[t,t],[98,111,111,108],[]⟩⟩,⟨[108,101],⟨false,[t,t],[98,111,111,108],[]⟩⟩,⟨[108,116],⟨false,[t,t],[98,111,111,108],[]⟩⟩],.prop λw' v=>dU w.heap.size w' v [⟨[101,113,117,97,108],⟨false,[t,t],[98,111,111,108],[]⟩⟩,⟨[108,101],⟨false,[t,t],[98,111,111,108],[]⟩⟩,⟨[108,116],⟨false,[t,t],[98,111,111,108],[]⟩⟩]] (λw'=>aW [(⟨w.heap.size,0,none⟩,.map (some m)),(⟨w.heap.size,1,none⟩,.slice q n c),(⟨w.heap.size,2,none⟩,.bool p),(⟨w.heap.size,3,none⟩,str t)] w'∧Below w.heap.size w w'∧w'.heap[w.heap.size]? =some (.cells #[.map (some m),.slice q n c,.bool p,str t] 145 (0,0))) (by kernel_rfl) rfl rfl (λ_ _ h hb=>⟨h.1.below hb,h.2.1.trans (af hb h.2.1.size),ah h.2.2 hb⟩) ⟨cM rV.1 (cM rV.2.1 (cM rV.2.2.1 (cM rV.2.2.2 gD))),hA.drew,cI⟩ ⟨rfl,trivial⟩ ?_ ?_
 · iterate 18
    refine And.intro ?_ ?_
    · first
      | exact mT rfl rfl (by kernel_rfl)
      | exact fK rfl (by kernel_rfl) rfl rfl (λw=>by simp[go_sem])
      | exact fq rfl (by kernel_rfl) rfl rfl (λw h=>by simp[go_sem,h.1.get 0 rfl,h.1.get 1 rfl,h.1.get 2 rfl,h.1.get 3 rfl])
      | exact JH rfl (by kernel_rfl) rfl rfl ht λ_ h=>h.2.1.size
      | exact BL rfl rfl (by kernel_rfl) rfl rfl rfl (by first|exact ht|simp[maxLen]) (by first|exact ht|simp[maxLen]) λ_ h=>h.2.1.size
      | exact JL rfl (by kernel_rfl) rfl rfl rfl (by first|exact ht|simp[maxLen])
      | exact JI rfl rfl (by kernel_rfl) rfl rfl rfl (by simp[maxLen])
      | exact Od rfl rfl (by kernel_rfl) rfl rfl rfl rfl λ_ h=>h.2.1.size
   exact trivial
 · intro x u wx hS eu hown
   have hown:=hown wx (Below.refl _ _);obtain⟨p2,c2,rfl⟩:=hown.shape;simp only[pq,pz,pw];generalize x.tmps.getD 8 undef=y8;generalize x.tmps.getD 9 undef=y9;generalize x.tmps.getD 10 undef=y10;generalize x.tmps.getD 11 undef=y11;generalize x.tmps.getD 12 undef=y12;generalize x.tmps.getD 13 undef=y13;generalize x.tmps.getD 14 undef=y14;generalize x.tmps.getD 15 undef=y15;generalize x.tmps.getD 16 undef=y16;generalize x.tmps.getD 17 undef=y17;generalize x.tmps.getD 18 undef=y18;generalize x.tmps.getD 19 undef=y19;generalize x.tmps.getD 20 undef=y20;generalize x.tmps.getD 21 undef=y21;generalize x.tmps.getD 22 undef=y22;generalize x.tmps.getD 23 undef=y23;generalize x.tmps.getD 24 undef=y24;have iE:=hS.2.2;have hB:=hS.2.1;clear eu rV;have hss:=trivial;have hne:=trivial;clear hS;have hle2:=hB.size;have oM:=hown.below ((Below.refl _ wx).alloc (nl _) (.cells #[str [97,100,100],str [115,117,98],str [109,117,108]] 9)) (nl _);have Ik:=aH (.cells #[str [97,100,100],str [115,117,98],str [109,117,108]] 9) iE;have IC:SS (λb=>b=wx.heap.size) (wx.alloc (.cells #[str [97,100,100],str [115,117,98],str [109,117,108]] 9)) (.slice (some ⟨wx.heap.size,0,none⟩) 3 3) ([[97,100,100],[115,117,98],[109,117,108]]:List (List UInt8)):=SS.new (λb=>b=wx.heap.size) wx rfl ([[97,100,100],[115,117,98],[109,117,108]]:List (List UInt8)) 9 (0,0) (by unfold maxLen;simp) (by intro s hs;simp only[List.mem_cons,List.not_mem_nil,or_false] at hs;rcases hs with rfl|rfl|rfl<;>simp[maxLen]);have Ky:=hB.alloc hle2 (.cells #[str [97,100,100],str [115,117,98],str [109,117,108]] 9);have Ir:∀b,(Value.slice p2 _ c2).ownBlock=some b→b≠wx.heap.size:=λb hb=>by obtain⟨cs,hcs,_⟩:=hown;have:=aV hcs hb;omega
   clear hown iE hss hB hne;go_wp2_with fail;generalize YG:wx.heap.size=NB27 at *;generalize wx.alloc (.cells #[str [97,100,100],str [115,117,98],str [109,117,108]] 9)=WA at *;have hown:=oM;have iE:=Ik;have hss:=IC;have hB:=Ky;have hne:=Ir;clear oM Ik IC Ky Ir;go_loopw [3,27] (λv y wx=>∃i:Nat,i≤3∧y=.int .i64 i∧dU w.heap.size wx v (([⟨[101,113,117,97,108],⟨false,[t,t],[98,111,111,108],[]⟩⟩,⟨[108,101],⟨false,[t,t],[98,111,111,108],[]⟩⟩,⟨[108,116],⟨false,[t,t],[98,111,111,108],[]⟩⟩]:List aG)++(([[97,100,100],[115,117,98],[109,117,108]]:List (List UInt8)).take i).map (λn=>(⟨n,⟨false,[t,t],t,[[111,118,101,114,102,108,111,119]]⟩⟩:aG)))∧wx.heap[w.heap.size]? =some (.cells #[.map (some m),.slice q n c,.bool p,str t] 145 (0,0))∧SS (λb=>b=NB27) wx (.slice (some ⟨NB27,0,none⟩) 3 3) ([[97,100,100],[115,117,98],[109,117,108]]:List (List UInt8))∧Below w.heap.size w wx∧∀b,v.ownBlock=some b→b≠NB27) (λ_ y _=>3 - (intOf y).toNat)
   case atStart=>exact⟨0,by omega,by go_num,by simpa using hown,iE,hss,hB,hne⟩
   case round =>
    clear hown iE hss hB hne;obtain⟨i,hi,rfl,hown,iE,hss,hB,hne⟩:=hrel;obtain⟨pv,cv,rfl⟩:=hown.shape
    by_cases hlt:i<3
    case neg=>
     have hie:i=3:=by omega
     subst hie;rw[show List.take 3 ([[97,100,100],[115,117,98],[109,117,108]]:List (List UInt8))=([[97,100,100],[115,117,98],[109,117,108]]:List (List UInt8)) from rfl] at hown;simp only[show((3:Nat):Int)=3 from rfl];have hle2:=hB.size;have oM:=hown.below ((Below.refl _ wr).alloc (nl _) (.cells #[str [100,105,118],str [109,111,100]] 9)) (nl _);have Ik:=aH (.cells #[str [100,105,118],str [109,111,100]] 9) iE;have IC:SS (λb=>b=wr.heap.size) (wr.alloc (.cells #[str [100,105,118],str [109,111,100]] 9)) (.slice (some ⟨wr.heap.size,0,none⟩) 2 2) ([[100,105,118],[109,111,100]]:List (List UInt8)):=SS.new (λb=>b=wr.heap.size) wr rfl ([[100,105,118],[109,111,100]]:List (List UInt8)) 9 (0,0) (by unfold maxLen;simp) (by intro s hs;simp only[List.mem_cons,List.not_mem_nil,or_false] at hs;rcases hs with rfl|rfl<;>simp[maxLen]);have Ky:=hB.alloc hle2 (.cells #[str [100,105,118],str [109,111,100]] 9);have Ir:∀b,(Value.slice pv _ cv).ownBlock=some b→b≠wr.heap.size:=λb hb=>by obtain⟨cs,hcs,_⟩:=hown;have:=aV hcs hb;omega
     clear hown iE hss hB hne;go_wp2_with fail;generalize YG:wr.heap.size=NB48 at *;generalize wr.alloc (.cells #[str [100,105,118],str [109,111,100]] 9)=WB at *;have hown:=oM;have iE:=Ik;have hss:=IC;have hB:=Ky;have hne:=Ir;clear oM Ik IC Ky Ir;go_loopw [3,48] (λv y wx=>∃i:Nat,i≤2∧y=.int .i64 i∧dU w.heap.size wx v ((([⟨[101,113,117,97,108],⟨false,[t,t],[98,111,111,108],[]⟩⟩,⟨[108,101],⟨false,[t,t],[98,111,111,108],[]⟩⟩,⟨[108,116],⟨false,[t,t],[98,111,111,108],[]⟩⟩]:List aG)++([[97,100,100],[115,117,98],[109,117,108]]:List (List UInt8)).map (λn=>(⟨n,⟨false,[t,t],t,[[111,118,101,114,102,108,111,119]]⟩⟩:aG)))++(([[100,105,118],[109,111,100]]:List (List UInt8)).take i).map (λn=>(⟨n,⟨false,[t,t],t,[[122,101,114,111,100,105,118,105,100,101]]⟩⟩:aG)))∧wx.heap[w.heap.size]? =some (.cells #[.map (some m),.slice q n c,.bool p,str t] 145 (0,0))∧SS (λb=>b=NB48) wx (.slice (some ⟨NB48,0,none⟩) 2 2) ([[100,105,118],[109,111,100]]:List (List UInt8))∧Below w.heap.size w wx∧∀b,v.ownBlock=some b→b≠NB48) (λ_ y _=>2 - (intOf y).toNat)
     case atStart=>exact⟨0,by omega,by go_num,by simpa using hown,iE,hss,hB,hne⟩
     case round=>
      clear hown iE hss hB hne;obtain⟨i,hi,rfl,hown,iE,hss,hB,hne⟩:=hrel;obtain⟨pv,cv,rfl⟩:=hown.shape
      by_cases hlt:i<2
      case neg=>
       have hie:i=2:=by omega
       subst hie;rw[show List.take 2 ([[100,105,118],[109,111,100]]:List (List UInt8))=([[100,105,118],[109,111,100]]:List (List UInt8)) from rfl] at hown;simp only[show((2:Nat):Int)=2 from rfl];go_wp2_with fail;go_ret;exact⟨_,rfl,hown,hB⟩
      case pos=>
       obtain⟨nm,hnm⟩:∃nm,([[100,105,118],[109,111,100]]:List (List UInt8))[i]? =some nm:=⟨_,List.getElem?_eq_getElem hlt⟩
       have hnl:nm.length≤maxLen:=hss.le nm (List.mem_of_getElem? hnm);obtain⟨b1,o1,kj,_,Ml⟩:=hss.at hnm;have hle:=hB.size;have Y1:=(aU iE).1;have hT:=Lib.hid (show((([⟨[101,113,117,97,108],⟨false,[t,t],[98,111,111,108],[]⟩⟩,⟨[108,101],⟨false,[t,t],[98,111,111,108],[]⟩⟩,⟨[108,116],⟨false,[t,t],[98,111,111,108],[]⟩⟩]:List aG)++([[97,100,100],[115,117,98],[109,117,108]]:List (List UInt8)).map (λn=>(⟨n,⟨false,[t,t],t,[[111,118,101,114,102,108,111,119]]⟩⟩:aG)))++(([[100,105,118],[109,111,100]]:List (List UInt8)).take i).map (λn=>(⟨n,⟨false,[t,t],t,[[122,101,114,111,100,105,118,105,100,101]]⟩⟩:aG)))++[(λn=>(⟨n,⟨false,[t,t],t,[[122,101,114,111,100,105,118,105,100,101]]⟩⟩:aG)) nm]=(([⟨[101,113,117,97,108],⟨false,[t,t],[98,111,111,108],[]⟩⟩,⟨[108,101],⟨false,[t,t],[98,111,111,108],[]⟩⟩,⟨[108,116],⟨false,[t,t],[98,111,111,108],[]⟩⟩]:List aG)++([[97,100,100],[115,117,98],[109,117,108]]:List (List UInt8)).map (λn=>(⟨n,⟨false,[t,t],t,[[111,118,101,114,102,108,111,119]]⟩⟩:aG)))++(([[100,105,118],[109,111,100]]:List (List UInt8)).take (i+1)).map (λn=>(⟨n,⟨false,[t,t],t,[[122,101,114,111,100,105,118,105,100,101]]⟩⟩:aG)) by rw[List.append_assoc,List.take_add_one,hnm];simp);have hlen:((([⟨[101,113,117,97,108],⟨false,[t,t],[98,111,111,108],[]⟩⟩,⟨[108,101],⟨false,[t,t],[98,111,111,108],[]⟩⟩,⟨[108,116],⟨false,[t,t],[98,111,111,108],[]⟩⟩]:List aG)++([[97,100,100],[115,117,98],[109,117,108]]:List (List UInt8)).map (λn=>(⟨n,⟨false,[t,t],t,[[111,118,101,114,102,108,111,119]]⟩⟩:aG)))++(([[100,105,118],[109,111,100]]:List (List UInt8)).take i).map (λn=>(⟨n,⟨false,[t,t],t,[[122,101,114,111,100,105,118,105,100,101]]⟩⟩:aG))).length≤20:=by simp;omega
       generalize ((([⟨[101,113,117,97,108],⟨false,[t,t],[98,111,111,108],[]⟩⟩,⟨[108,101],⟨false,[t,t],[98,111,111,108],[]⟩⟩,⟨[108,116],⟨false,[t,t],[98,111,111,108],[]⟩⟩]:List aG)++([[97,100,100],[115,117,98],[109,117,108]]:List (List UInt8)).map (λn=>(⟨n,⟨false,[t,t],t,[[111,118,101,114,102,108,111,119]]⟩⟩:aG)))++(([[100,105,118],[109,111,100]]:List (List UInt8)).take i).map (λn=>(⟨n,⟨false,[t,t],t,[[122,101,114,111,100,105,118,105,100,101]]⟩⟩:aG)))=L at *;obtain⟨cs,hcs,hC⟩:=hown;injection kj with kj;injection kj with ay aA;subst ay aA;have aP:SS (λb=>wr.heap.size≤b) (wr.alloc (.cells #[str t,str t] 9)) (.slice (some ⟨wr.heap.size,0,none⟩) 2 2) [t,t]:=SS.new _ wr (nl _) [t,t] 9 (0,0) (by unfold maxLen;simp) (DL ht ht);have bW:=hB.alloc hle (.cells #[str t,str t] 9);have Nr:=hcs.alloc (.cells #[str t,str t] 9);have Hv:=hC.below ((Below.refl _ wr).alloc (nl _) (.cells #[str t,str t] 9)) (nl _);have iw:=aH (.cells #[str t,str t] 9) iE;have IB:=hss.below ((Below.refl _ wr).alloc (nl _) (.cells #[str t,str t] 9)) (nl _);rw[Nat.zero_add] at Ml;clear hnm;go_wp2_with (first
        | (at_builtin;refine aL (w4.alloc (.cells #[str nm,.bool false,.slice px 2 ca,str t,.slice py 1 cb] 50)) rfl _ _ 31 rfl w.heap.size 50 i0 _ 5 88 iT fV hz0 hz1 hz2 rfl (by decide) _ _ cs rfl (wj.alloc _) ⟨w4.heap.size,0,none⟩ 1 1 [str nm,.bool false,.slice px 2 ca,str t,.slice py 1 cb] rfl rfl (ew _ _ _) (by intro u hu;simp only[List.mem_cons,List.not_mem_nil,or_false] at hu;rcases hu with rfl|rfl|rfl|rfl|rfl<;>rfl) (by decide) (by unfold maxLen;omega) (by omega) (Nat.le_trans dH.size (by simp)) ?_;intro v' w5 dJ hgr n5)
        | (go_at_call 240;refine(sD _ ⟨false,[t,t],t,[]⟩ [122,101,114,111,100,105,118,105,100,101] _ U6 (by simp[maxLen]) (λb hb=>show wr.heap.size≤b by have:=aK.size;simp at this;omega)).mono ?_;rintro e w4 ⟨u4,rfl,⟨a4,q4,rfl,l4,r4,s4⟩,hb4⟩;obtain⟨px,ca,hpx,_⟩:=r4.shape;obtain⟨py,cb,OZ,_⟩:=s4.shape;subst hpx OZ;have wj:=az Fa hb4 (nl _);have PU:=PT.below hb4 (nl _);have iV:=ah iJ hb4;have NO:=NN.below hb4 (nl _);have dH:=dg.trans (af hb4 dg.size))
        | (go_at_call 239;refine(mm _ [t,t] _ _ aP ht).mono ?_;rintro e w3 ⟨u3,rfl,U6,aK⟩;have Fa:=az Nr aK (nl _);have PT:=Hv.below aK (nl _);have iJ:=ah iw aK;have NN:=IB.below aK (nl _);have dg:=bW.trans (af aK bW.size)))
       obtain⟨Tu,Tv,Pw,Tw⟩:=uP (x:=⟨nm,⟨false,[t,t],t,[[122,101,114,111,100,105,118,105,100,101]]⟩⟩) _ dH wj PU ⟨_,_,[],rfl,⟨hnl,l4⟩,r4.mono (λb hb e=>absurd (aV hcs e) (by omega)),s4.mono (λb hb e=>absurd (aV hcs e) (by omega)),rfl⟩ dJ hgr n5;have V8:NB48<w4.heap.size:=Nat.lt_of_lt_of_le (DV Ml) (by have:=aK.size;have:=hb4.size;simp at *;omega);refine⟨⟨i+1,hlt,by go_num,hT.out▸Tu,(Pw _ (bH iV) (yf wj iV (by decide))).trans iV,NO.agree (λb hb hlt=>by subst hb;exact Pw _ hlt (λe=>hne _ e rfl)),Tv,λb hb e=>?_⟩,by simp only[intOf];omega⟩;subst e;rcases Tw _ hb with h|h
       · exact hne _ h rfl
       · omega
    case pos=>
     obtain⟨nm,hnm⟩:∃nm,([[97,100,100],[115,117,98],[109,117,108]]:List (List UInt8))[i]? =some nm:=⟨_,List.getElem?_eq_getElem hlt⟩
     have hnl:nm.length≤maxLen:=hss.le nm (List.mem_of_getElem? hnm);obtain⟨b1,o1,kj,_,Ml⟩:=hss.at hnm;have hle:=hB.size;have Y1:=(aU iE).1;have hT:=Lib.hid (show(([⟨[101,113,117,97,108],⟨false,[t,t],[98,111,111,108],[]⟩⟩,⟨[108,101],⟨false,[t,t],[98,111,111,108],[]⟩⟩,⟨[108,116],⟨false,[t,t],[98,111,111,108],[]⟩⟩]:List aG)++(([[97,100,100],[115,117,98],[109,117,108]]:List (List UInt8)).take i).map (λn=>(⟨n,⟨false,[t,t],t,[[111,118,101,114,102,108,111,119]]⟩⟩:aG)))++[(λn=>(⟨n,⟨false,[t,t],t,[[111,118,101,114,102,108,111,119]]⟩⟩:aG)) nm]=([⟨[101,113,117,97,108],⟨false,[t,t],[98,111,111,108],[]⟩⟩,⟨[108,101],⟨false,[t,t],[98,111,111,108],[]⟩⟩,⟨[108,116],⟨false,[t,t],[98,111,111,108],[]⟩⟩]:List aG)++(([[97,100,100],[115,117,98],[109,117,108]]:List (List UInt8)).take (i+1)).map (λn=>(⟨n,⟨false,[t,t],t,[[111,118,101,114,102,108,111,119]]⟩⟩:aG)) by rw[List.append_assoc,List.take_add_one,hnm];simp);have hlen:(([⟨[101,113,117,97,108],⟨false,[t,t],[98,111,111,108],[]⟩⟩,⟨[108,101],⟨false,[t,t],[98,111,111,108],[]⟩⟩,⟨[108,116],⟨false,[t,t],[98,111,111,108],[]⟩⟩]:List aG)++(([[97,100,100],[115,117,98],[109,117,108]]:List (List UInt8)).take i).map (λn=>(⟨n,⟨false,[t,t],t,[[111,118,101,114,102,108,111,119]]⟩⟩:aG))).length≤20:=by simp;omega
     generalize (([⟨[101,113,117,97,108],⟨false,[t,t],[98,111,111,108],[]⟩⟩,⟨[108,101],⟨false,[t,t],[98,111,111,108],[]⟩⟩,⟨[108,116],⟨false,[t,t],[98,111,111,108],[]⟩⟩]:List aG)++(([[97,100,100],[115,117,98],[109,117,108]]:List (List UInt8)).take i).map (λn=>(⟨n,⟨false,[t,t],t,[[111,118,101,114,102,108,111,119]]⟩⟩:aG)))=L at *;obtain⟨cs,hcs,hC⟩:=hown;injection kj with kj;injection kj with ay aA;subst ay aA;have aP:SS (λb=>wr.heap.size≤b) (wr.alloc (.cells #[str t,str t] 9)) (.slice (some ⟨wr.heap.size,0,none⟩) 2 2) [t,t]:=SS.new _ wr (nl _) [t,t] 9 (0,0) (by unfold maxLen;simp) (DL ht ht);have bW:=hB.alloc hle (.cells #[str t,str t] 9);have Nr:=hcs.alloc (.cells #[str t,str t] 9);have Hv:=hC.below ((Below.refl _ wr).alloc (nl _) (.cells #[str t,str t] 9)) (nl _);have iw:=aH (.cells #[str t,str t] 9) iE;have IB:=hss.below ((Below.refl _ wr).alloc (nl _) (.cells #[str t,str t] 9)) (nl _);rw[Nat.zero_add] at Ml;clear hnm;go_wp2_with (first
      | (at_builtin;refine aL (w4.alloc (.cells #[str nm,.bool false,.slice px 2 ca,str t,.slice py 1 cb] 50)) rfl _ _ 31 rfl w.heap.size 50 i0 _ 5 88 iT fV hz0 hz1 hz2 rfl (by decide) _ _ cs rfl (wj.alloc _) ⟨w4.heap.size,0,none⟩ 1 1 [str nm,.bool false,.slice px 2 ca,str t,.slice py 1 cb] rfl rfl (ew _ _ _) (by intro u hu;simp only[List.mem_cons,List.not_mem_nil,or_false] at hu;rcases hu with rfl|rfl|rfl|rfl|rfl<;>rfl) (by decide) (by unfold maxLen;omega) (by omega) (Nat.le_trans dH.size (by simp)) ?_;intro v' w5 dJ hgr n5)
      | (go_at_call 240;refine(sD _ ⟨false,[t,t],t,[]⟩ [111,118,101,114,102,108,111,119] _ U6 (by simp[maxLen]) (λb hb=>show wr.heap.size≤b by have:=aK.size;simp at this;omega)).mono ?_;rintro e w4 ⟨u4,rfl,⟨a4,q4,rfl,l4,r4,s4⟩,hb4⟩;obtain⟨px,ca,hpx,_⟩:=r4.shape;obtain⟨py,cb,OZ,_⟩:=s4.shape;subst hpx OZ;have wj:=az Fa hb4 (nl _);have PU:=PT.below hb4 (nl _);have iV:=ah iJ hb4;have NO:=NN.below hb4 (nl _);have dH:=dg.trans (af hb4 dg.size))
      | (go_at_call 239;refine(mm _ [t,t] _ _ aP ht).mono ?_;rintro e w3 ⟨u3,rfl,U6,aK⟩;have Fa:=az Nr aK (nl _);have PT:=Hv.below aK (nl _);have iJ:=ah iw aK;have NN:=IB.below aK (nl _);have dg:=bW.trans (af aK bW.size)))
     obtain⟨Tu,Tv,Pw,Tw⟩:=uP (x:=⟨nm,⟨false,[t,t],t,[[111,118,101,114,102,108,111,119]]⟩⟩) _ dH wj PU ⟨_,_,[],rfl,⟨hnl,l4⟩,r4.mono (λb hb e=>absurd (aV hcs e) (by omega)),s4.mono (λb hb e=>absurd (aV hcs e) (by omega)),rfl⟩ dJ hgr n5;have V8:NB27<w4.heap.size:=Nat.lt_of_lt_of_le (DV Ml) (by have:=aK.size;have:=hb4.size;simp at *;omega);refine⟨⟨i+1,hlt,by go_num,hT.out▸Tu,(Pw _ (bH iV) (yf wj iV (by decide))).trans iV,NO.agree (λb hb hlt=>by subst hb;exact Pw _ hlt (λe=>hne _ e rfl)),Tv,λb hb e=>?_⟩,by simp only[intOf];omega⟩;subst e;rcases Tw _ hb with h|h
     · exact hne _ h rfl
     · omega
end Go.Proofs.YtakgjcfkdemipaaGreatDoor
namespace Go.Proofs.YtakgjcfkdemipaaGreatDoor
open Go.RowKit
def oB (D:Nat→Prop) (B:Nat) (w:World) (v:Value) (l:List aG):Prop:=∃cs,w.ownsRow B 50 5 v l.length cs∧bN D w cs l
theorem oB.below {D:Nat→Prop} {B K:Nat} {w w':World} {v:Value} {l:List aG} (h:oB D B w v l) (hb:Below K w w') (hK:w.heap.size≤K):oB D B w' v l:=by
 obtain⟨cs,h1,h2⟩:=h
 exact⟨cs,az h1 hb hK,h2.below hb hK⟩
theorem oB.shape {D:Nat→Prop} {B:Nat} {w:World} {v:Value} {l:List aG} (h:oB D B w v l):∃p c,v=.slice p l.length c:=by
 obtain⟨cs,h1,_⟩:=h
 exact aS h1
theorem Bw {D:Nat→Prop} {B n:Nat} (w:World) (hB:B≤w.heap.size) {l:List aG} {cs:List Value} (hn:l.length=n) (hm:n≤maxLen) (hc:bN D w cs l):oB D B (w.alloc (.cells cs.toArray 50)) (.slice (some ⟨w.heap.size,0,none⟩) n n) l:=by
 subst hn
 have hb:=(Below.refl _ w).alloc (nl _) (.cells cs.toArray 50)
 exact⟨cs,⟨hc.length,.inr ⟨w.heap.size,l.length,cs.toArray,rfl,hB,heap_alloc_new w _,nl _,hm,by simpa using hc.length,by rw[←hc.length];simp⟩⟩,hc.below hb (nl _)⟩
theorem dU.lt {B:Nat} {w:World} {v:Value} {l:List aG} (h:dU B w v l) {b:Nat} (hb:v.ownBlock=some b):B≤b∧b<w.heap.size:=by
 obtain⟨cs,h1,_⟩:=h
 exact h1.lt b hb
theorem dU.mono {B B':Nat} {w:World} {v:Value} {l:List aG} (h:dU B w v l) (hB:B'≤B):dU B' w v l:=by
 obtain⟨cs,⟨h1,h2⟩,h3⟩:=h
 refine⟨cs,⟨h1,?_⟩,h3⟩
 rcases h2 with h2|⟨g,cap,cur,e,h2,h4⟩
 · exact .inl h2
 · exact .inr ⟨g,cap,cur,e,Nat.le_trans hB h2,h4⟩
theorem fJ {w:World} {b:Nat} {a0 a1:Value} {t:TypeId} (h:w.heap[b]? =some (.cells #[a0,a1] t (0,0))):w.cell? ⟨b,0,none⟩=some a0∧w.cell? ⟨b,1,none⟩=some a1:=
 ⟨(ak h 0).trans rfl,(ak h 1).trans rfl⟩
theorem wL {o:Oper} {a:Act} {w:World} {K:Act→World→Prop} {Q:Exit→Act→World→Prop} (s x:Operand)
 (ho:o.op=.call {callee:=.builtin .append,args:= #[s,x],argTypes:= #[31,31] }) {B B':Nat} {D:Nat→Prop} {v y:Value} {L k:List aG}
 (hs:a.eval s=v) (hx:a.eval x=y) (hv:dU B w v L) (hy:oB D B' w y k) (hk:0<k.length) (hD:∀b,D b→v.ownBlock≠some b) (hm:L.length+k.length≤1000) (hB:B≤w.heap.size)
 (h:∀v' w',dU B w' v' (L++k)→Below B w w'→K (a.put o.dst v') w'):Oper.wp Tryz.prog o a w K Q:=by
 obtain⟨i0,fV,hz0,hz1,hz2⟩:=bu pJ
 obtain⟨cs,hcs,hC⟩:=hv
 obtain⟨ds,hy1,hy2⟩:=hy
 rcases hy1.2 with⟨_,h0⟩|⟨g,cap,cur,rfl,_⟩
 · omega
 · have hmx:L.length+k.length≤maxLen:=by unfold maxLen;omega
   obtain⟨v',w',hr,h2,h3,h4⟩:=gu (P:=Tryz.prog) w B 31 o.type 50 i0 _ 5 88 iT fV hz0 hz1 hz2 rfl (by decide) v L.length cs hcs ⟨g,0,none⟩ k.length cap ds hy1.1 (λj u hj=>hy1.cells (g:=g) rfl j u hj) hy2.one_cell hk hmx (by omega) hB;unfold Oper.wp execOp;simp only[ho,resolve,invoke,builtin,Sem.run_bind,Sem.run_pure,Result.andThen_ok,List.map_toArray,List.map_cons,List.map_nil,hs,hx,hr];refine h v' w' ?_ ((Below.refl _ w).grown h3 hB (λb e=>(hcs.lt b e).1) |> λz=>af z (nl _));exact dU.append hC (hy2.mono hD) h2 h3 h4
def iu (X:Nat→Prop) (B:Nat) (w:World) (v:Value) (l:List aG):Prop:=∃cs,w.ownsRow B 50 5 v l.length cs∧bN (λb=>v.ownBlock≠some b∧¬X b) w cs l
theorem iu.own {X:Nat→Prop} {B:Nat} {w:World} {v:Value} {l:List aG} (h:iu X B w v l):dU B w v l:=by
 obtain⟨cs,h1,h2⟩:=h
 exact⟨cs,h1,h2.mono λb hb=>hb.1⟩
theorem dU.x {X:Nat→Prop} {B:Nat} {w:World} {v:Value} {l:List aG} (h:dU B w v l) (hX:∀b,¬X b):iu X B w v l:=by
 obtain⟨cs,h1,h2⟩:=h
 exact⟨cs,h1,h2.mono λb hb=>⟨hb,hX b⟩⟩
theorem iu.below {X:Nat→Prop} {B K:Nat} {w w':World} {v:Value} {l:List aG} (h:iu X B w v l) (hb:Below K w w') (hK:w.heap.size≤K):iu X B w' v l:=by
 obtain⟨cs,h1,h2⟩:=h
 exact⟨cs,az h1 hb hK,h2.below hb hK⟩
theorem iu.shape {X:Nat→Prop} {B:Nat} {w:World} {v:Value} {l:List aG} (h:iu X B w v l):∃p c,v=.slice p l.length c:=h.own.shape
theorem zl {B B' k k' n n':Nat} {e e':TypeId} {w:World} {v v':Value} {xs xs':List Value} (h:w.ownsRow B e k v n xs) (h':w.ownsRow B' e' k' v' n' xs') (hne:e≠e'):∀b,v.ownBlock=some b→v'.ownBlock≠some b:=by
 intro b hb hb'
 rcases h.2 with⟨rfl,_⟩|⟨g,cap,cur,rfl,_,hg,_⟩
 · cases hb
 · rcases h'.2 with⟨rfl,_⟩|⟨g',cap',cur',rfl,_,hg',_⟩
   · cases hb'
   · simp only[Value.ownBlock,Option.some.injEq] at hb hb'
     subst hb;subst hb';rw[hg] at hg';injection hg' with hg';injection hg' with _ ht _;exact hne ht
theorem iu.append {X:Nat→Prop} {B:Nat} {W W':World} {v v':Value} {l k:List aG} {ds cs:List Value} (hC:bN (λb=>v.ownBlock≠some b∧¬X b) W cs l) (hk:bN (λb=>v.ownBlock≠some b∧¬X b) W ds k) (h':W'.ownsRow B 50 5 v' (l.length+k.length) (cs++ds)) (hg:W.grownBy W' v.ownBlock) (ho:v'.ownBlock=v.ownBlock∨v'.ownBlock=some W.heap.size):iu X B W' v' (l++k):=by
 refine⟨cs++ds,by rw[List.length_append];exact h',?_⟩
 have key:∀{l:List aG} {cs:List Value},bN (λb=>v.ownBlock≠some b∧¬X b) W cs l→bN (λb=>v'.ownBlock≠some b∧¬X b) W' cs l:=by
  intro l cs hc;refine(hc.fresh.agree (w':=W') λb hb hlt=>hg.block b hlt λe=>hb.1.1 e.symm).mono λb hb=>⟨λe=>?_,hb.1.2⟩
  rcases ho with ho|ho
  · exact hb.1.1 (by rw[←ho];exact e)
  · have h2:=hb.2
    rw[ho] at e;injection e with e;omega
 exact bN.append (key hk) (key hC)
theorem iu.grow {B:Nat} {W W':World} {v a a':Value} {l:List aG} (h:iu (λb=>a.ownBlock=some b) B W v l) (hg:W.grownBy W' a.ownBlock) (YX:∀b,v.ownBlock=some b→a.ownBlock≠some b) (ho:a'.ownBlock=a.ownBlock∨a'.ownBlock=some W.heap.size):iu (λb=>a'.ownBlock=some b) B W' v l:=by
 obtain⟨cs,h1,h2⟩:=h
 refine⟨cs,dL h1 (λb hb=>hg.block b (aV h1 hb) (λe=>YX b hb e.symm)),?_⟩
 refine(h2.fresh.agree (w':=W') λb hb hlt=>hg.block b hlt λe=>hb.1.2 e.symm).mono λb hb=>⟨hb.1.1,λe=>?_⟩
 rcases ho with ho|ho
 · exact hb.1.2 (by rw[←ho];exact e)
 · have h2:=hb.2
   rw[ho] at e;injection e with e;omega
theorem vO {o:Oper} {a:Act} {w:World} {K:Act→World→Prop} {Q:Exit→Act→World→Prop} (s x:Operand)
 (ho:o.op=.call {callee:=.builtin .append,args:= #[s,x],argTypes:= #[31,31] }) {X:Nat→Prop} {B B':Nat} {D:Nat→Prop} {v y:Value} {L k:List aG}
 (hs:a.eval s=v) (hx:a.eval x=y) (hv:iu X B w v L) (hy:oB D B' w y k) (hk:0<k.length) (hD:∀b,D b→v.ownBlock≠some b∧¬X b) (hm:L.length+k.length≤1000) (hB:B≤w.heap.size)
 (h:∀v' w',iu X B w' v' (L++k)→Below B w w'→w.grownBy w' v.ownBlock→K (a.put o.dst v') w'):Oper.wp Tryz.prog o a w K Q:=by
 obtain⟨i0,fV,hz0,hz1,hz2⟩:=bu pJ
 obtain⟨cs,hcs,hC⟩:=hv
 obtain⟨ds,hy1,hy2⟩:=hy
 rcases hy1.2 with⟨_,h0⟩|⟨g,cap,cur,rfl,_⟩
 · omega
 · have hmx:L.length+k.length≤maxLen:=by unfold maxLen;omega
   obtain⟨v',w',hr,h2,h3,h4⟩:=gu (P:=Tryz.prog) w B 31 o.type 50 i0 _ 5 88 iT fV hz0 hz1 hz2 rfl (by decide) v L.length cs hcs ⟨g,0,none⟩ k.length cap ds hy1.1 (λj u hj=>hy1.cells (g:=g) rfl j u hj) hy2.one_cell hk hmx (by omega) hB;unfold Oper.wp execOp;simp only[ho,resolve,invoke,builtin,Sem.run_bind,Sem.run_pure,Result.andThen_ok,List.map_toArray,List.map_cons,List.map_nil,hs,hx,hr];refine h v' w' ?_ (af ((Below.refl _ w).grown h3 hB (λb e=>(hcs.lt b e).1)) (nl _)) h3;exact iu.append hC (hy2.mono hD) h2 h3 h4
end Go.Proofs.YtakgjcfkdemipaaGreatDoor
namespace Go.Proofs.YtakgjcfkdemipaaGreatDoor
open Go.RowKit
set_option maxRecDepth 8000 in
theorem Cp (v:Value) (m:Nat) (nv:Value) (p:Bool) (t:List UInt8) (w:World) (hT:fN w) (har:(bQ t).1.length≤maxLen) (hv:yC v m nv p t) (ht:t.length≤maxLen):
 Calls Tryz.prog 180 #[v] w λe w'=>∃u,e=.returned u∧dU w.heap.size w' u [⟨[101,113,117,97,108],⟨false,[t,t],[98,111,111,108],[]⟩⟩,⟨[97,100,100,104],⟨false,[t,(bQ t).1],[],[[111,118,101,114,102,108,111,119]]⟩⟩,⟨[102,101,116,99,104],⟨false,[t,[105,110,116]],(bQ t).1,[[98,111,117,110,100,115]]⟩⟩,⟨[110,101,119],⟨false,[],t,[]⟩⟩,⟨[114,101,109,104],⟨false,[t],(bQ t).1,[[98,111,117,110,100,115]]⟩⟩,⟨[115,105,122,101],⟨false,[t],[105,110,116],[]⟩⟩,⟨[115,116,111,114,101],⟨false,[t,[105,110,116],(bQ t).1],[],[[98,111,117,110,100,115]]⟩⟩]∧Below w.heap.size w w':=by
 obtain⟨rfl,q,n,c,rfl⟩:=hv
 have cI:=heap_alloc_new w (.cells #[.map (some m),.slice q n c,.bool p,str t] 145)
 have hA:=(Below.refl _ w).alloc (nl _) (.cells #[.map (some m),.slice q n c,.bool p,str t] 145)
 have HC:=uq t ht (w.alloc (.cells #[.map (some m),.slice q n c,.bool p,str t] 145)) (hT.below hA (nl _))
 have bx:=(aU cI).1
 go_enter Tryz.func180,Tryz.ntmps180
 go_upto_region 2 with(go_at_call 121;refine HC.mono ?_;clear HC;rintro e w1 ⟨rfl,ay⟩)
 have ff:=ah cI ay
 have bJ:=hA.trans (af ay (by simp))
 clear cI hA bx ay
 have rV:=(aU (w:=w1.drew) ff).1
 refine zA (D:=λb=>w.heap.size≤b) (d:=some 2) (w:=w1) 40 [(1,vP w.heap.size 0),(3,vT (bQ t).1)] [.eq (.agg #[.map (some m),.slice q n c,.bool p,str t]),.op (dK t),vP w.heap.size 3,vT t,vT (bQ t).1,.ss [t,(bQ t).1],.sig ⟨false,[t,(bQ t).1],[],[]⟩,.sig ⟨false,[t,(bQ t).1],[],[[111,118,101,114,102,108,111,119]]⟩,.op ⟨[97,100,100,104],⟨false,[t,(bQ t).1],[],[[111,118,101,114,102,108,111,119]]⟩⟩,vT (bQ t).1,vP w.heap.size 3,vT t,.ss [t,[105,110,116]],.sig ⟨false,[t,[105,110,116]],(bQ t).1,[]⟩,.sig ⟨false,[t,[105,110,116]],(bQ t).1,[[98,111,117,110,100,115]]⟩,.op ⟨[102,101,116,99,104],⟨false,[t,[105,110,116]],(bQ t).1,[[98,111,117,110,100,115]]⟩⟩,vP w.heap.size 3,vT t,.sig ⟨false,[],t,[]⟩,.op ⟨[110,101,119],⟨false,[],t,[]⟩⟩,vT (bQ t).1,vP w.heap.size 3,vT t,.ss [t],.sig ⟨false,[t],(bQ t).1,[]⟩,.sig ⟨false,[t],(bQ t).1,[[98,111,117,110,100,115]]⟩,.op ⟨[114,101,109,104],⟨false,[t],(bQ t).1,[[98,111,117,110,100,115]]⟩⟩,vP w.heap.size 3,vT t,.ss [t],.sig ⟨false,[t],[105,110,116],[]⟩,.op ⟨[115,105,122,101],⟨false,[t],[105,110,116],[]⟩⟩,vP w.heap.size 3,vT t,vT (bQ t).1,.ss [t,[105,110,116],(bQ t).1],.sig ⟨false,[t,[105,110,116],(bQ t).1],[],[]⟩,.sig ⟨false,[t,[105,110,116],(bQ t).1],[],[[98,111,117,110,100,115]]⟩,.op ⟨[115,116,111,114,101],⟨false,[t,[105,110,116],(bQ t).1],[],[[98,111,117,110,100,115]]⟩⟩,.prop λw' v=>dU w.heap.size w' v [dK t,⟨[97,100,100,104],⟨false,[t,(bQ t).1],[],[[111,118,101,114,102,108,111,119]]⟩⟩,⟨[102,101,116,99,104],⟨false,[t,[105,110,116]],(bQ t).1,[[98,111,117,110,100,115]]⟩⟩,⟨[110,101,119],⟨false,[],t,[]⟩⟩,⟨[114,101,109,104],⟨false,[t],(bQ t).1,[[98,111,117,110,100,115]]⟩⟩,⟨[115,105,122,101],⟨false,[t],[105,110,116],[]⟩⟩,⟨[115,116,111,114,101],⟨false,[t,[105,110,116],(bQ t).1],[],[[98,111,117,110,100,115]]⟩⟩],.prop λw' v=>dU w.heap.size w' v [dK t,⟨[97,100,100,104],⟨false,[t,(bQ t).1],[],[[111,118,101,114,102,108,111,119]]⟩⟩,⟨[102,101,116,99,104],⟨false,[t,[105,110,116]],(bQ t).1,[[98,111,117,110,100,115]]⟩⟩,⟨[110,101,119],⟨false,[],t,[]⟩⟩,⟨[114,101,109,104],⟨false,[t],(bQ t).1,[[98,111,117,110,100,115]]⟩⟩,⟨[115,105,122,101],⟨false,[t],[105,110,116],[]⟩⟩,⟨[115,116,111,114,101],⟨false,[t,[105,110,116],(bQ t).1],[],[[98,111,117,110,100,115]]⟩⟩]] (λw'=>aW [(⟨w.heap.size,0,none⟩,.map (some m)),(⟨w.heap.size,1,none⟩,.slice q n c),(⟨w.heap.size,2,none⟩,.bool p),(⟨w.heap.size,3,none⟩,str t)] w'∧Below w.heap.size w w') (by kernel_rfl) rfl rfl (λ_ _ h hb=>⟨h.1.below hb,h.2.trans (af hb h.2.size)⟩) ⟨cM rV.1 (cM rV.2.1 (cM rV.2.2.1 (cM rV.2.2.2 gD))),bJ.drew⟩ ⟨rfl,rfl,trivial⟩ ?_ ?_
 · iterate 41
    refine And.intro ?_ ?_
    · first
      | exact mT rfl rfl (by kernel_rfl)
      | exact fK rfl (by kernel_rfl) rfl rfl (λw=>by simp[go_sem])
      | exact fq rfl (by kernel_rfl) rfl rfl (λw h=>by simp[go_sem,h.1.get 0 rfl,h.1.get 1 rfl,h.1.get 2 rfl,h.1.get 3 rfl])
      | exact JH rfl (by kernel_rfl) rfl rfl ht λ_ h=>h.2.size
      | exact EF rfl rfl (by kernel_rfl) rfl rfl (by first|exact ht|exact har|simp[maxLen]) λ_ h=>h.2.size
      | exact BL rfl rfl (by kernel_rfl) rfl rfl rfl (by first|exact ht|exact har|simp[maxLen]) (by first|exact ht|exact har|simp[maxLen]) λ_ h=>h.2.size
      | exact Vt rfl rfl (by kernel_rfl) rfl rfl rfl rfl (by simp[maxLen] at ht har ⊢;omega) λ_ h=>h.2.size
      | exact JL rfl (by kernel_rfl) rfl rfl rfl (by first|exact ht|exact har|simp[maxLen])
      | exact Oh rfl (by kernel_rfl) rfl rfl rfl (by first|exact ht|exact har|simp[maxLen])
      | exact RR rfl (by kernel_rfl) rfl rfl rfl (by simp[maxLen]) λ_ h=>h.2.size
      | exact JI rfl rfl (by kernel_rfl) rfl rfl rfl (by simp[maxLen])
      | exact Of rfl rfl (by kernel_rfl) rfl rfl rfl rfl rfl rfl rfl rfl λ_ h=>h.2.size
   exact trivial
 · intro aE u wE jv eu hu
   have hu:=hu wE (Below.refl _ _);obtain⟨p2,c2,rfl⟩:=hu.shape;simp only[pq,pz,pw];go_wp2_with fail;go_ret;exact⟨_,rfl,hu,jv.2⟩
end Go.Proofs.YtakgjcfkdemipaaGreatDoor
