/-
  Lemmas for the statement: contract: of the package face: OpOf. Conditions: bounds of lengths; the variable strings.asciiSpace.
-/
import Derived.Test.YtakgjcfkdemipaaGreatDoorZBn
import Derived.Test.YtakgjcfkdemipaaGreatDoorZB24
set_option maxHeartbeats 25600000
namespace Go.Proofs.YtakgjcfkdemipaaGreatDoor
section
open Go.RowKit
theorem si {l:List aA} {ag:List aL} {t:List UInt8} (h:fJ l ag t=0):cE l ag=0∧(aq t).1=0:=by
 unfold fJ at h
 split at h
 · rename_i h1;exact absurd h h1
 · rename_i h1
   refine⟨by simpa using h1,?_⟩;apply Classical.byContradiction;intro h2;unfold dz ff at h;rw[if_pos h2] at h;exact h2 h
set_option maxRecDepth 8000 in
theorem xW {D:Nat→Prop} (l:List aA) (v:Value) (ag:List aL) (wv:Value) (t n:List UInt8) (w:World) (hT:dW w) (hv:bG D w v l) (hw:aY D w wv ag) (hn:∀f∈l,f.ag.length≤100000) (hnl:ag.length≤100000) (htl:t.length≤maxLen):
 Calls Tryz.prog 23 #[v,wv,str t,str n] w λe w'=>∃u,e=.returned (.tuple #[u,.int .i64 (jP l ag t n).2])∧aT (λb=>w.heap.size≤b) w' u (jP l ag t n).1∧Below w.heap.size w w':=by
 have hA:=(zb w).alloc zr (.cells #[.bool false,.slice none 0 0,.string ⟨#[]⟩,.slice none 0 0] 36)
 have hg:=heap_alloc_new w (.cells #[.bool false,.slice none 0 0,.string ⟨#[]⟩,.slice none 0 0] 36)
 have HT:=zh (λW (hW:Below w.heap.size w W)=>hT.below hW zr)
 have HC:=uD l v ag wv t _ (HT.out _ hA) (hv.below hA zr) (hw.below hA zr) hn hnl htl
 have hz:=λh=>si (l:=l) (ag:=ag) (t:=t) h
 obtain⟨p,c,rfl,_⟩:=hv.shape
 obtain⟨q,cq,rfl,_⟩:=hw.shape
 have cM:jP l ag t n=if fJ l ag t≠0 then(.zero,fJ l ag t) else ng ⟨l,ag,fP ag t⟩ t n:=rfl
 generalize jP l ag t n=RS at *
 generalize fJ l ag t=TK at *
 clear hT hv hw hn hnl
 by_cases h0:TK=0
 case neg=>
  obtain⟨g1,g2⟩:=bK h0;rw[if_pos h0] at cM;subst cM;clear h0 hz;go_enter Tryz.func23,Tryz.ntmps23;go_wp2_with (go_at_call 62;refine HC.mono ?_;clear HC;rintro e w1 ⟨m1,q1,n1,c1,nH,rfl,_,au⟩;have hg1:=ah hg au;have bL:=hA.trans (af au (by simp));have hg2:=aD (.cells #[.map m1,.slice q1 n1 c1,.bool nH] 86) hg1;have b4:=aN hg2);refine bodyPost_ret (v:=.tuple #[.agg #[.bool false,.slice none 0 0,str [],.slice none 0 0],.int .i64 TK]) (by simp[results,Tryz.results23,go_sem,b4.1]) rfl ?_;exact⟨_,rfl,aT.zero _ _,Below.ep (bL.alloc bL.size _) (b:=w.heap.size) zr _ _ _ _⟩
 case pos=>
  subst h0;rw[if_neg (by simp)] at cM;obtain⟨ha0,hc0⟩:=hz rfl;have iw:=fU (par:=fP ag t) ha0;have HO:=λv' W hW hS=>Ep (D:=D) ⟨l,ag,fP ag t⟩ v' t n W hS (CU hc0) (iw.2.2.2 t hc0) (HT.out W hW) iw.1 iw.2.1 (gl hc0)
  have HX:=zh cM;clear hz cM ha0;generalize ng ⟨l,ag,fP ag t⟩ t n=OI at *;go_enter Tryz.func23,Tryz.ntmps23;go_wp2_with (first
   | (go_at_call 72;refine(HO _ _ cD nG).mono ?_;clear HO;rintro e w3 ⟨u3,rfl,⟨a3,q3,rfl,l3,r3,s3⟩,aH⟩;obtain⟨C9,cz,rfl,_⟩:=r3.shape;obtain⟨py,cy,rfl,_⟩:=s3.shape;have hg3:=ah hg2 aH;have b4:=aN hg3;have dx:=cD.trans (af aH cD.size))
   | (go_at_call 62;refine HC.mono ?_;clear HC;rintro e w1 ⟨m1,q1,n1,c1,nH,rfl,hS,au⟩;have hg1:=ah hg au;have bL:=hA.trans (af au (by simp));have hS1:=hS (by first|rfl|trivial);clear hS;have qd:=(zb w1).alloc zr (.cells #[.map m1,.slice q1 n1 c1,.bool nH] 86);have nG:=hS1.below qd zr;have cD:=bL.alloc bL.size (.cells #[.map m1,.slice q1 n1 c1,.bool nH] 86);have hg2:=aD (.cells #[.map m1,.slice q1 n1 c1,.bool nH] 86) hg1))
  refine bodyPost_ret (v:=.tuple #[.agg #[.bool OI.1.iter,.slice C9 OI.1.args.length cz,str OI.1.res,.slice py OI.1.sigs.length cy],.int .i64 OI.2]) (by simp[results,Tryz.results23,go_sem,b4.1]) rfl ?_;rw[HX.out];have hs2:=bA hg2;refine⟨_,rfl,⟨_,_,rfl,l3,?_,?_⟩,Below.ep dx (b:=w.heap.size) zr _ _ _ _⟩
  · exact(SS.ep r3 (b:=w.heap.size) (by intro b hb;omega) _ _ _ _).mono (by intro b hb;omega)
  · exact(SS.ep s3 (b:=w.heap.size) (by intro b hb;omega) _ _ _ _).mono (by intro b hb;omega)
theorem tA {c:bw} {t:List UInt8} (h:dz c t=0):(aq t).1=0:=by
 apply Classical.byContradiction
 intro h2
 unfold dz ff at h
 rw[if_pos h2] at h
 exact h2 h
set_option maxRecDepth 8000 in
theorem BM {D D':Nat→Prop} (l:List aA) (v:Value) (ag:List aL) (wv:Value) (want:List aL) (xv:Value) (t:List UInt8) (w:World) (hT:dW w) (hv:bG D w v l) (hw:aY D w wv ag) (hx:aY D' w xv want) (hn:∀f∈l,f.ag.length≤100000) (hnl:ag.length≤100000) (hxl:want.length≤100000) (htl:t.length≤maxLen):
 Calls Tryz.prog 29 #[v,wv,xv,str t] w λe w'=>e=.returned (.tuple #[str (s9 l ag want t).1,.bool (s9 l ag want t).2.1,.int .i64 (s9 l ag want t).2.2])∧Below w.heap.size w w':=by
 have HT:=zh (λW (hW:Below w.heap.size w W)=>hT.below hW zr)
 have HI:=mX t w htl hT
 have hA:=Below.refl w.heap.size w
 have HC:=λpar W (hW:Below w.heap.size w W)=>ko l v ag wv par W (HT.out W hW) (hv.below hW zr) (hw.below hW zr) hn hnl
 have HN:=λW (hW:Below w.heap.size w W)=>kj want xv W (HT.out W hW) (hx.below hW zr) hxl
 have hsc:=λpar h=>fU (l:=l) (ag:=ag) (par:=par) h
 have HL:=λpar (iw:gh ⟨l,ag,par⟩) (hnk:aU want=true) (hc0:(aq t).1=0) v' W (hW:Below w.heap.size w W) (hS:ScopeM D W v' ⟨l,ag,par⟩)=>ua ⟨l,ag,par⟩ v' want xv t W hS (hx.below hW zr) (λo ho=>⟨Nat.le_trans ((ec hnk).2 o ho).1 (by decide),Nat.le_trans ((ec hnk).2 o ho).2 (by decide)⟩) (CU hc0) (iw.2.2.2 t hc0) (HT.out W hW) iw.1 iw.2.1 (λ_=>gl hc0)
 have HG:=λpar (iw:gh ⟨l,ag,par⟩) v' W (hW:Below w.heap.size w W) (hS:ScopeM D W v' ⟨l,ag,par⟩)=>kY ⟨l,ag,par⟩ v' t W hS iw htl (HT.out W hW)
 obtain⟨p,c,rfl,_⟩:=hv.shape
 obtain⟨q,cq,rfl,_⟩:=hw.shape
 obtain⟨q2,TR,rfl,_⟩:=hx.shape
 have cM:s9 l ag want t=if cE l ag≠0 then([],false,cE l ag) else if aU want=false then([],false,42) else if dz ⟨l,ag,fP ag t⟩ t≠0 then([],false,dz ⟨l,ag,fP ag t⟩ t) else match dZ ⟨l,ag,fP ag t⟩ want t with|none=>([],true,0)|some n=>(n,false,0):=rfl
 have hP:=nh ag t
 have qU:=λpar h=>tA (c:=⟨l,ag,par⟩) (t:=t) h
 generalize fP ag t=P at *
 replace HG:=HG P
 replace HL:=HL P
 replace hsc:=hsc P
 replace qU:=qU P
 generalize dz ⟨l,ag,P⟩ t=GK at *
 generalize dZ ⟨l,ag,P⟩ want t=LK at *
 generalize s9 l ag want t=FL at *
 generalize cE l ag=AS at *
 clear hT hv hw hx hn hnl hxl
 have yS:=hA
 rcases hP with⟨hn0,A3⟩|⟨rfl,A3⟩
 all_goals
  try rw[List.length_nil]
  replace A3:=zh A3
  replace cM:=zh cM
  replace qU:=zh qU
  replace hsc:=zh hsc
  go_enter Tryz.func29,Tryz.ntmps29;go_upto_region 2 with(first
   | (go_at_call 58;refine(HC _ _ yS).mono ?_;clear HC;rintro e w1 ⟨m1,q1,n1,c1,nH,rfl,hS,au⟩;have bL:=yS.trans (af au yS.size))
   | (go_at_call 74;refine HI.mono ?_;rintro e w0 ⟨rfl,hb0⟩;have yS:=hb0))
  have cD:=bL.alloc bL.size (.cells #[.map m1,.slice q1 n1 c1,.bool nH] 86);have hx2:=heap_alloc_new w1 (.cells #[.map m1,.slice q1 n1 c1,.bool nH] 86)
  replace cM:=cM.out
  by_cases h0:AS=0
  case neg=>
   obtain⟨g1,g2⟩:=bK h0;rw[if_pos h0] at cM;have HX:=zh cM;clear h0 hsc cM HL HG HN qU hS;go_wp2_with fail
   go_ret3
   rw[HX.out];exact⟨rfl,cD⟩
  subst h0;rw[if_neg (by simp)] at cM;have hS1:=hS rfl;rw[A3.out] at hS1;have nG:=hS1.below ((zb w1).alloc zr (.cells #[.map m1,.slice q1 n1 c1,.bool nH] 86)) zr;have iw:=hsc.out rfl
  replace HG:=HG iw
  replace HL:=HL iw
  clear hsc iw hS hS1;rcases hnk:aU want with _|_
  · rw[hnk] at HN
    rw[hnk,if_pos rfl] at cM;have HX:=zh cM;clear cM HL HG hnk qU;go_wp2_with (go_at_call 78;refine(HN _ cD).mono ?_;clear HN;rintro e w2 ⟨rfl,aC⟩;have dx:=cD.trans (af aC cD.size))
    go_ret3
    rw[HX.out];exact⟨rfl,dx⟩
  rw[hnk] at HN;rw[hnk,if_neg (by simp)] at cM
  replace HL:=HL hnk
  replace cM:=zh cM
  clear hnk;go_upto_region 6 with(first
   | (go_at_call 59;refine(HG _ _ dx wV).mono ?_;clear HG;rintro e w3 ⟨rfl,aH⟩;have eD:=dx.trans (af aH dx.size);have O0:=eZ (ah F6 aH);have uV:=wV.below aH zr)
   | (go_at_call 78;refine(HN _ cD).mono ?_;clear HN;rintro e w2 ⟨rfl,aC⟩;have dx:=cD.trans (af aC cD.size);have F6:=ah hx2 aC;have yR:=eZ F6;have wV:=nG.below aC zr))
  replace cM:=cM.out
  by_cases lp:GK=0
  case neg=>
   obtain⟨g1,g2⟩:=bK lp;rw[if_pos lp] at cM;have HX:=zh cM;clear cM HL qU lp;go_wp2_with fail
   go_ret3
   rw[HX.out];exact⟨rfl,eD⟩
  subst lp;rw[if_neg (by simp)] at cM
  replace HL:=HL (qU.out rfl)
  clear qU;rcases LK with _|nm
  all_goals
   have HX:=zh cM;clear cM;dsimp only[Option.getD_none,Option.isSome_none,Option.getD_some,Option.isSome_some] at HL HX;go_wp2_with (go_at_call 79;refine(HL _ _ eD uV).mono ?_;clear HL;rintro e w4 ⟨rfl,hb4⟩;have kH:=eD.trans (af hb4 eD.size))
   go_ret3
   rw[HX.out];exact⟨rfl,kH⟩
end
open Go.RowKit Go.Maps Go.Sort
theorem EU (v:Value) (ss:List (List UInt8)) (B:Nat) (W:World) (h:W.ownsRow B 9 1 v ss.length (aB ss)) (hl:ss.length≤100000):
 Calls Tryz.prog 102 #[v] W λe w'=>e=.returned (.tuple #[])∧w'.ownsRow B 9 1 v ss.length (aB (ss.mergeSort leB))∧W.grownBy w' v.ownBlock:=by
 rcases h.2 with⟨rfl,h0⟩|⟨g,cap,cur,rfl,hb,hh,h1,h2,h3,h4⟩
 · have e0:ss=[]:=List.length_eq_zero_iff.1 (by omega)
   subst e0;refine(Tryz.slices_Sort_string_none none 0 W).mono ?_;rintro e w' ⟨rfl,rfl⟩;exact⟨rfl,by simpa[aB] using h,j6 _ _⟩
 · have hH:Holds encStr W g 0 ss.toArray:=holds_of_block hh (by simpa[aB] using h4)
   refine(Tryz.slices_Sort_string g 0 cap ss W hH (Array.getElem?_eq_some_iff.1 hh).1 (by omega)).mono ?_;rintro e w' ⟨rfl,n,os,rfl⟩;exact⟨rfl,ownsRow_sorted (by simp) hb hh h1 h2 h3,grownBy_sorted _⟩
theorem Gf {s:bP} (h1:s.args.length≤6) (hty:∀t∈aQ s,(aq t).1=0):(qf s).length≤700:=by
 have h2:∀l:List (List UInt8),(∀t∈l,(aq t).1=0)→(l.flatMap λt=>(bZ t).1).length≤l.length * 100:=by
  intro l
  induction l with
  | nil=>simp
  | cons x l ih=>
   intro h;have h3:=(jo (h x (by simp))).2.1;have h4:=ih λy hy=>h y (by simp[hy])
   rw[List.flatMap_cons,List.length_append,List.length_cons,Nat.succ_mul];omega
 have h3:=h2 _ hty
 have h4:(aQ s).length≤7:=by
  unfold aQ;rw[List.length_append];split<;>simp<;>omega
 have:=Nat.mul_le_mul_right 100 h4
 unfold qf
 omega
theorem nP:∀l:List aL,(∀o∈l,o.sig.args.length≤6∧∀t∈aQ o.sig,(aq t).1=0)→(l.flatMap λo=>qf o.sig).length≤l.length * 700
 | [],_=>by simp
 | o::l,h=>by
  have h1:=Gf (h o (by simp)).1 (h o (by simp)).2;have h2:=nP l λx hx=>h x (by simp[hx])
  rw[List.flatMap_cons,List.length_append,List.length_cons,Nat.succ_mul];omega
theorem uh:∀l:List aL,(∀o∈l,∀t∈aQ o.sig,(aq t).1=0)→∀n∈l.flatMap λo=>qf o.sig,n.length≤100:=by
 intro l h n hn
 obtain⟨o,ho,hn⟩:=List.mem_flatMap.1 hn
 obtain⟨t,ht,hn⟩:=List.mem_flatMap.1 hn
 exact(jo (h o ho t ht)).2.2 n hn
theorem AJ (f:aA):(((mL f).flatMap aQ).flatMap λt=>(bZ t).1)=(f.ag.flatMap λo=>qf o.sig)++f.ops.flatMap λo=>qf o.sig:=by
 unfold mL qf
 rw[List.flatMap_append,List.flatMap_append,List.flatMap_assoc,List.flatMap_assoc,List.flatMap_map,List.flatMap_map]
set_option maxRecDepth 8000 in
theorem Fc {D : Nat → Prop} (v : Value) (f : aA) (w : World) (ht : dW w) (hv : dO D w v f) (hn : f.ag.length ≤ 100000) :
 Calls Tryz.prog 47 #[v] w λe w'=>∃u,e=.returned (.tuple #[u,.int .i64 (uF f).2])∧SS (λb=>w.heap.size≤b) w' u (uF f).1∧Below w.heap.size w w':=by
 obtain⟨nv,ov,rfl,hnl,hN,hO⟩:=hv
 have hA:=(zb w).alloc zr (.cells #[str f.name,.int .u8 f.kind,.bool f.par,nv,ov] 58)
 have bT:=heap_alloc_new w (.cells #[str f.name,.int .u8 f.kind,.bool f.par,nv,ov] 58)
 have HT:=zh (λW (hW:Below w.heap.size w W)=>ht.below hW zr)
 have HC:=mR _ f (w.alloc (.cells #[str f.name,.int .u8 f.kind,.bool f.par,nv,ov] 58)) (ht.below hA zr) ⟨nv,ov,rfl,hnl,hN.below hA zr,hO.below hA zr⟩ hn
 have HW:uF f=if dF f=true then(gB (((mL f).flatMap aQ).flatMap λt=>(bZ t).1),0) else([],42):=rfl
 have HE:iL f=if dF f=true then 0 else 42:=rfl
 obtain⟨p1,c1,rfl,_⟩:=hN.shape
 obtain⟨p2,c2,rfl,_⟩:=hO.shape
 have bx:=bz bT
 generalize uF f=UR at *
 rcases hf:dF f with _|_
 · rw[HE,hf] at HC
   rw[hf] at HW;have HX:=zh HW;clear HW HE hN hO hf;go_enter Tryz.func47,Tryz.ntmps47;go_wp2_with (go_at_call 38;refine HC.mono ?_;clear HC;rintro e w2 ⟨rfl,aC⟩);go_ret2;rw[HX.out];exact⟨_,rfl,SS.nil _ _ _ _,hA.trans (af aC (by simp))⟩
 · rw [HE, hf] at HC
   rw[hf,AJ] at HW;have hp:=dQ hf;have PI:=(ec hp.2.2.2.1).1;have hlo:=hp.2.2.2.2.2.2.1;have yX:∀o∈f.ag,o.sig.args.length≤6∧∀t∈aQ o.sig,(aq t).1=0:=λo ho=>by
    have hn:=hp.2.2.2.1;unfold aU at hn;simp only[Bool.and_eq_true,List.all_eq_true,decide_eq_true_eq] at hn;have hs:=eN (hn.1.1 o ho);exact⟨hs.1,λt ht=>(hs.2.2.2.2 t ht).1⟩
   have hos:∀o∈f.ops,o.sig.args.length≤6∧∀t∈aQ o.sig,(aq t).1=0:=λo ho=>by
    have hs:=eN (hp.2.2.2.2.2.2.2.1 o ho).2;exact⟨hs.1,λt ht=>(hs.2.2.2.2 t ht).1⟩
   have KR:=nP f.ag yX;have hlm:=nP f.ops hos;have hs1:=uh f.ag λo ho=>(yX o ho).2
   have hs2:=uh f.ops λo ho=>(hos o ho).2
   have HX:=zh HW;have hmm:=@run_makeMap Tryz.prog;clear HW HE hf hp;go_enter Tryz.func47,Tryz.ntmps47;go_wp2_with (go_at_call 38;refine HC.mono ?_;clear HC;rintro e w2 ⟨rfl,aC⟩;have fS:=ah bT aC;have cD:=hA.trans (af aC (by simp));have yR:=bz (aD (.cells #[.map (some w2.heap.size)] 112) (aD (.map #[] 0) fS)));clear yR;have dx:=(cD.alloc cD.size (.map #[] 0)).alloc (by have:=cD.size;simp;omega) (.cells #[.map (some w2.heap.size)] 112);have IG:=(aS.made w2).kept (World.grownBy_alloc (w2.alloc (.map #[] 0)) (.cells #[.map (some w2.heap.size)] 112) none) (by simp);have F6:=cI (w:=w2.alloc (.map #[] 0)) (n:=w2.heap.size+1) (by simp) #[.map (some w2.heap.size)] 112;have fW:=aD (.cells #[.map (some w2.heap.size)] 112) (aD (.map #[] 0) fS);have hM:w.heap.size≤w2.heap.size:=cD.size;have SM:=bA fS;clear fS bT bx hA aC cD;have pS:=hN.fresh.below dx zr;have RF:=hO.fresh.below dx zr;have zC:=dx.size;have T9:w2.heap.size+1<((w2.alloc (.map #[] 0)).alloc (.cells #[.map (some w2.heap.size)] 112)).heap.size:=by simp
   clear hN hO;generalize (w2.alloc (.map #[] 0)).alloc (.cells #[.map (some w2.heap.size)] 112)=W3 at *;generalize w2.heap.size=M at *;have OT:=zh (λW (hW:W3.grownBy W (some M))=>HT.out W (Below.grown dx hW dx.size (λb e=>by injection e with e;omega)));go_loopw [23] (λy wx=>∃i:Nat,i≤f.ag.length∧y=.int .i64 i∧aS wx M ((f.ag.take i).flatMap λo=>qf o.sig)∧W3.grownBy wx (some M)) (λy _=>f.ag.length - (intOf y).toNat)
   case atStart=>exact⟨0,Nat.zero_le _,by go_num,by simpa using IG,j6 _ _⟩
   case round =>
    clear IG;obtain⟨i,hi,rfl,ek,hgr⟩:=hrel;have tH:=(hgr.block (M+1) (bA F6) (λe=>by injection e with e;omega)).trans F6
    by_cases hlt:i<f.ag.length
    case neg=>
     have hie:i=f.ag.length:=by omega
     subst hie;rw[List.take_length] at ek;have qO:=(hgr.block w.heap.size (bA fW) (λe=>by injection e with e;omega)).trans fW;have MG:=bz qO;generalize (f.ag.flatMap λo=>qf o.sig)=A0 at *;have hal:∀i,(A0++(f.ops.take i).flatMap λo=>qf o.sig).length≤20000:=λi=>by
      have h1:=nP (f.ops.take i) λo ho=>hos o (List.mem_of_mem_take ho)
      rw[List.length_append];rw[List.length_take] at h1;have:=Nat.mul_le_mul_right 700 (show min i f.ops.length≤20 by omega);omega
     go_wp2_with fail;clear MG tH;have KM:=hgr;go_loopw [35] (λy wx=>∃i:Nat,i≤f.ops.length∧y=.int .i64 i∧aS wx M (A0++(f.ops.take i).flatMap λo=>qf o.sig)∧W3.grownBy wx (some M)) (λy _=>f.ops.length - (intOf y).toNat)
     case atStart=>exact⟨0,Nat.zero_le _,by go_num,by simpa using ek,KM⟩
     case round =>
      clear ek hgr KM qO;obtain⟨i,hi,rfl,ek,hgr⟩:=hrel;have tH:=(hgr.block (M+1) (bA F6) (λe=>by injection e with e;omega)).trans F6
      by_cases hlt:i<f.ops.length
      case neg=>
       have hie:i=f.ops.length:=by omega
       subst hie;rw[List.take_length] at ek;have M0:(A0++f.ops.flatMap λo=>qf o.sig).length≤20000:=by have:=hal f.ops.length;rwa [List.take_length] at this
       have Ru:∀n∈A0++f.ops.flatMap λo=>qf o.sig,n.length≤100:=λn hn=>by
        rcases List.mem_append.1 hn with hn|hn
        · exact hs1 n hn
        · exact hs2 n hn
       clear hal KR hlm hs1 hs2 yX hos;generalize (A0++f.ops.flatMap λo=>qf o.sig)=AL at *;have hbc:=(ak tH 0).trans rfl;obtain⟨i0,gw,hz0,hz1,hz2⟩:=bY iM;have zB:size (setOf (H:=Unit) (.lit (.bool true)) (keysOf AL))≤20000:=by
        rw[nW,←ek.perm.length_eq];exact Nat.le_trans (oE AL) M0
       go_wp2_with (at_range;refine wpList_range_own _ rfl _ 112 rfl 9 4 (string_keyed Tryz.underlying9) Tryz.underlying112 _ M AL.length _ rfl ek ?_;intro w0 K3 lp hs0);have yS:=Below.grown dx (bN hgr (lp.but (some M))) dx.size (λb e=>by injection e with e;omega);have G8:=ek.kept lp (by simp);have Ua:M<wr.heap.size:=ek.lt;have T7:=hgr.size;have IV:wr.heap.size<w0.heap.size:=by omega
       clear hs0 hbc tH ek hi;generalize wr.heap.size=R at *
       go_frame
       have N8:=K3;clear K3;go_loopw [11] (λv wx=>∃(left:Lit→Bool) (cnt:Nat) (ss:List (List UInt8)),wx.ranges Tryz.prog 9 (plainElem (H:=Unit) Tryz.prog 4) M R AL.length (setOf (H:=Unit) (.lit (.bool true)) (keysOf AL)) left cnt∧ss.length+cnt≤size (setOf (H:=Unit) (.lit (.bool true)) (keysOf AL))∧
        wx.ownsRow W3.heap.size 9 1 v ss.length (aB ss)∧Collected (setOf (H:=Unit) (.lit (.bool true)) (keysOf AL)) left ss∧Below w.heap.size w wx∧R<wx.heap.size) (λ_ wx=>wx.rangeLeft M R)
       case atStart=>exact⟨_,_,[],N8,by simp,World.ownsRow_nil _ _ _ _,Collected.start _,yS,IV⟩
       case round =>
        obtain⟨left,cnt,ss,N7,hcs,hrow,hC,zw,Uq⟩:=hrel;go_wp2_with (at_next;refine wpList_next_ranges _ rfl _ rfl 9 (string_keyed Tryz.underlying9) (plainElem (H:=Unit) Tryz.prog 4) encStr (λb:Value=>b) (λkey kl hk=>by obtain⟨x,hx,_⟩:=Maps.keyOf_str Tryz.underlying9 hk;exact⟨x,hx⟩) (λv y _=>⟨v,rfl⟩) M R AL.length _ _ _ rfl N7 ?_ ?_)
        · intro hc0 hl0
          have hp:=(hC.perm G8 (string_keyed Tryz.underlying9) Tryz.underlying9 hl0).trans G8.perm.symm;have Px:ss.mergeSort leB=gB AL:=mergeSort_of_perm hp;have Cc:ss.length≤100000:=by omega
          have HS:=EU _ ss _ _ hrow Cc;have sF:=λb e=>(hrow.lt b e).1
          obtain⟨pv,cv,rfl⟩:=bu hrow;go_wp2_with (go_at_call 102;refine HS.mono ?_;clear HS;rintro e w5 ⟨rfl,G3,C5⟩);go_ret2;rw[HX.out];rw[Px] at G3;refine⟨_,rfl,(SS.row G3 (by rw[←Px,List.length_mergeSort]) (λs hs=>?_)).mono (λb hb=>Nat.le_trans zC hb),zw.grown C5 zw.size (λk e=>Nat.le_trans zC (sF k e))⟩;simp only[gB,List.mem_mergeSort,l5] at hs;have:=Ru s hs;unfold maxLen;omega
        · intro x c kl yd yp w3 MJ hkey hlk hv hat K4 hlt hg3 JT FX
          obtain⟨x',ex,rfl,tO⟩:=Maps.keyOf_str Tryz.underlying9 hkey;obtain rfl:x=x':=encStr_inj ex;have tK:=hrow.kept hg3 (Or.inr (row_ne_iter hrow N7).symm);have hcl:=hlt;clear JT hlt;have La:=zC;have zC:=hg3.size;go_wp2_with (at_builtin;refine wpList_append_own _ rfl _ _ 34 rfl W3.heap.size 9 i0 _ 1 16 eV gw hz0 hz1 hz2 rfl (by decide) _ _ _ rfl (tK.alloc _) ⟨w3.heap.size,0,none⟩ 1 1 [encStr x] rfl rfl (cell_one_new _ _ _) (by intro u hu;rw[List.mem_singleton.1 hu];rfl) (by unfold maxLen;omega) (by omega) (by simp;omega) ?_;intro v' w4 bB DR _);have K5:=(K4.alloc _).kept DR (row_ne_low tK (by omega)) (row_ne_iter tK K4);refine⟨⟨_,MJ,ss++[x],K5,by simp;omega,by simpa[aB] using bB,hC.step hlk hat,?_,?_⟩,?_⟩
          · have eD:=zw.grown hg3 zw.size (λk e=>by cases e;omega)
            exact(eD.alloc eD.size _).grown DR (by have:=eD.size;simp;omega) (λk e=>Nat.le_trans La (tK.lt k e).1)
          · have:=DR.size
            simp at this;omega
          · show World.rangeLeft w4 M R<World.rangeLeft wr M R
            rw[K5.left_eq,N7.left_eq];exact hcl
      case pos=>
       obtain⟨x,hx⟩:∃x,f.ops[i]? =some x:=⟨_,List.getElem?_eq_getElem hlt⟩
       have tO:=List.mem_of_getElem? hx;have DD:=RF.agree (w':=wr) (λb hb hlt=>hgr.block b hlt (λe=>by injection e with e;have:=hb.2;omega));obtain⟨b1,o1,av,sv,mq,Il,⟨F8,mI⟩,fe,eE,uq,pG,od,pZ,rK⟩:=DD.at hx;subst mq;obtain⟨pa,ca,rfl,_⟩:=fe.shape;obtain⟨ps,cs,rfl,_⟩:=eE.shape;have ig:=(zb wr).alloc zr (.cells #[str x.name,.bool x.sig.iter,.slice pa x.sig.args.length ca,str x.sig.res,.slice ps x.sig.sigs.length cs] 50);have au:=bz (heap_alloc_new wr (.cells #[str x.name,.bool x.sig.iter,.slice pa x.sig.args.length ca,str x.sig.res,.slice ps x.sig.sigs.length cs] 50));have g1:=below_grown ig (some M);have HN:=xV _ x.sig (M+1) M _ _ (λW hW=>OT.out W (bN hgr (bN g1 hW))) ⟨_,_,rfl,mI,fe.below ig zr,eE.below ig zr⟩ (aD (.cells #[str x.name,.bool x.sig.iter,.slice pa x.sig.args.length ca,str x.sig.res,.slice ps x.sig.sigs.length cs] 50) tH) (ek.grown ig) (by have:=(hos x tO).1;omega) (by have:=hal i;omega) (hos x tO).2;have H7:=zh (show(A0++(f.ops.take i).flatMap λo=>qf o.sig)++qf x.sig=A0++(f.ops.take (i+1)).flatMap λo=>qf o.sig by rw[List.take_add_one,hx,Option.toList_some,List.flatMap_append,List.append_assoc];simp);rw[H7.out] at HN;clear hx DD fe eE ek;go_wp2_with (go_at_call 100;refine HN.mono ?_;clear HN;rintro e w5 ⟨rfl,jK,C5⟩);exact⟨⟨i+1,hlt,by go_num,jK,bN hgr (bN g1 C5)⟩,by simp only[intOf];omega⟩
    case pos=>
     have hal:∀i,((f.ag.take i).flatMap λo=>qf o.sig).length≤20000:=λi=>by
      have h1:=nP (f.ag.take i) λo ho=>yX o (List.mem_of_mem_take ho)
      rw[List.length_take] at h1;have:=Nat.mul_le_mul_right 700 (show min i f.ag.length≤20 by omega);omega
     obtain⟨x,hx⟩:∃x,f.ag[i]? =some x:=⟨_,List.getElem?_eq_getElem hlt⟩
     have tO:=List.mem_of_getElem? hx;have DD:=pS.agree (w':=wr) (λb hb hlt=>hgr.block b hlt (λe=>by injection e with e;have:=hb.2;omega));obtain⟨b1,o1,av,sv,mq,Il,⟨F8,mI⟩,fe,eE,uq,pG,od,pZ,rK⟩:=DD.at hx;subst mq;obtain⟨pa,ca,rfl,_⟩:=fe.shape;obtain⟨ps,cs,rfl,_⟩:=eE.shape;have ig:=(zb wr).alloc zr (.cells #[str x.name,.bool x.sig.iter,.slice pa x.sig.args.length ca,str x.sig.res,.slice ps x.sig.sigs.length cs] 79);have au:=bz (heap_alloc_new wr (.cells #[str x.name,.bool x.sig.iter,.slice pa x.sig.args.length ca,str x.sig.res,.slice ps x.sig.sigs.length cs] 79));have g1:=below_grown ig (some M);have HN:=xV _ x.sig (M+1) M _ _ (λW hW=>OT.out W (bN hgr (bN g1 hW))) ⟨_,_,rfl,mI,fe.below ig zr,eE.below ig zr⟩ (aD (.cells #[str x.name,.bool x.sig.iter,.slice pa x.sig.args.length ca,str x.sig.res,.slice ps x.sig.sigs.length cs] 79) tH) (ek.grown ig) (by have:=(yX x tO).1;omega) (by have:=hal i;omega) (yX x tO).2;have H7:=zh (show((f.ag.take i).flatMap λo=>qf o.sig)++qf x.sig=(f.ag.take (i+1)).flatMap λo=>qf o.sig by rw[List.take_add_one,hx,Option.toList_some,List.flatMap_append];simp);rw[H7.out] at HN;clear hx DD fe eE ek;go_wp2_with (go_at_call 100;refine HN.mono ?_;clear HN;rintro e w5 ⟨rfl,jK,C5⟩);exact⟨⟨i+1,hlt,by go_num,jK,bN hgr (bN g1 C5)⟩,by simp only[intOf];omega⟩
end Go.Proofs.YtakgjcfkdemipaaGreatDoor
