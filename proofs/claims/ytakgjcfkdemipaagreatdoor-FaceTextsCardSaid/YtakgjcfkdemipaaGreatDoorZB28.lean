/-
  Lemmas for the statement: contract: of the package face: OpsOf. Conditions: bounds of lengths; the variable strings.asciiSpace.
-/
import Derived.Test.YtakgjcfkdemipaaGreatDoorZBn
import Derived.Test.YtakgjcfkdemipaaGreatDoorZB25
import Derived.Test.YtakgjcfkdemipaaGreatDoorZB27
set_option maxHeartbeats 25600000
namespace Go.Proofs.YtakgjcfkdemipaaGreatDoor
open Go.RowKit
theorem rL (a:List UInt8):∀l k:List aL,(ez a l).2=0→ez a (l++k)=if(ez a k).2=0 then((ez a l).1++(ez a k).1,0) else([],(ez a k).2)
 | [], k, _ => by
  rw[List.nil_append];split
  · rename_i h;exact Prod.ext rfl h
  · rename_i h
    cases k with
    | nil=>exact absurd rfl h
    | cons x k=>
     unfold ez at h ⊢;split at h
     · rename_i h1
       rw[if_pos h1];split at h
       · exact absurd rfl h
       · rename_i h2;rw[if_neg h2]
     · rename_i h1;rw[if_neg h1]
 | x :: l, k, h => by
  have h1:(eF x.sig a).2=0∧(ez a l).2=0:=by
   unfold ez at h;split at h
   · rename_i h1
     split at h
     · rename_i h2;exact⟨h1,h2⟩
     · rename_i h2;exact absurd h h2
   · rename_i h1;exact absurd h h1
  have ih:=rL a l k h1.2;rw[List.cons_append,ez,if_pos h1.1,ih];rw[show ez a (x::l)=(⟨x.name,(eF x.sig a).1⟩::(ez a l).1,0) by rw[ez,if_pos h1.1,if_pos h1.2]]
  by_cases hk:(ez a k).2=0
  · rw[if_pos hk,if_pos hk];rfl
  · rw[if_neg hk,if_neg hk,if_neg hk]
theorem EB {a:List UInt8} {l:List aL} {i:Nat} {x:aL} (h:(ez a (l.take i)).2=0) (hx:l[i]? =some x) (hp:(eF x.sig a).2=0):ez a (l.take (i+1))=((ez a (l.take i)).1++[⟨x.name,(eF x.sig a).1⟩],0):=by
 rw[List.take_add_one,hx,Option.toList_some,rL a _ _ h]
 rw[show ez a [x]=([⟨x.name,(eF x.sig a).1⟩],0) by rw[ez,if_pos hp];rfl]
 rfl
theorem EA {a:List UInt8} {l:List aL} {i:Nat} {x:aL} (h:(ez a (l.take i)).2=0) (hx:l[i]? =some x) (hp:(eF x.sig a).2≠0):ez a l=([],(eF x.sig a).2):=by
 have e:l=l.take i++(x::l.drop (i+1)):=by
  rw[←bp hx,List.take_append_drop]
 rw[e,rL a _ _ h]
 rw[show ez a (x::l.drop (i+1))=([],(eF x.sig a).2) by rw[ez,if_neg hp]]
 rw[if_neg hp]
theorem nT (a:List UInt8):∀l:List aL,(ez a l).1.length≤l.length∧((ez a l).2=0→(ez a l).1.map (·.name)=l.map (·.name))
 | []=>⟨nl _,λ_=>rfl⟩
 | x::l=>by
  have ih:=nT a l;unfold ez;split
  · split
    · rename_i h2
      exact⟨by simpa using ih.1,λ_=>by simp[ih.2 h2]⟩
    · rename_i h2
      exact⟨Nat.zero_le _,λh=>absurd h h2⟩
  · rename_i h1
    exact⟨Nat.zero_le _,λh=>absurd h h1⟩
theorem CG (c:bw) (t:List UInt8) (hf:∀f∈c.dG,dF f=true) (hn:aU c.ag=true) (hp:(dJ t).1.length≤100):(dU c t).1.length≤1000:=by
 unfold dU
 simp only
 split
 · simp
 · simp
 · simp
 · simp
 · simp only[List.length_append,List.length_flatMap,List.length_cons,List.length_nil,List.map_const',List.sum_replicate_nat]
   omega
 · simp only[List.length_flatMap,List.length_cons,List.length_nil,List.map_const',List.sum_replicate_nat]
   omega
 · rcases hq:ew c.dG (eH t).1 with _|f
   · simp
   · have:=(dQ (hf f (List.mem_of_find?_eq_some hq))).2.2.2.2.2.2.1
     simp only[Option.map_some,Option.getD_some];omega
 · exact Nat.le_trans (ec hn).1 (by decide)
 · simp
theorem oM {l:List aA} {ag:List aL} (h:cE l ag=0):(∀f∈l,dF f=true)∧aU ag=true:=by
 unfold cE at h
 split at h
 · rename_i h1;exact absurd h h1
 · rename_i h1
   split at h
   · rename_i h2
     exact⟨(iE l 0 none (uP (by simpa using h1)).1).2.1,h2⟩
   · cases h
theorem wB (w:World) (n:Nat) (hn:n=w.heap.size) (cs:List Value) (t:TypeId):∀j u,cs[j]? =some u→(w.alloc (.cells cs.toArray t)).cell? ((⟨n,0,none⟩:Addr).add j)=some u:=by
 subst hn
 exact gF w cs t
set_option maxRecDepth 8000 in
theorem Ae {D:Nat→Prop} (l:List aA) (v:Value) (ag:List aL) (wv:Value) (t:List UInt8) (w:World) (hT:dW w) (hv:bG D w v l) (hw:aY D w wv ag) (hn:∀f∈l,f.ag.length≤100000) (hnl:ag.length≤100000) (htl:t.length≤maxLen):
 Calls Tryz.prog 21 #[v,wv,str t] w λe w'=>∃u,e=.returned (.tuple #[u,.int .i64 (jA l ag t).2])∧kQ 50 w.heap.size w' u (jA l ag t).1∧Below w.heap.size w w':=by
 have hA:=Below.refl w.heap.size w
 have HT:=zh (λW (hW:Below w.heap.size w W)=>hT.below hW zr)
 have HC:=uD l v ag wv t w hT hv hw hn hnl htl
 have hz:=λh=>si (l:=l) (ag:=ag) (t:=t) h
 obtain⟨p,c,rfl,_⟩:=hv.shape
 obtain⟨q,cq,rfl,_⟩:=hw.shape
 obtain⟨i0,gw,hz0,hz1,hz2⟩:=bY oy
 have cM:jA l ag t=if fJ l ag t≠0 then([],fJ l ag t) else Es ⟨l,ag,fP ag t⟩ t:=rfl
 generalize jA l ag t=RS at *
 generalize fJ l ag t=TK at *
 clear hT hv hw hn hnl
 by_cases h0:TK=0
 case neg=>
  obtain⟨g1,g2⟩:=bK h0;rw[if_pos h0] at cM;subst cM;clear h0 hz gw hz0 hz1 hz2;go_enter Tryz.func21,Tryz.ntmps21;go_wp2_with (go_at_call 62;refine HC.mono ?_;clear HC;rintro e w1 ⟨m1,q1,n1,c1,nH,rfl,_,au⟩;have bL:=au);go_ret2;exact⟨_,rfl,kQ.nil _ _ _,bL.alloc bL.size _⟩
 case pos =>
  subst h0;rw[if_neg (by simp)] at cM;obtain⟨ha0,hc0⟩:=hz rfl;have iw:=fU (par:=fP ag t) ha0;obtain⟨mV,hnp⟩:=oM ha0;have hR:=λv' W hW hS=>Bo (D:=D) ⟨l,ag,fP ag t⟩ v' t W hS (CU hc0) (HT.out W hW) iw.1 iw.2.1 (gl hc0)
  have hro:=iw.2.2.2 t hc0;have hon:=EG ⟨l,ag,fP ag t⟩ t mV hnp;have SB:=CG ⟨l,ag,fP ag t⟩ t mV hnp (CU hc0).2.2.2.1;unfold sR at hro;unfold Es at cM;clear hz mV hnp iw ha0 hc0;generalize dU ⟨l,ag,fP ag t⟩ t=RK at *;obtain⟨RL,RA⟩:=RK;dsimp only at hR hro hon SB cM;obtain⟨hal,hos⟩:=hro;have HX:=zh cM;have OO:=zh hon;clear cM hon;go_enter Tryz.func21,Tryz.ntmps21;go_wp2_with (first
   | (go_at_call 63;refine(hR _ _ cD nG).mono ?_;clear hR;rintro e w2 ⟨u2,rfl,Kq,aC⟩;obtain⟨pr,cr,rfl,_⟩:=Kq.shape;have dx:=cD.trans (af aC cD.size))
   | (go_at_call 62;refine HC.mono ?_;clear HC;rintro e w1 ⟨m1,q1,n1,c1,nH,rfl,hS,au⟩;have hS1:=hS (by first|rfl|trivial);clear hS;have qd:=(zb w1).alloc zr (.cells #[.map m1,.slice q1 n1 c1,.bool nH] 86);have nG:=hS1.below qd zr;have cD:=au.alloc au.size (.cells #[.map m1,.slice q1 n1 c1,.bool nH] 86);have hg2:=eZ (heap_alloc_new w1 (.cells #[.map m1,.slice q1 n1 c1,.bool nH] 86))))
  have Pj:=Kq.fresh;clear Kq hg2 hS1 nG qd cD aC au;go_loopw [12,35] (λa y wx=>∃i:Nat,i≤RL.length∧y=.int .i64 i∧(ez RA (RL.take i)).2=0∧kQ 50 w2.heap.size wx a (ez RA (RL.take i)).1∧Below w2.heap.size w2 wx∧aY (λb=>True∧b<w2.heap.size) wx (.slice pr RL.length cr) RL) (λ_ y _=>RL.length - (intOf y).toNat)
  case atStart=>exact⟨0,Nat.zero_le _,by go_num,rfl,kQ.nil _ _ _,zb _,Pj⟩
  case round=>
   clear Pj;obtain⟨i,hi,rfl,IJ,hown,hB,hN⟩:=hrel;obtain⟨pv,cv,rfl⟩:=hown.shape
   by_cases hlt:i<RL.length
   case neg=>
    have hie:i=RL.length:=by omega
    subst hie;rw[List.take_length] at hown IJ;obtain⟨cs0,G2,Rx⟩:=hown;have HS:=λ(ho:iq (ez RA RL).1)=>CP _ _ _ _ _ G2 Rx (λ_ h=>h.1.2) ho (by have:=(nT RA RL).1;omega)
    have sF:∀b,(Value.slice pv (ez RA RL).1.length cv).ownBlock=some b→w2.heap.size≤b:=λb e=>(G2.lt b e).1
    have Kw:RS=(lH (ez RA RL).1,0):=by rw[HX.out,if_neg (by rw[IJ];simp)]
    have hlen:(lH (ez RA RL).1).length=(ez RA RL).1.length:=(nB _).length_eq;have HS:=HS (by have:=OO.out;unfold iq at this ⊢;rw[(nT RA RL).2 IJ];exact this);have AQ:=zh Kw;clear Kw HX OO IJ hlen hos;go_wp2_with (go_at_call 65;refine HS.mono ?_;clear HS;rintro e w5 ⟨rfl,⟨J7,Sy,Iw⟩,C5⟩);have gX:kQ 50 w2.heap.size w5 _ _:=⟨J7,Sy,Iw.mono λb hb=>⟨hb.1,hb.2.agree (C5.block b hb.2.lt (λe=>hb.1.2 e.symm))⟩⟩;go_ret2;rw[AQ.out];exact⟨_,rfl,kQ.mono gX dx.size,dx.trans (af (Below.grown hB C5 hB.size sF) dx.size)⟩
   case pos=>
    obtain⟨x,hx⟩:∃x,RL[i]? =some x:=⟨_,List.getElem?_eq_getElem hlt⟩
    obtain⟨b1,o1,av,sv,mq,Il,⟨F8,mI⟩,fe,eE,uq,pG,od,pZ,rK⟩:=hN.at hx;subst mq;obtain⟨pa,ca,rfl,_⟩:=fe.shape;obtain⟨ps,cs,rfl,_⟩:=eE.shape;have tO:=hos x (List.mem_of_getElem? hx);have HG:=zh (λhp=>EB (a:=RA) IJ hx hp);have JX:=zh (λhp=>EA (a:=RA) IJ hx hp);have hpl:=(nT RA (RL.take i)).1;rw[List.length_take] at hpl;generalize (ez RA (RL.take i)).1=L at *;obtain⟨cc,hcs,hC⟩:=hown;have JI:=hB.alloc hB.size (.cells #[str x.name,.bool x.sig.iter,.slice pa x.sig.args.length ca,str x.sig.res,.slice ps x.sig.sigs.length cs] 50);have ig:=(zb wr).alloc zr (.cells #[str x.name,.bool x.sig.iter,.slice pa x.sig.args.length ca,str x.sig.res,.slice ps x.sig.sigs.length cs] 50);have NJ:=heap_alloc_new wr (.cells #[str x.name,.bool x.sig.iter,.slice pa x.sig.args.length ca,str x.sig.res,.slice ps x.sig.sigs.length cs] 50);have bo:=bz NJ;have HP:=rN (.agg #[.bool x.sig.iter,.slice pa x.sig.args.length ca,str x.sig.res,.slice ps x.sig.sigs.length cs]) x.sig RA _ (HT.out _ (dx.trans (af JI dx.size))) ⟨_,_,rfl,mI,fe.below ig zr,eE.below ig zr⟩ tO.1 tO.2 hal;have RE:=hN.below ig zr;have mU:=hcs.alloc (.cells #[str x.name,.bool x.sig.iter,.slice pa x.sig.args.length ca,str x.sig.res,.slice ps x.sig.sigs.length cs] 50);have BP:=hC.below ig zr;clear hN IJ hx hC hcs hB tO hos;rcases hpk:eF x.sig RA with⟨PS,PE⟩;rw[hpk] at HP HG JX;dsimp only at HP HG JX;clear hpk
    by_cases he0:PE=0
    case neg=>
     have Kw:=JX.out he0;have AQ:=zh (show RS=([],PE) by rw[HX.out,Kw,if_pos he0]);obtain⟨g1,g2⟩:=bK he0;clear Kw HX JX HG he0;go_wp2_with (go_at_call 64;refine HP.mono ?_;clear HP;rintro e w3 ⟨u3,rfl,⟨a3,q3,rfl,l3,r3,s3⟩,aH⟩;obtain⟨p3,c3,rfl,_⟩:=r3.shape;obtain⟨p4,c4,rfl,_⟩:=s3.shape;have eD:=JI.trans (af aH JI.size));go_ret2;rw[AQ.out];exact⟨_,rfl,kQ.nil _ _ _,dx.trans (af (eD.alloc eD.size _) dx.size)⟩
    case pos=>
     subst he0;have Js:=HG.out rfl;clear HG JX;have FP:L.length+1≤2000:=by omega
     go_wp2_with (first
      | (at_builtin;refine bq _ rfl _ _ 31 rfl w2.heap.size 50 i0 _ 5 88 ja gw hz0 hz1 hz2 rfl (by decide) _ _ cc rfl (sC.alloc _) ⟨w3.heap.size+1,0,none⟩ 1 1 [str x.name,.bool PS.iter,.slice p3 PS.args.length c3,str PS.res,.slice p4 PS.sigs.length c4] rfl rfl (wB _ _ (by simp) _ _) (by intro u hu;simp only[List.mem_cons,List.not_mem_nil,or_false] at hu;rcases hu with rfl|rfl|rfl|rfl|rfl<;>rfl) (by decide) (by unfold maxLen;omega) (by omega) (Nat.le_trans kH.size (by simp)) ?_;intro v' w5 gX hgr sF)
      | (go_at_call 64;refine HP.mono ?_;clear HP;rintro e w3 ⟨u3,rfl,⟨a3,q3,rfl,l3,r3,s3⟩,aH⟩;obtain⟨p3,c3,rfl,_⟩:=r3.shape;obtain⟨p4,c4,rfl,_⟩:=s3.shape;have eD:=JI.trans (af aH JI.size);have TE:=bz (ah NJ aH);have vZ:=(zb w3).alloc zr (.cells #[.bool PS.iter,.slice p3 PS.args.length c3,str PS.res,.slice p4 PS.sigs.length c4] 36);have TF:=bz (aD (.cells #[.bool PS.iter,.slice p3 PS.args.length c3,str PS.res,.slice p4 PS.sigs.length c4] 36) (ah NJ aH));have OZ:=aN (heap_alloc_new w3 (.cells #[.bool PS.iter,.slice p3 PS.args.length c3,str PS.res,.slice p4 PS.sigs.length c4] 36));have sC:=(ay mU aH zr).alloc (.cells #[.bool PS.iter,.slice p3 PS.args.length c3,str PS.res,.slice p4 PS.sigs.length c4] 36);have kH:=eD.alloc eD.size (.cells #[.bool PS.iter,.slice p3 PS.args.length c3,str PS.res,.slice p4 PS.sigs.length c4] 36)))
     have hvl:∀b,(wr.alloc (.cells #[str x.name,.bool x.sig.iter,.slice pa x.sig.args.length ca,str x.sig.res,.slice ps x.sig.sigs.length cs] 50)).heap.size≤b→w2.heap.size≤b∧(Value.slice pv L.length cv).ownBlock≠some b:=λb hb=>⟨Nat.le_trans JI.size hb,λe=>by have:=aK mU e;omega⟩
     have Ki:=(BP.below aH zr).below vZ zr;have hne:∀b,True∧b<w2.heap.size→(Value.slice pv L.length cv).ownBlock≠some b:=λb hb e=>by have:=(mU.lt _ e).1;omega
     have BQ:=(RE.below aH zr).below vZ zr;generalize w3.alloc (.cells #[.bool PS.iter,.slice p3 PS.args.length c3,str PS.res,.slice p4 PS.sigs.length c4] 36)=W4 at *;have hq1:=jh.below (jh.mono r3 hvl) vZ zr;have Mg:=jh.below (jh.mono s3 hvl) vZ zr;obtain⟨k1,k2,k3⟩:=Cy (x:=⟨x.name,PS⟩) _ kH sC Ki ⟨_,_,[],rfl,⟨F8,l3⟩,hq1,Mg,rfl⟩ gX hgr sF;have JL:=BQ.agree (w':=w5) (λb hb hlt=>k3 b hlt (hne b hb));refine⟨⟨i+1,hlt,by go_num,by rw[Js],by rw[Js];exact k1,k2,JL⟩,by simp only[intOf];omega⟩
theorem Cx {D:Nat→Prop} (l:List aA) (v:Value) (ag:List aL) (wv:Value) (t:List UInt8) (w:World) (hT:dW w) (hv:bG D w v l) (hw:aY D w wv ag) (hn:∀f∈l,f.ag.length≤100000) (hnl:ag.length≤100000) (htl:t.length≤maxLen):
 Calls Tryz.prog 21 #[v,wv,str t] w λe w'=>∃u,e=.returned (.tuple #[u,.int .i64 (jA l ag t).2])∧cQ w.heap.size w' u (jA l ag t).1∧Below w.heap.size w w':=
 (Ae l v ag wv t w hT hv hw hn hnl htl).mono λ_ _ ⟨u,h1,h2,h3⟩=>⟨u,h1,h2.Ow,h3⟩
theorem ScopeM.some {D:Nat→Prop} {w:World} {m:Option Nat} {q:Option Addr} {n c:Nat} {pb:Bool} {s:bw} (h:ScopeM D w (.agg #[.map m,.slice q n c,.bool pb]) s):∃k,m=some k∧dV D w k s.dG:=by
 obtain⟨k,nv,e,hs,_⟩:=h
 simp at e
 exact⟨k,e.1,hs⟩
theorem Dx (c:bw) (want:List aL) (t:List UInt8):wQ c 7 want t=AZ c want t:=by
 unfold wQ AZ dz
 rcases want with _|⟨x,l⟩
 · cases h:dZ c [] t<;>simp
 · cases h:dZ c (x::l) t<;>by_cases hg:ff c 7 t=0<;>simp[hg]
set_option maxRecDepth 8000 in
theorem Az {D:Nat→Prop} (l:List aA) (v:Value) (ag:List aL) (wv:Value) (n t:List UInt8) (w:World) (hT:dW w) (hv:bG D w v l) (hw:aY D w wv ag) (hn:∀f∈l,f.ag.length≤100000) (hnl:ag.length≤100000) (htl:t.length≤maxLen) (hnm:n.length≤maxLen):
 Calls Tryz.prog 27 #[v,wv,str n,str t] w λe w'=>∃u,e=.returned (.tuple #[u,.int .i64 (lF l ag n t).2])∧ir (λb=>w.heap.size≤b) w' u (lF l ag n t).1∧Below w.heap.size w w':=by
 have FO:=(zb w).alloc zr (.cells #[.bool false,.slice none 0 0,.string ⟨#[]⟩,.slice none 0 0] 36)
 have Pz:=heap_alloc_new w (.cells #[.bool false,.slice none 0 0,.string ⟨#[]⟩,.slice none 0 0] 36)
 have HT:=zh (λW (hW:Below w.heap.size w W)=>hT.below hW zr)
 have HI:=mX t _ htl (HT.out _ FO)
 have HC:=λpar W (hW:Below w.heap.size w W)=>ko l v ag wv par W (HT.out W hW) (hv.below hW zr) (hw.below hW zr) hn hnl
 have hsc:=λpar h=>fU (l:=l) (ag:=ag) (par:=par) h
 have hap:=λh=>oM (l:=l) (ag:=ag) h
 have HG:=λpar (iw:gh ⟨l,ag,par⟩) v' W (hW:Below w.heap.size w W) (hS:ScopeM D W v' ⟨l,ag,par⟩)=>kY ⟨l,ag,par⟩ v' t W hS iw htl (HT.out W hW)
 have vX:=λpar (iw:gh ⟨l,ag,par⟩) (hc0:(aq t).1=0) want (qW:∀o∈want,o.sig.args.length≤100000∧o.sig.sigs.length≤100000) v' xv W (hx:aY D W xv want) (hW:Below w.heap.size w W) (hS:ScopeM D W v' ⟨l,ag,par⟩)=>qH ⟨l,ag,par⟩ 7 (qJ _ iw 7) iw v' want xv t W hS hx qW hc0 (by have:=uf t;omega) (HT.out W hW)
 have HF:=λ(ha:mB l) m W (_:Below w.heap.size w W) (hs:dV D W m l)=>qG l m n W hs ha hnm
 have HP:=λs (h1:s.args.length≤100000) (h2:s.sigs.length≤100000) x W (hW:Below w.heap.size w W) (hx:aT D W x s)=>rN x s t W (HT.out W hW) hx h1 h2 htl
 obtain⟨p,c,rfl,_⟩:=hv.shape
 obtain⟨q,cq,rfl,_⟩:=hw.shape
 have hP:=nh ag t
 have cM:lF l ag n t=if cE l ag≠0 then(.zero,cE l ag) else match ew l n with|none=>(.zero,5)|some f=>ER ⟨l,ag,fP ag t⟩ f t:=rfl
 have tJ:∀f,ew l n=some f→f∈l:=λf h=>List.mem_of_find?_eq_some h
 have qU:=λpar h=>tA (c:=⟨l,ag,par⟩) (t:=t) h
 have hfs:=λpar want=>Dx ⟨l,ag,par⟩ want t
 generalize lF l ag n t=RS at *
 generalize cE l ag=AS at *
 generalize ew l n=FK at *
 unfold ER at cM
 generalize RJ:fP ag t=P at *
 clear hT hv hw hn hnl RJ
 have yS:=FO
 have lp:=Pz
 replace hsc:=hsc P
 replace HG:=HG P
 replace vX:=vX P
 replace qU:=qU P
 replace hfs:=hfs P
 generalize dz ⟨l,ag,P⟩ t=GK at *
 rcases hP with⟨hn0,A3⟩|⟨rfl,A3⟩
 all_goals
  try rw[List.length_nil]
  replace A3:=zh A3
  replace cM:=zh cM
  replace hfs:=zh hfs
  replace qU:=zh qU
  replace hsc:=zh hsc
  replace hap:=zh hap
  replace tJ:=zh tJ
  go_enter Tryz.func27,Tryz.ntmps27;go_upto_region 2 with(first
   | (go_at_call 58;refine(HC _ _ yS).mono ?_;rintro e w1 ⟨m0,q1,n1,c1,nH,rfl,hS,au⟩;have bL:=yS.trans (af au yS.size);have hg1:=ah lp au)
   | (go_at_call 74;refine HI.mono ?_;rintro e w0 ⟨rfl,hb0⟩;have yS:=FO.trans (af hb0 (by simp));have lp:=ah Pz hb0))
  have cD:=bL.alloc bL.size (.cells #[.map m0,.slice q1 n1 c1,.bool nH] 86);have hg2:=aD (.cells #[.map m0,.slice q1 n1 c1,.bool nH] 86) hg1;have hs2:=heap_alloc_new w1 (.cells #[.map m0,.slice q1 n1 c1,.bool nH] 86);clear HC
  by_cases h0:AS=0
  case neg=>
   obtain⟨g1,g2⟩:=bK h0
   replace cM:=cM.out
   rw[if_pos h0] at cM;have HX:=zh cM;have b4:=aN hg2;clear h0 hsc hap cM HG HF HP vX tJ qU hfs hS;go_wp2_with fail;refine bodyPost_ret (v:=.tuple #[.agg #[.bool false,.slice none 0 0,str [],.slice none 0 0],.int .i64 AS]) (by simp[results,Tryz.results27,go_sem,b4.1]) rfl ?_;rw[HX.out];exact⟨_,rfl,aT.zero _ _,Below.ep cD (b:=w.heap.size) zr _ _ _ _⟩
  subst h0
  replace cM:=cM.out
  rw[if_neg (by simp)] at cM;have hS1:=hS rfl;rw[A3.out] at hS1;clear hS;obtain⟨m1,rfl,K8⟩:=hS1.some;have qd:=(zb w1).alloc zr (.cells #[.map (some m1),.slice q1 n1 c1,.bool nH] 86);have nG:=hS1.below qd zr;have K9:=K8.below qd zr;have QM:=eZ hs2;have iw:=hsc.out rfl;obtain⟨mV,hnp⟩:=hap.out rfl
  replace HF:=HF iw.1
  replace HG:=HG iw
  replace vX:=vX iw
  clear hsc hap qd K8;rcases FK with _|f
  · have HX:=zh cM
    clear cM HG HP vX tJ iw mV hnp qU hfs;go_wp2_with (go_at_call 75;refine(HF _ _ cD K9).mono ?_;rintro e w3 ⟨fv,rfl,hnone,hsome,aH⟩;have dx:=cD.trans (af aH cD.size);obtain rfl:=hnone (by first|rfl|trivial);have eD:=dx.alloc dx.size (.cells #[.string ⟨#[]⟩,.int .u8 0,.bool false,.slice none 0 0,.slice none 0 0] 58);have hg4:=aD (.cells #[.string ⟨#[]⟩,.int .u8 0,.bool false,.slice none 0 0,.slice none 0 0] 58) (ah hg2 aH);have b4:=aN hg4);refine bodyPost_ret (v:=.tuple #[.agg #[.bool false,.slice none 0 0,str [],.slice none 0 0],.int .i64 5]) (by simp[results,Tryz.results27,go_sem,b4.1]) rfl ?_;rw[HX.out];exact⟨_,rfl,aT.zero _ _,Below.ep eD (b:=w.heap.size) zr _ _ _ _⟩
  have qT:=dQ (mV f (tJ.out f rfl));dsimp only at cM;obtain⟨o,os,hop⟩:∃o os,f.ops=o::os:=by
   rcases hq:f.ops with _|⟨o,os⟩
   · have:=qT.2.2.2.2.2.1;rw[hq] at this;simp at this
   · exact⟨o,os,rfl⟩
  have hol:=eN (qT.2.2.2.2.2.2.2.1 o (by rw[hop];simp)).2;have hnd:=ec qT.2.2.2.1
  replace HP:=HP o.sig (by have:=hol.1;omega) (by have:=hol.2.1;omega)
  have NU:=qT.2.2.1;have BC:=zh hop;have Sq:0<f.ops.length:=by rw[hop];simp
  rw[hop] at cM;clear tJ mV hnp qT hol iw hop
  replace cM:=zh cM
  go_upto_region 5 with(go_at_call 75;refine(HF _ _ cD K9).mono ?_;rintro e w3 ⟨fv,rfl,hnone,hsome,aH⟩;obtain⟨nv,ov,rfl,hfl,wU,zx⟩:=hsome f (by first|rfl|trivial);obtain⟨pn,cn,rfl,_⟩:=wU.shape;obtain⟨po,co,rfl,_⟩:=zx.shape);have dx:=cD.trans (af aH cD.size);have nE:=(zb w3).alloc zr (.cells #[.string ⟨f.name.toArray⟩,.int .u8 f.kind,.bool f.par,.slice pn f.ag.length cn,.slice po f.ops.length co] 58);have uV:=(nG.below aH zr).below nE zr;have BQ:=wU.below nE zr;have Ph:=zx.below nE zr;have eD:=dx.alloc dx.size (.cells #[.string ⟨f.name.toArray⟩,.int .u8 f.kind,.bool f.par,.slice pn f.ag.length cn,.slice po f.ops.length co] 58);have hg4:=aD (.cells #[.string ⟨f.name.toArray⟩,.int .u8 f.kind,.bool f.par,.slice pn f.ag.length cn,.slice po f.ops.length co] 58) (ah hg2 aH);have b4:=aN hg4;have hs4:=aD (.cells #[.string ⟨f.name.toArray⟩,.int .u8 f.kind,.bool f.par,.slice pn f.ag.length cn,.slice po f.ops.length co] 58) (ah hs2 aH);have OZ:=eZ hs4;have Py:=heap_alloc_new w3 (.cells #[.string ⟨f.name.toArray⟩,.int .u8 f.kind,.bool f.par,.slice pn f.ag.length cn,.slice po f.ops.length co] 58);have J3:=bz Py;clear HF hnone hsome wU zx nE dx aH;generalize w3.alloc (.cells #[.string ⟨f.name.toArray⟩,.int .u8 f.kind,.bool f.par,.slice pn f.ag.length cn,.slice po f.ops.length co] 58)=w4 at *
  replace cM:=cM.out
  by_cases hk:f.kind=3
  · rw[if_pos (.inl hk)] at cM
    have HX:=zh cM;have gk:((f.kind:Int)==3)=true:=by rw[hk];rfl
    clear cM HG HP vX qU hfs hk hnd;go_wp2_with fail;refine bodyPost_ret (v:=.tuple #[.agg #[.bool false,.slice none 0 0,str [],.slice none 0 0],.int .i64 5]) (by simp[results,Tryz.results27,go_sem,b4.1]) rfl ?_;rw[HX.out];exact⟨_,rfl,aT.zero _ _,Below.ep eD (b:=w.heap.size) zr _ _ _ _⟩
  have gk:((f.kind:Int)==3)=false:=by rw[beq_eq_false_iff_ne];omega
  by_cases zD:t=[]
  · subst zD
    rcases hfpar:f.par with _|_
    · rw[if_neg (by simp[hk,hfpar]),if_neg (by simp[hfpar]),if_neg (by simp[hfpar])] at cM
      have cM:RS=eF o.sig []:=cM;generalize eF o.sig []=PK at *;have HX:=zh cM;rw[hfpar] at J3;obtain⟨b1,o1,av,sv,rfl,_,⟨_,mI⟩,fe,eE,uq,pG,od,pZ,rK⟩:=Ph.at (k:=0) (x:=o) (by rw[BC.out];rfl);rw[Nat.zero_mul,Nat.add_zero] at uq pG od pZ rK;clear cM HG vX qU hfs hk hnd;go_wp2_with (go_at_call 64;refine(HP _ _ eD ⟨_,_,rfl,mI,fe,eE⟩).mono ?_;rintro e w7 ⟨u7,rfl,⟨a7,q7,rfl,l7,r7,s7⟩,sB⟩;obtain⟨C9,cz,rfl,_⟩:=r7.shape;obtain⟨py,cy,rfl,_⟩:=s7.shape;have M3:=eD.trans (af sB eD.size);have KL:=ah hg4 sB;have b7:=aN KL);refine bodyPost_ret (v:=.tuple #[.agg #[.bool PK.1.iter,.slice C9 PK.1.args.length cz,str PK.1.res,.slice py PK.1.sigs.length cy],.int .i64 PK.2]) (by simp[results,Tryz.results27,go_sem,b7.1]) rfl ?_;rw[HX.out];have NX:=bA KL;refine⟨_,rfl,⟨_,_,rfl,l7,?_,?_⟩,Below.ep M3 (b:=w.heap.size) zr _ _ _ _⟩
      · exact(jh.ep r7 (b:=w.heap.size) (by intro b hb;have:=bA hg4;omega) _ _ _ _).mono (by intro b hb;have:=bA hg4;omega)
      · exact(jh.ep s7 (b:=w.heap.size) (by intro b hb;have:=bA hg4;omega) _ _ _ _).mono (by intro b hb;have:=bA hg4;omega)
    · rw[if_pos (.inr (by simp[hfpar]))] at cM
      have HX:=zh cM;rw[hfpar] at J3;clear cM HG HP vX qU hfs hk hnd;go_wp2_with fail;refine bodyPost_ret (v:=.tuple #[.agg #[.bool false,.slice none 0 0,str [],.slice none 0 0],.int .i64 5]) (by simp[results,Tryz.results27,go_sem,b4.1]) rfl ?_;rw[HX.out];exact⟨_,rfl,aT.zero _ _,Below.ep eD (b:=w.heap.size) zr _ _ _ _⟩
  have gt:t.isEmpty=false:=by cases t with|nil=>exact absurd rfl zD|cons=>rfl
  rcases hfpar:f.par with _|_
  · rw[if_pos (.inr (by simp[hfpar,zD]))] at cM
    have HX:=zh cM;rw[hfpar] at J3;clear cM HG HP vX qU hfs hk hnd;go_wp2_with fail;refine bodyPost_ret (v:=.tuple #[.agg #[.bool false,.slice none 0 0,str [],.slice none 0 0],.int .i64 5]) (by simp[results,Tryz.results27,go_sem,b4.1]) rfl ?_;rw[HX.out];exact⟨_,rfl,aT.zero _ _,Below.ep eD (b:=w.heap.size) zr _ _ _ _⟩
  rw[if_neg (by simp[hk,hfpar,zD])] at cM;rw[hfpar] at J3
  replace cM:=zh cM
  go_upto_region 9 with(go_at_call 59;refine(HG _ _ eD uV).mono ?_;rintro e w5 ⟨rfl,eT⟩);have kH:=eD.trans (af eT eD.size);have C5:=ah hg4 eT;have b5:=aN C5;have TH:=eZ (ah hs4 eT);have NH:=ah Py eT;have TD:=bz NH;have BR:=uV.below eT zr;have JL:=BQ.below eT zr;clear HG b4 OZ J3 QM
  replace cM:=cM.out
  by_cases lp:GK=0
  case neg=>
   obtain⟨g1,g2⟩:=bK lp;rw[if_pos ⟨hfpar,lp⟩] at cM;have HX:=zh cM;clear cM HP vX qU hfs hk hnd lp;go_wp2_with fail;refine bodyPost_ret (v:=.tuple #[.agg #[.bool false,.slice none 0 0,str [],.slice none 0 0],.int .i64 GK]) (by simp[results,Tryz.results27,go_sem,b5.1]) rfl ?_;rw[HX.out];exact⟨_,rfl,aT.zero _ _,Below.ep kH (b:=w.heap.size) zr _ _ _ _⟩
  subst lp;rw[if_neg (by simp)] at cM
  replace vX:=vX (qU.out rfl) f.ag (λo ho=>⟨Nat.le_trans (hnd.2 o ho).1 (by decide),Nat.le_trans (hnd.2 o ho).2 (by decide)⟩)
  replace hfs:=hfs.out f.ag
  rw[hfs] at vX;clear qU hfs;rcases qT:AZ ⟨l,_,P⟩ f.ag t with _|_
  · rw[if_pos ⟨hfpar,qT⟩] at cM
    rw[qT] at vX;have HX:=zh cM;clear cM HP hk hnd qT;go_wp2_with (go_at_call 76;refine(vX _ _ _ JL kH BR).mono ?_;rintro e w6 ⟨rfl,jJ⟩;have FM:=kH.trans (af jJ kH.size);have pT:=ah C5 jJ;have b6:=aN pT;have QK:=(bz (ah NH jJ)));refine bodyPost_ret (v:=.tuple #[.agg #[.bool false,.slice none 0 0,str [],.slice none 0 0],.int .i64 41]) (by simp[results,Tryz.results27,go_sem,b6.1]) rfl ?_;rw[HX.out];exact⟨_,rfl,aT.zero _ _,Below.ep FM (b:=w.heap.size) zr _ _ _ _⟩
  · rw[if_neg (by simp[qT])] at cM
    rw[qT] at vX;have cM:RS=eF o.sig t:=cM;generalize eF o.sig t=PK at *;have HX:=zh cM;clear cM hk hnd qT;obtain⟨b1,o1,av,sv,rfl,_,⟨_,mI⟩,fe,eE,uq,pG,od,pZ,rK⟩:=Ph.at (k:=0) (x:=o) (by rw[BC.out];rfl);rw[Nat.zero_mul,Nat.add_zero] at uq pG od pZ rK;go_wp2_with (first
     | (go_at_call 64;refine(HP _ _ FM ⟨_,_,rfl,mI,(fe.below eT zr).below jJ zr,(eE.below eT zr).below jJ zr⟩).mono ?_;rintro e w7 ⟨u7,rfl,⟨a7,q7,rfl,l7,r7,s7⟩,sB⟩;obtain⟨C9,cz,rfl,_⟩:=r7.shape;obtain⟨py,cy,rfl,_⟩:=s7.shape;have M3:=FM.trans (af sB FM.size);have KL:=ah pT sB;have b7:=aN KL)
     | (go_at_call 76;refine(vX _ _ _ JL kH BR).mono ?_;rintro e w6 ⟨rfl,jJ⟩;have FM:=kH.trans (af jJ kH.size);have pT:=ah C5 jJ;have b6:=aN pT;have QK:=(bz (ah NH jJ));have Da:=eT.trans (af jJ eT.size);have Uu:=Below.keep Da uq;have Uv:=Below.keep Da pG;have Uw:=Below.keep Da od;have Ux:=Below.keep Da pZ;have Uy:=Below.keep Da rK))
    refine bodyPost_ret (v:=.tuple #[.agg #[.bool PK.1.iter,.slice C9 PK.1.args.length cz,str PK.1.res,.slice py PK.1.sigs.length cy],.int .i64 PK.2]) (by simp[results,Tryz.results27,go_sem,b7.1]) rfl ?_;rw[HX.out];have NX:=bA KL;refine⟨_,rfl,⟨_,_,rfl,l7,?_,?_⟩,Below.ep M3 (b:=w.heap.size) zr _ _ _ _⟩
    · exact(jh.ep r7 (b:=w.heap.size) (by intro b hb;have:=bA pT;omega) _ _ _ _).mono (by intro b hb;have:=bA pT;omega)
    · exact(jh.ep s7 (b:=w.heap.size) (by intro b hb;have:=bA pT;omega) _ _ _ _).mono (by intro b hb;have:=bA pT;omega)
theorem CO {D:Nat→Prop} (l:List aA) (v:Value) (ag:List aL) (wv:Value) (n t:List UInt8) (w:World) (hT:dW w) (hv:bG D w v l) (hw:aY D w wv ag) (hn:∀f∈l,f.ag.length≤100000) (hnl:ag.length≤100000) (htl:t.length≤maxLen) (hnm:n.length≤maxLen):
 Calls Tryz.prog 27 #[v,wv,str n,str t] w λe w'=>∃u,e=.returned (.tuple #[u,.int .i64 (lF l ag n t).2])∧aT (λb=>w.heap.size≤b) w' u (lF l ag n t).1∧Below w.heap.size w w':=
 (Az l v ag wv n t w hT hv hw hn hnl htl hnm).mono λ_ _ ⟨u,e1,e2,e3⟩=>⟨u,e1,aT.mono e2 λ_ h=>h.1,e3⟩
end Go.Proofs.YtakgjcfkdemipaaGreatDoor
