/-
  Lemmas for the statement: contract: of the package face: OpsOf. Contract: of the package face: SigOf. Conditions: bounds of lengths; the variable strings.asciiSpace.
-/
import Derived.Test.YtakgjcfkdemipaaGreatDoorZGn
import Derived.Test.YtakgjcfkdemipaaGreatDoorZG24
import Derived.Test.YtakgjcfkdemipaaGreatDoorZG26
set_option maxHeartbeats 25600000
namespace Go.Proofs.YtakgjcfkdemipaaGreatDoor
open Go.RowKit
theorem uU (a:List UInt8):∀l k:List aG,(fS a l).2=0→fS a (l++k)=if(fS a k).2=0 then((fS a l).1++(fS a k).1,0) else([],(fS a k).2)
 | [], k, _ => by
  rw[List.nil_append];split
  · rename_i h;exact Prod.ext rfl h
  · rename_i h
    cases k with
    | nil=>exact absurd rfl h
    | cons x k=>
     unfold fS at h ⊢;split at h
     · rename_i h1
       rw[if_pos h1];split at h
       · exact absurd rfl h
       · rename_i h2;rw[if_neg h2]
     · rename_i h1;rw[if_neg h1]
 | x :: l, k, h => by
  have h1:(bZ x.sig a).2=0∧(fS a l).2=0:=by
   unfold fS at h;split at h
   · rename_i h1
     split at h
     · rename_i h2;exact⟨h1,h2⟩
     · rename_i h2;exact absurd h h2
   · rename_i h1;exact absurd h h1
  have ih:=uU a l k h1.2;rw[List.cons_append,fS,if_pos h1.1,ih];rw[show fS a (x::l)=(⟨x.name,(bZ x.sig a).1⟩::(fS a l).1,0) by rw[fS,if_pos h1.1,if_pos h1.2]]
  by_cases hk:(fS a k).2=0
  · rw[if_pos hk,if_pos hk];rfl
  · rw[if_neg hk,if_neg hk,if_neg hk]
theorem Jm {a:List UInt8} {l:List aG} {i:Nat} {x:aG} (h:(fS a (l.take i)).2=0) (hx:l[i]? =some x) (hp:(bZ x.sig a).2=0):fS a (l.take (i+1))=((fS a (l.take i)).1++[⟨x.name,(bZ x.sig a).1⟩],0):=by
 rw[List.take_add_one,hx,Option.toList_some,uU a _ _ h]
 rw[show fS a [x]=([⟨x.name,(bZ x.sig a).1⟩],0) by rw[fS,if_pos hp];rfl]
 rfl
theorem Jl {a:List UInt8} {l:List aG} {i:Nat} {x:aG} (h:(fS a (l.take i)).2=0) (hx:l[i]? =some x) (hp:(bZ x.sig a).2≠0):fS a l=([],(bZ x.sig a).2):=by
 have e:l=l.take i++(x::l.drop (i+1)):=by
  rw[←bp hx,List.take_append_drop]
 rw[e,uU a _ _ h]
 rw[show fS a (x::l.drop (i+1))=([],(bZ x.sig a).2) by rw[fS,if_neg hp]]
 rw[if_neg hp]
theorem qI (a:List UInt8):∀l:List aG,(fS a l).1.length≤l.length∧((fS a l).2=0→(fS a l).1.map (·.name)=l.map (·.name))
 | []=>⟨nl _,λ_=>rfl⟩
 | x::l=>by
  have ih:=qI a l;unfold fS;split
  · split
    · rename_i h2
      exact⟨by simpa using ih.1,λ_=>by simp[ih.2 h2]⟩
    · rename_i h2
      exact⟨Nat.zero_le _,λh=>absurd h h2⟩
  · rename_i h1
    exact⟨Nat.zero_le _,λh=>absurd h h1⟩
theorem FX (c:aR) (t:List UInt8) (hf:∀f∈c.bK,eU f=true) (hn:bh c.ag=true) (hp:(cK t).1.length≤100):(cG c t).1.length≤1000:=by
 unfold cG
 simp only
 split
 · simp
 · simp
 · simp
 · simp
 · simp only[List.length_append,List.length_flatMap,List.length_cons,List.length_nil,List.map_const',List.sum_replicate_nat]
   omega
 · simp only[List.length_flatMap,List.length_cons,List.length_nil,List.map_const',List.sum_replicate_nat]
   omega
 · rcases hq:ez c.bK (dI t).1 with _|f
   · simp
   · have:=(ec (hf f (List.mem_of_find?_eq_some hq))).2.2.2.2.2.2.1
     simp only[Option.map_some,Option.getD_some];omega
 · exact Nat.le_trans (dr hn).1 (by decide)
 · simp
theorem rU {l:List aB} {ag:List aG} (h:bP l ag=0):(∀f∈l,eU f=true)∧bh ag=true:=by
 unfold bP at h
 split at h
 · rename_i h1;exact absurd h h1
 · rename_i h1
   split at h
   · rename_i h2
     exact⟨(iD l 0 none (sR (by simpa using h1)).1).2.1,h2⟩
   · cases h
theorem zT (w:World) (n:Nat) (hn:n=w.heap.size) (cs:List Value) (t:TypeId):∀j u,cs[j]? =some u→(w.alloc (.cells cs.toArray t)).cell? ((⟨n,0,none⟩:Addr).add j)=some u:=by
 subst hn
 exact ew w cs t
set_option maxRecDepth 8000 in
theorem FJ {D:Nat→Prop} (l:List aB) (v:Value) (ag:List aG) (wv:Value) (t:List UInt8) (w:World) (hT:fN w) (hv:aZ D w v l) (hw:aJ D w wv ag) (hn:∀f∈l,f.ag.length≤100000) (hnl:ag.length≤100000) (htl:t.length≤maxLen):
 Calls Tryz.prog 21 #[v,wv,str t] w λe w'=>∃u,e=.returned (.tuple #[u,.int .i64 (nG l ag t).2])∧dU w.heap.size w' u (nG l ag t).1∧Below w.heap.size w w':=by
 have hA:=Below.refl w.heap.size w
 have HT:=Lib.hid (λW (hW:Below w.heap.size w W)=>hT.below hW (nl _))
 have HC:=yt l v ag wv t w hT hv hw hn hnl htl
 have hz:=λh=>vM (l:=l) (ag:=ag) (t:=t) h
 obtain⟨p,c,rfl,_⟩:=hv.shape
 obtain⟨q,cq,rfl,_⟩:=hw.shape
 obtain⟨i0,fV,hz0,hz1,hz2⟩:=bu pJ
 have dZ:nG l ag t=if gU l ag t≠0 then([],gU l ag t) else Jb ⟨l,ag,dX ag t⟩ t:=rfl
 generalize nG l ag t=RS at *
 generalize gU l ag t=TK at *
 clear hT hv hw hn hnl
 by_cases h0:TK=0
 case neg=>
  obtain⟨g1,g2⟩:=bC h0;rw[if_pos h0] at dZ;subst dZ;clear h0 hz fV hz0 hz1 hz2;go_enter Tryz.func21,Tryz.ntmps21;go_wp2_with (go_at_call 62;refine HC.mono ?_;clear HC;rintro e w1 ⟨m1,q1,n1,c1,qi,rfl,_,ay⟩;have bJ:=ay);go_ret2;exact⟨_,rfl,dU.nil _ _,bJ.alloc bJ.size _⟩
 case pos =>
  subst h0;rw[if_neg (by simp)] at dZ;obtain⟨ha0,hc0⟩:=hz rfl;have fW:=iC (par:=dX ag t) ha0;obtain⟨jb,hnp⟩:=rU ha0;have hR:=λv' W hW hS=>Ey (D:=D) ⟨l,ag,dX ag t⟩ v' t W hS (qP hc0) (HT.out W hW) fW.1 fW.2.1 (gm hc0)
  have hro:=fW.2.2.2 t hc0;have hon:=ve ⟨l,ag,dX ag t⟩ t jb hnp;have O2:=FX ⟨l,ag,dX ag t⟩ t jb hnp (qP hc0).2.2.2.1;unfold tj at hro;unfold Jb at dZ;clear hz jb hnp fW ha0 hc0;generalize cG ⟨l,ag,dX ag t⟩ t=RK at *;obtain⟨RL,RA⟩:=RK;dsimp only at hR hro hon O2 dZ;obtain⟨hal,hos⟩:=hro;have HX:=Lib.hid dZ;have VC:=Lib.hid hon;clear dZ hon;go_enter Tryz.func21,Tryz.ntmps21;go_wp2_with (first
   | (go_at_call 63;refine(hR _ _ bW kA).mono ?_;clear hR;rintro e w2 ⟨u2,rfl,B0,aA⟩;obtain⟨pr,cr,rfl,_⟩:=B0.shape;have dg:=bW.trans (af aA bW.size))
   | (go_at_call 62;refine HC.mono ?_;clear HC;rintro e w1 ⟨m1,q1,n1,c1,qi,rfl,hS,ay⟩;have hS1:=hS (by first|rfl|trivial);clear hS;have sV:=(Below.refl _ w1).alloc (nl _) (.cells #[.map m1,.slice q1 n1 c1,.bool qi] 86);have kA:=hS1.below sV (nl _);have bW:=ay.alloc ay.size (.cells #[.map m1,.slice q1 n1 c1,.bool qi] 86);have hg2:=gB (heap_alloc_new w1 (.cells #[.map m1,.slice q1 n1 c1,.bool qi] 86))))
  have zF:=B0.fresh;clear B0 hg2 hS1 kA sV bW aA ay;go_loopw [12,35] (λa y wx=>∃i:Nat,i≤RL.length∧y=.int .i64 i∧(fS RA (RL.take i)).2=0∧dU w2.heap.size wx a (fS RA (RL.take i)).1∧Below w2.heap.size w2 wx∧aJ (λb=>True∧b<w2.heap.size) wx (.slice pr RL.length cr) RL) (λ_ y _=>RL.length - (intOf y).toNat)
  case atStart=>exact⟨0,Nat.zero_le _,by go_num,rfl,dU.nil _ _,Below.refl _ _,zF⟩
  case round=>
   clear zF;obtain⟨i,hi,rfl,NG,hown,hB,hN⟩:=hrel;obtain⟨pv,cv,rfl⟩:=hown.shape
   by_cases hlt:i<RL.length
   case neg=>
    have hie:i=RL.length:=by omega
    subst hie;rw[List.take_length] at hown NG;have HS:=λ(ho:gW (fS RA RL).1)=>Gi _ _ _ _ hown ho (by have:=(qI RA RL).1;omega)
    have n5:∀b,(Value.slice pv (fS RA RL).1.length cv).ownBlock=some b→w2.heap.size≤b:=λb e=>(hown.lt e).1
    have QF:RS=(cN (fS RA RL).1,0):=by rw[HX.out,if_neg (by rw[NG];simp)]
    have hlen:(cN (fS RA RL).1).length=(fS RA RL).1.length:=(jg _).length_eq;have HS:=HS (by have:=VC.out;unfold gW at this ⊢;rw[(qI RA RL).2 NG];exact this);have DQ:=Lib.hid QF;clear QF HX VC NG hlen hos;go_wp2_with (go_at_call 65;refine HS.mono ?_;clear HS;rintro e w5 ⟨rfl,dJ,Io⟩);go_ret2;rw[DQ.out];exact⟨_,rfl,dJ.mono dg.size,dg.trans (af (Below.grown hB Io hB.size n5) dg.size)⟩
   case pos=>
    obtain⟨x,hx⟩:∃x,RL[i]? =some x:=⟨_,List.getElem?_eq_getElem hlt⟩
    obtain⟨b1,o1,av,sv,kj,KD,⟨Az,kC⟩,dy,cQ,uR,kK,mR,qG,sN⟩:=hN.at hx;subst kj;obtain⟨pa,ca,rfl,_⟩:=dy.shape;obtain⟨ps,cs,rfl,_⟩:=cQ.shape;have xA:=hos x (List.mem_of_getElem? hx);have HG:=Lib.hid (λhp=>Jm (a:=RA) NG hx hp);have O6:=Lib.hid (λhp=>Jl (a:=RA) NG hx hp);have hpl:=(qI RA (RL.take i)).1;rw[List.length_take] at hpl;generalize (fS RA (RL.take i)).1=L at *;obtain⟨cc,hcs,hC⟩:=hown;have PI:=hB.alloc hB.size (.cells #[str x.name,.bool x.sig.iter,.slice pa x.sig.args.length ca,str x.sig.res,.slice ps x.sig.sigs.length cs] 50);have jE:=(Below.refl _ wr).alloc (nl _) (.cells #[str x.name,.bool x.sig.iter,.slice pa x.sig.args.length ca,str x.sig.res,.slice ps x.sig.sigs.length cs] 50);have Uy:=heap_alloc_new wr (.cells #[str x.name,.bool x.sig.iter,.slice pa x.sig.args.length ca,str x.sig.res,.slice ps x.sig.sigs.length cs] 50);have bo:=bL Uy;have HP:=sY (.agg #[.bool x.sig.iter,.slice pa x.sig.args.length ca,str x.sig.res,.slice ps x.sig.sigs.length cs]) x.sig RA _ (HT.out _ (dg.trans (af PI dg.size))) ⟨_,_,rfl,kC,dy.below jE (nl _),cQ.below jE (nl _)⟩ xA.1 xA.2 hal;have YH:=hN.below jE (nl _);have pI:=hcs.alloc (.cells #[str x.name,.bool x.sig.iter,.slice pa x.sig.args.length ca,str x.sig.res,.slice ps x.sig.sigs.length cs] 50);have E1:=hC.below jE (nl _);clear hN NG hx hC hcs hB xA hos;rcases hpk:bZ x.sig RA with⟨PS,PE⟩;rw[hpk] at HP HG O6;dsimp only at HP HG O6;clear hpk
    by_cases he0:PE=0
    case neg=>
     have QF:=O6.out he0;have DQ:=Lib.hid (show RS=([],PE) by rw[HX.out,QF,if_pos he0]);obtain⟨g1,g2⟩:=bC he0;clear QF HX O6 HG he0;go_wp2_with (go_at_call 64;refine HP.mono ?_;clear HP;rintro e w3 ⟨u3,rfl,⟨a3,q3,rfl,l3,r3,s3⟩,aK⟩;obtain⟨p3,c3,rfl,_⟩:=r3.shape;obtain⟨p4,c4,rfl,_⟩:=s3.shape;have dH:=PI.trans (af aK PI.size));go_ret2;rw[DQ.out];exact⟨_,rfl,dU.nil _ _,dg.trans (af (dH.alloc dH.size _) dg.size)⟩
    case pos=>
     subst he0;have Om:=HG.out rfl;clear HG O6;have Ak:L.length+1≤2000:=by omega
     go_wp2_with (first
      | (at_builtin;refine aL _ rfl _ _ 31 rfl w2.heap.size 50 i0 _ 5 88 iT fV hz0 hz1 hz2 rfl (by decide) _ _ cc rfl (wj.alloc _) ⟨w3.heap.size+1,0,none⟩ 1 1 [str x.name,.bool PS.iter,.slice p3 PS.args.length c3,str PS.res,.slice p4 PS.sigs.length c4] rfl rfl (zT _ _ (by simp) _ _) (by intro u hu;simp only[List.mem_cons,List.not_mem_nil,or_false] at hu;rcases hu with rfl|rfl|rfl|rfl|rfl<;>rfl) (by decide) (by unfold maxLen;omega) (by omega) (Nat.le_trans iq.size (by simp)) ?_;intro v' w5 dJ hgr n5)
      | (go_at_call 64;refine HP.mono ?_;clear HP;rintro e w3 ⟨u3,rfl,⟨a3,q3,rfl,l3,r3,s3⟩,aK⟩;obtain⟨p3,c3,rfl,_⟩:=r3.shape;obtain⟨p4,c4,rfl,_⟩:=s3.shape;have dH:=PI.trans (af aK PI.size);have bo3:=bL (ah Uy aK);have zC:=(Below.refl _ w3).alloc (nl _) (.cells #[.bool PS.iter,.slice p3 PS.args.length c3,str PS.res,.slice p4 PS.sigs.length c4] 36);have bo4:=bL (aH (.cells #[.bool PS.iter,.slice p3 PS.args.length c3,str PS.res,.slice p4 PS.sigs.length c4] 36) (ah Uy aK));have VO:=aU (heap_alloc_new w3 (.cells #[.bool PS.iter,.slice p3 PS.args.length c3,str PS.res,.slice p4 PS.sigs.length c4] 36));have wj:=(az pI aK (nl _)).alloc (.cells #[.bool PS.iter,.slice p3 PS.args.length c3,str PS.res,.slice p4 PS.sigs.length c4] 36);have iq:=dH.alloc dH.size (.cells #[.bool PS.iter,.slice p3 PS.args.length c3,str PS.res,.slice p4 PS.sigs.length c4] 36)))
     have hvl:∀b,(wr.alloc (.cells #[str x.name,.bool x.sig.iter,.slice pa x.sig.args.length ca,str x.sig.res,.slice ps x.sig.sigs.length cs] 50)).heap.size≤b→(Value.slice pv L.length cv).ownBlock≠some b:=λb hb e=>by have:=aV pI e;omega
     have PU:=(E1.below aK (nl _)).below zC (nl _);have hne:∀b,True∧b<w2.heap.size→(Value.slice pv L.length cv).ownBlock≠some b:=λb hb e=>by have:=(pI.lt _ e).1;omega
     have E6:=(YH.below aK (nl _)).below zC (nl _);generalize w3.alloc (.cells #[.bool PS.iter,.slice p3 PS.args.length c3,str PS.res,.slice p4 PS.sigs.length c4] 36)=W4 at *;have hq1:=(r3.mono hvl).below zC (nl _);have Sy:=(s3.mono hvl).below zC (nl _);obtain⟨k1,k2,k3,k4⟩:=uP (x:=⟨x.name,PS⟩) _ iq wj PU ⟨_,_,[],rfl,⟨Az,l3⟩,hq1,Sy,rfl⟩ dJ hgr n5;have OO:=E6.agree (w':=w5) (λb hb hlt=>k3 b hlt (hne b hb));refine⟨⟨i+1,hlt,by go_num,by rw[Om],by rw[Om];exact k1,k2,OO⟩,by simp only[intOf];omega⟩
end Go.Proofs.YtakgjcfkdemipaaGreatDoor
namespace Go.Proofs.YtakgjcfkdemipaaGreatDoor
open Go.RowKit
theorem ScopeM.some {D:Nat→Prop} {w:World} {m:Option Nat} {q:Option Addr} {n c:Nat} {pb:Bool} {s:aR} (h:ScopeM D w (.agg #[.map m,.slice q n c,.bool pb]) s):∃k,m=some k∧fI D w k s.bK:=by
 obtain⟨k,nv,e,hs,_⟩:=h
 simp at e
 exact⟨k,e.1,hs⟩
theorem Ho (c:aR) (want:List aG) (t:List UInt8):vW c 7 want t=DZ c want t:=by
 unfold vW DZ dx
 rcases want with _|⟨x,l⟩
 · cases h:dP c [] t<;>simp
 · cases h:dP c (x::l) t<;>by_cases hg:cV c 7 t=0<;>simp[hg]
set_option maxRecDepth 8000 in
theorem Gh {D:Nat→Prop} (l:List aB) (v:Value) (ag:List aG) (wv:Value) (n t:List UInt8) (w:World) (hT:fN w) (hv:aZ D w v l) (hw:aJ D w wv ag) (hn:∀f∈l,f.ag.length≤100000) (hnl:ag.length≤100000) (htl:t.length≤maxLen) (hnm:n.length≤maxLen):
 Calls Tryz.prog 27 #[v,wv,str n,str t] w λe w'=>∃u,e=.returned (.tuple #[u,.int .i64 (rO l ag n t).2])∧aT (λb=>w.heap.size≤b) w' u (rO l ag n t).1∧Below w.heap.size w w':=by
 have Ky:=(Below.refl _ w).alloc (nl _) (.cells #[.bool false,.slice none 0 0,.string ⟨#[]⟩,.slice none 0 0] 36)
 have Ws:=heap_alloc_new w (.cells #[.bool false,.slice none 0 0,.string ⟨#[]⟩,.slice none 0 0] 36)
 have HT:=Lib.hid (λW (hW:Below w.heap.size w W)=>hT.below hW (nl _))
 have HI:=pL t _ htl (HT.out _ Ky)
 have HC:=λpar W (hW:Below w.heap.size w W)=>lZ l v ag wv par W (HT.out W hW) (hv.below hW (nl _)) (hw.below hW (nl _)) hn hnl
 have hsc:=λpar h=>iC (l:=l) (ag:=ag) (par:=par) h
 have hap:=λh=>rU (l:=l) (ag:=ag) h
 have HG:=λpar (fW:iM ⟨l,ag,par⟩) v' W (hW:Below w.heap.size w W) (hS:ScopeM D W v' ⟨l,ag,par⟩)=>nj ⟨l,ag,par⟩ v' t W hS fW htl (HT.out W hW)
 have sQ:=λpar (fW:iM ⟨l,ag,par⟩) (hc0:(aq t).1=0) want (oO:∀o∈want,o.sig.args.length≤100000∧o.sig.sigs.length≤100000) v' xv W (hx:aJ D W xv want) (hW:Below w.heap.size w W) (hS:ScopeM D W v' ⟨l,ag,par⟩)=>tT ⟨l,ag,par⟩ 7 (tV _ fW 7) fW v' want xv t W hS hx oO hc0 (by have:=oh t;omega) (HT.out W hW)
 have HF:=λ(ha:oF l) m W (_:Below w.heap.size w W) (hs:fI D W m l)=>tR l m n W hs ha hnm
 have HP:=λs (h1:s.args.length≤100000) (h2:s.sigs.length≤100000) x W (hW:Below w.heap.size w W) (hx:aT D W x s)=>sY x s t W (HT.out W hW) hx h1 h2 htl
 obtain⟨p,c,rfl,_⟩:=hv.shape
 obtain⟨q,cq,rfl,_⟩:=hw.shape
 have hP:=pT ag t
 have dZ:rO l ag n t=if bP l ag≠0 then(.zero,bP l ag) else match ez l n with|none=>(.zero,5)|some f=>JC ⟨l,ag,dX ag t⟩ f t:=rfl
 have vS:∀f,ez l n=some f→f∈l:=λf h=>List.mem_of_find?_eq_some h
 have uh:=λpar h=>ry (c:=⟨l,ag,par⟩) (t:=t) h
 have hfs:=λpar want=>Ho ⟨l,ag,par⟩ want t
 generalize rO l ag n t=RS at *
 generalize bP l ag=AS at *
 generalize ez l n=FK at *
 unfold JC at dZ
 generalize YL:dX ag t=P at *
 clear hT hv hw hn hnl YL
 have kr:=Ky
 have bY:=Ws
 replace hsc:=hsc P
 replace HG:=HG P
 replace sQ:=sQ P
 replace uh:=uh P
 replace hfs:=hfs P
 generalize dx ⟨l,ag,P⟩ t=GK at *
 rcases hP with⟨hn0,D7⟩|⟨rfl,D7⟩
 all_goals
  try rw[List.length_nil]
  replace D7:=Lib.hid D7
  replace dZ:=Lib.hid dZ
  replace hfs:=Lib.hid hfs
  replace uh:=Lib.hid uh
  replace hsc:=Lib.hid hsc
  replace hap:=Lib.hid hap
  replace vS:=Lib.hid vS
  go_enter Tryz.func27,Tryz.ntmps27;go_upto_region 2 with(first
   | (go_at_call 58;refine(HC _ _ kr).mono ?_;rintro e w1 ⟨m0,q1,n1,c1,qi,rfl,hS,ay⟩;have bJ:=kr.trans (af ay kr.size);have hg1:=ah bY ay)
   | (go_at_call 74;refine HI.mono ?_;rintro e w0 ⟨rfl,hb0⟩;have kr:=Ky.trans (af hb0 (by simp));have bY:=ah Ws hb0))
  have bW:=bJ.alloc bJ.size (.cells #[.map m0,.slice q1 n1 c1,.bool qi] 86);have hg2:=aH (.cells #[.map m0,.slice q1 n1 c1,.bool qi] 86) hg1;have hs2:=heap_alloc_new w1 (.cells #[.map m0,.slice q1 n1 c1,.bool qi] 86);clear HC
  by_cases h0:AS=0
  case neg=>
   obtain⟨g1,g2⟩:=bC h0
   replace dZ:=dZ.out
   rw[if_pos h0] at dZ;have HX:=Lib.hid dZ;have b4:=aU hg2;clear h0 hsc hap dZ HG HF HP sQ vS uh hfs hS;go_wp2_with fail;refine bodyPost_ret (v:=.tuple #[.agg #[.bool false,.slice none 0 0,str [],.slice none 0 0],.int .i64 AS]) (by simp[results,Tryz.results27,go_sem,b4.1]) rfl ?_;rw[HX.out];exact⟨_,rfl,aT.zero _ _,Below.fc bW (b:=w.heap.size) (nl _) _ _ _ _⟩
  subst h0
  replace dZ:=dZ.out
  rw[if_neg (by simp)] at dZ;have hS1:=hS rfl;rw[D7.out] at hS1;clear hS;obtain⟨m1,rfl,Rt⟩:=hS1.some;have sV:=(Below.refl _ w1).alloc (nl _) (.cells #[.map (some m1),.slice q1 n1 c1,.bool qi] 86);have kA:=hS1.below sV (nl _);have Ru:=Rt.below sV (nl _);have XK:=gB hs2;have fW:=hsc.out rfl;obtain⟨jb,hnp⟩:=hap.out rfl
  replace HF:=HF fW.1
  replace HG:=HG fW
  replace sQ:=sQ fW
  clear hsc hap sV Rt;rcases FK with _|f
  · have HX:=Lib.hid dZ
    clear dZ HG HP sQ vS fW jb hnp uh hfs;go_wp2_with (go_at_call 75;refine(HF _ _ bW Ru).mono ?_;rintro e w3 ⟨fv,rfl,hnone,hsome,aK⟩;have dg:=bW.trans (af aK bW.size);obtain rfl:=hnone (by first|rfl|trivial);have dH:=dg.alloc dg.size (.cells #[.string ⟨#[]⟩,.int .u8 0,.bool false,.slice none 0 0,.slice none 0 0] 58);have hg4:=aH (.cells #[.string ⟨#[]⟩,.int .u8 0,.bool false,.slice none 0 0,.slice none 0 0] 58) (ah hg2 aK);have b4:=aU hg4);refine bodyPost_ret (v:=.tuple #[.agg #[.bool false,.slice none 0 0,str [],.slice none 0 0],.int .i64 5]) (by simp[results,Tryz.results27,go_sem,b4.1]) rfl ?_;rw[HX.out];exact⟨_,rfl,aT.zero _ _,Below.fc dH (b:=w.heap.size) (nl _) _ _ _ _⟩
  have nY:=ec (jb f (vS.out f rfl));dsimp only at dZ;obtain⟨o,os,hop⟩:∃o os,f.ops=o::os:=by
   rcases hq:f.ops with _|⟨o,os⟩
   · have:=nY.2.2.2.2.2.1;rw[hq] at this;simp at this
   · exact⟨o,os,rfl⟩
  have hol:=eC (nY.2.2.2.2.2.2.2.1 o (by rw[hop];simp)).2;have hnd:=dr nY.2.2.2.1
  replace HP:=HP o.sig (by have:=hol.1;omega) (by have:=hol.2.1;omega)
  have Q5:=nY.2.2.1;have EI:=Lib.hid hop;have Zt:0<f.ops.length:=by rw[hop];simp
  rw[hop] at dZ;clear vS jb hnp nY hol fW hop
  replace dZ:=Lib.hid dZ
  go_upto_region 5 with(go_at_call 75;refine(HF _ _ bW Ru).mono ?_;rintro e w3 ⟨fv,rfl,hnone,hsome,aK⟩;obtain⟨nv,ov,rfl,hfl,Al,CG⟩:=hsome f (by first|rfl|trivial);obtain⟨pn,cn,rfl,_⟩:=Al.shape;obtain⟨po,co,rfl,_⟩:=CG.shape);have dg:=bW.trans (af aK bW.size);have qh:=(Below.refl _ w3).alloc (nl _) (.cells #[.string ⟨f.name.toArray⟩,.int .u8 f.kind,.bool f.par,.slice pn f.ag.length cn,.slice po f.ops.length co] 58);have qv:=(kA.below aK (nl _)).below qh (nl _);have E6:=Al.below qh (nl _);have Mf:=CG.below qh (nl _);have dH:=dg.alloc dg.size (.cells #[.string ⟨f.name.toArray⟩,.int .u8 f.kind,.bool f.par,.slice pn f.ag.length cn,.slice po f.ops.length co] 58);have hg4:=aH (.cells #[.string ⟨f.name.toArray⟩,.int .u8 f.kind,.bool f.par,.slice pn f.ag.length cn,.slice po f.ops.length co] 58) (ah hg2 aK);have b4:=aU hg4;have hs4:=aH (.cells #[.string ⟨f.name.toArray⟩,.int .u8 f.kind,.bool f.par,.slice pn f.ag.length cn,.slice po f.ops.length co] 58) (ah hs2 aK);have VO:=gB hs4;have Wq:=heap_alloc_new w3 (.cells #[.string ⟨f.name.toArray⟩,.int .u8 f.kind,.bool f.par,.slice pn f.ag.length cn,.slice po f.ops.length co] 58);have Ph:=bL Wq;clear HF hnone hsome Al CG qh dg aK;generalize w3.alloc (.cells #[.string ⟨f.name.toArray⟩,.int .u8 f.kind,.bool f.par,.slice pn f.ag.length cn,.slice po f.ops.length co] 58)=w4 at *
  replace dZ:=dZ.out
  by_cases hk:f.kind=3
  · rw[if_pos (.inl hk)] at dZ
    have HX:=Lib.hid dZ;have gk:((f.kind:Int)==3)=true:=by rw[hk];rfl
    clear dZ HG HP sQ uh hfs hk hnd;go_wp2_with fail;refine bodyPost_ret (v:=.tuple #[.agg #[.bool false,.slice none 0 0,str [],.slice none 0 0],.int .i64 5]) (by simp[results,Tryz.results27,go_sem,b4.1]) rfl ?_;rw[HX.out];exact⟨_,rfl,aT.zero _ _,Below.fc dH (b:=w.heap.size) (nl _) _ _ _ _⟩
  have gk:((f.kind:Int)==3)=false:=by rw[beq_eq_false_iff_ne];omega
  by_cases CO:t=[]
  · subst CO
    rcases hfpar:f.par with _|_
    · rw[if_neg (by simp[hk,hfpar]),if_neg (by simp[hfpar]),if_neg (by simp[hfpar])] at dZ
      have dZ:RS=bZ o.sig []:=dZ;generalize bZ o.sig []=PK at *;have HX:=Lib.hid dZ;rw[hfpar] at Ph;obtain⟨b1,o1,av,sv,rfl,_,⟨_,kC⟩,dy,cQ,uR,kK,mR,qG,sN⟩:=Mf.at (k:=0) (x:=o) (by rw[EI.out];rfl);rw[Nat.zero_mul,Nat.add_zero] at uR kK mR qG sN;clear dZ HG sQ uh hfs hk hnd;go_wp2_with (go_at_call 64;refine(HP _ _ dH ⟨_,_,rfl,kC,dy,cQ⟩).mono ?_;rintro e w7 ⟨u7,rfl,⟨a7,q7,rfl,l7,r7,s7⟩,qw⟩;obtain⟨GI,cz,rfl,_⟩:=r7.shape;obtain⟨py,cy,rfl,_⟩:=s7.shape;have CB:=dH.trans (af qw dH.size);have Ip:=ah hg4 qw;have b7:=aU Ip);refine bodyPost_ret (v:=.tuple #[.agg #[.bool PK.1.iter,.slice GI PK.1.args.length cz,str PK.1.res,.slice py PK.1.sigs.length cy],.int .i64 PK.2]) (by simp[results,Tryz.results27,go_sem,b7.1]) rfl ?_;rw[HX.out];have UH:=bH Ip;refine⟨_,rfl,⟨_,_,rfl,l7,?_,?_⟩,Below.fc CB (b:=w.heap.size) (nl _) _ _ _ _⟩
      · exact(SS.fc r7 (b:=w.heap.size) (by intro b hb;have:=bH hg4;omega) _ _ _ _).mono (by intro b hb;have:=bH hg4;omega)
      · exact(SS.fc s7 (b:=w.heap.size) (by intro b hb;have:=bH hg4;omega) _ _ _ _).mono (by intro b hb;have:=bH hg4;omega)
    · rw[if_pos (.inr (by simp[hfpar]))] at dZ
      have HX:=Lib.hid dZ;rw[hfpar] at Ph;clear dZ HG HP sQ uh hfs hk hnd;go_wp2_with fail;refine bodyPost_ret (v:=.tuple #[.agg #[.bool false,.slice none 0 0,str [],.slice none 0 0],.int .i64 5]) (by simp[results,Tryz.results27,go_sem,b4.1]) rfl ?_;rw[HX.out];exact⟨_,rfl,aT.zero _ _,Below.fc dH (b:=w.heap.size) (nl _) _ _ _ _⟩
  have gt:t.isEmpty=false:=by cases t with|nil=>exact absurd rfl CO|cons=>rfl
  rcases hfpar:f.par with _|_
  · rw[if_pos (.inr (by simp[hfpar,CO]))] at dZ
    have HX:=Lib.hid dZ;rw[hfpar] at Ph;clear dZ HG HP sQ uh hfs hk hnd;go_wp2_with fail;refine bodyPost_ret (v:=.tuple #[.agg #[.bool false,.slice none 0 0,str [],.slice none 0 0],.int .i64 5]) (by simp[results,Tryz.results27,go_sem,b4.1]) rfl ?_;rw[HX.out];exact⟨_,rfl,aT.zero _ _,Below.fc dH (b:=w.heap.size) (nl _) _ _ _ _⟩
  rw[if_neg (by simp[hk,hfpar,CO])] at dZ;rw[hfpar] at Ph
  replace dZ:=Lib.hid dZ
  go_upto_region 9 with(go_at_call 59;refine(HG _ _ dH qv).mono ?_;rintro e w5 ⟨rfl,cW⟩);have iq:=dH.trans (af cW dH.size);have Io:=ah hg4 cW;have b5:=aU Io;have bs5:=gB (ah hs4 cW);have Us:=ah Wq cW;have bf5:=bL Us;have Ca:=qv.below cW (nl _);have OO:=E6.below cW (nl _);clear HG b4 VO Ph XK
  replace dZ:=dZ.out
  by_cases bY:GK=0
  case neg=>
   obtain⟨g1,g2⟩:=bC bY;rw[if_pos ⟨hfpar,bY⟩] at dZ;have HX:=Lib.hid dZ;clear dZ HP sQ uh hfs hk hnd bY;go_wp2_with fail;refine bodyPost_ret (v:=.tuple #[.agg #[.bool false,.slice none 0 0,str [],.slice none 0 0],.int .i64 GK]) (by simp[results,Tryz.results27,go_sem,b5.1]) rfl ?_;rw[HX.out];exact⟨_,rfl,aT.zero _ _,Below.fc iq (b:=w.heap.size) (nl _) _ _ _ _⟩
  subst bY;rw[if_neg (by simp)] at dZ
  replace sQ:=sQ (uh.out rfl) f.ag (λo ho=>⟨Nat.le_trans (hnd.2 o ho).1 (by decide),Nat.le_trans (hnd.2 o ho).2 (by decide)⟩)
  replace hfs:=hfs.out f.ag
  rw[hfs] at sQ;clear uh hfs;rcases nY:DZ ⟨l,_,P⟩ f.ag t with _|_
  · rw[if_pos ⟨hfpar,nY⟩] at dZ
    rw[nY] at sQ;have HX:=Lib.hid dZ;clear dZ HP hk hnd nY;go_wp2_with (go_at_call 76;refine(sQ _ _ _ OO iq Ca).mono ?_;rintro e w6 ⟨rfl,jw⟩;have Gy:=iq.trans (af jw iq.size);have nZ:=ah Io jw;have b6:=aU nZ;have XI:=(bL (ah Us jw)));refine bodyPost_ret (v:=.tuple #[.agg #[.bool false,.slice none 0 0,str [],.slice none 0 0],.int .i64 41]) (by simp[results,Tryz.results27,go_sem,b6.1]) rfl ?_;rw[HX.out];exact⟨_,rfl,aT.zero _ _,Below.fc Gy (b:=w.heap.size) (nl _) _ _ _ _⟩
  · rw[if_neg (by simp[nY])] at dZ
    rw[nY] at sQ;have dZ:RS=bZ o.sig t:=dZ;generalize bZ o.sig t=PK at *;have HX:=Lib.hid dZ;clear dZ hk hnd nY;obtain⟨b1,o1,av,sv,rfl,_,⟨_,kC⟩,dy,cQ,uR,kK,mR,qG,sN⟩:=Mf.at (k:=0) (x:=o) (by rw[EI.out];rfl);rw[Nat.zero_mul,Nat.add_zero] at uR kK mR qG sN;go_wp2_with (first
     | (go_at_call 64;refine(HP _ _ Gy ⟨_,_,rfl,kC,(dy.below cW (nl _)).below jw (nl _),(cQ.below cW (nl _)).below jw (nl _)⟩).mono ?_;rintro e w7 ⟨u7,rfl,⟨a7,q7,rfl,l7,r7,s7⟩,qw⟩;obtain⟨GI,cz,rfl,_⟩:=r7.shape;obtain⟨py,cy,rfl,_⟩:=s7.shape;have CB:=Gy.trans (af qw Gy.size);have Ip:=ah nZ qw;have b7:=aU Ip)
     | (go_at_call 76;refine(sQ _ _ _ OO iq Ca).mono ?_;rintro e w6 ⟨rfl,jw⟩;have Gy:=iq.trans (af jw iq.size);have nZ:=ah Io jw;have b6:=aU nZ;have XI:=(bL (ah Us jw));have GJ:=cW.trans (af jw cW.size);have ka6:=Below.keep GJ uR;have kb6:=Below.keep GJ kK;have kc6:=Below.keep GJ mR;have kd6:=Below.keep GJ qG;have ke6:=Below.keep GJ sN))
    refine bodyPost_ret (v:=.tuple #[.agg #[.bool PK.1.iter,.slice GI PK.1.args.length cz,str PK.1.res,.slice py PK.1.sigs.length cy],.int .i64 PK.2]) (by simp[results,Tryz.results27,go_sem,b7.1]) rfl ?_;rw[HX.out];have UH:=bH Ip;refine⟨_,rfl,⟨_,_,rfl,l7,?_,?_⟩,Below.fc CB (b:=w.heap.size) (nl _) _ _ _ _⟩
    · exact(SS.fc r7 (b:=w.heap.size) (by intro b hb;have:=bH nZ;omega) _ _ _ _).mono (by intro b hb;have:=bH nZ;omega)
    · exact(SS.fc s7 (b:=w.heap.size) (by intro b hb;have:=bH nZ;omega) _ _ _ _).mono (by intro b hb;have:=bH nZ;omega)
end Go.Proofs.YtakgjcfkdemipaaGreatDoor
