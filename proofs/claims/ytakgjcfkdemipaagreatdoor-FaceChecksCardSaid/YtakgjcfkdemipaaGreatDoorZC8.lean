/-
  Lemmas for the statement: contract: of the package face: Find. Conditions: bounds of lengths; the variable strings.asciiSpace.
-/
import Derived.Test.YtakgjcfkdemipaaGreatDoorZB28
import Derived.Test.YtakgjcfkdemipaaGreatDoorZBn
import Derived.Test.YtakgjcfkdemipaaGreatDoorZC7
set_option maxHeartbeats 25600000
namespace Go.Proofs.YtakgjcfkdemipaaGreatDoor
open Go Go.RowKit
def vak (w:World) (b:Nat) (a0 a1 a2 a3 a4:Value):World:=((((w.setCell ⟨b,0,none⟩ a0).setCell ⟨b,1,none⟩ a1).setCell ⟨b,2,none⟩ a2).setCell ⟨b,3,none⟩ a3).setCell ⟨b,4,none⟩ a4
theorem Below.vak {B:Nat} {a w:World} (h:Below B a w) {b:Nat} (hb:B≤b) (a0 a1 a2 a3 a4:Value):Below B a (vak w b a0 a1 a2 a3 a4):=
 ((((h.setCell (p:=⟨b,0,none⟩) hb _).setCell (p:=⟨b,1,none⟩) hb _).setCell (p:=⟨b,2,none⟩) hb _).setCell (p:=⟨b,3,none⟩) hb _).setCell (p:=⟨b,4,none⟩) hb _
theorem aY.vak {D:Nat→Prop} {w:World} {v:Value} {l:List aL} (h:aY D w v l) {b:Nat} (hb:∀b',D b'→b'≠b) (a0 a1 a2 a3 a4:Value):aY D (vak w b a0 a1 a2 a3 a4) v l:=
 ((((h.set (a:=⟨b,0,none⟩) hb _).set (a:=⟨b,1,none⟩) hb _).set (a:=⟨b,2,none⟩) hb _).set (a:=⟨b,3,none⟩) hb _).set (a:=⟨b,4,none⟩) hb _
theorem vdd {w:World} {b:Nat} {a0 a1 a2 a3 a4:Value} {t:TypeId} (h:w.heap[b]? =some (.cells #[a0,a1,a2,a3,a4] t (0,0))) (u:Value):(w.setCell ⟨b,3,none⟩ u).heap[b]? =some (.cells #[a0,a1,a2,u,a4] t (0,0)):=heap_setCell_same w b 3 _ t u h
theorem vde {w:World} {b:Nat} {a0 a1 a2 a3 a4:Value} {t:TypeId} (h:w.heap[b]? =some (.cells #[a0,a1,a2,a3,a4] t (0,0))) (u:Value):(w.setCell ⟨b,4,none⟩ u).heap[b]? =some (.cells #[a0,a1,a2,a3,u] t (0,0)):=heap_setCell_same w b 4 _ t u h
def aA.zero:aA:=⟨[],0,false,[],[]⟩
def vai (l:List aA) (n:List UInt8):aA×Nat:=if(kS l).2≠0 then(.zero,(kS l).2) else match ew l n with|none=>(.zero,5)|some f=>(f,0)
theorem dO.zero (D:Nat→Prop) (w:World):dO D w mD .zero:=⟨_,_,rfl,Nat.zero_le _,aY.nil _ _ _ _,aY.nil _ _ _ _⟩
theorem vdg (l:List aA):cE l []=(kS l).2:=by
 unfold cE
 split
 · rfl
 · rename_i h
   rw[if_pos (by decide)];exact(Classical.not_not.1 h).symm
def vbc (D:Nat→Prop) (w:World) (v:Value) (f:aA):Prop:=∃n q,v=.agg #[str f.name,.int .u8 f.kind,.bool f.par,n,q]∧f.name.length≤maxLen∧aY D w n f.ag∧aY D w q f.ops∧∀b,q.ownBlock=some b→mN w b
theorem vbc.zero (D:Nat→Prop) (w:World):vbc D w mD .zero:=⟨_,_,rfl,Nat.zero_le _,aY.nil _ _ _ _,aY.nil _ _ _ _,λ_ h=>by cases h⟩
theorem FC.vma {T:TypeId} {B:Nat} {w:World} {v:Value} {l:List aL} (h:FC T B w v l) {b:Nat} (hb:v.ownBlock=some b):mN w b:=by
 obtain⟨cs,h1,_⟩:=h
 rcases h1.2 with⟨rfl,_⟩|⟨g,cap,cur,rfl,_,hh,_⟩
 · cases hb
 · cases hb
   exact⟨cur,T,hh⟩
set_option maxRecDepth 8000 in
theorem vcm {D:Nat→Prop} (l:List aA) (v:Value) (n:List UInt8) (w:World) (hT:dW w) (hv:bG D w v l) (hn:∀f∈l,f.ag.length≤100000) (hnm:n.length≤maxLen):
 Calls Tryz.prog 42 #[v,str n] w λe w'=>∃u,e=.returned (.tuple #[u,.int .i64 (vai l n).2])∧vbc (λb=>w.heap.size≤b) w' u (vai l n).1∧Below w.heap.size w w':=by
 have FO:=(zb w).alloc zr (.cells #[.string ⟨#[]⟩,.int .u8 0,.bool false,.slice none 0 0,.slice none 0 0] 58)
 have Pz:=heap_alloc_new w (.cells #[.string ⟨#[]⟩,.int .u8 0,.bool false,.slice none 0 0,.slice none 0 0] 58)
 have HC:=ko l v [] (.slice none 0 0) false _ (hT.below FO zr) (hv.below FO zr) (aY.nil D _ _ _) hn (by simp)
 have hsc:=λh=>fU (l:=l) (ag:=[]) (par:=false) h
 have hap:=λh=>oM (l:=l) (ag:=[]) h
 have HF:=λ(ha:mB l) m W (hs:dV D W m l)=>qG l m n W hs ha hnm
 have HK:=λ(W0:World) x (s:bP) (h1:s.args.length≤100000) (h2:s.sigs.length≤100000) W (hx:aT (λb=>b<W0.heap.size) W x s)=>vaz x s W hx h1 h2
 obtain⟨p,c,rfl,_⟩:=hv.shape
 have cM:vai l n=if(kS l).2≠0 then(.zero,(kS l).2) else match ew l n with|none=>(.zero,5)|some f=>(f,0):=rfl
 have tJ:∀f,ew l n=some f→f∈l:=λf h=>List.mem_of_find?_eq_some h
 rw[←vdg] at cM
 generalize vai l n=RS at *
 generalize cE l []=AS at *
 generalize ew l n=FK at *
 clear hT hv hn
 replace cM:=zh cM
 replace hsc:=zh hsc
 replace hap:=zh hap
 replace tJ:=zh tJ
 go_enter Tryz.func42,Tryz.ntmps42
 go_upto_region 2 with(go_at_call 58;refine HC.mono ?_;clear HC;rintro e w1 ⟨m0,q1,n1,c1,nH,rfl,hS,au⟩)
 have bL:=FO.trans (af au (by simp))
 have hg1:=ah Pz au
 have cD:=bL.alloc bL.size (.cells #[.map m0,.slice q1 n1 c1,.bool nH] 86)
 have hg2:=aD (.cells #[.map m0,.slice q1 n1 c1,.bool nH] 86) hg1
 have hs2:=heap_alloc_new w1 (.cells #[.map m0,.slice q1 n1 c1,.bool nH] 86)
 by_cases h0:AS=0
 case neg=>
  obtain⟨g1,g2⟩:=bK h0
  replace cM:=cM.out
  rw[if_pos h0] at cM;have HX:=zh cM;have b4:=bz hg2;clear h0 hsc hap cM HF HK tJ hS;go_wp2_with fail;refine bodyPost_ret (v:=.tuple #[mD,.int .i64 AS]) (by simp[results,Tryz.results42,go_sem,b4.1]) rfl ?_;rw[HX.out];exact⟨_,rfl,vbc.zero _ _,Below.vak cD (b:=w.heap.size) zr _ _ _ _ _⟩
 subst h0
 replace cM:=cM.out
 rw[if_neg (by simp)] at cM
 have hS1:=hS rfl
 clear hS
 obtain⟨m1,rfl,K8⟩:∃k,m0=some k∧dV D w1 k l:=by
  obtain⟨k,nv,e,hs,_⟩:=hS1;simp at e;exact⟨k,e.1,hs⟩
 have qd:=(zb w1).alloc zr (.cells #[.map (some m1),.slice q1 n1 c1,.bool nH] 86)
 have K9:=K8.below qd zr
 have QM:=eZ hs2
 have iw:=hsc.out rfl
 obtain⟨mV,hnp⟩:=hap.out rfl
 replace HF:=HF iw.1
 clear hsc hap qd K8 hS1 iw hnp
 rcases FK with _|f
 · have HX:=zh cM
   clear cM HK tJ mV;go_wp2_with (go_at_call 75;refine(HF _ _ K9).mono ?_;rintro e w3 ⟨fv,rfl,hnone,hsome,aH⟩;have dx:=cD.trans (af aH cD.size);obtain rfl:=hnone (by first|rfl|trivial);have eD:=dx.alloc dx.size (.cells #[.string ⟨#[]⟩,.int .u8 0,.bool false,.slice none 0 0,.slice none 0 0] 58);have hg4:=aD (.cells #[.string ⟨#[]⟩,.int .u8 0,.bool false,.slice none 0 0,.slice none 0 0] 58) (ah hg2 aH);have b4:=bz hg4);refine bodyPost_ret (v:=.tuple #[mD,.int .i64 5]) (by simp[results,Tryz.results42,go_sem,b4.1]) rfl ?_;rw[HX.out];exact⟨_,rfl,vbc.zero _ _,Below.vak eD (b:=w.heap.size) zr _ _ _ _ _⟩
 have qT:=dQ (mV f (tJ.out f rfl))
 dsimp only at cM
 have hal:∀o∈f.ops,o.sig.args.length≤100000∧o.sig.sigs.length≤100000:=λo ho=>by
  have:=eN (qT.2.2.2.2.2.2.2.1 o ho).2;have h1:=this.1;have h2:=this.2.1;omega
 have hnd:=ec qT.2.2.2.1
 have hol:f.ops.length≤20:=qT.2.2.2.2.2.2.1
 have HX:=zh cM
 clear tJ mV qT cM
 replace hal:=zh hal
 replace hnd:=zh hnd
 go_upto_region 7 with(go_at_call 75;refine(HF _ _ K9).mono ?_;rintro e w3 ⟨fv,rfl,hnone,hsome,aH⟩;obtain⟨nv,ov,rfl,hfl,wU,zx⟩:=hsome f (by first|rfl|trivial);obtain⟨pn,cn,rfl,_⟩:=wU.shape;obtain⟨po,co,rfl,_⟩:=zx.shape)
 have nE:=(zb w3).alloc zr (.cells #[.string ⟨f.name.toArray⟩,.int .u8 f.kind,.bool f.par,.slice pn f.ag.length cn,.slice po f.ops.length co] 58)
 have M3:=(cD.trans (af aH cD.size)).alloc (cD.trans (af aH cD.size)).size (.cells #[.string ⟨f.name.toArray⟩,.int .u8 f.kind,.bool f.par,.slice pn f.ag.length cn,.slice po f.ops.length co] 58)
 have KL:=aD (.cells #[.string ⟨f.name.toArray⟩,.int .u8 f.kind,.bool f.par,.slice pn f.ag.length cn,.slice po f.ops.length co] 58) (ah hg2 aH)
 have vij:=heap_alloc_new w3 (.cells #[.string ⟨f.name.toArray⟩,.int .u8 f.kind,.bool f.par,.slice pn f.ag.length cn,.slice po f.ops.length co] 58)
 have vk9:=wU.below nE zr
 have vd8:=zx.below nE zr
 have vll:w3.heap.size<(w3.alloc (.cells #[.string ⟨f.name.toArray⟩,.int .u8 f.kind,.bool f.par,.slice pn f.ag.length cn,.slice po f.ops.length co] 58)).heap.size:=by simp
 clear HF hnone hsome wU zx nE aH cD hg2 hs2 K9 QM au bL hg1 FO Pz
 generalize w3.alloc (.cells #[.string ⟨f.name.toArray⟩,.int .u8 f.kind,.bool f.par,.slice pn f.ag.length cn,.slice po f.ops.length co] 58)=w7 at *
 generalize w3.heap.size=F at *
 generalize w1.heap.size=G at *
 have vml:=bz vij
 go_upto_region 8 with fail
 have vh3:=(zb w7).alloc zr (.cells #[.string ⟨f.name.toArray⟩,.int .u8 f.kind,.bool f.par,.slice pn f.ag.length cn,.slice po f.ops.length co] 58)
 have vjj:=heap_alloc_new w7 (.cells #[.string ⟨f.name.toArray⟩,.int .u8 f.kind,.bool f.par,.slice pn f.ag.length cn,.slice po f.ops.length co] 58)
 have vig:w7.heap.size<(w7.alloc (.cells #[.string ⟨f.name.toArray⟩,.int .u8 f.kind,.bool f.par,.slice pn f.ag.length cn,.slice po f.ops.length co] 58)).heap.size:=by simp
 generalize w7.alloc (.cells #[.string ⟨f.name.toArray⟩,.int .u8 f.kind,.bool f.par,.slice pn f.ag.length cn,.slice po f.ops.length co] 58)=w8 at *
 generalize Ub:w7.heap.size=O at *
 have vl1:=bz vjj
 have vkh:=cG vij vh3 vll
 have vl0:=bz vkh
 have vmt:F≠O:=by omega
 have vka:O<(w8.setCell ⟨O,3,none⟩ (.slice none 0 0)).heap.size:=by simpa[World.setCell] using vig
 have vh4:=vh3.setCell (p:=⟨O,3,none⟩) zr (.slice none 0 0)
 have vkj:=vdd vjj (.slice none 0 0)
 go_upto_region 9 with fail
 clear vkh vl0 vl1 vjj vh3 vig
 have vjq:=hnd.out.1
 have vlp:w.heap.size<O:=by have:=bA KL;omega
 obtain⟨B,DA⟩:∃B,B=(w8.setCell ⟨O,3,none⟩ (.slice none 0 0)).heap.size:=⟨_,rfl⟩
 have vhk:O<B:=by rw[DA];exact vka
 have viq:=bz (cG vij vh4 (by omega))
 have vh5:B≤(w8.setCell ⟨O,3,none⟩ (.slice none 0 0)).heap.size:=Nat.le_of_eq DA
 clear vka DA
 generalize w8.setCell ⟨O,3,none⟩ (.slice none 0 0)=w9 at *
 go_wp2_with fail
 go_loopw [39] (λy wx=>∃i:Nat,i≤f.ag.length∧y=.int .i64 i∧Below O w7 wx∧∃u,wx.heap[O]? =some (.cells #[.string ⟨f.name.toArray⟩,.int .u8 f.kind,.bool f.par,u,.slice po f.ops.length co] 58)∧FC 79 B wx u (f.ag.take i)∧B≤wx.heap.size) (λy _=>f.ag.length - (intOf y).toNat)
 case atStart=>exact⟨0,Nat.zero_le _,by go_num,vh4,_,vkj,FC.nil _ _ _,vh5⟩
 case round =>
  obtain⟨i,hi,rfl,hb,u,R4,hown,T7⟩:=hrel;obtain⟨pv,cv,rfl⟩:=hown.shape;have hN:=vk9.below hb (Nat.le_of_eq Ub)
  by_cases hlt:i<f.ag.length
  case neg =>
   obtain rfl:i=f.ag.length:=by omega
   rw[List.take_length] at hown R4;have bo:=bz R4;clear viq vkj vh4 vh5 vk9 hN;go_upto_region 15 with fail;have hb':=hb.setCell (p:=⟨O,4,none⟩) zr (.slice none 0 0);have vi9:=vde R4 (.slice none 0 0);have sA:aY (λb=>O<b∧b<(wr.setCell ⟨O,4,none⟩ (.slice none 0 0)).heap.size) (wr.setCell ⟨O,4,none⟩ (.slice none 0 0)) (.slice pv f.ag.length cv) f.ag:=(hown.set (a:=⟨O,4,none⟩) vhk (.slice none 0 0)).x9.fresh.mono λb hb=>⟨by omega,hb.2⟩
   have vbi:B≤(wr.setCell ⟨O,4,none⟩ (.slice none 0 0)).heap.size:=by simpa[World.setCell] using T7
   clear hb R4 hown bo T7;have hb:=hb';have R4:=vi9;clear hb' vi9;generalize wr.setCell ⟨O,4,none⟩ (.slice none 0 0)=yY at *;obtain⟨C,viz⟩:∃C,C=yY.heap.size:=⟨_,rfl⟩
   rw[←viz] at sA vbi;have vj5:O<C:=by omega
   have vgv:C≤yY.heap.size:=Nat.le_of_eq viz;clear viz vhk vbi hi hlt;have viq:=bz (cG vij hb (by omega));go_wp2_with fail;go_loopw [59] (λy wx=>∃i:Nat,i≤f.ops.length∧y=.int .i64 i∧Below O w7 wx∧∃u,wx.heap[O]? =some (.cells #[.string ⟨f.name.toArray⟩,.int .u8 f.kind,.bool f.par,.slice pv f.ag.length cv,u] 58)∧FC 50 C wx u (f.ops.take i)∧C≤wx.heap.size∧aY (λb=>O<b∧b<C) wx (.slice pv f.ag.length cv) f.ag) (λy _=>f.ops.length - (intOf y).toNat)
   case atStart=>exact⟨0,Nat.zero_le _,by go_num,hb,_,R4,FC.nil _ _ _,vgv,sA⟩
   case round=>
    obtain⟨i,hi,rfl,hb,u,R4,hown,T7,vjd⟩:=hrel;obtain⟨pu,cu,rfl⟩:=hown.shape;have hN:=vd8.below hb (Nat.le_of_eq Ub)
    by_cases hlt:i<f.ops.length
    case neg=>
     obtain rfl:i=f.ops.length:=by omega
     rw[List.take_length] at hown R4;have bo:=bz R4;have b4:=bz (cG KL hb vlp);clear vd8 viq;go_wp2_with fail;refine bodyPost_ret (v:=.tuple #[.agg #[.string ⟨f.name.toArray⟩,.int .u8 f.kind,.bool f.par,.slice pv f.ag.length cv,.slice pu f.ops.length cu],.int .i64 0]) (by simp[results,Tryz.results42,go_sem,b4.1]) rfl ?_;rw[HX.out];refine⟨_,rfl,⟨_,_,rfl,hfl,?_,?_,λ_ h=>mN.set (mN.set (mN.set (mN.set (mN.set (hown.vma h) _ _) _ _) _ _) _ _) _ _⟩,Below.vak (M3.trans (af hb (by have:=M3.size;omega))) (b:=w.heap.size) zr _ _ _ _ _⟩
     · exact(aY.vak vjd (b:=w.heap.size) (λb hb=>by have:=hb.1;omega) _ _ _ _ _).mono λb hb=>by have:=hb.1;omega
     · exact(aY.vak hown.x9 (b:=w.heap.size) (λb hb=>by omega) _ _ _ _ _).mono λb hb=>by omega
    case pos=>
     obtain⟨x,hkx⟩:∃x,f.ops[i]? =some x:=⟨_,List.getElem?_eq_getElem hlt⟩
     obtain⟨b1,o1,av,sv,rfl,_,⟨F8,mI⟩,fe,eE,d0,d1,d2,d3,d4⟩:=hN.at hkx;obtain⟨pa,ca,rfl,_⟩:=fe.shape;obtain⟨ps,cs,rfl,_⟩:=eE.shape;have hxl:x.sig.args.length≤100000∧x.sig.sigs.length≤100000:=(hal.out x (List.mem_of_getElem? hkx));have FV:=zh (show f.ops.take i++[x]=f.ops.take (i+1) by rw[List.take_add_one,hkx];rfl);have FP:(f.ops.take i).length+1≤1000:=by rw[List.length_take];have:=hol;omega
     clear hkx hN;generalize f.ops.take i=L at *;go_upto_region 18 with fail;have hE:=(zb wr).alloc zr (.cells #[str x.name,.bool x.sig.iter,.slice pa x.sig.args.length ca,str x.sig.res,.slice ps x.sig.sigs.length cs] 50);have vjm:=heap_alloc_new wr (.cells #[str x.name,.bool x.sig.iter,.slice pa x.sig.args.length ca,str x.sig.res,.slice ps x.sig.sigs.length cs] 50)
     replace R4:=aD (.cells #[str x.name,.bool x.sig.iter,.slice pa x.sig.args.length ca,str x.sig.res,.slice ps x.sig.sigs.length cs] 50) R4
     have vcb:=hown.below hE zr;have vel:aT D _ (.agg #[.bool x.sig.iter,.slice pa x.sig.args.length ca,str x.sig.res,.slice ps x.sig.sigs.length cs]) x.sig:=⟨_,_,rfl,mI,fe.below hE zr,eE.below hE zr⟩;have L6:=Nat.le_trans T7 hE.size;have vix:=hb.trans (af hE (by have:=hb.size;omega));have vlt:=vjd.below hE zr;clear hE fe eE d0 d1 d2 d3 d4 hown hb T7 vjd;generalize wr.heap.size=N at *;generalize wr.alloc (.cells #[str x.name,.bool x.sig.iter,.slice pa x.sig.args.length ca,str x.sig.res,.slice ps x.sig.sigs.length cs] 50)=W at *;refine vax (S:=λw'=>w'.heap[O]? =some (.cells #[.string ⟨f.name.toArray⟩,.int .u8 f.kind,.bool f.par,.slice pv f.ag.length cv,(.slice pu L.length cu)] 58)∧w'.heap[N]? =some (.cells #[str x.name,.bool x.sig.iter,.slice pa x.sig.args.length ca,str x.sig.res,.slice ps x.sig.sigs.length cs] 50)∧FC 50 C w' (.slice pu L.length cu) L∧aT D w' (.agg #[.bool x.sig.iter,.slice pa x.sig.args.length ca,str x.sig.res,.slice ps x.sig.sigs.length cs]) x.sig∧Below W.heap.size W w'∧aY (λb=>O<b∧b<C) w' (.slice pv f.ag.length cv) f.ag) (vny:=λw'=>w'.heap[O]? =some (.cells #[.string ⟨f.name.toArray⟩,.int .u8 f.kind,.bool f.par,.slice pv f.ag.length cv,(.slice pu L.length cu)] 58)∧Below C W w'∧aY (λb=>O<b∧b<C) w' (.slice pv f.ag.length cv) f.ag) (vnz:=λw'=>∃u,w'.heap[O]? =some (.cells #[.string ⟨f.name.toArray⟩,.int .u8 f.kind,.bool f.par,.slice pv f.ag.length cv,u] 58)∧FC 50 C w' u (L++[x])∧Below O W w'∧aY (λb=>O<b∧b<C) w' (.slice pv f.ag.length cv) f.ag) (vn4:=λv w'=>FC 50 C w' v (L++[x])) (v1:=.pointer (some ⟨O,4,none⟩)) (A:=λj v w'=>match j with
      | 0=>v=.pointer (some ⟨O,4,none⟩)
      | 1=>v=.slice pu L.length cu
      | 2=>v=.pointer (some ⟨N,0,none⟩)
      | 3=>v=str x.name
      | 4=>v=.pointer (some ⟨N,1,none⟩)
      | 5=>v=.agg #[.bool x.sig.iter,.slice pa x.sig.args.length ca,str x.sig.res,.slice ps x.sig.sigs.length cs]
      | 6=>aT (λb=>W.heap.size≤b) w' v x.sig
      | 7=>gx (λb=>W.heap.size≤b) w' v x
      | 8=>vb3 50 (λb=>W.heap.size≤b) W.heap.size w' v [x]
      | _=>True) 9 (by kernel_rfl) (by kernel_rfl) (by kernel_rfl) (by kernel_rfl) (by kernel_rfl) (by kernel_rfl) (by kernel_rfl) rfl rfl rfl rfl rfl ?_ ?_ ?_ ?_ ?_ ⟨?_,?_,?_,?_,?_,?_,?_,?_,?_,trivial⟩ ?_ ?_ ?_ ?_
     · intro j v w1 w2 h hb
       match j with
       | 0=>exact h
       | 1=>exact h
       | 2=>exact h
       | 3=>exact h
       | 4=>exact h
       | 5=>exact h
       | 6=>exact aT.below (show aT (λb=>W.heap.size≤b) w1 v x.sig from h) hb zr
       | 7=>exact gx.below (show gx (λb=>W.heap.size≤b) w1 v x from h) hb zr
       | 8=>exact vb3.below (show vb3 50 (λb=>W.heap.size≤b) W.heap.size w1 v [x] from h) hb zr
       | _+9=>trivial
     · exact λw1 w2 h hb=>⟨ah h.1 hb,ah h.2.1 hb,h.2.2.1.below hb zr,h.2.2.2.1.below hb zr,h.2.2.2.2.1.trans (af hb h.2.2.2.2.1.size),h.2.2.2.2.2.below hb zr⟩
     · exact λv w1 w2 h hb=>h.below hb zr
     · exact λw1 w2 h hb=>⟨ah h.1 hb,h.2.1.trans (af hb (Nat.le_trans L6 h.2.1.size)),h.2.2.below hb zr⟩
     · exact⟨ah R4 (zb W).drew,ah vjm (zb W).drew,vcb.below (zb W).drew zr,vel.below (zb W).drew zr,(zb _).drew,vlt.below (zb W).drew zr⟩
     · intro a wx hS hd ho next hn
       have Q9:a.tmps[10]?.getD undef=.pointer (some ⟨O,0,none⟩):=aR (ho 10 (rI (by kernel_rfl)));clear hd ho;unfold Oper.wp;simp only[execOp];simp[go_sem,Q9];exact hn _ _ rfl (zb _)
     · intro a wx hS hd ho next hn
       have vl9:a.tmps[63]?.getD undef=.pointer (some ⟨O,4,none⟩):=aR (hd {on:=0,ground:=.data } (by simp) rfl _ 63 rfl rfl);have hc:=(bz hS.1).1;clear hd ho;unfold Oper.wp;simp only[execOp];simp[go_sem,vl9,hc];exact hn _ _ rfl (zb _)
     · intro a wx hS hd ho next hn
       have vf1:a.tmps[14]?.getD undef=.pointer (some ⟨N,0,none⟩):=aR (ho 14 (rI (by kernel_rfl)));clear hd ho;unfold Oper.wp;simp only[execOp];simp[go_sem,vf1];exact hn _ _ rfl (zb _)
     · intro a wx hS hd ho next hn
       have vla:a.tmps[65]?.getD undef=.pointer (some ⟨N,0,none⟩):=aR (hd {on:=2,ground:=.data } (by simp) rfl _ 65 rfl rfl);have hc:=(bz hS.2.1).1;clear hd ho;unfold Oper.wp;simp only[execOp];simp[go_sem,vla,hc];exact hn _ _ rfl (zb _)
     · intro a wx hS hd ho next hn
       have vf1:a.tmps[14]?.getD undef=.pointer (some ⟨N,0,none⟩):=aR (ho 14 (rI (by kernel_rfl)));clear hd ho;unfold Oper.wp;simp only[execOp];simp[go_sem,vf1];exact hn _ _ rfl (zb _)
     · intro a wx hS hd ho next hn
       have vlc:a.tmps[67]?.getD undef=.pointer (some ⟨N,1,none⟩):=aR (hd {on:=4,ground:=.data } (by simp) rfl _ 67 rfl rfl);have hc:=(bz hS.2.1).1;clear hd ho;unfold Oper.wp;simp only[execOp];simp[go_sem,vlc,hc];exact hn _ _ rfl (zb _)
     · intro a wx hS hd ho next hn
       have vld:a.tmps[68]?.getD undef=.agg #[.bool x.sig.iter,.slice pa x.sig.args.length ca,str x.sig.res,.slice ps x.sig.sigs.length cs]:=aR (hd {on:=5,ground:=.data } (by simp) rfl _ 68 rfl rfl);clear hd ho;unfold Oper.wp;simp only[execOp];simp[go_sem,vld];refine(vaz (.agg #[.bool x.sig.iter,.slice pa x.sig.args.length ca,str x.sig.res,.slice ps x.sig.sigs.length cs]) x.sig wx hS.2.2.2.1 hxl.1 hxl.2).mono ?_;rintro e w3 ⟨u,rfl,hu,aH,_⟩;exact hn _ _ (hu.mono λb hb=>Nat.le_trans hS.2.2.2.2.1.size hb) aH
     · intro a wx hS hd ho next hn
       have vlb:a.tmps[66]?.getD undef=str x.name:=aR (hd {on:=3,ground:=.data } (by simp) rfl _ 66 rfl rfl);have hu:aT (λb=>W.heap.size≤b) wx (a.eval (.tmp 69)) x.sig:=hd {on:=6,ground:=.data } (by simp) rfl _ 69 rfl rfl;obtain⟨u1,u2,vo8,vm4,vgf,Oe⟩:=hu;have vle:=aR vo8;clear hd ho;unfold Oper.wp;simp only[execOp];simp[go_sem,vlb,vle];exact hn _ _ ⟨u1,u2,rfl,⟨F8,mI⟩,vgf,Oe⟩ (zb _)
     · intro a wx hS hd ho next hn
       have hu:gx (λb=>W.heap.size≤b) wx (a.eval (.tmp 70)) x:=hd {on:=7,ground:=.data } (by simp) rfl _ 70 rfl rfl;obtain⟨u1,u2,vo8,Cd,vgf,Oe⟩:=hu;have vlf:=aR vo8;clear hd ho;unfold Oper.wp;simp only[execOp];simp[go_sem,vlf];exact hn _ _ (vch (D:=λb=>W.heap.size≤b) wx hS.2.2.2.2.1.size rfl (by unfold maxLen;simp) ⟨_,_,_,rfl,Cd,vgf,Oe,rfl⟩) ((zb _).alloc zr _)
     · intro a wx hS hA hout next hn
       have eL:a.eval (.tmp 64)=.slice pu L.length cu:=hA 1 _ 64 (by decide) rfl rfl;have hR:vb3 50 (λb=>W.heap.size≤b) W.heap.size wx (a.eval (.tmp 71)) [x]:=hA 8 _ 71 (by decide) rfl rfl;exact vas vfe (.tmp 64) (.tmp 71) rfl eL rfl hS.2.2.1 hR (by simp) (λb hb=>⟨Nat.le_trans L6 hb,λe=>by have:=(vcb.lt e).2;omega⟩) (by simp;omega) (Nat.le_trans L6 hS.2.2.2.2.1.size) (λv' w' h1 h2=>hn v' w' h1 ⟨(h2.block O vj5).trans hS.1,(af hS.2.2.2.2.1 L6).trans h2,hS.2.2.2.2.2.agree (λb hb _=>h2.block b hb.2)⟩)
     · intro a wx hout next hn
       have Q9:a.tmps[10]?.getD undef=.pointer (some ⟨O,0,none⟩):=aR (hout 10 (rI (by kernel_rfl)));unfold Oper.wp;simp only[execOp];simp[go_sem,Q9];exact hn
     · intro a wx hS vei IA hout next hn
       have vlh:=aR IA;obtain⟨p',c',e⟩:=vei.shape;rw[e,List.length_append] at vei;rw[List.length_append] at e;have vlg:=aR e;have hc:=bz hS.1;clear hout IA e;unfold Oper.wp;simp only[execOp];simp[go_sem,vlg,vlh,hc];exact hn undef _ ⟨_,vde hS.1 _,vei.set (a:=⟨O,4,none⟩) vj5 _,(af hS.2.1 (Nat.le_of_lt vj5)).setCell (p:=⟨O,4,none⟩) zr _,hS.2.2.set (a:=⟨O,4,none⟩) (λb hb=>by have:=hb.1;simp only;omega) _⟩
     · intro a wx hdf hsz hout hS
       obtain⟨u,hg',hown',hb',hx'⟩:=hS;have ha:=wg hdf hsz hout;simp only[dA,pz,pw] at ha;generalize a.tmps.getD 63 undef=z0 at ha;generalize a.tmps.getD 64 undef=z1 at ha;generalize a.tmps.getD 65 undef=z2 at ha;generalize a.tmps.getD 66 undef=z3 at ha;generalize a.tmps.getD 67 undef=z4 at ha;generalize a.tmps.getD 68 undef=z5 at ha;generalize a.tmps.getD 69 undef=vov at ha;generalize a.tmps.getD 70 undef=vow at ha;generalize a.tmps.getD 71 undef=vox at ha;generalize a.tmps.getD 72 undef=z9 at ha;generalize a.tmps.getD 73 undef=z10 at ha;subst ha;clear hdf hsz hout;go_wp2_with fail;exact⟨⟨i+1,hlt,by go_num,vix.trans hb',u,hg',FV.out▸hown',Nat.le_trans L6 hb'.size,hx'⟩,by simp only[intOf];omega⟩
  case pos=>
   obtain⟨x,hkx⟩:∃x,f.ag[i]? =some x:=⟨_,List.getElem?_eq_getElem hlt⟩
   obtain⟨b1,o1,av,sv,rfl,_,⟨F8,mI⟩,fe,eE,d0,d1,d2,d3,d4⟩:=hN.at hkx;obtain⟨pa,ca,rfl,_⟩:=fe.shape;obtain⟨ps,cs,rfl,_⟩:=eE.shape;have hxl:x.sig.args.length≤100000∧x.sig.sigs.length≤100000:=(by have:=hnd.out.2 x (List.mem_of_getElem? hkx);omega);have FV:=zh (show f.ag.take i++[x]=f.ag.take (i+1) by rw[List.take_add_one,hkx];rfl);have FP:(f.ag.take i).length+1≤1000:=by rw[List.length_take];have:=vjq;omega
   clear hkx hN;generalize f.ag.take i=L at *;go_upto_region 12 with fail;have hE:=(zb wr).alloc zr (.cells #[str x.name,.bool x.sig.iter,.slice pa x.sig.args.length ca,str x.sig.res,.slice ps x.sig.sigs.length cs] 79);have vjm:=heap_alloc_new wr (.cells #[str x.name,.bool x.sig.iter,.slice pa x.sig.args.length ca,str x.sig.res,.slice ps x.sig.sigs.length cs] 79)
   replace R4:=aD (.cells #[str x.name,.bool x.sig.iter,.slice pa x.sig.args.length ca,str x.sig.res,.slice ps x.sig.sigs.length cs] 79) R4
   have vcb:=hown.below hE zr;have vel:aT D _ (.agg #[.bool x.sig.iter,.slice pa x.sig.args.length ca,str x.sig.res,.slice ps x.sig.sigs.length cs]) x.sig:=⟨_,_,rfl,mI,fe.below hE zr,eE.below hE zr⟩;have L6:=Nat.le_trans T7 hE.size;have vix:=hb.trans (af hE (by have:=hb.size;omega));clear hE fe eE d0 d1 d2 d3 d4 hown hb T7;generalize wr.heap.size=N at *;generalize wr.alloc (.cells #[str x.name,.bool x.sig.iter,.slice pa x.sig.args.length ca,str x.sig.res,.slice ps x.sig.sigs.length cs] 79)=W at *;refine vax (S:=λw'=>w'.heap[O]? =some (.cells #[.string ⟨f.name.toArray⟩,.int .u8 f.kind,.bool f.par,(.slice pv L.length cv),.slice po f.ops.length co] 58)∧w'.heap[N]? =some (.cells #[str x.name,.bool x.sig.iter,.slice pa x.sig.args.length ca,str x.sig.res,.slice ps x.sig.sigs.length cs] 79)∧FC 79 B w' (.slice pv L.length cv) L∧aT D w' (.agg #[.bool x.sig.iter,.slice pa x.sig.args.length ca,str x.sig.res,.slice ps x.sig.sigs.length cs]) x.sig∧Below W.heap.size W w') (vny:=λw'=>w'.heap[O]? =some (.cells #[.string ⟨f.name.toArray⟩,.int .u8 f.kind,.bool f.par,(.slice pv L.length cv),.slice po f.ops.length co] 58)∧Below B W w') (vnz:=λw'=>∃u,w'.heap[O]? =some (.cells #[.string ⟨f.name.toArray⟩,.int .u8 f.kind,.bool f.par,u,.slice po f.ops.length co] 58)∧FC 79 B w' u (L++[x])∧Below O W w') (vn4:=λv w'=>FC 79 B w' v (L++[x])) (v1:=.pointer (some ⟨O,3,none⟩)) (A:=λj v w'=>match j with
    | 0=>v=.pointer (some ⟨O,3,none⟩)
    | 1=>v=.slice pv L.length cv
    | 2=>v=.pointer (some ⟨N,0,none⟩)
    | 3=>v=str x.name
    | 4=>v=.pointer (some ⟨N,1,none⟩)
    | 5=>v=.agg #[.bool x.sig.iter,.slice pa x.sig.args.length ca,str x.sig.res,.slice ps x.sig.sigs.length cs]
    | 6=>aT (λb=>W.heap.size≤b) w' v x.sig
    | 7=>gx (λb=>W.heap.size≤b) w' v x
    | 8=>vb3 79 (λb=>W.heap.size≤b) W.heap.size w' v [x]
    | _=>True) 9 (by kernel_rfl) (by kernel_rfl) (by kernel_rfl) (by kernel_rfl) (by kernel_rfl) (by kernel_rfl) (by kernel_rfl) rfl rfl rfl rfl rfl ?_ ?_ ?_ ?_ ?_ ⟨?_,?_,?_,?_,?_,?_,?_,?_,?_,trivial⟩ ?_ ?_ ?_ ?_
   · intro j v w1 w2 h hb
     match j with
     | 0=>exact h
     | 1=>exact h
     | 2=>exact h
     | 3=>exact h
     | 4=>exact h
     | 5=>exact h
     | 6=>exact aT.below (show aT (λb=>W.heap.size≤b) w1 v x.sig from h) hb zr
     | 7=>exact gx.below (show gx (λb=>W.heap.size≤b) w1 v x from h) hb zr
     | 8=>exact vb3.below (show vb3 79 (λb=>W.heap.size≤b) W.heap.size w1 v [x] from h) hb zr
     | _+9=>trivial
   · exact λw1 w2 h hb=>⟨ah h.1 hb,ah h.2.1 hb,h.2.2.1.below hb zr,h.2.2.2.1.below hb zr,h.2.2.2.2.trans (af hb h.2.2.2.2.size)⟩
   · exact λv w1 w2 h hb=>h.below hb zr
   · exact λw1 w2 h hb=>⟨ah h.1 hb,h.2.trans (af hb (Nat.le_trans L6 h.2.size))⟩
   · exact⟨ah R4 (zb W).drew,ah vjm (zb W).drew,vcb.below (zb W).drew zr,vel.below (zb W).drew zr,(zb _).drew⟩
   · intro a wx hS hd ho next hn
     have Q9:a.tmps[10]?.getD undef=.pointer (some ⟨O,0,none⟩):=aR (ho 10 (rI (by kernel_rfl)));clear hd ho;unfold Oper.wp;simp only[execOp];simp[go_sem,Q9];exact hn _ _ rfl (zb _)
   · intro a wx hS hd ho next hn
     have Rc:a.tmps[43]?.getD undef=.pointer (some ⟨O,3,none⟩):=aR (hd {on:=0,ground:=.data } (by simp) rfl _ 43 rfl rfl);have hc:=(bz hS.1).1;clear hd ho;unfold Oper.wp;simp only[execOp];simp[go_sem,Rc,hc];exact hn _ _ rfl (zb _)
   · intro a wx hS hd ho next hn
     have viu:a.tmps[12]?.getD undef=.pointer (some ⟨N,0,none⟩):=aR (ho 12 (rI (by kernel_rfl)));clear hd ho;unfold Oper.wp;simp only[execOp];simp[go_sem,viu];exact hn _ _ rfl (zb _)
   · intro a wx hS hd ho next hn
     have Rf:a.tmps[45]?.getD undef=.pointer (some ⟨N,0,none⟩):=aR (hd {on:=2,ground:=.data } (by simp) rfl _ 45 rfl rfl);have hc:=(bz hS.2.1).1;clear hd ho;unfold Oper.wp;simp only[execOp];simp[go_sem,Rf,hc];exact hn _ _ rfl (zb _)
   · intro a wx hS hd ho next hn
     have viu:a.tmps[12]?.getD undef=.pointer (some ⟨N,0,none⟩):=aR (ho 12 (rI (by kernel_rfl)));clear hd ho;unfold Oper.wp;simp only[execOp];simp[go_sem,viu];exact hn _ _ rfl (zb _)
   · intro a wx hS hd ho next hn
     have LY:a.tmps[47]?.getD undef=.pointer (some ⟨N,1,none⟩):=aR (hd {on:=4,ground:=.data } (by simp) rfl _ 47 rfl rfl);have hc:=(bz hS.2.1).1;clear hd ho;unfold Oper.wp;simp only[execOp];simp[go_sem,LY,hc];exact hn _ _ rfl (zb _)
   · intro a wx hS hd ho next hn
     have MO:a.tmps[48]?.getD undef=.agg #[.bool x.sig.iter,.slice pa x.sig.args.length ca,str x.sig.res,.slice ps x.sig.sigs.length cs]:=aR (hd {on:=5,ground:=.data } (by simp) rfl _ 48 rfl rfl);clear hd ho;unfold Oper.wp;simp only[execOp];simp[go_sem,MO];refine(vaz (.agg #[.bool x.sig.iter,.slice pa x.sig.args.length ca,str x.sig.res,.slice ps x.sig.sigs.length cs]) x.sig wx hS.2.2.2.1 hxl.1 hxl.2).mono ?_;rintro e w3 ⟨u,rfl,hu,aH,_⟩;exact hn _ _ (hu.mono λb hb=>Nat.le_trans hS.2.2.2.2.size hb) aH
   · intro a wx hS hd ho next hn
     have Rh:a.tmps[46]?.getD undef=str x.name:=aR (hd {on:=3,ground:=.data } (by simp) rfl _ 46 rfl rfl);have hu:aT (λb=>W.heap.size≤b) wx (a.eval (.tmp 49)) x.sig:=hd {on:=6,ground:=.data } (by simp) rfl _ 49 rfl rfl;obtain⟨u1,u2,vo8,vm4,vgf,Oe⟩:=hu;have MP:=aR vo8;clear hd ho;unfold Oper.wp;simp only[execOp];simp[go_sem,Rh,MP];exact hn _ _ ⟨u1,u2,rfl,⟨F8,mI⟩,vgf,Oe⟩ (zb _)
   · intro a wx hS hd ho next hn
     have hu:gx (λb=>W.heap.size≤b) wx (a.eval (.tmp 50)) x:=hd {on:=7,ground:=.data } (by simp) rfl _ 50 rfl rfl;obtain⟨u1,u2,vo8,Cd,vgf,Oe⟩:=hu;have vl6:=aR vo8;clear hd ho;unfold Oper.wp;simp only[execOp];simp[go_sem,vl6];exact hn _ _ (vch (D:=λb=>W.heap.size≤b) wx hS.2.2.2.2.size rfl (by unfold maxLen;simp) ⟨_,_,_,rfl,Cd,vgf,Oe,rfl⟩) ((zb _).alloc zr _)
   · intro a wx hS hA hout next hn
     have eL:a.eval (.tmp 44)=.slice pv L.length cv:=hA 1 _ 44 (by decide) rfl rfl;have hR:vb3 79 (λb=>W.heap.size≤b) W.heap.size wx (a.eval (.tmp 51)) [x]:=hA 8 _ 51 (by decide) rfl rfl;exact vas vdz (.tmp 44) (.tmp 51) rfl eL rfl hS.2.2.1 hR (by simp) (λb hb=>⟨Nat.le_trans L6 hb,λe=>by have:=(vcb.lt e).2;omega⟩) (by simp;omega) (Nat.le_trans L6 hS.2.2.2.2.size) (λv' w' h1 h2=>hn v' w' h1 ⟨(h2.block O vhk).trans hS.1,(af hS.2.2.2.2 L6).trans h2⟩)
   · intro a wx hout next hn
     have Q9:a.tmps[10]?.getD undef=.pointer (some ⟨O,0,none⟩):=aR (hout 10 (rI (by kernel_rfl)));unfold Oper.wp;simp only[execOp];simp[go_sem,Q9];exact hn
   · intro a wx hS vei IA hout next hn
     have vl8:=aR IA;obtain⟨p',c',e⟩:=vei.shape;rw[e,List.length_append] at vei;rw[List.length_append] at e;have vl7:=aR e;have hc:=bz hS.1;clear hout IA e;unfold Oper.wp;simp only[execOp];simp[go_sem,vl7,vl8,hc];exact hn undef _ ⟨_,vdd hS.1 _,vei.set (a:=⟨O,3,none⟩) vhk _,(af hS.2 (Nat.le_of_lt vhk)).setCell (p:=⟨O,3,none⟩) zr _⟩
   · intro a wx hdf hsz hout hS
     obtain⟨u,hg',hown',hb'⟩:=hS;have ha:=wg hdf hsz hout;simp only[dA,pz,pw] at ha;generalize a.tmps.getD 43 undef=z0 at ha;generalize a.tmps.getD 44 undef=z1 at ha;generalize a.tmps.getD 45 undef=z2 at ha;generalize a.tmps.getD 46 undef=z3 at ha;generalize a.tmps.getD 47 undef=z4 at ha;generalize a.tmps.getD 48 undef=z5 at ha;generalize a.tmps.getD 49 undef=vov at ha;generalize a.tmps.getD 50 undef=vow at ha;generalize a.tmps.getD 51 undef=vox at ha;generalize a.tmps.getD 52 undef=z9 at ha;generalize a.tmps.getD 53 undef=z10 at ha;subst ha;clear hdf hsz hout;go_wp2_with fail;exact⟨⟨i+1,hlt,by go_num,vix.trans hb',u,hg',FV.out▸hown',Nat.le_trans L6 hb'.size⟩,by simp only[intOf];omega⟩
theorem vdj {D:Nat→Prop} (l:List aA) (v:Value) (n:List UInt8) (w:World) (hT:dW w) (hv:bG D w v l) (hn:∀f∈l,f.ag.length≤100000) (hnm:n.length≤maxLen):
 Calls Tryz.prog 42 #[v,str n] w λe w'=>∃u,e=.returned (.tuple #[u,.int .i64 (vai l n).2])∧dO (λb=>w.heap.size≤b) w' u (vai l n).1∧Below w.heap.size w w':=
 (vcm l v n w hT hv hn hnm).mono λ_ _ ⟨u,e1,⟨a,q,e2,e3,e4,e5,_⟩,e6⟩=>⟨u,e1,⟨a,q,e2,e3,e4,e5⟩,e6⟩
end Go.Proofs.YtakgjcfkdemipaaGreatDoor
