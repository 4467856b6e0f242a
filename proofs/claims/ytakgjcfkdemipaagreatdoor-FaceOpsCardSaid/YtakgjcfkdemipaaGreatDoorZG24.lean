/-
  Lemmas for the statement: contracts: of the package face: opened, isOpen. Contracts: of the package face: isOpen, Good. Contract: of the package face: typed. Conditions: bounds of lengths; the variable strings.asciiSpace.
-/
import Derived.Test.YtakgjcfkdemipaaGreatDoorZGn
import Derived.Test.YtakgjcfkdemipaaGreatDoorZG23
set_option maxHeartbeats 25600000
namespace Go.Proofs.YtakgjcfkdemipaaGreatDoor
open Go.RowKit
theorem aZ.fresh {D:Nat→Prop} {w:World} {v:Value} {l:List aB} (h:aZ D w v l):aZ (λb=>D b∧b<w.heap.size) w v l:=by
 obtain⟨p,c,h1,h2,h3,h4,h5⟩:=h
 refine⟨p,c,h1,h2,h3,h4,?_⟩
 rcases h5 with h5|⟨b,o,e,hb,hlt,hj⟩
 · exact .inl h5
 · refine .inr ⟨b,o,e,⟨hb,hlt⟩,hlt,λj hj'=>?_⟩
   obtain⟨n,q,k1,k2,k3⟩:=hj j hj';exact⟨n,q,k1.fresh,k2.fresh,k3⟩
set_option maxRecDepth 8000 in
theorem lZ {D:Nat→Prop} (l:List aB) (v:Value) (ag:List aG) (wv:Value) (par:Bool) (w:World) (hT:fN w) (hv:aZ D w v l) (hw:aJ D w wv ag) (hn:∀f∈l,f.ag.length≤100000) (hnl:ag.length≤100000):
 Calls Tryz.prog 58 #[v,wv,.bool par] w λe w'=>∃m q n c pb,e=.returned (.tuple #[.agg #[.map m,.slice q n c,.bool pb],.int .i64 (bP l ag)])∧(bP l ag=0→ScopeM D w' (.agg #[.map m,.slice q n c,.bool pb]) ⟨l,ag,par⟩)∧Below w.heap.size w w':=by
 have hA:=(Below.refl _ w).alloc (nl _) (.cells #[.map none,.slice none 0 0,.bool false] 86)
 have hg:=heap_alloc_new w (.cells #[.map none,.slice none 0 0,.bool false] 86)
 have HC:=yF l v _ (hT.below hA (nl _)) (hv.below hA (nl _)) hn
 have HN:=λW (hW:Below w.heap.size w W)=>lW ag wv W (hT.below hW (nl _)) (hw.below hW (nl _)) hnl
 have HV:=Lib.hid (λW (hW:Below w.heap.size w W)=>hv.fresh.below hW (nl _))
 have HW:=Lib.hid (λW (hW:Below w.heap.size w W)=>hw.fresh.below hW (nl _))
 have hok:=λh=>(sR (l:=l) h).1
 obtain⟨p,c,rfl,_⟩:=hv.shape
 obtain⟨q,cq,rfl,_⟩:=hw.shape
 have CI:bP l ag=if(ja l).2≠0 then(ja l).2 else if bh ag=true then 0 else 42:=rfl
 generalize bP l ag=AS at *
 generalize ja l=AK at *
 obtain⟨j,C⟩:=AK
 simp only at HC hok CI
 clear hT hv hw
 by_cases h0:C=0
 case neg=>
  obtain⟨g1,g2⟩:=bC h0;rw[if_pos h0] at CI;subst CI;have H0:=Lib.hid h0;clear h0 hok;go_enter Tryz.func58,Tryz.ntmps58;go_wp2_with (go_at_call 40;refine HC.mono ?_;clear HC;rintro e w1 ⟨rfl,ay⟩;have hg1:=ah hg ay;have b3:=gB hg1;have VN:=aC hg1 0;have Pj:=aC hg1 1;have Pk:=aC hg1 2);refine bodyPost_ret (v:=.tuple #[.agg #[.map none,.slice none 0 0,.bool false],.int .i64 AS]) (by simp[results,Tryz.results58,go_sem,b3]) rfl ?_;have bJ:=hA.trans (af ay (by simp));exact⟨_,_,_,_,_,rfl,λh=>absurd h H0.out,((bJ.setCell (p:=⟨w.heap.size,0,none⟩) (nl _) _).setCell (p:=⟨w.heap.size,1,none⟩) (nl _) _).setCell (p:=⟨w.heap.size,2,none⟩) (nl _) _⟩
 case pos=>
  subst h0;rw[if_neg (by simp)] at CI;rcases hnk:bh ag with _|_
  · rw[hnk] at HN CI
    simp only[Bool.false_eq_true,if_false] at CI;subst CI;go_enter Tryz.func58,Tryz.ntmps58;go_wp2_with (first
     | (go_at_call 78;refine(HN _ bJ).mono ?_;clear HN;rintro e w2 ⟨rfl,aA⟩;have hg2:=ah hg1 aA;have b3:=gB hg2;have VN:=aC hg2 0;have Pj:=aC hg2 1;have Pk:=aC hg2 2;have bW:=bJ.trans (af aA bJ.size))
     | (go_at_call 40;refine HC.mono ?_;clear HC;rintro e w1 ⟨rfl,ay⟩;have hg1:=ah hg ay;have bJ:=hA.trans (af ay (by simp))))
    refine bodyPost_ret (v:=.tuple #[.agg #[.map none,.slice none 0 0,.bool false],.int .i64 42]) (by simp[results,Tryz.results58,go_sem,b3]) rfl ?_;exact⟨_,_,_,_,_,rfl,λh=>absurd h (by decide),((bW.setCell (p:=⟨w.heap.size,0,none⟩) (nl _) _).setCell (p:=⟨w.heap.size,1,none⟩) (nl _) _).setCell (p:=⟨w.heap.size,2,none⟩) (nl _) _⟩
  · rw[hnk] at HN CI
    simp only[if_true] at CI;subst CI;have Q8:l.length≤100000:=by
     rcases(iD l 0 none (hok rfl)).1 with h|h
     · rw[h];simp
     · omega
    clear hok;go_enter Tryz.func58,Tryz.ntmps58;go_wp2_with (first
     | (go_at_call 91;refine(sF l _ _ (HV.out _ bW) Q8).mono ?_;rintro e w3 ⟨M,rfl,hM,aK⟩;have hg3:=ah hg2 aK;have b3:=gB hg3;have VN:=aC hg3 0;have Pj:=aC hg3 1;have Pk:=aC hg3 2;have dg:=bW.trans (af aK bW.size))
     | (go_at_call 78;refine(HN _ bJ).mono ?_;clear HN;rintro e w2 ⟨rfl,aA⟩;have hg2:=ah hg1 aA;have bW:=bJ.trans (af aA bJ.size))
     | (go_at_call 40;refine HC.mono ?_;clear HC;rintro e w1 ⟨rfl,ay⟩;have hg1:=ah hg ay;have bJ:=hA.trans (af ay (by simp))))
    refine bodyPost_ret (v:=.tuple #[.agg #[.map (some M),.slice q ag.length cq,.bool par],.int .i64 0]) (by simp[results,Tryz.results58,go_sem,b3]) rfl ?_;have M8:M≠w.heap.size:=by
     intro YD;obtain⟨L,_,hf,_⟩:=hM;obtain⟨es,clock,h1,_⟩:=hf;rw[YD,hg3] at h1;simp at h1
    have P8:=HW.out _ dg;refine⟨_,_,_,_,_,rfl,λ_=>⟨M,_,rfl,fI.mono (((hM.set (a:=⟨w.heap.size,0,none⟩) M8 (λb hb=>by have:=hb.2;simp only;omega) _).set (a:=⟨w.heap.size,1,none⟩) M8 (λb hb=>by have:=hb.2;simp only;omega) _).set (a:=⟨w.heap.size,2,none⟩) M8 (λb hb=>by have:=hb.2;simp only;omega) _) (λb hb=>hb.1),aJ.mono (((P8.set (a:=⟨w.heap.size,0,none⟩) (λb hb=>by have:=hb.2;simp only;omega) _).set (a:=⟨w.heap.size,1,none⟩) (λb hb=>by have:=hb.2;simp only;omega) _).set (a:=⟨w.heap.size,2,none⟩) (λb hb=>by have:=hb.2;simp only;omega) _) (λb hb=>hb.1)⟩,((dg.setCell (p:=⟨w.heap.size,0,none⟩) (nl _) _).setCell (p:=⟨w.heap.size,1,none⟩) (nl _) _).setCell (p:=⟨w.heap.size,2,none⟩) (nl _) _⟩
end Go.Proofs.YtakgjcfkdemipaaGreatDoor
namespace Go.Proofs.YtakgjcfkdemipaaGreatDoor
open Go.RowKit
theorem pL (t:List UInt8) (w:World) (htl:t.length≤maxLen) (hT:fN w):
 Calls Tryz.prog 74 #[str t] w λe w'=>e=.returned (.bool (eW t))∧Below w.heap.size w w':=by
 have HO:=oe t htl w hT
 go_enter Tryz.func74,Tryz.ntmps74
 go_wp2_with (go_at_call 117;refine HO.mono ?_;clear HO;rintro e w1 ⟨rfl,ay⟩)
 go_ret
 exact⟨rfl,ay⟩
theorem iC {l:List aB} {ag:List aG} {par:Bool} (h:bP l ag=0):iM ⟨l,ag,par⟩:=by
 unfold bP at h
 split at h
 · rename_i h1;exact absurd h h1
 · rename_i h1
   split at h
   · rename_i h2
     have hc:=(sR (by simpa using h1)).1;exact vw (zO hc) (iD l 0 none hc).2.1 h2
   · cases h
set_option maxRecDepth 8000 in
theorem rq {D:Nat→Prop} (l:List aB) (v:Value) (ag:List aG) (wv:Value) (par:Bool) (t:List UInt8) (w:World) (hT:fN w) (hv:aZ D w v l) (hw:aJ D w wv ag) (hn:∀f∈l,f.ag.length≤100000) (hnl:ag.length≤100000) (htl:t.length≤maxLen):
 Calls Tryz.prog 19 #[v,wv,.bool par,str t] w λe w'=>e=.returned (.int .i64 (oJ l ag par t))∧Below w.heap.size w w':=by
 have HC:=lZ l v ag wv par w hT hv hw hn hnl
 have HT:=Lib.hid (λW (hW:Below w.heap.size w W)=>hT.below hW (nl _))
 have hsc:=λh=>iC (l:=l) (ag:=ag) (par:=par) h
 obtain⟨p,c,rfl,_⟩:=hv.shape
 obtain⟨q,cq,rfl,_⟩:=hw.shape
 have dZ:oJ l ag par t=if bP l ag≠0 then bP l ag else dx ⟨l,ag,par⟩ t:=rfl
 generalize oJ l ag par t=GL at *
 generalize bP l ag=AS at *
 clear hT hv hw
 by_cases h0:AS=0
 case neg=>
  obtain⟨g1,g2⟩:=bC h0;rw[if_pos h0] at dZ;subst dZ;clear h0 hsc;go_enter Tryz.func19,Tryz.ntmps19;go_wp2_with (go_at_call 58;refine HC.mono ?_;clear HC;rintro e w1 ⟨m1,q1,n1,c1,qi,rfl,_,ay⟩);go_ret;exact⟨rfl,ay.alloc ay.size _⟩
 case pos=>
  subst h0;rw[if_neg (by simp)] at dZ;have fW:=hsc rfl;have HX:=Lib.hid dZ;clear hsc dZ;go_enter Tryz.func19,Tryz.ntmps19;go_wp2_with (first
   | (go_at_call 59;refine(nj ⟨l,ag,par⟩ _ t _ kA fW htl (HT.out _ bW)).mono ?_;rintro e w3 ⟨rfl,aK⟩)
   | (go_at_call 58;refine HC.mono ?_;clear HC;rintro e w1 ⟨m1,q1,n1,c1,qi,rfl,hS,ay⟩;have hS1:=hS rfl;clear hS;have sV:=(Below.refl _ w1).alloc (nl _) (.cells #[m1 |> Value.map,.slice q1 n1 c1,.bool qi] 86);have kA:=hS1.below sV (nl _);have bW:=ay.alloc ay.size (.cells #[.map m1,.slice q1 n1 c1,.bool qi] 86)))
  go_ret;rw[HX.out];exact⟨rfl,bW.trans (af aK bW.size)⟩
end Go.Proofs.YtakgjcfkdemipaaGreatDoor
namespace Go.Proofs.YtakgjcfkdemipaaGreatDoor
open Go.RowKit
theorem ScopeM.mono {D D':Nat→Prop} {w:World} {v:Value} {c:aR} (h:ScopeM D w v c) (hD:∀b,D b→D' b):ScopeM D' w v c:=by
 obtain⟨m,nv,h1,h2,h3⟩:=h
 exact⟨m,nv,h1,h2.mono hD,h3.mono hD⟩
theorem ScopeM.BD {D:Nat→Prop} {w:World} {v:Value} {c:aR} (h:ScopeM D w v c) {b:Nat} {cs:Array Value} {t:TypeId} (hb:w.heap[b]? =some (.cells cs t (0,0))) (hD:∀k,D k→k≠b) (x y z:Value):
 ScopeM D (((w.setCell ⟨b,0,none⟩ x).setCell ⟨b,1,none⟩ y).setCell ⟨b,2,none⟩ z) v c:=by
 obtain⟨m,nv,h1,h2,h3⟩:=h
 have hm:m≠b:=by
  intro e;obtain⟨L,_,hf,_⟩:=h2;obtain⟨es,clock,h4,_⟩:=hf;rw[e,hb] at h4;simp at h4
 exact⟨m,nv,h1,((h2.set (a:=⟨b,0,none⟩) hm hD _).set (a:=⟨b,1,none⟩) hm hD _).set (a:=⟨b,2,none⟩) hm hD _,((h3.set (a:=⟨b,0,none⟩) hD _).set (a:=⟨b,1,none⟩) hD _).set (a:=⟨b,2,none⟩) hD _⟩
theorem pT (ag:List aG) (t:List UInt8):(0<ag.length∧true=dX ag t)∨(ag=[]∧eW t=dX ag t):=by
 unfold dX
 rcases ag with _|⟨x,l⟩
 · right;simp
 · left;simp
set_option maxRecDepth 8000 in
theorem yt {D:Nat→Prop} (l:List aB) (v:Value) (ag:List aG) (wv:Value) (t:List UInt8) (w:World) (hT:fN w) (hv:aZ D w v l) (hw:aJ D w wv ag) (hn:∀f∈l,f.ag.length≤100000) (hnl:ag.length≤100000) (htl:t.length≤maxLen):
 Calls Tryz.prog 62 #[v,wv,str t] w λe w'=>∃m q n c pb,e=.returned (.tuple #[.agg #[.map m,.slice q n c,.bool pb],.int .i64 (gU l ag t)])∧(gU l ag t=0→ScopeM D w' (.agg #[.map m,.slice q n c,.bool pb]) ⟨l,ag,dX ag t⟩)∧Below w.heap.size w w':=by
 have hA:=(Below.refl _ w).alloc (nl _) (.cells #[.map none,.slice none 0 0,.bool false] 86)
 have hg:=heap_alloc_new w (.cells #[.map none,.slice none 0 0,.bool false] 86)
 have HT:=Lib.hid (λW (hW:Below w.heap.size w W)=>hT.below hW (nl _))
 have HI:=pL t _ htl (HT.out _ hA)
 have HC:=λpar W (hW:Below w.heap.size w W)=>lZ l v ag wv par W (HT.out W hW) (hv.fresh.below hW (nl _)) (hw.fresh.below hW (nl _)) hn hnl
 have hsc:=λpar h=>iC (l:=l) (ag:=ag) (par:=par) h
 obtain⟨p,c,rfl,_⟩:=hv.shape
 obtain⟨q,cq,rfl,_⟩:=hw.shape
 have dZ:gU l ag t=if bP l ag≠0 then bP l ag else dx ⟨l,ag,dX ag t⟩ t:=rfl
 have hP:=pT ag t
 have HG:=λfW v' W hT (hS:ScopeM (λb=>D b∧b<w.heap.size) W v' ⟨l,ag,dX ag t⟩)=>nj ⟨l,ag,dX ag t⟩ v' t W hS fW htl hT
 replace hsc:=hsc (dX ag t)
 generalize dX ag t=P at *
 generalize dx ⟨l,ag,P⟩ t=GK at *
 generalize gU l ag t=GL at *
 generalize bP l ag=AS at *
 clear hT hv hw hn hnl
 have kr:=hA
 have bY:=hg
 rcases hP with⟨hn0,D7⟩|⟨rfl,D7⟩
 all_goals
  try rw[List.length_nil]
  replace D7:=Lib.hid D7
  replace dZ:=Lib.hid dZ
  replace hsc:=Lib.hid hsc
  go_enter Tryz.func62,Tryz.ntmps62;go_upto_region 2 with(first
   | (go_at_call 58;refine(HC _ _ kr).mono ?_;clear HC;rintro e w1 ⟨m1,q1,n1,c1,qi,rfl,hS,ay⟩;have hg1:=ah bY ay;have bJ:=kr.trans (af ay kr.size))
   | (go_at_call 74;refine HI.mono ?_;clear HI;rintro e w0 ⟨rfl,hb0⟩;have bY:=ah hg hb0;have kr:=hA.trans (af hb0 (by simp))))
  have bW:=bJ.alloc bJ.size (.cells #[.map m1,.slice q1 n1 c1,.bool qi] 86);have hg2:=aH (.cells #[.map m1,.slice q1 n1 c1,.bool qi] 86) hg1;have hx2:=heap_alloc_new w1 (.cells #[.map m1,.slice q1 n1 c1,.bool qi] 86)
  replace dZ:=dZ.out
  by_cases h0:AS=0
  case neg=>
   obtain⟨g1,g2⟩:=bC h0;rw[if_pos h0] at dZ;subst dZ;have H0:=Lib.hid h0;have b3:=gB hg2;have XF:=aC hg2 0;have XG:=aC hg2 1;have XH:=aC hg2 2;have LP:=gB hx2;clear h0 hsc HG hS;go_wp2_with fail;refine bodyPost_ret (v:=.tuple #[.agg #[.map m1,.slice q1 n1 c1,.bool qi],.int .i64 GL]) (by simp[results,Tryz.results62,go_sem,b3]) rfl ?_;exact⟨_,_,_,_,_,rfl,λh=>absurd h H0.out,((bW.setCell (p:=⟨w.heap.size,0,none⟩) (nl _) _).setCell (p:=⟨w.heap.size,1,none⟩) (nl _) _).setCell (p:=⟨w.heap.size,2,none⟩) (nl _) _⟩
  subst h0;rw[if_neg (by simp)] at dZ;have hS1:=hS rfl;rw[D7.out] at hS1;have kA:=hS1.below ((Below.refl _ w1).alloc (nl _) (.cells #[.map m1,.slice q1 n1 c1,.bool qi] 86)) (nl _);have HX:=Lib.hid dZ;have LP:=gB hx2
  replace HG:=HG (hsc.out rfl)
  clear hsc dZ hS hS1;go_wp2_with (go_at_call 59;refine(HG _ _ (HT.out _ bW) kA).mono ?_;rintro e w3 ⟨rfl,aK⟩;have hg3:=ah hg2 aK;have KW:=ah hx2 aK;have b3:=gB hg3;have BZ:=gB KW;have XF:=aC hg3 0;have XG:=aC hg3 1;have XH:=aC hg3 2;have o9:=kA.below aK (nl _);have dg:=bW.trans (af aK bW.size));refine bodyPost_ret (v:=.tuple #[.agg #[.map m1,.slice q1 n1 c1,.bool qi],.int .i64 GK]) (by simp[results,Tryz.results62,go_sem,b3]) rfl ?_;rw[HX.out];exact⟨_,_,_,_,_,rfl,λ_=>ScopeM.mono (ScopeM.BD o9 hg3 (λk hk=>by have:=hk.2;omega) _ _ _) (λb hb=>hb.1),((dg.setCell (p:=⟨w.heap.size,0,none⟩) (nl _) _).setCell (p:=⟨w.heap.size,1,none⟩) (nl _) _).setCell (p:=⟨w.heap.size,2,none⟩) (nl _) _⟩
end Go.Proofs.YtakgjcfkdemipaaGreatDoor
namespace Go.Proofs.YtakgjcfkdemipaaGreatDoor
open Go.RowKit
theorem vM {l:List aB} {ag:List aG} {t:List UInt8} (h:gU l ag t=0):bP l ag=0∧(aq t).1=0:=by
 unfold gU at h
 split at h
 · rename_i h1;exact absurd h h1
 · rename_i h1
   refine⟨by simpa using h1,?_⟩;apply Classical.byContradiction;intro h2;unfold dx cV at h;rw[if_pos h2] at h;exact h2 h
set_option maxRecDepth 8000 in
theorem Bc {D:Nat→Prop} (l:List aB) (v:Value) (ag:List aG) (wv:Value) (t n:List UInt8) (w:World) (hT:fN w) (hv:aZ D w v l) (hw:aJ D w wv ag) (hn:∀f∈l,f.ag.length≤100000) (hnl:ag.length≤100000) (htl:t.length≤maxLen):
 Calls Tryz.prog 23 #[v,wv,str t,str n] w λe w'=>∃u,e=.returned (.tuple #[u,.int .i64 (lC l ag t n).2])∧aT (λb=>w.heap.size≤b) w' u (lC l ag t n).1∧Below w.heap.size w w':=by
 have hA:=(Below.refl _ w).alloc (nl _) (.cells #[.bool false,.slice none 0 0,.string ⟨#[]⟩,.slice none 0 0] 36)
 have hg:=heap_alloc_new w (.cells #[.bool false,.slice none 0 0,.string ⟨#[]⟩,.slice none 0 0] 36)
 have HT:=Lib.hid (λW (hW:Below w.heap.size w W)=>hT.below hW (nl _))
 have HC:=yt l v ag wv t _ (HT.out _ hA) (hv.below hA (nl _)) (hw.below hA (nl _)) hn hnl htl
 have hz:=λh=>vM (l:=l) (ag:=ag) (t:=t) h
 obtain⟨p,c,rfl,_⟩:=hv.shape
 obtain⟨q,cq,rfl,_⟩:=hw.shape
 have dZ:lC l ag t n=if gU l ag t≠0 then(.zero,gU l ag t) else oE ⟨l,ag,dX ag t⟩ t n:=rfl
 generalize lC l ag t n=RS at *
 generalize gU l ag t=TK at *
 clear hT hv hw hn hnl
 by_cases h0:TK=0
 case neg=>
  obtain⟨g1,g2⟩:=bC h0;rw[if_pos h0] at dZ;subst dZ;clear h0 hz;go_enter Tryz.func23,Tryz.ntmps23;go_wp2_with (go_at_call 62;refine HC.mono ?_;clear HC;rintro e w1 ⟨m1,q1,n1,c1,qi,rfl,_,ay⟩;have hg1:=ah hg ay;have bJ:=hA.trans (af ay (by simp));have hg2:=aH (.cells #[.map m1,.slice q1 n1 c1,.bool qi] 86) hg1;have b4:=aU hg2);refine bodyPost_ret (v:=.tuple #[.agg #[.bool false,.slice none 0 0,str [],.slice none 0 0],.int .i64 TK]) (by simp[results,Tryz.results23,go_sem,b4.1]) rfl ?_;exact⟨_,rfl,aT.zero _ _,Below.fc (bJ.alloc bJ.size _) (b:=w.heap.size) (nl _) _ _ _ _⟩
 case pos=>
  subst h0;rw[if_neg (by simp)] at dZ;obtain⟨ha0,hc0⟩:=hz rfl;have fW:=iC (par:=dX ag t) ha0;have HO:=λv' W hW hS=>I9 (D:=D) ⟨l,ag,dX ag t⟩ v' t n W hS (qP hc0) (fW.2.2.2 t hc0) (HT.out W hW) fW.1 fW.2.1 (gm hc0)
  have HX:=Lib.hid dZ;clear hz dZ ha0;generalize oE ⟨l,ag,dX ag t⟩ t n=OI at *;go_enter Tryz.func23,Tryz.ntmps23;go_wp2_with (first
   | (go_at_call 72;refine(HO _ _ bW kA).mono ?_;clear HO;rintro e w3 ⟨u3,rfl,⟨a3,q3,rfl,l3,r3,s3⟩,aK⟩;obtain⟨GI,cz,rfl,_⟩:=r3.shape;obtain⟨py,cy,rfl,_⟩:=s3.shape;have hg3:=ah hg2 aK;have b4:=aU hg3;have dg:=bW.trans (af aK bW.size))
   | (go_at_call 62;refine HC.mono ?_;clear HC;rintro e w1 ⟨m1,q1,n1,c1,qi,rfl,hS,ay⟩;have hg1:=ah hg ay;have bJ:=hA.trans (af ay (by simp));have hS1:=hS (by first|rfl|trivial);clear hS;have sV:=(Below.refl _ w1).alloc (nl _) (.cells #[.map m1,.slice q1 n1 c1,.bool qi] 86);have kA:=hS1.below sV (nl _);have bW:=bJ.alloc bJ.size (.cells #[.map m1,.slice q1 n1 c1,.bool qi] 86);have hg2:=aH (.cells #[.map m1,.slice q1 n1 c1,.bool qi] 86) hg1))
  refine bodyPost_ret (v:=.tuple #[.agg #[.bool OI.1.iter,.slice GI OI.1.args.length cz,str OI.1.res,.slice py OI.1.sigs.length cy],.int .i64 OI.2]) (by simp[results,Tryz.results23,go_sem,b4.1]) rfl ?_;rw[HX.out];have hs2:=bH hg2;refine⟨_,rfl,⟨_,_,rfl,l3,?_,?_⟩,Below.fc dg (b:=w.heap.size) (nl _) _ _ _ _⟩
  · exact(SS.fc r3 (b:=w.heap.size) (by intro b hb;omega) _ _ _ _).mono (by intro b hb;omega)
  · exact(SS.fc s3 (b:=w.heap.size) (by intro b hb;omega) _ _ _ _).mono (by intro b hb;omega)
end Go.Proofs.YtakgjcfkdemipaaGreatDoor
namespace Go.Proofs.YtakgjcfkdemipaaGreatDoor
open Go.RowKit
theorem ry {c:aR} {t:List UInt8} (h:dx c t=0):(aq t).1=0:=by
 apply Classical.byContradiction
 intro h2
 unfold dx cV at h
 rw[if_pos h2] at h
 exact h2 h
set_option maxRecDepth 8000 in
theorem EV {D D':Nat→Prop} (l:List aB) (v:Value) (ag:List aG) (wv:Value) (want:List aG) (xv:Value) (t:List UInt8) (w:World) (hT:fN w) (hv:aZ D w v l) (hw:aJ D w wv ag) (hx:aJ D' w xv want) (hn:∀f∈l,f.ag.length≤100000) (hnl:ag.length≤100000) (hxl:want.length≤100000) (htl:t.length≤maxLen):
 Calls Tryz.prog 29 #[v,wv,xv,str t] w λe w'=>e=.returned (.tuple #[str (mE l ag want t).1,.bool (mE l ag want t).2.1,.int .i64 (mE l ag want t).2.2])∧Below w.heap.size w w':=by
 have HT:=Lib.hid (λW (hW:Below w.heap.size w W)=>hT.below hW (nl _))
 have HI:=pL t w htl hT
 have hA:=Below.refl w.heap.size w
 have HC:=λpar W (hW:Below w.heap.size w W)=>lZ l v ag wv par W (HT.out W hW) (hv.below hW (nl _)) (hw.below hW (nl _)) hn hnl
 have HN:=λW (hW:Below w.heap.size w W)=>lW want xv W (HT.out W hW) (hx.below hW (nl _)) hxl
 have hsc:=λpar h=>iC (l:=l) (ag:=ag) (par:=par) h
 have HL:=λpar (fW:iM ⟨l,ag,par⟩) (hnk:bh want=true) (hc0:(aq t).1=0) v' W (hW:Below w.heap.size w W) (hS:ScopeM D W v' ⟨l,ag,par⟩)=>xL ⟨l,ag,par⟩ v' want xv t W hS (hx.below hW (nl _)) (λo ho=>⟨Nat.le_trans ((dr hnk).2 o ho).1 (by decide),Nat.le_trans ((dr hnk).2 o ho).2 (by decide)⟩) (qP hc0) (fW.2.2.2 t hc0) (HT.out W hW) fW.1 fW.2.1 (λ_=>gm hc0)
 have HG:=λpar (fW:iM ⟨l,ag,par⟩) v' W (hW:Below w.heap.size w W) (hS:ScopeM D W v' ⟨l,ag,par⟩)=>nj ⟨l,ag,par⟩ v' t W hS fW htl (HT.out W hW)
 obtain⟨p,c,rfl,_⟩:=hv.shape
 obtain⟨q,cq,rfl,_⟩:=hw.shape
 obtain⟨q2,cq2,rfl,_⟩:=hx.shape
 have dZ:mE l ag want t=if bP l ag≠0 then([],false,bP l ag) else if bh want=false then([],false,42) else if dx ⟨l,ag,dX ag t⟩ t≠0 then([],false,dx ⟨l,ag,dX ag t⟩ t) else match dP ⟨l,ag,dX ag t⟩ want t with|none=>([],true,0)|some n=>(n,false,0):=rfl
 have hP:=pT ag t
 have uh:=λpar h=>ry (c:=⟨l,ag,par⟩) (t:=t) h
 generalize dX ag t=P at *
 replace HG:=HG P
 replace HL:=HL P
 replace hsc:=hsc P
 replace uh:=uh P
 generalize dx ⟨l,ag,P⟩ t=GK at *
 generalize dP ⟨l,ag,P⟩ want t=LK at *
 generalize mE l ag want t=FL at *
 generalize bP l ag=AS at *
 clear hT hv hw hx hn hnl hxl
 have kr:=hA
 rcases hP with⟨hn0,D7⟩|⟨rfl,D7⟩
 all_goals
  try rw[List.length_nil]
  replace D7:=Lib.hid D7
  replace dZ:=Lib.hid dZ
  replace uh:=Lib.hid uh
  replace hsc:=Lib.hid hsc
  go_enter Tryz.func29,Tryz.ntmps29;go_upto_region 2 with(first
   | (go_at_call 58;refine(HC _ _ kr).mono ?_;clear HC;rintro e w1 ⟨m1,q1,n1,c1,qi,rfl,hS,ay⟩;have bJ:=kr.trans (af ay kr.size))
   | (go_at_call 74;refine HI.mono ?_;rintro e w0 ⟨rfl,hb0⟩;have kr:=hb0))
  have bW:=bJ.alloc bJ.size (.cells #[.map m1,.slice q1 n1 c1,.bool qi] 86);have hx2:=heap_alloc_new w1 (.cells #[.map m1,.slice q1 n1 c1,.bool qi] 86)
  replace dZ:=dZ.out
  by_cases h0:AS=0
  case neg=>
   obtain⟨g1,g2⟩:=bC h0;rw[if_pos h0] at dZ;have HX:=Lib.hid dZ;clear h0 hsc dZ HL HG HN uh hS;go_wp2_with fail
   go_ret3
   rw[HX.out];exact⟨rfl,bW⟩
  subst h0;rw[if_neg (by simp)] at dZ;have hS1:=hS rfl;rw[D7.out] at hS1;have kA:=hS1.below ((Below.refl _ w1).alloc (nl _) (.cells #[.map m1,.slice q1 n1 c1,.bool qi] 86)) (nl _);have fW:=hsc.out rfl
  replace HG:=HG fW
  replace HL:=HL fW
  clear hsc fW hS hS1;rcases hnk:bh want with _|_
  · rw[hnk] at HN
    rw[hnk,if_pos rfl] at dZ;have HX:=Lib.hid dZ;clear dZ HL HG hnk uh;go_wp2_with (go_at_call 78;refine(HN _ bW).mono ?_;clear HN;rintro e w2 ⟨rfl,aA⟩;have dg:=bW.trans (af aA bW.size))
    go_ret3
    rw[HX.out];exact⟨rfl,dg⟩
  rw[hnk] at HN;rw[hnk,if_neg (by simp)] at dZ
  replace HL:=HL hnk
  replace dZ:=Lib.hid dZ
  clear hnk;go_upto_region 6 with(first
   | (go_at_call 59;refine(HG _ _ dg o9).mono ?_;clear HG;rintro e w3 ⟨rfl,aK⟩;have dH:=dg.trans (af aK dg.size);have Pm:=gB (ah KW aK);have qv:=o9.below aK (nl _))
   | (go_at_call 78;refine(HN _ bW).mono ?_;clear HN;rintro e w2 ⟨rfl,aA⟩;have dg:=bW.trans (af aA bW.size);have KW:=ah hx2 aA;have BZ:=gB KW;have o9:=kA.below aA (nl _)))
  replace dZ:=dZ.out
  by_cases bY:GK=0
  case neg=>
   obtain⟨g1,g2⟩:=bC bY;rw[if_pos bY] at dZ;have HX:=Lib.hid dZ;clear dZ HL uh bY;go_wp2_with fail
   go_ret3
   rw[HX.out];exact⟨rfl,dH⟩
  subst bY;rw[if_neg (by simp)] at dZ
  replace HL:=HL (uh.out rfl)
  clear uh;rcases LK with _|nm
  all_goals
   have HX:=Lib.hid dZ;clear dZ;dsimp only[Option.getD_none,Option.isSome_none,Option.getD_some,Option.isSome_some] at HL HX;go_wp2_with (go_at_call 79;refine(HL _ _ dH qv).mono ?_;clear HL;rintro e w4 ⟨rfl,hb4⟩;have iq:=dH.trans (af hb4 dH.size))
   go_ret3
   rw[HX.out];exact⟨rfl,iq⟩
end Go.Proofs.YtakgjcfkdemipaaGreatDoor
namespace Go.Proofs.YtakgjcfkdemipaaGreatDoor
open Go.RowKit
def lJ (D:Nat→Prop) (w:World):List Value→List aB→Prop
 | cs,[]=>cs=[]
 | cs,x::l=>∃n o r,cs=str x.name::.int .u8 x.kind::.bool x.par::n::o::r∧x.name.length≤maxLen∧aJ D w n x.ag∧aJ D w o x.ops∧lJ D w r l
theorem lJ.le {D:Nat→Prop} {w:World}:∀{l:List aB} {cs:List Value},lJ D w cs l→∀x∈l,x.name.length≤maxLen
 | [],_,_=>λx h=>by cases h
 | y::l,_,⟨_,_,_,_,h0,_,_,h4⟩=>λx h=>by
  rcases List.mem_cons.1 h with rfl|h
  · exact h0
  · exact lJ.le h4 x h
theorem lJ.get {D:Nat→Prop} {w:World}:∀{l:List aB} {cs:List Value},lJ D w cs l→∀j (h:j<l.length),∃a s,aJ D w a l[j].ag∧aJ D w s l[j].ops∧
 cs[j * 5]? =some (str l[j].name)∧cs[j * 5+1]? =some (.int .u8 l[j].kind)∧cs[j * 5+2]? =some (.bool l[j].par)∧cs[j * 5+3]? =some a∧cs[j * 5+4]? =some s
 | [],_,_=>λj h=>by simp at h
 | x::l,_,⟨a,s,r,h1,_,h2,h3,h4⟩=>λj h=>by
  subst h1;cases j with
  | zero=>exact⟨a,s,h2,h3,rfl,rfl,rfl,rfl,rfl⟩
  | succ j=>
   have hj:j<l.length:=by simpa using h
   obtain⟨a',s',k1,k2,k3,k4,k5,k6,k7⟩:=lJ.get h4 j hj;have e:(j+1) * 5=j * 5+1+1+1+1+1:=by omega
   refine⟨a',s',k1,k2,?_⟩;rw[e];exact⟨by simpa using k3,by simpa using k4,by simpa using k5,by simpa using k6,by simpa using k7⟩
theorem aZ.new {D:Nat→Prop} (w:World) (hB:D w.heap.size) {l:List aB} {cs:List Value} (t:TypeId) (z:Nat×Nat) (hm:l.length≤maxLen) (hc:lJ D w cs l):aZ D (w.alloc (.cells cs.toArray t z)) (.slice (some ⟨w.heap.size,0,none⟩) l.length l.length) l:=by
 have hb:=(Below.refl _ w).alloc (nl _) (.cells cs.toArray t z)
 refine⟨_,_,rfl,nl _,hm,hc.le,.inr ⟨w.heap.size,0,rfl,hB,by simp,λj hj=>?_⟩⟩
 obtain⟨a,s,k1,k2,k3,k4,k5,k6,k7⟩:=hc.get j hj
 have hh:=heap_alloc_new w (.cells cs.toArray t z)
 have hcell:∀i u,cs[i]? =some u→(w.alloc (.cells cs.toArray t z)).cell? ⟨w.heap.size,0+i,none⟩=some u:=λi u hu=>by
  rw[Nat.zero_add];refine(ak hh i).trans ?_
  simpa using hu
 exact⟨a,s,k1.below hb (nl _),k2.below hb (nl _),hcell _ _ k3,hcell _ _ k4,hcell _ _ k5,hcell _ _ k6,hcell _ _ k7⟩
theorem BJ {D:Nat→Prop} (w:World) (n:Nat) (hn:n=w.heap.size) (hD:D n) (ss:List (List UInt8)) (hl:ss.length≤maxLen) (hs:∀s∈ss,s.length≤maxLen) (t:TypeId):SS D (w.alloc (.cells (ss.map str).toArray t)) (.slice (some ⟨n,0,none⟩) ss.length ss.length) ss:=by
 subst hn
 exact SS.new D w hD ss t (0,0) hl hs
theorem zb {D:Nat→Prop} (w:World) (n:Nat) (hn:n=w.heap.size) (hD:D n) {l:List aG} {cs:List Value} (t:TypeId) (hm:l.length≤maxLen) (hc:bN D w cs l):aJ D (w.alloc (.cells cs.toArray t)) (.slice (some ⟨n,0,none⟩) l.length l.length) l:=by
 subst hn
 exact aJ.new w hD t (0,0) hm hc
theorem Ad {D:Nat→Prop} (w:World) (n:Nat) (hn:n=w.heap.size) (hD:D n) {l:List aB} {cs:List Value} (t:TypeId) (hm:l.length≤maxLen) (hc:lJ D w cs l):aZ D (w.alloc (.cells cs.toArray t)) (.slice (some ⟨n,0,none⟩) l.length l.length) l:=by
 subst hn
 exact aZ.new w hD t (0,0) hm hc
set_option maxRecDepth 8000 in
theorem AY (w:World):Calls Tryz.prog 56 #[] w λe w'=>∃g,e=.returned (.slice (some ⟨g,0,none⟩) 2 2)∧aZ (λb=>w.heap.size≤b) w' (.slice (some ⟨g,0,none⟩) 2 2) ia∧Below w.heap.size w w':=by
 go_enter Tryz.func56,Tryz.ntmps56
 go_wp2_with (first
  | (go_at_call 57;have q4:=hb4;refine(lF _ _ _ ⟨_,_,_,rfl⟩).mono ?_;rintro e w5 ⟨rfl,cW⟩;have f5:=ah (aH _ (aH _ f4)) cW;have g1:=bL (aH (.cells #[.string ⟨#[115,111,114,116]⟩,.int .u8 1,.bool true,.slice (some ⟨w4.heap.size,0,none⟩) 1 1,.slice (some ⟨w5.heap.size,0,none⟩) 1 1] 58) (aH (.cells #[.string ⟨#[115,111,114,116]⟩,.bool false,.slice (some ⟨w4.heap.size+1,0,none⟩) 1 1,str [],.slice none 0 0] 50) f5));have g2:=bL (dD (w:=w5.alloc (.cells #[.string ⟨#[115,111,114,116]⟩,.bool false,.slice (some ⟨w4.heap.size+1,0,none⟩) 1 1,str [],.slice none 0 0] 50)) (n:=w5.heap.size+1) (by simp) #[.string ⟨#[115,111,114,116]⟩,.int .u8 1,.bool true,.slice (some ⟨w4.heap.size,0,none⟩) 1 1,.slice (some ⟨w5.heap.size,0,none⟩) 1 1] 58))
  | (go_at_call 57;have q3:=aK;refine(lF _ _ _ ⟨_,_,_,rfl⟩).mono ?_;rintro e w4 ⟨rfl,hb4⟩;clear q3;have f4:=ah (aH _ (dD (w:=w3.alloc _) (n:=w3.heap.size+1) (by simp) #[.string ⟨#[115,101,116]⟩,.int .u8 3,.bool true,.slice (some ⟨w1.heap.size,0,none⟩) 1 1,.slice (some ⟨w3.heap.size,0,none⟩) 2 2] 58)) hb4)
  | (go_at_call 57;have q2:=aA;refine(lF _ _ _ ⟨_,_,_,rfl⟩).mono ?_;rintro e w3 ⟨rfl,aK⟩;clear q2)
  | (go_at_call 57;have q1:=ay;refine(lF _ _ _ ⟨_,_,_,rfl⟩).mono ?_;rintro e w2 ⟨rfl,aA⟩;clear q1)
  | (go_at_call 57;refine(lF _ _ _ ⟨_,_,_,rfl⟩).mono ?_;rintro e w1 ⟨rfl,ay⟩))
 go_ret
 have h1:=ay.size
 have h2:=aA.size
 have h3:=aK.size
 have h4:=hb4.size
 have h5:=cW.size
 simp only[World.size_alloc] at h1 h2 h3 h4 h5
 have le:∀s:List UInt8,s.length≤20→s.length≤maxLen:=λs h=>by unfold maxLen;omega
 have t2:SS (λb=>w.heap.size≤b) w1 (.slice (some ⟨w.heap.size,0,none⟩) 2 2) [tQ,tQ]:=(BJ (D:=λb=>w.heap.size≤b) w _ rfl (nl _) [tQ,tQ] (by simp[maxLen]) (by simp[tQ,maxLen]) 9).below ay (nl _)
 have n1:=(zb (D:=λb=>w.heap.size≤b) w1 _ rfl (by omega) (l:=ig.ag) 79 (by simp[ig,maxLen]) ⟨_,_,[],rfl,⟨by simp[maxLen],by simp[tB,maxLen]⟩,t2,SS.nil _ _ none 0,rfl⟩).below aA (nl _)
 have t3:SS (λb=>w.heap.size≤b) w3 (.slice (some ⟨w2.heap.size,0,none⟩) 2 2) [tS,tQ]:=(BJ (D:=λb=>w.heap.size≤b) w2 _ rfl (by omega) [tS,tQ] (by simp[maxLen]) (by simp[tQ,tS,maxLen]) 9).below aK (nl _)
 have Vx:=((Below.refl _ w2).alloc (nl _) _).trans (af aK (by simp))
 have o1:=zb (D:=λb=>w.heap.size≤b) w3 _ rfl (by omega) (l:=ig.ops) 50 (by simp[ig,maxLen]) ⟨_,_,_,rfl,⟨by simp[maxLen],by simp[tS,maxLen]⟩,SS.nil _ _ none 0,SS.nil _ _ none 0,_,_,[],rfl,⟨by simp[maxLen],by simp[tB,maxLen]⟩,t3,SS.nil _ _ none 0,rfl⟩
 have Xp:=(((Below.refl _ (w3.alloc _)).alloc (nl _) _).alloc (by simp) _).trans (af hb4 (by simp))
 have E3:=((((Below.refl _ w3).alloc (nl _) _).alloc (by simp) _).alloc (by simp;omega) _).trans (af hb4 (by simp;omega))
 have t4:SS (λb=>w.heap.size≤b) w4 (.slice (some ⟨w3.heap.size+1+1,0,none⟩) 2 2) [tQ,tQ]:=(BJ (D:=λb=>w.heap.size≤b) ((w3.alloc _).alloc _) (w3.heap.size+1+1) (by simp) (by omega) [tQ,tQ] (by simp[maxLen]) (by simp[tQ,maxLen]) 9).below hb4 (nl _)
 have n2:=zb (D:=λb=>w.heap.size≤b) w4 _ rfl (by omega) (l:=fe.ag) 79 (by simp[fe,maxLen]) ⟨_,_,[],rfl,⟨by simp[maxLen],by simp[tB,maxLen]⟩,t4,SS.nil _ _ none 0,rfl⟩
 have Xq:=((Below.refl _ (w4.alloc _)).alloc (nl _) _).trans (af cW (by simp))
 have E4:=(((Below.refl _ w4).alloc (nl _) _).alloc (by simp) _).trans (af cW (by simp;omega))
 have t5:SS (λb=>w.heap.size≤b) w5 (.slice (some ⟨w4.heap.size+1,0,none⟩) 1 1) [[97,114,114,97,121,91,63,116,93]]:=(BJ (D:=λb=>w.heap.size≤b) (w4.alloc _) (w4.heap.size+1) (by simp) (by omega) [[97,114,114,97,121,91,63,116,93]] (by simp[maxLen]) (by simp[maxLen]) 9).below cW (nl _)
 have o2:=zb (D:=λb=>w.heap.size≤b) w5 _ rfl (by omega) (l:=fe.ops) 50 (by simp[fe,maxLen]) ⟨_,_,[],rfl,⟨by simp[maxLen],by simp[maxLen]⟩,t5,SS.nil _ _ none 0,rfl⟩
 have E0:Below w.heap.size w w5:=((((Below.refl _ w).alloc (nl _) _).trans (af ay (by simp))).alloc (by omega) _).trans (af aA (by simp;omega)) |>.trans (af Vx (by omega)) |>.trans (af E3 (by omega)) |>.trans (af E4 (by omega))
 refine⟨_,rfl,Ad _ (w5.heap.size+1+1) (by simp) (by show w.heap.size≤_;omega) (l:=ia) 58 (by simp[ia,maxLen]) ⟨_,_,_,rfl,by simp[ig,maxLen],?_,?_,_,_,[],rfl,by simp[fe,maxLen],?_,?_,rfl⟩,?_⟩
 · exact(((n1.below Vx (nl _)).below E3 (nl _)).below E4 (nl _)).below (((Below.refl _ w5).alloc (nl _) _).alloc (by simp) _) (nl _)
 · exact((o1.below Xp (nl _)).below E4 (nl _)).below (((Below.refl _ w5).alloc (nl _) _).alloc (by simp) _) (nl _)
 · exact(n2.below Xq (nl _)).below (((Below.refl _ w5).alloc (nl _) _).alloc (by simp) _) (nl _)
 · exact o2.below ((Below.refl _ (w5.alloc _)).alloc (nl _) _) (nl _)
 · exact((E0.alloc (by omega) _).alloc (by simp;omega) _).alloc (by simp;omega) _
end Go.Proofs.YtakgjcfkdemipaaGreatDoor
namespace Go.Proofs.YtakgjcfkdemipaaGreatDoor
open Go.RowKit Go.Maps Go.Sort
theorem JF (v:Value) (ss:List (List UInt8)) (B:Nat) (W:World) (h:W.ownsRow B 9 1 v ss.length (aD ss)) (hl:ss.length≤100000):
 Calls Tryz.prog 102 #[v] W λe w'=>e=.returned (.tuple #[])∧w'.ownsRow B 9 1 v ss.length (aD (ss.mergeSort leB))∧W.grownBy w' v.ownBlock:=by
 rcases h.2 with⟨rfl,h0⟩|⟨g,cap,cur,rfl,hb,hh,h1,h2,h3,h4⟩
 · have e0:ss=[]:=List.length_eq_zero_iff.1 (by omega)
   subst e0;refine(Tryz.slices_Sort_string_none none 0 W).mono ?_;rintro e w' ⟨rfl,rfl⟩;exact⟨rfl,by simpa[aD] using h,lQ _ _⟩
 · have hH:Holds encStr W g 0 ss.toArray:=holds_of_block hh (by simpa[aD] using h4)
   refine(Tryz.slices_Sort_string g 0 cap ss W hH (Array.getElem?_eq_some_iff.1 hh).1 (by omega)).mono ?_;rintro e w' ⟨rfl,n,os,rfl⟩;exact⟨rfl,ownsRow_sorted (by simp) hb hh h1 h2 h3,grownBy_sorted _⟩
theorem K7 {s:cD} (h1:s.args.length≤6) (hty:∀t∈aI s,(aq t).1=0):(sX s).length≤700:=by
 have h2:∀l:List (List UInt8),(∀t∈l,(aq t).1=0)→(l.flatMap λt=>(dz t).1).length≤l.length * 100:=by
  intro l
  induction l with
  | nil=>simp
  | cons x l ih=>
   intro h;have h3:=(kH (h x (by simp))).2.1;have h4:=ih λy hy=>h y (by simp[hy])
   rw[List.flatMap_cons,List.length_append,List.length_cons,Nat.succ_mul];omega
 have h3:=h2 _ hty
 have h4:(aI s).length≤7:=by
  unfold aI;rw[List.length_append];split<;>simp<;>omega
 have:=Nat.mul_le_mul_right 100 h4
 unfold sX
 omega
theorem qE:∀l:List aG,(∀o∈l,o.sig.args.length≤6∧∀t∈aI o.sig,(aq t).1=0)→(l.flatMap λo=>sX o.sig).length≤l.length * 700
 | [],_=>by simp
 | o::l,h=>by
  have h1:=K7 (h o (by simp)).1 (h o (by simp)).2;have h2:=qE l λx hx=>h x (by simp[hx])
  rw[List.flatMap_cons,List.length_append,List.length_cons,Nat.succ_mul];omega
theorem xR:∀l:List aG,(∀o∈l,∀t∈aI o.sig,(aq t).1=0)→∀n∈l.flatMap λo=>sX o.sig,n.length≤100:=by
 intro l h n hn
 obtain⟨o,ho,hn⟩:=List.mem_flatMap.1 hn
 obtain⟨t,ht,hn⟩:=List.mem_flatMap.1 hn
 exact(kH (h o ho t ht)).2.2 n hn
theorem DM (f:aB):(((mJ f).flatMap aI).flatMap λt=>(dz t).1)=(f.ag.flatMap λo=>sX o.sig)++f.ops.flatMap λo=>sX o.sig:=by
 unfold mJ sX
 rw[List.flatMap_append,List.flatMap_append,List.flatMap_assoc,List.flatMap_assoc,List.flatMap_map,List.flatMap_map]
set_option maxRecDepth 8000 in
theorem JU {D : Nat → Prop} (v : Value) (f : aB) (w : World) (ht : fN w) (hv : fE D w v f) (hn : f.ag.length ≤ 100000) :
 Calls Tryz.prog 47 #[v] w λe w'=>∃u,e=.returned (.tuple #[u,.int .i64 (yx f).2])∧SS (λb=>w.heap.size≤b) w' u (yx f).1∧Below w.heap.size w w':=by
 obtain⟨nv,ov,rfl,hnl,hN,hO⟩:=hv
 have hA:=(Below.refl _ w).alloc (nl _) (.cells #[str f.name,.int .u8 f.kind,.bool f.par,nv,ov] 58)
 have cI:=heap_alloc_new w (.cells #[str f.name,.int .u8 f.kind,.bool f.par,nv,ov] 58)
 have HT:=Lib.hid (λW (hW:Below w.heap.size w W)=>ht.below hW (nl _))
 have HC:=o8 _ f (w.alloc (.cells #[str f.name,.int .u8 f.kind,.bool f.par,nv,ov] 58)) (ht.below hA (nl _)) ⟨nv,ov,rfl,hnl,hN.below hA (nl _),hO.below hA (nl _)⟩ hn
 have HW:yx f=if eU f=true then(iY (((mJ f).flatMap aI).flatMap λt=>(dz t).1),0) else([],42):=rfl
 have HE:jS f=if eU f=true then 0 else 42:=rfl
 obtain⟨p1,c1,rfl,_⟩:=hN.shape
 obtain⟨p2,c2,rfl,_⟩:=hO.shape
 have bx:=bL cI
 generalize yx f=UR at *
 rcases hf:eU f with _|_
 · rw[HE,hf] at HC
   rw[hf] at HW;have HX:=Lib.hid HW;clear HW HE hN hO hf;go_enter Tryz.func47,Tryz.ntmps47;go_wp2_with (go_at_call 38;refine HC.mono ?_;clear HC;rintro e w2 ⟨rfl,aA⟩);go_ret2;rw[HX.out];exact⟨_,rfl,SS.nil _ _ _ _,hA.trans (af aA (by simp))⟩
 · rw [HE, hf] at HC
   rw[hf,DM] at HW;have hp:=ec hf;have GD:=(dr hp.2.2.2.1).1;have hlo:=hp.2.2.2.2.2.2.1;have Cf:∀o∈f.ag,o.sig.args.length≤6∧∀t∈aI o.sig,(aq t).1=0:=λo ho=>by
    have hn:=hp.2.2.2.1;unfold bh at hn;simp only[Bool.and_eq_true,List.all_eq_true,decide_eq_true_eq] at hn;have hs:=eC (hn.1.1 o ho);exact⟨hs.1,λt ht=>(hs.2.2.2.2 t ht).1⟩
   have hos:∀o∈f.ops,o.sig.args.length≤6∧∀t∈aI o.sig,(aq t).1=0:=λo ho=>by
    have hs:=eC (hp.2.2.2.2.2.2.2.1 o ho).2;exact⟨hs.1,λt ht=>(hs.2.2.2.2 t ht).1⟩
   have Q8:=qE f.ag Cf;have hlm:=qE f.ops hos;have hs1:=xR f.ag λo ho=>(Cf o ho).2
   have hs2:=xR f.ops λo ho=>(hos o ho).2
   have HX:=Lib.hid HW;have hmm:=@run_makeMap Tryz.prog;clear HW HE hf hp;go_enter Tryz.func47,Tryz.ntmps47;go_wp2_with (go_at_call 38;refine HC.mono ?_;clear HC;rintro e w2 ⟨rfl,aA⟩;have iw:=ah cI aA;have bW:=hA.trans (af aA (by simp));have BZ:=bL (aH (.cells #[.map (some w2.heap.size)] 112) (aH (.map #[] 0) iw)));clear BZ;have dg:=(bW.alloc bW.size (.map #[] 0)).alloc (by have:=bW.size;simp;omega) (.cells #[.map (some w2.heap.size)] 112);have NB:=(bB.made w2).kept (World.grownBy_alloc (w2.alloc (.map #[] 0)) (.cells #[.map (some w2.heap.size)] 112) none) (by simp);have KW:=dD (w:=w2.alloc (.map #[] 0)) (n:=w2.heap.size+1) (by simp) #[.map (some w2.heap.size)] 112;have iJ:=aH (.cells #[.map (some w2.heap.size)] 112) (aH (.map #[] 0) iw);have hM:w.heap.size≤w2.heap.size:=bW.size;have ZK:=bH iw;clear iw cI bx hA aA bW;have sK:=hN.fresh.below dg (nl _);have M9:=hO.fresh.below dg (nl _);have CN:=dg.size;have hM3:w2.heap.size+1<((w2.alloc (.map #[] 0)).alloc (.cells #[.map (some w2.heap.size)] 112)).heap.size:=by simp
   clear hN hO;generalize (w2.alloc (.map #[] 0)).alloc (.cells #[.map (some w2.heap.size)] 112)=W3 at *;generalize w2.heap.size=M at *;have RZ:=Lib.hid (λW (hW:W3.grownBy W (some M))=>HT.out W (Below.grown dg hW dg.size (λb e=>by injection e with e;omega)));go_loopw [23] (λy wx=>∃i:Nat,i≤f.ag.length∧y=.int .i64 i∧bB wx M ((f.ag.take i).flatMap λo=>sX o.sig)∧W3.grownBy wx (some M)) (λy _=>f.ag.length - (intOf y).toNat)
   case atStart=>exact⟨0,Nat.zero_le _,by go_num,by simpa using NB,lQ _ _⟩
   case round =>
    clear NB;obtain⟨i,hi,rfl,fO,hgr⟩:=hrel;have xk:=(hgr.block (M+1) (bH KW) (λe=>by injection e with e;omega)).trans KW
    by_cases hlt:i<f.ag.length
    case neg=>
     have hie:i=f.ag.length:=by omega
     subst hie;rw[List.take_length] at fO;have ue:=(hgr.block w.heap.size (bH iJ) (λe=>by injection e with e;omega)).trans iJ;have Tc:=bL ue;generalize (f.ag.flatMap λo=>sX o.sig)=A0 at *;have hal:∀i,(A0++(f.ops.take i).flatMap λo=>sX o.sig).length≤20000:=λi=>by
      have h1:=qE (f.ops.take i) λo ho=>hos o (List.mem_of_mem_take ho)
      rw[List.length_append];rw[List.length_take] at h1;have:=Nat.mul_le_mul_right 700 (show min i f.ops.length≤20 by omega);omega
     go_wp2_with fail;clear Tc xk;have Q2:=hgr;go_loopw [35] (λy wx=>∃i:Nat,i≤f.ops.length∧y=.int .i64 i∧bB wx M (A0++(f.ops.take i).flatMap λo=>sX o.sig)∧W3.grownBy wx (some M)) (λy _=>f.ops.length - (intOf y).toNat)
     case atStart=>exact⟨0,Nat.zero_le _,by go_num,by simpa using fO,Q2⟩
     case round =>
      clear fO hgr Q2 ue;obtain⟨i,hi,rfl,fO,hgr⟩:=hrel;have xk:=(hgr.block (M+1) (bH KW) (λe=>by injection e with e;omega)).trans KW
      by_cases hlt:i<f.ops.length
      case neg=>
       have hie:i=f.ops.length:=by omega
       subst hie;rw[List.take_length] at fO;have Ty:(A0++f.ops.flatMap λo=>sX o.sig).length≤20000:=by have:=hal f.ops.length;rwa [List.take_length] at this
       have Yx:∀n∈A0++f.ops.flatMap λo=>sX o.sig,n.length≤100:=λn hn=>by
        rcases List.mem_append.1 hn with hn|hn
        · exact hs1 n hn
        · exact hs2 n hn
       clear hal Q8 hlm hs1 hs2 Cf hos;generalize (A0++f.ops.flatMap λo=>sX o.sig)=AL at *;have hbc:=(ak xk 0).trans rfl;obtain⟨i0,fV,hz0,hz1,hz2⟩:=bu iP;have xx:size (setOf (H:=Unit) (.lit (.bool true)) (keysOf AL))≤20000:=by
        rw[qL,←fO.perm.length_eq];exact Nat.le_trans (rJ AL) Ty
       go_wp2_with (at_range;refine wpList_range_own _ rfl _ 112 rfl 9 4 (string_keyed Tryz.underlying9) Tryz.underlying112 _ M AL.length _ rfl fO ?_;intro w0 Ro bY hs0);have kr:=Below.grown dg (cO hgr (bY.but (some M))) dg.size (λb e=>by injection e with e;omega);have Mt:=fO.kept bY (by simp);have hMr:M<wr.heap.size:=fO.lt;have hBr:=hgr.size;have NP:wr.heap.size<w0.heap.size:=by omega
       clear hs0 hbc xk fO hi;generalize wr.heap.size=R at *
       go_frame
       have UW:=Ro;clear Ro;go_loopw [11] (λv wx=>∃(left:Lit→Bool) (cnt:Nat) (ss:List (List UInt8)),wx.ranges Tryz.prog 9 (plainElem (H:=Unit) Tryz.prog 4) M R AL.length (setOf (H:=Unit) (.lit (.bool true)) (keysOf AL)) left cnt∧ss.length+cnt≤size (setOf (H:=Unit) (.lit (.bool true)) (keysOf AL))∧
        wx.ownsRow W3.heap.size 9 1 v ss.length (aD ss)∧Collected (setOf (H:=Unit) (.lit (.bool true)) (keysOf AL)) left ss∧Below w.heap.size w wx∧R<wx.heap.size) (λ_ wx=>wx.rangeLeft M R)
       case atStart=>exact⟨_,_,[],UW,by simp,World.ownsRow_nil _ _ _ _,Collected.start _,kr,NP⟩
       case round =>
        obtain⟨left,cnt,ss,UU,hcs,hrow,hC,CD,hsx⟩:=hrel;go_wp2_with (at_next;refine wpList_next_ranges _ rfl _ rfl 9 (string_keyed Tryz.underlying9) (plainElem (H:=Unit) Tryz.prog 4) encStr (λb:Value=>b) (λkey kl hk=>by obtain⟨x,hx,_⟩:=Maps.keyOf_str Tryz.underlying9 hk;exact⟨x,hx⟩) (λv y _=>⟨v,rfl⟩) M R AL.length _ _ _ rfl UU ?_ ?_)
        · intro hc0 hl0
          have hp:=(hC.perm Mt (string_keyed Tryz.underlying9) Tryz.underlying9 hl0).trans Mt.perm.symm;have Wp:ss.mergeSort leB=iY AL:=mergeSort_of_perm hp;have Fj:ss.length≤100000:=by omega
          have HS:=JF _ ss _ _ hrow Fj;have n5:=λb e=>(hrow.lt b e).1
          obtain⟨pv,cv,rfl⟩:=aS hrow;go_wp2_with (go_at_call 102;refine HS.mono ?_;clear HS;rintro e w5 ⟨rfl,Mp,Io⟩);go_ret2;rw[HX.out];rw[Wp] at Mp;refine⟨_,rfl,(SS.row Mp (by rw[←Wp,List.length_mergeSort]) (λs hs=>?_)).mono (λb hb=>Nat.le_trans CN hb),CD.grown Io CD.size (λk e=>Nat.le_trans CN (n5 k e))⟩;simp only[iY,List.mem_mergeSort,oq] at hs;have:=Yx s hs;unfold maxLen;omega
        · intro x c kl yd yp w3 Tg hkey hlk hv hat Rp hlt hg3 O1 KM
          obtain⟨x',ex,rfl,xA⟩:=Maps.keyOf_str Tryz.underlying9 hkey;obtain rfl:x=x':=encStr_inj ex;have xu:=hrow.kept hg3 (Or.inr (row_ne_iter hrow UU).symm);have mF:=hlt;clear O1 hlt;have Rv:=CN;have CN:=hg3.size;go_wp2_with (at_builtin;refine wpList_append_own _ rfl _ _ 34 rfl W3.heap.size 9 i0 _ 1 16 fD fV hz0 hz1 hz2 rfl (by decide) _ _ _ rfl (xu.alloc _) ⟨w3.heap.size,0,none⟩ 1 1 [encStr x] rfl rfl (cell_one_new _ _ _) (by intro u hu;rw[List.mem_singleton.1 hu];rfl) (by unfold maxLen;omega) (by omega) (by simp;omega) ?_;intro v' w4 bM wm _);have Rq:=(Rp.alloc _).kept wm (row_ne_low xu (by omega)) (row_ne_iter xu Rp);refine⟨⟨_,Tg,ss++[x],Rq,by simp;omega,by simpa[aD] using bM,hC.step hlk hat,?_,?_⟩,?_⟩
          · have dH:=CD.grown hg3 CD.size (λk e=>by cases e;omega)
            exact(dH.alloc dH.size _).grown wm (by have:=dH.size;simp;omega) (λk e=>Nat.le_trans Rv (xu.lt k e).1)
          · have:=wm.size
            simp at this;omega
          · show World.rangeLeft w4 M R<World.rangeLeft wr M R
            rw[Rq.left_eq,UU.left_eq];exact mF
      case pos=>
       obtain⟨x,hx⟩:∃x,f.ops[i]? =some x:=⟨_,List.getElem?_eq_getElem hlt⟩
       have xA:=List.mem_of_getElem? hx;have Hx:=M9.agree (w':=wr) (λb hb hlt=>hgr.block b hlt (λe=>by injection e with e;have:=hb.2;omega));obtain⟨b1,o1,av,sv,kj,KD,⟨Az,kC⟩,dy,cQ,uR,kK,mR,qG,sN⟩:=Hx.at hx;subst kj;obtain⟨pa,ca,rfl,_⟩:=dy.shape;obtain⟨ps,cs,rfl,_⟩:=cQ.shape;have jE:=(Below.refl _ wr).alloc (nl _) (.cells #[str x.name,.bool x.sig.iter,.slice pa x.sig.args.length ca,str x.sig.res,.slice ps x.sig.sigs.length cs] 50);have ay:=bL (heap_alloc_new wr (.cells #[str x.name,.bool x.sig.iter,.slice pa x.sig.args.length ca,str x.sig.res,.slice ps x.sig.sigs.length cs] 50));have g1:=below_grown jE (some M);have HN:=Bb _ x.sig (M+1) M _ _ (λW hW=>RZ.out W (cO hgr (cO g1 hW))) ⟨_,_,rfl,kC,dy.below jE (nl _),cQ.below jE (nl _)⟩ (aH (.cells #[str x.name,.bool x.sig.iter,.slice pa x.sig.args.length ca,str x.sig.res,.slice ps x.sig.sigs.length cs] 50) xk) (fO.grown jE) (by have:=(hos x xA).1;omega) (by have:=hal i;omega) (hos x xA).2;have MK:=Lib.hid (show(A0++(f.ops.take i).flatMap λo=>sX o.sig)++sX x.sig=A0++(f.ops.take (i+1)).flatMap λo=>sX o.sig by rw[List.take_add_one,hx,Option.toList_some,List.flatMap_append,List.append_assoc];simp);rw[MK.out] at HN;clear hx Hx dy cQ fO;go_wp2_with (go_at_call 100;refine HN.mono ?_;clear HN;rintro e w5 ⟨rfl,kY,Io⟩);exact⟨⟨i+1,hlt,by go_num,kY,cO hgr (cO g1 Io)⟩,by simp only[intOf];omega⟩
    case pos=>
     have hal:∀i,((f.ag.take i).flatMap λo=>sX o.sig).length≤20000:=λi=>by
      have h1:=qE (f.ag.take i) λo ho=>Cf o (List.mem_of_mem_take ho)
      rw[List.length_take] at h1;have:=Nat.mul_le_mul_right 700 (show min i f.ag.length≤20 by omega);omega
     obtain⟨x,hx⟩:∃x,f.ag[i]? =some x:=⟨_,List.getElem?_eq_getElem hlt⟩
     have xA:=List.mem_of_getElem? hx;have Hx:=sK.agree (w':=wr) (λb hb hlt=>hgr.block b hlt (λe=>by injection e with e;have:=hb.2;omega));obtain⟨b1,o1,av,sv,kj,KD,⟨Az,kC⟩,dy,cQ,uR,kK,mR,qG,sN⟩:=Hx.at hx;subst kj;obtain⟨pa,ca,rfl,_⟩:=dy.shape;obtain⟨ps,cs,rfl,_⟩:=cQ.shape;have jE:=(Below.refl _ wr).alloc (nl _) (.cells #[str x.name,.bool x.sig.iter,.slice pa x.sig.args.length ca,str x.sig.res,.slice ps x.sig.sigs.length cs] 79);have ay:=bL (heap_alloc_new wr (.cells #[str x.name,.bool x.sig.iter,.slice pa x.sig.args.length ca,str x.sig.res,.slice ps x.sig.sigs.length cs] 79));have g1:=below_grown jE (some M);have HN:=Bb _ x.sig (M+1) M _ _ (λW hW=>RZ.out W (cO hgr (cO g1 hW))) ⟨_,_,rfl,kC,dy.below jE (nl _),cQ.below jE (nl _)⟩ (aH (.cells #[str x.name,.bool x.sig.iter,.slice pa x.sig.args.length ca,str x.sig.res,.slice ps x.sig.sigs.length cs] 79) xk) (fO.grown jE) (by have:=(Cf x xA).1;omega) (by have:=hal i;omega) (Cf x xA).2;have MK:=Lib.hid (show((f.ag.take i).flatMap λo=>sX o.sig)++sX x.sig=(f.ag.take (i+1)).flatMap λo=>sX o.sig by rw[List.take_add_one,hx,Option.toList_some,List.flatMap_append];simp);rw[MK.out] at HN;clear hx Hx dy cQ fO;go_wp2_with (go_at_call 100;refine HN.mono ?_;clear HN;rintro e w5 ⟨rfl,kY,Io⟩);exact⟨⟨i+1,hlt,by go_num,kY,cO hgr (cO g1 Io)⟩,by simp only[intOf];omega⟩
end Go.Proofs.YtakgjcfkdemipaaGreatDoor
