/-
  Lemmas: operations put and sorted; found by name. Conditions: bounds of lengths; the variable strings.asciiSpace.
-/
import Derived.Test.YtakgjcfkdemipaaGreatDoorZB28
import Derived.Test.YtakgjcfkdemipaaGreatDoorZBn
import Derived.Test.YtakgjcfkdemipaaGreatDoorZM9
set_option maxHeartbeats 25600000
set_option maxRecDepth 8000
namespace Go.Proofs.YtakgjcfkdemipaaGreatDoor
section
open Go.RowKit
theorem vc5 {s u:List UInt8} (hs:(aq s).1=0) (hu:(aq u).1=0):(aV s u).2=0∨(aV s u).2=2:=by
 rcases h1:aq s with⟨c,T⟩
 rcases h2:aq u with⟨d,A⟩
 rw[h1] at hs
 rw[h2] at hu
 simp only at hs hu
 subst hs hu
 rw[Fe h1 h2]
 unfold kJ
 split
 · exact .inr rfl
 · exact .inl rfl
theorem vc6 {a:List UInt8} (ha:(aq a).1=0):∀l:List (List UInt8),(∀t∈l,(aq t).1=0)→(ic a l).2=0∨(ic a l).2=2
 | [],_=>.inl rfl
 | t::l,h=>by
  have h1:=vc5 (h t (List.mem_cons_self ..)) ha;have h2:=vc6 ha l λx hx=>h x (List.mem_cons_of_mem _ hx)
  unfold ic;split
  · split
    · exact .inl rfl
    · exact h2
  · exact h1
theorem vf7 {s:bP} {a:List UInt8} (hs:∀t∈aQ s,(aq t).1=0) (ha:a=[]∨(aq a).1=0):(eF s a).2=0∨eF s a=(.zero,2):=by
 unfold eF
 by_cases h0:a=[]
 · rw[if_pos h0];exact .inl rfl
 rw[if_neg h0]
 have hc:(aq a).1=0:=ha.resolve_left h0
 have h1:=vc6 hc s.args λt ht=>hs t (by unfold aQ;exact List.mem_append_left _ ht)
 by_cases h2:(ic a s.args).2=0
 · rw[if_neg (by simp[h2])]
   by_cases h3:s.res=[]
   · rw[if_pos h3];exact .inl rfl
   · rw[if_neg h3]
     have h4:=vc5 (hs s.res (by unfold aQ;rw[if_neg h3];simp)) hc
     by_cases h5:(aV s.res a).2=0
     · rw[if_neg (by simp[h5])];exact .inl rfl
     · rw[if_pos h5,h4.resolve_left h5];exact .inr rfl
 · rw[if_pos h2,h1.resolve_left h2];exact .inr rfl
theorem vf6 (s:bP):eF s []=(s,0):=by unfold eF;rw[if_pos rfl]
theorem vfy (c:bw) {t:List UInt8} (hf:∀f∈c.dG,dF f=true) (h0:(aq t).1=0):∀o∈(dU c t).1,(eF o.sig (dU c t).2).2=0∨eF o.sig (dU c t).2=(.zero,2):=by
 intro o ho
 by_cases hn:(dU c t).2=[]
 · rw[hn,vf6];exact .inl rfl
 have hk:(aq t).2.k=7:=by
  apply Classical.byContradiction;intro hk;apply hn;unfold dU;split<;>first|rfl|(rename_i h;exact absurd h hk)
 have e:dU c t=(((ew c.dG (eH t).1).map (·.ops)).getD [],(bQ t).1):=by
  unfold dU;simp only[hk]
 rw[e] at ho hn ⊢
 simp only at ho hn ⊢
 obtain⟨-,-,-,-,h1,h2⟩:=sU h0 hk
 rcases hq:ew c.dG (eH t).1 with _|f
 · rw[hq] at ho;simp at ho
 rw[hq] at ho
 simp only[Option.map_some,Option.getD_some] at ho
 have hs:=eN ((dQ (hf f (List.mem_of_find?_eq_some hq))).2.2.2.2.2.2.2.1 o ho).2
 refine vf7 (λu hu=>(hs.2.2.2.2 u hu).1) ?_
 rcases hb:(bQ t).2.1 with _|_
 · exact .inl (h2 hb)
 · exact .inr (h1 hb).1
def vae (R:List aL) (a:List UInt8):List aL×Nat:=if(R.all λo=>decide ((eF o.sig a).2=0))=true then(R.map λo=>⟨o.name,(eF o.sig a).1⟩,0) else([],2)
theorem vcr {a:List UInt8}:∀l:List aL,(∀o∈l,(eF o.sig a).2=0∨eF o.sig a=(.zero,2))→ez a l=vae l a
 | [],_=>rfl
 | o::l,h=>by
  have ih:=vcr l λx hx=>h x (List.mem_cons_of_mem _ hx)
  unfold ez;rw[ih];unfold vae;rw[List.all_cons];rcases h o (List.mem_cons_self ..) with h1|h1
  · rw[if_pos h1,decide_eq_true h1,Bool.true_and]
    split
    · rw[if_pos rfl];rfl
    · rw[if_neg (by simp)]
  · rw[if_neg (by rw[h1];simp),decide_eq_false (by rw[h1];simp),Bool.false_and,if_neg (by simp),h1]
theorem vcq {R l:List aL} (a:List UInt8) (ho:iq l) (hr:v8 R) (hp:R.Perm l):vae R a=if(vae l a).2≠0 then([],(vae l a).2) else(lH (vae l a).1,0):=by
 have hall:(R.all λo=>decide ((eF o.sig a).2=0))=l.all λo=>decide ((eF o.sig a).2=0):=by
  rw[Bool.eq_iff_iff,List.all_eq_true,List.all_eq_true];exact⟨λh x hx=>h x (hp.mem_iff.2 hx),λh x hx=>h x (hp.mem_iff.1 hx)⟩
 unfold vae
 rw[hall]
 split
 · rw[if_neg (by simp)]
   congr 1
   have hn:((l.map λo:aL=>(⟨o.name,(eF o.sig a).1⟩:aL)).map (·.name))=l.map (·.name):=by rw[List.map_map];rfl
   refine wq (CQ (by unfold iq;rw[hn];exact ho)) ?_ ((hp.map _).trans (nB _).symm);exact List.pairwise_map.2 hr
 · rw[if_pos (by simp)]
theorem ve4 (c:bw) {t:List UInt8} (hf:∀f∈c.dG,dF f=true) (hn:aU c.ag=true) (h0:(aq t).1=0):Es c t=vae (lH (vaj c t)) (dU c t).2:=by
 have ho:=EG c t hf hn
 have hR:=vax c h0
 rw[vcq (dU c t).2 ho (CQ (ho.perm hR)) ((nB _).trans hR),←vcr _ (vfy c hf h0)]
 rfl
end
open Go Go.RowKit
theorem vfz {c:bw} {t:List UInt8} (iw:vap c) (hg:dz c t=0):(aq t).1=0∧c.ag.length≤900∧((aq t).2.k=7→∃f,ew c.dG (eH t).1=some f∧f.ops.length≤900):=by
 refine⟨tA hg,Nat.le_trans (ec iw.2).1 (by decide),λh7=>?_⟩
 obtain⟨f,hf⟩:=vbn (n:=6) hg h7
 exact⟨f,hf,Nat.le_trans (dQ (iw.1 f (List.mem_of_find?_eq_some hf))).2.2.2.2.2.2.1 (by decide)⟩
theorem vd6 {R:List aL} {A:List UInt8} (h:∀o∈R,(eF o.sig A).2=0):vae R A=(R.map λo=>⟨o.name,(eF o.sig A).1⟩,0):=by
 unfold vae
 rw[if_pos (List.all_eq_true.2 λo ho=>decide_eq_true (h o ho))]
theorem vd7 {R:List aL} {A:List UInt8} {x:aL} (hx:x∈R) (h:(eF x.sig A).2≠0):vae R A=([],2):=by
 unfold vae
 rw[if_neg]
 intro ha
 exact h (of_decide_eq_true (List.all_eq_true.1 ha x hx))
theorem vdb {D D':Nat→Prop} (l:List aA) (ag:List aL) (lv nv:Value) (t:List UInt8) (w:World) (hl:bG D w lv l) (hn:aY D' w nv ag) (htl:t.length≤maxLen):
 Calls Tryz.prog 22 #[lv,nv,str t] w λe w'=>∃u,e=.returned (.tuple #[u,.int .i64 (jA l ag t).2])∧aY Any w' u (jA l ag t).1∧Below w.heap.size w w':=by
 have HA:=vd8 l (vf8 l) lv ag nv w hl hn
 have HP:=λW (hW:Below w.heap.size w W)=>vdc ag nv t W (hn.below hW zr) htl
 have HG:=λ(iw:vap ⟨l,ag,fP ag t⟩) W (hW:Below w.heap.size w W)=>vc2 ⟨l,ag,fP ag t⟩ iw lv nv t W (hl.below hW zr) (hn.below hW zr) htl
 have vfg:=λh0 h1 h7 W (hW:Below w.heap.size w W)=>vc3 ⟨l,ag,fP ag t⟩ lv nv t W (hl.below hW zr) (hn.below hW zr) h0 h1 h7
 have cM:jA l ag t=if fJ l ag t≠0 then([],fJ l ag t) else Es ⟨l,ag,fP ag t⟩ t:=rfl
 have SD:fJ l ag t=if cE l ag≠0 then cE l ag else dz ⟨l,ag,fP ag t⟩ t:=rfl
 have hro:=λiw hg=>vfz (c:=⟨l,ag,fP ag t⟩) (t:=t) iw hg
 have vjj:=λiw h0=>vc1 (c:=⟨l,ag,fP ag t⟩) (t:=t) iw h0
 have hir:=λ(iw:vap ⟨l,ag,fP ag t⟩) h0=>ve4 ⟨l,ag,fP ag t⟩ iw.1 iw.2 (t:=t) h0
 have Sv:=λh0=>(nB _).trans (vax ⟨l,ag,fP ag t⟩ (t:=t) h0)
 have SB:=λ(iw:vap ⟨l,ag,fP ag t⟩) h0=>CG ⟨l,ag,fP ag t⟩ t iw.1 iw.2 (CU h0).2.2.2.1
 simp only at HG vfg hro
 generalize jA l ag t=RS at *
 by_cases ha:cE l ag=0
 case neg=>
  rw[if_pos ha] at SD;rw[SD,if_pos ha] at cM;have HX:=zh cM;obtain⟨g1,g2⟩:=bK ha;have g3:((cE l ag:Int)==0)=false:=by rw[beq_eq_false_iff_ne];omega
  generalize cE l ag=AS at *;obtain⟨p,c,rfl,_⟩:=hl.shape;obtain⟨q,cq,rfl,_⟩:=hn.shape;clear cM SD ha hl hn HP HG vfg hro vjj hir Sv SB;go_enter Tryz.func22,Tryz.ntmps22;go_wp2_with (go_at_call 60;refine HA.mono ?_;clear HA;rintro e w1 ⟨rfl,au⟩);go_ret2;rw[HX.out];exact⟨_,rfl,aY.nil _ _ _ _,au⟩
 case pos=>
 have iw:=vdw (par:=fP ag t) ha
 rw[if_neg (by simp[ha])] at SD
 rw[SD] at cM
 rw[ha] at HA
 replace HG:=HG iw
 by_cases h0:dz ⟨l,ag,fP ag t⟩ t=0
 case neg=>
  rw[if_pos h0] at cM;have HX:=zh cM;obtain⟨g1,g2⟩:=bK h0;generalize dz ⟨l,ag,fP ag t⟩ t=GK at *;generalize fP ag t=P at *;obtain⟨p,c,rfl,_⟩:=hl.shape;obtain⟨q,cq,rfl,_⟩:=hn.shape;clear cM SD ha iw h0 hl hn vfg hro vjj hir Sv SB;go_enter Tryz.func22,Tryz.ntmps22;go_wp2_with (first
   | (go_at_call 68;refine(HG _ cD).mono ?_;clear HG;rintro e w3 ⟨rfl,aH⟩;have dx:=cD.trans (af aH cD.size))
   | (go_at_call 69;refine(HP _ au).mono ?_;clear HP;rintro e w2 ⟨rfl,aC⟩;have cD:=au.trans (af aC au.size))
   | (go_at_call 60;refine HA.mono ?_;clear HA;rintro e w1 ⟨rfl,au⟩))
  go_ret2;rw[HX.out];exact⟨_,rfl,aY.nil _ _ _ _,dx⟩
 case pos =>
  obtain⟨k0,k1,k7⟩:=hro iw h0;rw[if_neg (by simp[h0]),hir iw k0] at cM;rw[h0] at HG
  replace vfg:=vfg k0 k1 k7
  obtain⟨vkp,vll⟩:=vjj iw k0
  replace Sv:=Sv k0
  have PI:=(Sv.length_eq▸SB iw k0:(lH (vaj ⟨l,ag,fP ag t⟩ t)).length≤1000);have hrl:∀x∈lH (vaj ⟨l,ag,fP ag t⟩ t),x.sig.args.length≤100000:=λx hx=>(vll x (Sv.mem_iff.1 hx)).1
  generalize lH (vaj ⟨l,ag,fP ag t⟩ t)=R at *;generalize (dU ⟨l,ag,fP ag t⟩ t).2=A at *;have vlv:=zh hrl;have HX:=zh cM;generalize fP ag t=P at *;obtain⟨p,c,rfl,_⟩:=hl.shape;obtain⟨q,cq,rfl,_⟩:=hn.shape;clear cM SD ha h0 hl hn iw hro vjj hir Sv SB hrl vll k0 k1 k7;go_enter Tryz.func22,Tryz.ntmps22;go_wp2_with (first
   | (go_at_call 70;refine(vfg _ dx).mono ?_;clear vfg;rintro e w4 ⟨vqi,rfl,hR,hb4⟩;obtain⟨pR,cR,rfl,vkk⟩:=hR.shape;have eD:=dx.trans (af hb4 dx.size))
   | (go_at_call 68;refine(HG _ cD).mono ?_;clear HG;rintro e w3 ⟨rfl,aH⟩;have dx:=cD.trans (af aH cD.size))
   | (go_at_call 69;refine(HP _ au).mono ?_;clear HP;rintro e w2 ⟨rfl,aC⟩;have cD:=au.trans (af aC au.size))
   | (go_at_call 60;refine HA.mono ?_;clear HA;rintro e w1 ⟨rfl,au⟩))
  unfold maxLen at vkk;clear au aC aH hb4 cD dx;go_loopw [10,11] (λv a wx=>∃i:Nat,i≤R.length∧a=.int .i64 i∧Below w4.heap.size w4 wx∧Hid (∀o∈R.take i,(eF o.sig A).2=0)∧cQ w4.heap.size wx v ((R.take i).map λo=>⟨o.name,(eF o.sig A).1⟩)) (λ_ a _=>R.length - (intOf a).toNat)
  case atStart=>exact⟨0,Nat.zero_le _,by go_num,zb _,(λo ho=>by simp at ho),cQ.nil _ _⟩
  case round =>
   obtain⟨i,hi,rfl,hb,hp,hown⟩:=hrel;have DA:=eD.trans (af hb eD.size)
   by_cases hlt:i<R.length
   case neg=>
    obtain rfl:i=R.length:=by omega
    have HY:=zh (show RS=(R.map λo=>⟨o.name,(eF o.sig A).1⟩,0) by rw[HX.out,vd6 (by have:=hp.out;rwa [List.take_length] at this)]);rw[List.take_length] at hown;obtain⟨pv,cv,rfl⟩:=hown.shape;generalize (R.map λo:aL=>(⟨o.name,(eF o.sig A).1⟩:aL))=LL at *;clear hp;go_wp2_with fail;go_ret2;rw[HY.out];exact⟨_,rfl,hown.x9.mono λ_ _=>trivial,DA⟩
   case pos=>
    obtain⟨pv,cv,rfl⟩:=hown.shape;obtain⟨x,hkx⟩:∃x,R[i]? =some x:=⟨_,List.getElem?_eq_getElem hlt⟩
    obtain⟨b1,o1,pa,vqa,rfl,⟨F8,mI⟩,vgg,vgh,d0,d1,d2,d3,d4,d5⟩:=hR.at hkx;have hxl:=vlv.out x (List.mem_of_getElem? hkx);have vfh:=vbg (.agg #[str x.name,.bool x.sig.iter,pa,str x.sig.res,vqa,str A]) x A wr ⟨_,_,rfl,⟨F8,mI⟩,vgg.fresh.below hb zr,vgh.fresh.below hb zr⟩ vkp hxl;obtain⟨vq6,c5,rfl,_⟩:=vgg.shape;obtain⟨p6,c6,rfl,_⟩:=vgh.shape
    replace d0:=Below.keep hb d0
    replace d1:=Below.keep hb d1
    replace d2:=Below.keep hb d2
    replace d3:=Below.keep hb d3
    replace d4:=Below.keep hb d4
    replace d5:=Below.keep hb d5
    by_cases hz:(eF x.sig A).2=0
    case neg=>
     have HY:=zh (show RS=([],2) by rw[HX.out,vd7 (List.mem_of_getElem? hkx) hz]);rw[decide_eq_false hz] at vfh;clear hp hown hkx vgg vgh HX hR hz;generalize eF x.sig A=PK at *;go_wp2_with (go_at_call 71;refine vfh.mono ?_;clear vfh;rintro e w5 ⟨u,rfl,⟨av,sv,rfl,vq0,vqc,vqb⟩,eT⟩;obtain⟨vq7,c7,rfl,_⟩:=vqc.shape;obtain⟨vq8,c8,rfl,_⟩:=vqb.shape;have kH:=(DA.trans (af eT DA.size)).alloc (Nat.le_trans DA.size eT.size) (.cells #[.bool PK.1.iter,.slice vq7 PK.1.args.length c7,str PK.1.res,.slice vq8 PK.1.sigs.length c8] 36));go_ret2;rw[HY.out];exact⟨_,rfl,aY.nil _ _ _ _,kH⟩
    case pos=>
     have FV:=zh (show((R.take i).map λo:aL=>(⟨o.name,(eF o.sig A).1⟩:aL))++[⟨x.name,(eF x.sig A).1⟩]=(R.take (i+1)).map λo:aL=>(⟨o.name,(eF o.sig A).1⟩:aL) by rw[List.take_add_one,hkx];simp);have hp2:Hid (∀o∈R.take (i+1),(eF o.sig A).2=0):=by
      intro o ho;rw[List.take_add_one,hkx] at ho;rcases List.mem_append.1 ho with h|h
      · exact hp.out o h
      · simp at h;rw[h];exact hz
     have vnz:((R.take i).map λo:aL=>(⟨o.name,(eF o.sig A).1⟩:aL)).length+1≤1000:=by rw[List.length_map,List.length_take];omega
     rw[decide_eq_true hz] at vfh;generalize vmo:((R.take i).map λo:aL=>(⟨o.name,(eF o.sig A).1⟩:aL))=L at *;generalize vmp:eF x.sig A=PK at *;clear hp hkx vgg vgh HX hR hz vmo vmp;go_upto_region 14 with(go_at_call 71;refine vfh.mono ?_;clear vfh;rintro e w5 ⟨u,rfl,⟨av,sv,rfl,vq0,vqc,vqb⟩,eT⟩;obtain⟨vq7,c7,rfl,_⟩:=vqc.shape;obtain⟨vq8,c8,rfl,_⟩:=vqb.shape);have vZ:=(zb w5).alloc zr (.cells #[.bool PK.1.iter,.slice vq7 PK.1.args.length c7,str PK.1.res,.slice vq8 PK.1.sigs.length c8] 36);have C5:=heap_alloc_new w5 (.cells #[.bool PK.1.iter,.slice vq7 PK.1.args.length c7,str PK.1.res,.slice vq8 PK.1.sigs.length c8] 36);have vfu:=eT.trans (af vZ eT.size);have gX:=hown.below vfu zr;have Fy:=Below.keep vfu d0;have hD:∀b,(wr.heap.size≤b∨(Any b∧b<w4.heap.size)∧b<wr.heap.size)→(Value.slice pv L.length cv).ownBlock≠some b:=λb aC e=>by
      have:=hown.lt e;rcases aC with aC|aC
      · omega
      · have:=aC.1.2;omega
     have vlk:=vqc.below vZ zr;have vlj:=vqb.below vZ zr;have vkc:=hb.trans (af vfu hb.size);clear eT vfu vZ d0 d1 d2 d3 d4 d5 vqc vqb hown;generalize vnw:w5.heap.size=vol at *;generalize w5.alloc (.cells #[.bool PK.1.iter,.slice vq7 PK.1.args.length c7,str PK.1.res,.slice vq8 PK.1.sigs.length c8] 36)=W at *;obtain⟨vor,vgd⟩:∃vor:Nat→Prop,vor=λb=>wr.heap.size≤b∨(Any b∧b<w4.heap.size)∧b<wr.heap.size:=⟨_,rfl⟩
     rw[←vgd] at vlk vlj;have vml:∀b,vor b→(Value.slice pv L.length cv).ownBlock≠some b:=by rw[vgd];exact hD
     clear vgd hD;refine kK (S:=λw'=>w'.cell? ⟨b1,o1+i * 6,none⟩=some (str x.name)∧w'.heap[vol]? =some (.cells #[.bool PK.1.iter,.slice vq7 PK.1.args.length c7,str PK.1.res,.slice vq8 PK.1.sigs.length c8] 36 (0,0))∧cQ w4.heap.size w' (.slice pv L.length cv) L∧SS vor w' (.slice vq7 PK.1.args.length c7) PK.1.args∧SS vor w' (.slice vq8 PK.1.sigs.length c8) PK.1.sigs∧Below W.heap.size W w') (A:=λj v w'=>match j with
      | 0=>v=.slice pv L.length cv
      | 1=>v=.slice (some ⟨b1,o1,none⟩) R.length cR
      | 2=>v=.int .i64 i
      | 3=>v=.pointer (some ⟨b1,o1+i * 6,none⟩)
      | 4=>v=.pointer (some ⟨b1,o1+i * 6,none⟩)
      | 5=>v=.pointer (some ⟨b1,o1+i * 6,none⟩)
      | 6=>v=str x.name
      | 7=>v=.agg #[.bool PK.1.iter,.slice vq7 PK.1.args.length c7,str PK.1.res,.slice vq8 PK.1.sigs.length c8]
      | 8=>v=.agg #[str x.name,.bool PK.1.iter,.slice vq7 PK.1.args.length c7,str PK.1.res,.slice vq8 PK.1.sigs.length c8]
      | 9=>mj vor W.heap.size w' v [⟨x.name,PK.1⟩]
      | _=>True) 10 (by kernel_rfl) (by decide) (by kernel_rfl) (by kernel_rfl) (by kernel_rfl) ?_ (λw1 w2 h hb=>⟨Below.keep hb h.1,ah h.2.1 hb,h.2.2.1.below hb zr,h.2.2.2.1.below hb zr,h.2.2.2.2.1.below hb zr,h.2.2.2.2.2.trans (af hb h.2.2.2.2.2.size)⟩) ⟨Below.keep (zb W).drew Fy,C5,gX.below (zb W).drew zr,vlk.below (zb W).drew zr,vlj.below (zb W).drew zr,(zb _).drew⟩ (pN ⟨?_,?_,?_,?_,?_,?_,?_,?_,?_,?_,trivial⟩) ?_
     · intro j v w1 w2 h hb
       match j with
       | 0=>exact h
       | 1=>exact h
       | 2=>exact h
       | 3=>exact h
       | 4=>exact h
       | 5=>exact h
       | 6=>exact h
       | 7=>exact h
       | 8=>exact h
       | 9=>exact mj.below (show mj vor W.heap.size w1 v [⟨x.name,PK.1⟩] from h) hb zr
       | _+10=>trivial
     · intro a wx hS hd ho next hn
       have Q9:a.tmps[10]?.getD undef=.slice pv L.length cv:=aR (ho 10 (fG (by kernel_rfl)));clear hd ho;unfold Oper.wp;simp only[execOp];simp[go_sem,Q9];exact hn _ _ rfl (zb _)
     · intro a wx hS hd ho next hn
       have e9:a.tmps[9]?.getD undef=.slice (some ⟨b1,o1,none⟩) R.length cR:=aR (ho 9 (fG (by kernel_rfl)));clear hd ho;unfold Oper.wp;simp only[execOp];simp[go_sem,e9];exact hn _ _ rfl (zb _)
     · intro a wx hS hd ho next hn
       have vm8:a.tmps[11]?.getD undef=.int .i64 i:=aR (ho 11 (fG (by kernel_rfl)));clear hd ho;unfold Oper.wp;simp only[execOp];simp[go_sem,vm8];exact hn _ _ rfl (zb _)
     · intro a wx hS hd ho next hn
       have vma:a.tmps[50]?.getD undef=.slice (some ⟨b1,o1,none⟩) R.length cR:=aR (hd {on:=1,ground:=.data } (by simp) rfl _ 50 rfl rfl);have vmb:a.tmps[51]?.getD undef=.int .i64 i:=aR (hd {on:=2,ground:=.data } (by simp) rfl _ 51 rfl rfl);clear hd ho;unfold Oper.wp;simp only[execOp];simp[go_sem,vma,vmb,hlt];exact hn _ _ rfl (zb _)
     · intro a wx hS hd ho next hn
       have vmc:a.tmps[52]?.getD undef=.pointer (some ⟨b1,o1+i * 6,none⟩):=aR (hd {on:=3,ground:=.data } (by simp) rfl _ 52 rfl rfl);clear hd ho;unfold Oper.wp;simp only[execOp];simp[go_sem,vmc];exact hn _ _ rfl (zb _)
     · intro a wx hS hd ho next hn
       have vmd:a.tmps[53]?.getD undef=.pointer (some ⟨b1,o1+i * 6,none⟩):=aR (hd {on:=4,ground:=.data } (by simp) rfl _ 53 rfl rfl);clear hd ho;unfold Oper.wp;simp only[execOp];simp[go_sem,vmd];exact hn _ _ rfl (zb _)
     · intro a wx hS hd ho next hn
       have vme:a.tmps[54]?.getD undef=.pointer (some ⟨b1,o1+i * 6,none⟩):=aR (hd {on:=5,ground:=.data } (by simp) rfl _ 54 rfl rfl);clear hd ho;unfold Oper.wp;simp only[execOp];simp[go_sem,vme,hS.1];exact hn _ _ rfl (zb _)
     · intro a wx hS hd ho next hn
       have vm9:a.tmps[12]?.getD undef=.pointer (some ⟨vol,0,none⟩):=aR (ho 12 (fG (by kernel_rfl)));have hc:=(aN hS.2.1).1;clear hd ho;unfold Oper.wp;simp only[execOp];simp[go_sem,vm9,hc];exact hn _ _ rfl (zb _)
     · intro a wx hS hd ho next hn
       have vmf:a.tmps[55]?.getD undef=str x.name:=aR (hd {on:=6,ground:=.data } (by simp) rfl _ 55 rfl rfl);have vmg:a.tmps[56]?.getD undef=.agg #[.bool PK.1.iter,.slice vq7 PK.1.args.length c7,str PK.1.res,.slice vq8 PK.1.sigs.length c8]:=aR (hd {on:=7,ground:=.data } (by simp) rfl _ 56 rfl rfl);clear hd ho;unfold Oper.wp;simp only[execOp];simp[go_sem,vmf,vmg];exact hn _ _ rfl (zb _)
     · intro a wx hS hd ho next hn
       have vmh:a.tmps[57]?.getD undef=.agg #[str x.name,.bool PK.1.iter,.slice vq7 PK.1.args.length c7,str PK.1.res,.slice vq8 PK.1.sigs.length c8]:=aR (hd {on:=8,ground:=.data } (by simp) rfl _ 57 rfl rfl);clear hd ho;unfold Oper.wp;simp only[execOp];simp[go_sem,vmh];exact hn _ _ (yz (D:=vor) wx hS.2.2.2.2.2.size rfl (by unfold maxLen;simp) ⟨_,_,_,rfl,⟨F8,vq0⟩,hS.2.2.2.1,hS.2.2.2.2.1,rfl⟩) ((zb _).alloc zr _)
     · intro a wx hdf hsz hout hS hA
       have eL:a.tmps.getD 49 undef=.slice pv L.length cv:=hA 0 _ 49 (by decide) rfl rfl;have hR:mj vor W.heap.size wx (a.tmps.getD 58 undef) [⟨x.name,PK.1⟩]:=hA 9 _ 58 (by decide) rfl rfl;obtain⟨pR,vm6,eR⟩:=hR.shape;rw[eR] at hR;have ha:=oh hdf hsz hout;rw[ha];simp only[List.take_succ_cons,List.take_zero,dA,eL,eR,pz,pw];clear ha hA hout hdf hsz
       show wpAny _ _ _ _ (1+1) _ _ _
       refine wpAny_ready (rs:=[10]) (by kernel_rfl) (by simp) (AllReady.cons rfl (λK' hK=>?_) AllReady.nil);rw[if_pos (by kernel_rfl)];refine sQ (.tmp 49) (.tmp 58) rfl (v:=.slice pv L.length cv) (y:=.slice pR 1 vm6) (by simp[Act.eval]) (by simp[Act.eval]) hS.2.2.1 hR (by simp) vml (by simp;omega) (Nat.le_trans vkc.size hS.2.2.2.2.2.size) (λv' w5 h5 eT=>hK _ _ ?_);simp only[Act.put,List.setIfInBounds_toArray];refine wpAny_ready (fuel:=0) (rs:=[10+1]) (by kernel_rfl) (by simp) (AllReady.cons rfl (λK' hK=>?_) AllReady.nil);rw[if_pos (by kernel_rfl)];unfold Oper.wp;simp only[execOp];simp[go_sem];refine hK _ _ (wpAny_done (by kernel_rfl) ?_ _);go_wp2_with fail;refine⟨⟨i+1,hlt,by go_num,(vkc.trans (af hS.2.2.2.2.2 vkc.size)).trans eT,hp2,FV.out▸h5⟩,by simp only[intOf];omega⟩
abbrev vqk (f:aA) (n o:Value):Obj:=.cells #[.string ⟨f.name.toArray⟩,.int .u8 f.kind,.bool f.par,n,o] 58
abbrev vql (g:bP) (p:Option Addr) (a:Nat) (q:Option Addr) (b:Nat):Array Value:= #[.bool g.iter,.slice p g.args.length a,str g.res,.slice q g.sigs.length b]
abbrev vqm (x:aL) (p:Option Addr) (a:Nat) (q:Option Addr) (b:Nat):Array Value:= #[str x.name,.bool x.sig.iter,.slice p x.sig.args.length a,str x.sig.res,.slice q x.sig.sigs.length b]
def vb7 (w:World) (b:Nat) (a0 a1 a2 a3 a4:Value):World:=((((w.setCell ⟨b,0,none⟩ a0).setCell ⟨b,1,none⟩ a1).setCell ⟨b,2,none⟩ a2).setCell ⟨b,3,none⟩ a3).setCell ⟨b,4,none⟩ a4
theorem Below.vb7 {B:Nat} {a w:World} (h:Below B a w) {b:Nat} (hb:B≤b) (a0 a1 a2 a3 a4:Value):Below B a (vb7 w b a0 a1 a2 a3 a4):=
 ((((h.setCell (p:=⟨b,0,none⟩) hb _).setCell (p:=⟨b,1,none⟩) hb _).setCell (p:=⟨b,2,none⟩) hb _).setCell (p:=⟨b,3,none⟩) hb _).setCell (p:=⟨b,4,none⟩) hb _
theorem aY.vb7 {D:Nat→Prop} {w:World} {v:Value} {l:List aL} (h:aY D w v l) {b:Nat} (hb:∀b',D b'→b'≠b) (a0 a1 a2 a3 a4:Value):aY D (vb7 w b a0 a1 a2 a3 a4) v l:=
 ((((h.set (a:=⟨b,0,none⟩) hb _).set (a:=⟨b,1,none⟩) hb _).set (a:=⟨b,2,none⟩) hb _).set (a:=⟨b,3,none⟩) hb _).set (a:=⟨b,4,none⟩) hb _
theorem vds {w:World} {b:Nat} {a0 a1 a2 a3 a4:Value} {t:TypeId} (h:w.heap[b]? =some (.cells #[a0,a1,a2,a3,a4] t (0,0))) (u:Value):(w.setCell ⟨b,3,none⟩ u).heap[b]? =some (.cells #[a0,a1,a2,u,a4] t (0,0)):=heap_setCell_same w b 3 _ t u h
theorem vdt {w:World} {b:Nat} {a0 a1 a2 a3 a4:Value} {t:TypeId} (h:w.heap[b]? =some (.cells #[a0,a1,a2,a3,a4] t (0,0))) (u:Value):(w.setCell ⟨b,4,none⟩ u).heap[b]? =some (.cells #[a0,a1,a2,a3,u] t (0,0)):=heap_setCell_same w b 4 _ t u h
def aA.zero:aA:=⟨[],0,false,[],[]⟩
def vbm (l:List aA) (n:List UInt8):aA×Nat:=if(kS l).2≠0 then(.zero,(kS l).2) else match ew l n with|none=>(.zero,5)|some f=>(f,0)
theorem vdv (l:List aA):cE l []=(kS l).2:=by
 unfold cE
 split
 · rfl
 · rename_i h
   rw[if_pos (by decide)];exact(Classical.not_not.1 h).symm
def vbj (D:Nat→Prop) (w:World) (v:Value) (f:aA):Prop:=∃n q,v=.agg #[str f.name,.int .u8 f.kind,.bool f.par,n,q]∧f.name.length≤maxLen∧aY D w n f.ag∧aY D w q f.ops∧∀b,q.ownBlock=some b→mN w b
theorem vbj.zero (D:Nat→Prop) (w:World):vbj D w mD .zero:=⟨_,_,rfl,Nat.zero_le _,aY.nil _ _ _ _,aY.nil _ _ _ _,λ_ h=>by cases h⟩
theorem FC.vnd {T:TypeId} {B:Nat} {w:World} {v:Value} {l:List aL} (h:FC T B w v l) {b:Nat} (hb:v.ownBlock=some b):mN w b:=by
 obtain⟨cs,h1,_⟩:=h
 rcases h1.2 with⟨rfl,_⟩|⟨g,cap,cur,rfl,_,hh,_⟩
 · cases hb
 · cases hb
   exact⟨cur,T,hh⟩
theorem vcw {D : Nat → Prop} (l : List aA) (v : Value) (n : List UInt8) (w : World) (hT : dW w) (hv : bG D w v l) (hn : ∀ f ∈ l, f.ag.length ≤ 100000) (hnm : n.length ≤ maxLen) :
 Calls Tryz.prog 42 #[v,str n] w λe w'=>∃u,e=.returned (.tuple #[u,.int .i64 (vbm l n).2])∧vbj (λb=>w.heap.size≤b) w' u (vbm l n).1∧Below w.heap.size w w':=by
 have FO:=(zb w).alloc zr (.cells #[.string ⟨#[]⟩,.int .u8 0,.bool false,.slice none 0 0,.slice none 0 0] 58)
 have Pz:=heap_alloc_new w (.cells #[.string ⟨#[]⟩,.int .u8 0,.bool false,.slice none 0 0,.slice none 0 0] 58)
 have HC:=ko l v [] (.slice none 0 0) false _ (hT.below FO zr) (hv.below FO zr) (aY.nil D _ _ _) hn (by simp)
 have hsc:=λh=>fU (l:=l) (ag:=[]) (par:=false) h
 have hap:=λh=>oM (l:=l) (ag:=[]) h
 have HF:=λ(ha:mB l) m W (hs:dV D W m l)=>qG l m n W hs ha hnm
 have HK:=λ(W0:World) x (s:bP) (h1:s.args.length≤100000) (h2:s.sigs.length≤100000) W (hx:aT (λb=>b<W0.heap.size) W x s)=>vb3 x s W hx h1 h2
 obtain⟨p,c,rfl,_⟩:=hv.shape
 have cM:vbm l n=if(kS l).2≠0 then(.zero,(kS l).2) else match ew l n with|none=>(.zero,5)|some f=>(f,0):=rfl
 have tJ:∀f,ew l n=some f→f∈l:=λf h=>List.mem_of_find?_eq_some h
 rw[←vdv] at cM
 generalize vbm l n=RS at *
 generalize cE l []=AS at *
 generalize ew l n=FK at *
 clear hT hv hn
 replace cM:=zh cM
 replace hsc:=zh hsc
 replace hap:=zh hap
 replace tJ:=zh tJ
 go_enter Tryz.func42,Tryz.ntmps42
 go_upto_region 2 with(go_at_call 58;refine HC.mono ?_;clear HC;rintro e w1 ⟨m0,q1,n1,c1,nH,rfl,hS,au⟩)
 have bL:=FO.trans (af au (by simp))
 have hg1:=ah Pz au
 have cD:=bL.alloc bL.size (.cells #[.map m0,.slice q1 n1 c1,.bool nH] 86)
 have hg2:=aD (.cells #[.map m0,.slice q1 n1 c1,.bool nH] 86) hg1
 have hs2:=heap_alloc_new w1 (.cells #[.map m0,.slice q1 n1 c1,.bool nH] 86)
 by_cases h0:AS=0
 case neg=>
  obtain⟨g1,g2⟩:=bK h0
  replace cM:=cM.out
  rw[if_pos h0] at cM;have HX:=zh cM;have b4:=bz hg2;clear h0 hsc hap cM HF HK tJ hS;go_wp2_with fail;refine bodyPost_ret (v:=.tuple #[mD,.int .i64 AS]) (by simp[results,Tryz.results42,go_sem,b4.1]) rfl ?_;rw[HX.out];exact⟨_,rfl,vbj.zero _ _,Below.vb7 cD (b:=w.heap.size) zr _ _ _ _ _⟩
 subst h0
 replace cM:=cM.out
 rw[if_neg (by simp)] at cM
 have hS1:=hS rfl
 clear hS
 obtain⟨m1,rfl,K8⟩:∃k,m0=some k∧dV D w1 k l:=by
  obtain⟨k,nv,e,hs,_⟩:=hS1;simp at e;exact⟨k,e.1,hs⟩
 have qd:=(zb w1).alloc zr (.cells #[.map (some m1),.slice q1 n1 c1,.bool nH] 86)
 have K9:=K8.below qd zr
 have QM:=eZ hs2
 have iw:=hsc.out rfl
 obtain⟨mV,hnp⟩:=hap.out rfl
 replace HF:=HF iw.1
 clear hsc hap qd K8 hS1 iw hnp
 rcases FK with _|f
 · have HX:=zh cM
   clear cM HK tJ mV;go_wp2_with (go_at_call 75;refine(HF _ _ K9).mono ?_;rintro e w3 ⟨fv,rfl,hnone,hsome,aH⟩;have dx:=cD.trans (af aH cD.size);obtain rfl:=hnone (by first|rfl|trivial);have eD:=dx.alloc dx.size (.cells #[.string ⟨#[]⟩,.int .u8 0,.bool false,.slice none 0 0,.slice none 0 0] 58);have hg4:=aD (.cells #[.string ⟨#[]⟩,.int .u8 0,.bool false,.slice none 0 0,.slice none 0 0] 58) (ah hg2 aH);have b4:=bz hg4);refine bodyPost_ret (v:=.tuple #[mD,.int .i64 5]) (by simp[results,Tryz.results42,go_sem,b4.1]) rfl ?_;rw[HX.out];exact⟨_,rfl,vbj.zero _ _,Below.vb7 eD (b:=w.heap.size) zr _ _ _ _ _⟩
 have qT:=dQ (mV f (tJ.out f rfl))
 dsimp only at cM
 have hal:∀o∈f.ops,o.sig.args.length≤100000∧o.sig.sigs.length≤100000:=λo ho=>by
  have:=eN (qT.2.2.2.2.2.2.2.1 o ho).2;have h1:=this.1;have h2:=this.2.1;omega
 have hnd:=ec qT.2.2.2.1
 have hol:f.ops.length≤20:=qT.2.2.2.2.2.2.1
 have HX:=zh cM
 clear tJ mV qT cM
 replace hal:=zh hal
 replace hnd:=zh hnd
 go_upto_region 7 with(go_at_call 75;refine(HF _ _ K9).mono ?_;rintro e w3 ⟨fv,rfl,hnone,hsome,aH⟩;obtain⟨nv,ov,rfl,hfl,wU,zx⟩:=hsome f (by first|rfl|trivial);obtain⟨pn,cn,rfl,_⟩:=wU.shape;obtain⟨po,co,rfl,_⟩:=zx.shape)
 have nE:=(zb w3).alloc zr (vqk f (.slice pn f.ag.length cn) (.slice po f.ops.length co))
 have M3:=(cD.trans (af aH cD.size)).alloc (cD.trans (af aH cD.size)).size (vqk f (.slice pn f.ag.length cn) (.slice po f.ops.length co))
 have KL:=aD (vqk f (.slice pn f.ag.length cn) (.slice po f.ops.length co)) (ah hg2 aH)
 have vji:=heap_alloc_new w3 (vqk f (.slice pn f.ag.length cn) (.slice po f.ops.length co))
 have vl5:=wU.below nE zr
 have vdm:=zx.below nE zr
 have vmm:w3.heap.size<(w3.alloc (vqk f (.slice pn f.ag.length cn) (.slice po f.ops.length co))).heap.size:=by simp
 clear HF hnone hsome wU zx nE aH cD hg2 hs2 K9 QM au bL hg1 FO Pz
 generalize w3.alloc (vqk f (.slice pn f.ag.length cn) (.slice po f.ops.length co))=w7 at *
 generalize w3.heap.size=F at *
 generalize w1.heap.size=G at *
 have vno:=bz vji
 go_upto_region 8 with fail
 have vi0:=(zb w7).alloc zr (vqk f (.slice pn f.ag.length cn) (.slice po f.ops.length co))
 have vkg:=heap_alloc_new w7 (vqk f (.slice pn f.ag.length cn) (.slice po f.ops.length co))
 have vje:w7.heap.size<(w7.alloc (vqk f (.slice pn f.ag.length cn) (.slice po f.ops.length co))).heap.size:=by simp
 generalize w7.alloc (vqk f (.slice pn f.ag.length cn) (.slice po f.ops.length co))=w8 at *
 generalize Ub:w7.heap.size=O at *
 have vm2:=bz vkg
 have vlc:=cG vji vi0 vmm
 have vm1:=bz vlc
 have vnx:F≠O:=by omega
 have vl6:O<(w8.setCell ⟨O,3,none⟩ (.slice none 0 0)).heap.size:=by simpa[World.setCell] using vje
 have vi1:=vi0.setCell (p:=⟨O,3,none⟩) zr (.slice none 0 0)
 have vle:=vds vkg (.slice none 0 0)
 go_upto_region 9 with fail
 clear vlc vm1 vm2 vkg vi0 vje
 have vko:=hnd.out.1
 have vms:w.heap.size<O:=by have:=bA KL;omega
 obtain⟨B,DA⟩:∃B,B=(w8.setCell ⟨O,3,none⟩ (.slice none 0 0)).heap.size:=⟨_,rfl⟩
 have vii:O<B:=by rw[DA];exact vl6
 have vjo:=bz (cG vji vi1 (by omega))
 have vi2:B≤(w8.setCell ⟨O,3,none⟩ (.slice none 0 0)).heap.size:=Nat.le_of_eq DA
 clear vl6 DA
 generalize w8.setCell ⟨O,3,none⟩ (.slice none 0 0)=w9 at *
 go_wp2_with fail
 go_loopw [39] (λy wx=>∃i:Nat,i≤f.ag.length∧y=.int .i64 i∧Below O w7 wx∧∃u,wx.heap[O]? =some (vqk f u (.slice po f.ops.length co))∧FC 79 B wx u (f.ag.take i)∧B≤wx.heap.size) (λy _=>f.ag.length - (intOf y).toNat)
 case atStart=>exact⟨0,Nat.zero_le _,by go_num,vi1,_,vle,FC.nil _ _ _,vi2⟩
 case round =>
  obtain⟨i,hi,rfl,hb,u,R4,hown,T7⟩:=hrel;obtain⟨pv,cv,rfl⟩:=hown.shape;have hN:=vl5.below hb (Nat.le_of_eq Ub)
  by_cases hlt:i<f.ag.length
  case neg =>
   obtain rfl:i=f.ag.length:=by omega
   rw[List.take_length] at hown R4;have bo:=bz R4;clear vjo vle vi1 vi2 vl5 hN;go_upto_region 15 with fail;have hb':=hb.setCell (p:=⟨O,4,none⟩) zr (.slice none 0 0);have vj8:=vdt R4 (.slice none 0 0);have sA:aY (λb=>O<b∧b<(wr.setCell ⟨O,4,none⟩ (.slice none 0 0)).heap.size) (wr.setCell ⟨O,4,none⟩ (.slice none 0 0)) (.slice pv f.ag.length cv) f.ag:=(hown.set (a:=⟨O,4,none⟩) vii (.slice none 0 0)).x9.fresh.mono λb hb=>⟨by omega,hb.2⟩
   have vbs:B≤(wr.setCell ⟨O,4,none⟩ (.slice none 0 0)).heap.size:=by simpa[World.setCell] using T7
   clear hb R4 hown bo T7;have hb:=hb';have R4:=vj8;clear hb' vj8;generalize wr.setCell ⟨O,4,none⟩ (.slice none 0 0)=yY at *;obtain⟨C,vjv⟩:∃C,C=yY.heap.size:=⟨_,rfl⟩
   rw[←vjv] at sA vbs;have vk1:O<C:=by omega
   have vhs:C≤yY.heap.size:=Nat.le_of_eq vjv;clear vjv vii vbs hi hlt;have vjo:=bz (cG vji hb (by omega));go_wp2_with fail;go_loopw [59] (λy wx=>∃i:Nat,i≤f.ops.length∧y=.int .i64 i∧Below O w7 wx∧∃u,wx.heap[O]? =some (vqk f (.slice pv f.ag.length cv) u)∧FC 50 C wx u (f.ops.take i)∧C≤wx.heap.size∧aY (λb=>O<b∧b<C) wx (.slice pv f.ag.length cv) f.ag) (λy _=>f.ops.length - (intOf y).toNat)
   case atStart=>exact⟨0,Nat.zero_le _,by go_num,hb,_,R4,FC.nil _ _ _,vhs,sA⟩
   case round =>
    obtain⟨i,hi,rfl,hb,u,R4,hown,T7,vk9⟩:=hrel;obtain⟨pu,cu,rfl⟩:=hown.shape;have hN:=vdm.below hb (Nat.le_of_eq Ub)
    by_cases hlt:i<f.ops.length
    case neg=>
     obtain rfl:i=f.ops.length:=by omega
     rw[List.take_length] at hown R4;have bo:=bz R4;have b4:=bz (cG KL hb vms);clear vdm vjo;go_wp2_with fail;refine bodyPost_ret (v:=.tuple #[.agg #[.string ⟨f.name.toArray⟩,.int .u8 f.kind,.bool f.par,.slice pv f.ag.length cv,.slice pu f.ops.length cu],.int .i64 0]) (by simp[results,Tryz.results42,go_sem,b4.1]) rfl ?_;rw[HX.out];refine⟨_,rfl,⟨_,_,rfl,hfl,?_,?_,λ_ h=>mN.set (mN.set (mN.set (mN.set (mN.set (hown.vnd h) _ _) _ _) _ _) _ _) _ _⟩,Below.vb7 (M3.trans (af hb (by have:=M3.size;omega))) (b:=w.heap.size) zr _ _ _ _ _⟩
     · exact(aY.vb7 vk9 (b:=w.heap.size) (λb hb=>by have:=hb.1;omega) _ _ _ _ _).mono λb hb=>by have:=hb.1;omega
     · exact(aY.vb7 hown.x9 (b:=w.heap.size) (λb hb=>by omega) _ _ _ _ _).mono λb hb=>by omega
    case pos=>
     obtain⟨x,hkx⟩:∃x,f.ops[i]? =some x:=⟨_,List.getElem?_eq_getElem hlt⟩
     obtain⟨b1,o1,av,sv,rfl,_,⟨F8,mI⟩,fe,eE,d0,d1,d2,d3,d4⟩:=hN.at hkx;obtain⟨pa,ca,rfl,_⟩:=fe.shape;obtain⟨ps,cs,rfl,_⟩:=eE.shape;have hxl:x.sig.args.length≤100000∧x.sig.sigs.length≤100000:=(hal.out x (List.mem_of_getElem? hkx));have FV:=zh (show f.ops.take i++[x]=f.ops.take (i+1) by rw[List.take_add_one,hkx];rfl);have FP:(f.ops.take i).length+1≤1000:=by rw[List.length_take];have:=hol;omega
     clear hkx hN;generalize f.ops.take i=L at *;go_upto_region 18 with fail;obtain⟨hE,vkj,R4⟩:=(λo=>And.intro ((zb wr).alloc zr o) (And.intro (heap_alloc_new wr o) (aD o R4))) (.cells #[str x.name,.bool x.sig.iter,.slice pa x.sig.args.length ca,str x.sig.res,.slice ps x.sig.sigs.length cs] 50);have vcl:=hown.below hE zr;have vgx:aT D _ (.agg (vql x.sig pa ca ps cs)) x.sig:=⟨_,_,rfl,mI,fe.below hE zr,eE.below hE zr⟩;have L6:=Nat.le_trans T7 hE.size;have vjt:=hb.trans (af hE (by have:=hb.size;omega));have vmw:=vk9.below hE zr;clear hE fe eE d0 d1 d2 d3 d4 hown hb T7 vk9;generalize wr.heap.size=N at *;generalize wr.alloc (.cells #[str x.name,.bool x.sig.iter,.slice pa x.sig.args.length ca,str x.sig.res,.slice ps x.sig.sigs.length cs] 50)=W at *;refine vav (D:=λb=>W.heap.size≤b) (w:=W) (O:=O) (f:=4) 9 [(10,vP O 0),(14,vP N 0)] [vP O 4,.eq (.slice pu L.length cu),vP N 0,vT x.name,vP N 1,.eq (.agg (vql x.sig pa ca ps cs)),.sig x.sig,.op x,.prop λw v=>vbr 50 (λb=>W.heap.size≤b) W.heap.size w v [x]] (λw'=>w'.heap[O]? =some (vqk f (.slice pv f.ag.length cv) (.slice pu L.length cu))∧w'.heap[N]? =some (.cells (vqm x pa ca ps cs) 50)∧FC 50 C w' (.slice pu L.length cu) L∧aT D w' (.agg (vql x.sig pa ca ps cs)) x.sig∧Below W.heap.size W w'∧aY (λb=>O<b∧b<C) w' (.slice pv f.ag.length cv) f.ag) (λv w'=>FC 50 C w' v (L++[x])) (λw'=>w'.heap[O]? =some (vqk f (.slice pv f.ag.length cv) (.slice pu L.length cu))∧Below C W w'∧aY (λb=>O<b∧b<C) w' (.slice pv f.ag.length cv) f.ag) (λw'=>∃u,w'.heap[O]? =some (vqk f (.slice pv f.ag.length cv) u)∧FC 50 C w' u (L++[x])∧Below O W w'∧aY (λb=>O<b∧b<C) w' (.slice pv f.ag.length cv) f.ag) (by kernel_rfl) rfl rfl rfl rfl rfl rfl ⟨?_,?_⟩
      (λw1 w2 h hb=>⟨ah h.1 hb,ah h.2.1 hb,h.2.2.1.below hb zr,h.2.2.2.1.below hb zr,h.2.2.2.2.1.trans (af hb h.2.2.2.2.1.size),h.2.2.2.2.2.below hb zr⟩) (λv w1 w2 h hb=>h.below hb zr) (λw1 w2 h hb=>⟨ah h.1 hb,h.2.1.trans (af hb (Nat.le_trans L6 h.2.1.size)),h.2.2.below hb zr⟩)
      ⟨ah R4 (zb W).drew,ah vkj (zb W).drew,vcl.below (zb W).drew zr,vgx.below (zb W).drew zr,(zb W).drew,vmw.below (zb W).drew zr⟩ ⟨rfl,rfl,trivial⟩ ?_ ?_ (λv w h=>by obtain⟨p,c,e⟩:=h.shape;exact⟨p,_,c,e⟩) (λw h=>⟨_,(bz h.1).1.2.2.2.2,rfl,az h.1 4⟩) (λv w h1 h2=>⟨v,vdt h2.1 _,h1.set (a:=⟨O,4,none⟩) vk1 _,(af h2.2.1 (Nat.le_of_lt vk1)).setCell (p:=⟨O,4,none⟩) zr _,h2.2.2.set (a:=⟨O,4,none⟩) (λb hb=>by have:=hb.1;simp only;omega) _⟩) ?_
     · intro a wx hout Q next hn
       have e:=aR (x:=.pointer (some ⟨O,0,none⟩)) (hout 10 (rI (by kernel_rfl)));unfold Oper.wp;simp only[execOp];simp[go_sem,e];exact hn
     · intro a wx p n c u e1 e2 e3 e4 e5 Q next hn
       have e1:=aR e1;have e2:=aR e2;unfold Oper.wp;simp only[execOp];simp[go_sem,e1,e2,e3,e5];exact hn
     · iterate 9
        refine And.intro ?_ ?_
        · first
          | exact gN rfl (by kernel_rfl) rfl rfl (λw=>by simp[go_sem])
          | exact gv rfl (by kernel_rfl) rfl rfl (λw hS=>by have c1:=bz hS.1;have c2:=bz hS.2.1;simp[go_sem,c1,c2])
          | exact er (s1:=.eq _) rfl (enters_of Tryz.func94 (by kernel_rfl) rfl) (by kernel_rfl) rfl rfl (λv wx hS h1=>by rw[show v=_ from h1];exact(vb3 _ x.sig wx hS.2.2.2.1 hxl.1 hxl.2).mono (by rintro e w3 ⟨u,rfl,hu,aH,_⟩;exact⟨_,rfl,hu.mono λb hb=>Nat.le_trans hS.2.2.2.2.1.size hb,aH⟩))
          | exact vfc rfl (.inl rfl) (by kernel_rfl) rfl rfl rfl F8
          | exact vfe rfl (.inl ⟨rfl,rfl⟩) (by kernel_rfl) rfl rfl (λw hS=>hS.2.2.2.2.1.size)
       exact trivial
     · intro a wx hS hV next hn
       have eL:a.eval (.tmp 64)=.slice pu L.length cu:=hV 1 _ 64 (by decide) rfl rfl;have hR:vbr 50 (λb=>W.heap.size≤b) W.heap.size wx (a.eval (.tmp 71)) [x]:=hV 8 _ 71 (by decide) rfl rfl wx (zb _);exact vau vg0 (.tmp 64) (.tmp 71) rfl eL rfl hS.2.2.1 hR (by simp) (λb hb=>⟨Nat.le_trans L6 hb,λe=>by have:=(vcl.lt e).2;omega⟩) (by simp;omega) (Nat.le_trans L6 hS.2.2.2.2.1.size) (λv' w' h1 h2=>hn v' w' h1 ⟨(h2.block O vk1).trans hS.1,(af hS.2.2.2.2.1 L6).trans h2,hS.2.2.2.2.2.agree (λb hb _=>h2.block b hb.2)⟩)
     · intro a wx hS
       obtain⟨u,hg',hown',hb',hx'⟩:=hS;simp only[pq,pz,pw];go_wp2_with fail;exact⟨⟨i+1,hlt,by go_num,vjt.trans hb',u,hg',FV.out▸hown',Nat.le_trans L6 hb'.size,hx'⟩,by simp only[intOf];omega⟩
  case pos=>
   obtain⟨x,hkx⟩:∃x,f.ag[i]? =some x:=⟨_,List.getElem?_eq_getElem hlt⟩
   obtain⟨b1,o1,av,sv,rfl,_,⟨F8,mI⟩,fe,eE,d0,d1,d2,d3,d4⟩:=hN.at hkx;obtain⟨pa,ca,rfl,_⟩:=fe.shape;obtain⟨ps,cs,rfl,_⟩:=eE.shape;have hxl:x.sig.args.length≤100000∧x.sig.sigs.length≤100000:=(by have:=hnd.out.2 x (List.mem_of_getElem? hkx);omega);have FV:=zh (show f.ag.take i++[x]=f.ag.take (i+1) by rw[List.take_add_one,hkx];rfl);have FP:(f.ag.take i).length+1≤1000:=by rw[List.length_take];have:=vko;omega
   clear hkx hN;generalize f.ag.take i=L at *;go_upto_region 12 with fail;obtain⟨hE,vkj,R4⟩:=(λo=>And.intro ((zb wr).alloc zr o) (And.intro (heap_alloc_new wr o) (aD o R4))) (.cells #[str x.name,.bool x.sig.iter,.slice pa x.sig.args.length ca,str x.sig.res,.slice ps x.sig.sigs.length cs] 79);have vcl:=hown.below hE zr;have vgx:aT D _ (.agg (vql x.sig pa ca ps cs)) x.sig:=⟨_,_,rfl,mI,fe.below hE zr,eE.below hE zr⟩;have L6:=Nat.le_trans T7 hE.size;have vjt:=hb.trans (af hE (by have:=hb.size;omega));clear hE fe eE d0 d1 d2 d3 d4 hown hb T7;generalize wr.heap.size=N at *;generalize wr.alloc (.cells #[str x.name,.bool x.sig.iter,.slice pa x.sig.args.length ca,str x.sig.res,.slice ps x.sig.sigs.length cs] 79)=W at *;refine vav (D:=λb=>W.heap.size≤b) (w:=W) (O:=O) (f:=3) 9 [(10,vP O 0),(12,vP N 0)] [vP O 3,.eq (.slice pv L.length cv),vP N 0,vT x.name,vP N 1,.eq (.agg (vql x.sig pa ca ps cs)),.sig x.sig,.op x,.prop λw v=>vbr 79 (λb=>W.heap.size≤b) W.heap.size w v [x]] (λw'=>w'.heap[O]? =some (vqk f (.slice pv L.length cv) (.slice po f.ops.length co))∧w'.heap[N]? =some (.cells (vqm x pa ca ps cs) 79)∧FC 79 B w' (.slice pv L.length cv) L∧aT D w' (.agg (vql x.sig pa ca ps cs)) x.sig∧Below W.heap.size W w') (λv w'=>FC 79 B w' v (L++[x])) (λw'=>w'.heap[O]? =some (vqk f (.slice pv L.length cv) (.slice po f.ops.length co))∧Below B W w') (λw'=>∃u,w'.heap[O]? =some (vqk f u (.slice po f.ops.length co))∧FC 79 B w' u (L++[x])∧Below O W w') (by kernel_rfl) rfl rfl rfl rfl rfl rfl ⟨?_,?_⟩
    (λw1 w2 h hb=>⟨ah h.1 hb,ah h.2.1 hb,h.2.2.1.below hb zr,h.2.2.2.1.below hb zr,h.2.2.2.2.trans (af hb h.2.2.2.2.size)⟩) (λv w1 w2 h hb=>h.below hb zr) (λw1 w2 h hb=>⟨ah h.1 hb,h.2.trans (af hb (Nat.le_trans L6 h.2.size))⟩)
    ⟨ah R4 (zb W).drew,ah vkj (zb W).drew,vcl.below (zb W).drew zr,vgx.below (zb W).drew zr,(zb W).drew⟩ ⟨rfl,rfl,trivial⟩ ?_ ?_ (λv w h=>by obtain⟨p,c,e⟩:=h.shape;exact⟨p,_,c,e⟩) (λw h=>⟨_,(bz h.1).1.2.2.2.1,rfl,az h.1 3⟩) (λv w h1 h2=>⟨v,vds h2.1 _,h1.set (a:=⟨O,3,none⟩) vii _,(af h2.2 (Nat.le_of_lt vii)).setCell (p:=⟨O,3,none⟩) zr _⟩) ?_
   · intro a wx hout Q next hn
     have e:=aR (x:=.pointer (some ⟨O,0,none⟩)) (hout 10 (rI (by kernel_rfl)));unfold Oper.wp;simp only[execOp];simp[go_sem,e];exact hn
   · intro a wx p n c u e1 e2 e3 e4 e5 Q next hn
     have e1:=aR e1;have e2:=aR e2;unfold Oper.wp;simp only[execOp];simp[go_sem,e1,e2,e3,e5];exact hn
   · iterate 9
      refine And.intro ?_ ?_
      · first
        | exact gN rfl (by kernel_rfl) rfl rfl (λw=>by simp[go_sem])
        | exact gv rfl (by kernel_rfl) rfl rfl (λw hS=>by have c1:=bz hS.1;have c2:=bz hS.2.1;simp[go_sem,c1,c2])
        | exact er (s1:=.eq _) rfl (enters_of Tryz.func94 (by kernel_rfl) rfl) (by kernel_rfl) rfl rfl (λv wx hS h1=>by rw[show v=_ from h1];exact(vb3 _ x.sig wx hS.2.2.2.1 hxl.1 hxl.2).mono (by rintro e w3 ⟨u,rfl,hu,aH,_⟩;exact⟨_,rfl,hu.mono λb hb=>Nat.le_trans hS.2.2.2.2.size hb,aH⟩))
        | exact vfc rfl (.inr rfl) (by kernel_rfl) rfl rfl rfl F8
        | exact vfe rfl (.inr ⟨rfl,rfl⟩) (by kernel_rfl) rfl rfl (λw hS=>hS.2.2.2.2.size)
     exact trivial
   · intro a wx hS hV next hn
     have eL:a.eval (.tmp 44)=.slice pv L.length cv:=hV 1 _ 44 (by decide) rfl rfl;have hR:vbr 79 (λb=>W.heap.size≤b) W.heap.size wx (a.eval (.tmp 51)) [x]:=hV 8 _ 51 (by decide) rfl rfl wx (zb _);exact vau ved (.tmp 44) (.tmp 51) rfl eL rfl hS.2.2.1 hR (by simp) (λb hb=>⟨Nat.le_trans L6 hb,λe=>by have:=(vcl.lt e).2;omega⟩) (by simp;omega) (Nat.le_trans L6 hS.2.2.2.2.size) (λv' w' h1 h2=>hn v' w' h1 ⟨(h2.block O vii).trans hS.1,(af hS.2.2.2.2 L6).trans h2⟩)
   · intro a wx hS
     obtain⟨u,hg',hown',hb'⟩:=hS;simp only[pq,pz,pw];go_wp2_with fail;exact⟨⟨i+1,hlt,by go_num,vjt.trans hb',u,hg',FV.out▸hown',Nat.le_trans L6 hb'.size⟩,by simp only[intOf];omega⟩
