/-
  Lemmas for the statement: contract: of the law: shown: the chapter's examples hold. Conditions: bounds of lengths; the variable strings.asciiSpace.
-/
import Derived.Test.YtakgjcfkdemipaaGreatDoorZGn
import Derived.Test.YtakgjcfkdemipaaGreatDoorZG27
import Derived.Test.YtakgjcfkdemipaaGreatDoorZG29
set_option maxHeartbeats 25600000
namespace Go.Proofs.YtakgjcfkdemipaaGreatDoor
open Go Go.RowKit
section
variable {D:Nat→Prop} {ops:Array Oper} {h:Nat} {V:List VS} {E:List (Nat×VS)} {S:World→Prop} {k:Nat} {o:Oper}
theorem RQ {t:TypeId} {x y:Operand} {u v:Value} {f g:aB} (ho:o.op=.buildSlice t 2 #[(0,x),(1,y)]) (ht:t=22) (hw:dN ops h V o=some true) (hk:V[k]? =some (.bK [f,g])) (hx:aM ops h V E o x=some (.eq u)) (hy:aM ops h V E o y=some (.eq v))
 (hu:∀w,S w→∃n q,u=.agg #[str f.name,.int .u8 f.kind,.bool f.par,n,q]∧aJ Any w n f.ag∧aJ Any w q f.ops) (hv:∀w,S w→∃n q,v=.agg #[str g.name,.int .u8 g.kind,.bool g.par,n,q]∧aJ Any w n g.ag∧aJ Any w q g.ops) (hl:f.name.length≤maxLen) (hl2:g.name.length≤maxLen):bX Any Tryz.prog S ops h V E k o:=
 qN [(x,.eq u),(y,.eq v)] hw hk (by simp[hx,hy]) λa w Q hS hi next hn=>by
  have h1:a.eval x=u:=hi (x,.eq u) (by simp);have h2:a.eval y=v:=hi (y,.eq v) (by simp);obtain⟨n,q,rfl,Av,hn2⟩:=hu w hS;obtain⟨n2,q2,rfl,Zl,Zm⟩:=hv w hS;subst ht;unfold Oper.wp;have hrun:∀ev:Operand→Value,ev x=.agg #[str f.name,.int .u8 f.kind,.bool f.par,n,q]→ev y=.agg #[str g.name,.int .u8 g.kind,.bool g.par,n2,q2]→(execOp ev o).run Tryz.prog w=.ok (.value (.slice (some ⟨w.heap.size,0,none⟩) 2 2)) (w.alloc (.cells #[str f.name,.int .u8 f.kind,.bool f.par,n,q,str g.name,.int .u8 g.kind,.bool g.par,n2,q2] 58)):=λev h1 h2=>by
   unfold execOp;simp[ho,h1,h2,go_sem]
  rw[hrun _ h1 h2];exact hn _ _ (Ad (D:=Any) w _ rfl trivial (l:=[f,g]) 58 (by simp[maxLen]) ⟨_,_,_,rfl,hl,Av,hn2,_,_,[],rfl,hl2,Zl,Zm,rfl⟩) ((Below.refl _ w).alloc (nl _) _)
theorem RP {x:Operand} {cs:Array Value} {r:Value} {i:Nat} (ho:o.op=.extract x i) (hw:dN ops h V o=some true) (hk:V[k]? =some (.eq r)) (hx:aM ops h V E o x=some (.eq (.tuple cs))) (hr:cs[i]? =some r:=by rfl):bX D Tryz.prog S ops h V E k o:=
 JJ x hw hk hx λev w hS h1=>by unfold execOp;simp[ho,h1,hr,go_sem]
end
theorem aZ.any {D:Nat→Prop} {w:World} {v:Value} {l:List aB} (h:aZ D w v l):aZ Any w v l:=by
 obtain⟨p,c,h1,h2,h3,hl,h4⟩:=h
 refine⟨p,c,h1,h2,h3,hl,?_⟩
 rcases h4 with h4|⟨b,o,e1,h5,h6,h7⟩
 · exact .inl h4
 · refine .inr ⟨b,o,e1,trivial,h6,λj hj=>?_⟩
   obtain⟨a,s,k1,k2,k3⟩:=h7 j hj;exact⟨a,s,k1.mono (λ_ _=>trivial),k2.mono (λ_ _=>trivial),k3⟩
set_option maxRecDepth 8000 in
theorem Gg (w : World) (ht : fN w) : Calls Tryz.prog 18 #[] w fun e w' => e = .returned (.bool true) ∧ Below w.heap.size w w' := by
 go_enter Tryz.func18,Tryz.ntmps18
 go_upto_region 2 with(go_at_call 56;refine(AY _).mono ?_;rintro e w1 ⟨g,rfl,hL,ay⟩)
 have hL:=hL.any
 have hn:∀f∈ia,f.ag.length≤100000:=by simp[ia,ig,fe]
 have HT:=Lib.hid (λW (hW:Below w1.heap.size w1 W)=>(ht.below ay (nl _)).below hW (nl _))
 have HL:=Lib.hid (λW (hW:Below w1.heap.size w1 W)=>hL.below hW (nl _))
 obtain⟨b0,o0,MB,NV,e0,_,_,Me,nk,c0,c1,c2,c3,c4⟩:=hL.at (k:=0) (x:=ig) rfl
 obtain⟨b1,o1,MC,NW,e1,_,_,Sh,D6,c5,c6,c7,c8,c9⟩:=hL.at (k:=1) (x:=fe) rfl
 simp only[Option.some.injEq,Addr.mk.injEq,and_true] at e0 e1
 obtain⟨rfl,rfl⟩:=e0
 obtain⟨rfl,rfl⟩:=e1
 simp only[Nat.zero_mul,Nat.one_mul,Nat.zero_add,Nat.reduceAdd] at c0 c1 c2 c3 c4 c5 c6 c7 c8 c9
 have HK:=Lib.hid (λW (hW:Below w1.heap.size w1 W)=>(⟨Below.keep hW c0,Below.keep hW c1,Below.keep hW c2,Below.keep hW c3,Below.keep hW c4,Below.keep hW c5,Below.keep hW c6,Below.keep hW c7,Below.keep hW c8,Below.keep hW c9⟩:W.cell? ⟨g,0,none⟩=some (str ig.name)∧W.cell? ⟨g,1,none⟩=some (.int .u8 3)∧W.cell? ⟨g,2,none⟩=some (.bool true)∧W.cell? ⟨g,3,none⟩=some MB∧W.cell? ⟨g,4,none⟩=some NV∧W.cell? ⟨g,5,none⟩=some (str fe.name)∧W.cell? ⟨g,6,none⟩=some (.int .u8 1)∧W.cell? ⟨g,7,none⟩=some (.bool true)∧W.cell? ⟨g,8,none⟩=some MC∧W.cell? ⟨g,9,none⟩=some NW))
 have HN:=Lib.hid (λW (hW:Below w1.heap.size w1 W)=>(⟨(Me.mono (λ_ _=>trivial)).below hW (nl _),(nk.mono (λ_ _=>trivial)).below hW (nl _),(Sh.mono (λ_ _=>trivial)).below hW (nl _),(D6.mono (λ_ _=>trivial)).below hW (nl _)⟩:aJ Any W MB ig.ag∧aJ Any W NV ig.ops∧aJ Any W MC fe.ag∧aJ Any W NW fe.ops))
 have HA:=λW (hW:Below w1.heap.size w1 W)=>yF ia _ W (HT.out W hW) (HL.out W hW) hn
 rw[N6] at HA
 have RW:=λv W (hT:fN W) (hv:aZ Any W v [fe,ig])=>yF [fe,ig] v W hT hv (by simp[ig,fe])
 rw[Lf] at RW
 have SQ:=λW (hW:Below w1.heap.size w1 W)=>Bc ia _ [] (.slice none 0 0) [115,101,116,91,105,110,116,93] [104,111,108,100,115] W (HT.out W hW) (HL.out W hW) (aJ.nil Any _ none 0) hn (by simp) (by simp[maxLen])
 rw[JB] at SQ
 have SR:=λW (hW:Below w1.heap.size w1 W)=>Bc ia _ [] (.slice none 0 0) [115,101,116,91,105,110,116,93] [97,100,100] W (HT.out W hW) (HL.out W hW) (aJ.nil Any _ none 0) hn (by simp) (by simp[maxLen])
 rw[N5] at SR
 have SU:=λW (hW:Below w1.heap.size w1 W)=>FJ ia _ [] (.slice none 0 0) [97,114,114,97,121,91,105,110,116,93] W (HT.out W hW) (HL.out W hW) (aJ.nil Any _ none 0) hn (by simp) (by simp[maxLen])
 obtain⟨p1,p2,p3⟩:=N8
 rw[p1] at SU
 have SZ:=λW (hW:Below w1.heap.size w1 W)=>Gh ia _ [] (.slice none 0 0) [115,111,114,116] [98,111,111,108] W (HT.out W hW) (HL.out W hW) (aJ.nil Any _ none 0) hn (by simp) (by simp[maxLen]) (by simp[maxLen])
 rw[N9] at SZ
 have HF:=λW (hW:Below w1.heap.size w1 W)=>EV ia _ [] (.slice none 0 0) fe.ag MC [98,111,111,108] W (HT.out W hW) (HL.out W hW) (aJ.nil Any _ none 0) (HN.out W hW).2.2.1 hn (by simp) (by simp[fe]) (by simp[maxLen])
 rw[Lg] at HF
 have HU:=λW (hW:Below w1.heap.size w1 W)=>JU _ ig W (HT.out W hW) ⟨MB,NV,rfl,by simp[ig,maxLen],(HN.out W hW).1,(HN.out W hW).2.1⟩ (by simp[ig])
 rw[Lj] at HU
 have HW:=λW (hW:Below w1.heap.size w1 W)=>Gu _ fe W (HT.out W hW) ⟨MC,NW,rfl,by simp[fe,maxLen],(HN.out W hW).2.2.1,(HN.out W hW).2.2.2⟩ (by simp[fe])
 rw[Li] at HW
 have SN:=λW (hW:Below w1.heap.size w1 W)=>rq ia _ [] (.slice none 0 0) false [115,101,116,91,115,101,116,91,105,110,116,93,93] W (HT.out W hW) (HL.out W hW) (aJ.nil Any _ none 0) hn (by simp) (by simp[maxLen])
 rw[N7] at SN
 have Om:=λW (hW:Below w1.heap.size w1 W)=>rq ia _ ig.ag MB true tS W (HT.out W hW) (HL.out W hW) (HN.out W hW).1 hn (by simp[ig]) (by simp[tS,maxLen])
 rw[Lh] at Om
 generalize (lC ia [] [115,101,116,91,105,110,116,93] [97,100,100]).1=X2 at *
 generalize (nG ia [] [97,114,114,97,121,91,105,110,116,93]).1=OL at *
 generalize (rO ia [] [115,111,114,116] [98,111,111,108]).1=X3 at *
 obtain⟨x2,hx2,Vb⟩:∃x,OL[2]? =some x∧x.name=[102,101,116,99,104]:=by simpa[Option.map_eq_some_iff] using p3
 have hp2:=Lib.hid p2
 have hb0:=ay
 clear hL Me nk Sh D6 c0 c1 c2 c3 c4 c5 c6 c7 c8 c9 p1 p2 p3 hn ht
 have B1:Below w1.heap.size w1 w1:=Below.refl _ _
 go_upto_region 3 with(go_at_call 40;refine(HA _ B1).mono ?_;clear HA;rintro e w2 ⟨rfl,aA⟩)
 have B2:=B1.trans (af aA (nl _))
 obtain⟨k0,k1,k2,k3,k4,k5,k6,k7,k8,k9⟩:=HK.out w2.drew B2.drew
 obtain⟨hm0,Kf,hm2,NB⟩:=HN.out w2.drew B2.drew
 have Ww:=HT.out w2.drew B2.drew
 refine dw (D:=Any) (w:=w2) 12 [(1,vL g 0 2 2)] [vL g 0 2 2,vP g (1 * 5),.eq (.agg #[str fe.name,.int .u8 1,.bool true,MC,NW]),vL g 0 2 2,vP g 0,.eq (.agg #[str ig.name,.int .u8 3,.bool true,MB,NV]),.bK [fe,ig],.eq (.tuple #[.int .i64 1,.int .i64 6]),.eq (.tuple #[.int .i64 1,.int .i64 6]),vI 1,vI 6,vI 1,vI 6] (λw'=>aW [(⟨g,0,none⟩,str ig.name),(⟨g,1,none⟩,.int .u8 3),(⟨g,2,none⟩,.bool true),(⟨g,3,none⟩,MB),(⟨g,4,none⟩,NV),(⟨g,5,none⟩,str fe.name),(⟨g,6,none⟩,.int .u8 1),(⟨g,7,none⟩,.bool true),(⟨g,8,none⟩,MC),(⟨g,9,none⟩,NW)] w'∧aJ Any w' MB ig.ag∧aJ Any w' NV ig.ops∧aJ Any w' MC fe.ag∧aJ Any w' NW fe.ops∧fN w') (by kernel_rfl) rfl (λ_ _ h hb=>⟨h.1.below hb,⟨h.2.1.below hb (nl _),h.2.2.1.below hb (nl _),h.2.2.2.1.below hb (nl _),h.2.2.2.2.1.below hb (nl _),h.2.2.2.2.2.below hb (nl _)⟩⟩) ⟨(by(iterate 10 refine cM (by assumption) ?_);exact gD),hm0,Kf,hm2,NB,Ww⟩ ⟨rfl,trivial⟩ ?_ ?_
 · iterate 13
    refine And.intro ?_ ?_
    · first
      | exact bV (by kernel_rfl) rfl
      | exact mT rfl rfl (by kernel_rfl)
      | exact dS rfl (by kernel_rfl) (by kernel_rfl) rfl rfl
      | exact fK rfl (by kernel_rfl) rfl rfl (λw=>by simp[go_sem])
      | exact fZ rfl (by kernel_rfl) rfl rfl rfl (λw=>by simp[go_sem])
      | exact fq rfl (by kernel_rfl) rfl rfl (λw hS=>by simp[go_sem,(hS.1.get 0 rfl),(hS.1.get 1 rfl),(hS.1.get 2 rfl),(hS.1.get 3 rfl),(hS.1.get 4 rfl),(hS.1.get 5 rfl),(hS.1.get 6 rfl),(hS.1.get 7 rfl),(hS.1.get 8 rfl),(hS.1.get 9 rfl)])
      | exact RQ (f:=fe) (g:=ig) rfl rfl (by kernel_rfl) rfl rfl rfl (λw hS=>⟨MC,NW,rfl,hS.2.2.2.1,hS.2.2.2.2.1⟩) (λw hS=>⟨MB,NV,rfl,hS.2.1,hS.2.2.1⟩) (by simp[fe,maxLen]) (by simp[ig,maxLen])
      | exact eP (s1:=.bK [fe,ig]) rfl (enters_of Tryz.func40 (by kernel_rfl) rfl) (by kernel_rfl) rfl rfl (λv wx hS h1=>(RW v wx hS.2.2.2.2.2 h1).mono (by rintro e w' ⟨rfl,hb⟩;exact⟨_,rfl,rfl,hb⟩))
      | exact RP rfl (by kernel_rfl) rfl rfl
      | exact dA rfl (by kernel_rfl) rfl rfl rfl (λw=>by simp[go_sem])
   exact trivial
 · intro aE w3 jv eu Mm
   have h4:aE.tmps.getD 4 undef=.int .i64 1:=Mm 11 _ _ (by decide) rfl rfl;have B3:=B2.trans (af eu B2.size);clear k0 k1 k2 k3 k4 k5 k6 k7 k8 k9 hm0 Kf hm2 NB Ww jv Mm;simp only[pq,pz,pw,h4];clear h4;go_upto_region 13 with(first
    | (go_at_call 23;refine(SQ _ B3).mono ?_;clear SQ;rintro e w4 ⟨u4,rfl,qv,hb4⟩;have g4:=qv.mono (D':=Any) (λ_ _=>trivial);obtain⟨a4,s4,rfl,_,T5,T8⟩:=qv;obtain⟨pa,ca,rfl,_⟩:=T5.shape;obtain⟨ps,cs,rfl,_⟩:=T8.shape;have B4:=(B3.trans (af hb4 B3.size)).alloc (B3.trans (af hb4 B3.size)).size (.cells #[.bool false,.slice pa 2 ca,str tB,.slice ps 0 cs] 36);have f4:=heap_alloc_new w4 (.cells #[.bool false,.slice pa 2 ca,str tB,.slice ps 0 cs] 36);have g4:=g4.below ((Below.refl _ w4).alloc (nl _) (.cells #[.bool false,.slice pa 2 ca,str tB,.slice ps 0 cs] 36)) (nl _))
    | (go_at_call 23;refine(SR _ B4).mono ?_;clear SR;rintro e w5 ⟨u5,rfl,Ca,cW⟩;obtain⟨a5,s5,rfl,_,T6,T9⟩:=Ca;obtain⟨Vn,Tf,rfl,_⟩:=T6.shape;obtain⟨Vo,Th,rfl,_⟩:=T9.shape;have B5:=(B4.trans (af cW B4.size)).alloc (B4.trans (af cW B4.size)).size (.cells #[.bool X2.iter,.slice Vn X2.args.length Tf,str X2.res,.slice Vo X2.sigs.length Th] 36);have f5:=aH (.cells #[.bool X2.iter,.slice Vn X2.args.length Tf,str X2.res,.slice Vo X2.sigs.length Th] 36) (ah f4 cW);have g5:=(g4.below cW (nl _)).below ((Below.refl _ w5).alloc (nl _) (.cells #[.bool X2.iter,.slice Vn X2.args.length Tf,str X2.res,.slice Vo X2.sigs.length Th] 36)) (nl _))
    | (go_at_call 21;refine(SU _ B5).mono ?_;clear SU;rintro e w6 ⟨u6,rfl,OP,jw⟩;obtain⟨p6,c6,Mu⟩:=OP.shape;rw[hp2.out] at Mu;subst Mu;have m6:=OP.uN;have B6:=B5.trans (af jw B5.size);have f6:=ah f5 jw;have g6:=g5.below jw (nl _))
    | (go_at_call 27;refine(SZ _ B6).mono ?_;clear SZ;rintro e w7 ⟨u7,rfl,YP,qw⟩;obtain⟨a7,s7,rfl,_,T7,Ua⟩:=YP;obtain⟨SD,R3,rfl,_⟩:=T7.shape;obtain⟨SE,R4,rfl,_⟩:=Ua.shape;have B7:=(B6.trans (af qw B6.size)).alloc (B6.trans (af qw B6.size)).size (.cells #[.bool X3.iter,.slice SD X3.args.length R3,str X3.res,.slice SE X3.sigs.length R4] 36);have f7:=aH (.cells #[.bool X3.iter,.slice SD X3.args.length R3,str X3.res,.slice SE X3.sigs.length R4] 36) (ah f6 qw);have g7:=(g6.below qw (nl _)).below ((Below.refl _ w7).alloc (nl _) (.cells #[.bool X3.iter,.slice SD X3.args.length R3,str X3.res,.slice SE X3.sigs.length R4] 36)) (nl _);have m7:=(m6.below qw (nl _)).below ((Below.refl _ w7).alloc (nl _) (.cells #[.bool X3.iter,.slice SD X3.args.length R3,str X3.res,.slice SE X3.sigs.length R4] 36)) (nl _);have ZT:=HK.out _ B7)
    | (go_at_call 29;refine(HF _ B7).mono ?_;clear HF;rintro e w8 ⟨rfl,xh⟩;have B8:=B7.trans (af xh B7.size);have f8:=ah f7 xh;have g8:=g7.below xh (nl _);have m8:=m7.below xh (nl _);have ZU:=HK.out _ B8)
    | (go_at_call 47;refine(HU _ B8).mono ?_;clear HU;rintro e w9 ⟨u9,rfl,q9,Kb⟩;obtain⟨p9,c9,rfl,_⟩:=q9.shape;have B9:=B8.trans (af Kb B8.size);have f9:=ah f8 Kb;have g9:=g8.below Kb (nl _);have m9:=m8.below Kb (nl _);have ZV:=HK.out _ B9)
    | (go_at_call 51;refine(HW _ B9).mono ?_;clear HW;rintro e Cg ⟨rfl,Ij⟩;have Vw:=B9.trans (af Ij B9.size);have f10:=ah f9 Ij;have g10:=g9.below Ij (nl _);have m10:=m9.below Ij (nl _);have SF:=q9.below Ij (nl _)))
   obtain⟨⟨j0,j1,j2,j3⟩,_⟩:=aU f10;obtain⟨Ou,O4,_,_,Yd,_,_,_,_,n0,_⟩:=m10.at hx2;rw[Vb] at n0;subst Yd;obtain⟨Pg,RI,Ye,_,u0⟩:=SF.at (k:=0) rfl;subst Ye;rw[Nat.add_zero] at u0;have WM:=g10.below (Below.refl _ Cg).drew (nl _);have j0:=Below.keep (Below.refl _ Cg).drew j0;have j1:=Below.keep (Below.refl _ Cg).drew j1;have j2:=Below.keep (Below.refl _ Cg).drew j2;have j3:=Below.keep (Below.refl _ Cg).drew j3;have n0:=Below.keep (Below.refl _ Cg).drew n0;have u0:=Below.keep (Below.refl _ Cg).drew u0;have VD:=λ(v2:Value) (wx:World) (h2:SS Any wx v2 [[115,101,116,91,105,110,116,93],[105,110,116]])=>show Calls Tryz.prog 57 #[str tB,v2] wx λe w'=>∃u,e=.returned u∧aT Any w' u ⟨false,[[115,101,116,91,105,110,116,93],[105,110,116]],tB,[]⟩∧Below wx.heap.size wx w' from by
    refine(lF tB v2 wx (by obtain⟨p,c,h,_⟩:=h2.shape;exact⟨_,_,_,h⟩)).mono ?_;rintro e w' ⟨rfl,hb⟩;exact⟨_,rfl,⟨_,_,rfl,by simp[tB,maxLen],h2.below hb (nl _),SS.nil _ _ _ _⟩,hb⟩
   have VG:=λ(v2:Value) (wx:World) (h1:aT Any wx (.agg #[.bool false,.slice pa 2 ca,str tB,.slice ps 0 cs]) ⟨false,[[115,101,116,91,105,110,116,93],[105,110,116]],tB,[]⟩) (h2:aT Any wx v2 ⟨false,[[115,101,116,91,105,110,116,93],[105,110,116]],tB,[]⟩)=>show Calls Tryz.prog 26 #[.agg #[.bool false,.slice pa 2 ca,str tB,.slice ps 0 cs],v2] wx λe w'=>∃u,e=.returned u∧u=.bool true∧Below wx.heap.size wx w' from by
    refine(nK _ _ _ _ _ h1 h2).mono ?_;rintro e w' ⟨rfl,hb⟩;exact⟨_,rfl,by rw[show ic _ _=true by decide],hb⟩
   clear f4 f5 f6 f7 f8 f9 f10 g4 g5 g6 g7 g8 g9 m6 m7 m8 m9 m10 q9 SF ZT ZU ZV OP hp2;generalize w4.heap.size=b6 at *;refine dw (D:=Any) 35 [(6,vP b6 0),(10,vL Ou O4 7 c6),(14,vT [108,116]),(15,vN),(17,vL Pg RI 1 c9)] [.eq (.agg #[.bool false,.slice pa 2 ca,str tB,.slice ps 0 cs]),.ss [[115,101,116,91,105,110,116,93],[105,110,116]],.sig ⟨false,[[115,101,116,91,105,110,116,93],[105,110,116]],tB,[]⟩,vY,vY,vL Ou O4 7 c6,vI 7,vY,vY,vY,vL Ou O4 7 c6,vP Ou (O4+2 * 5),vP Ou (O4+2 * 5),vT [102,101,116,99,104],vY,vY,vY,vT [108,116],vY,vY,vY,vN,vY,vY,vY,vL Pg RI 1 c9,vI 1,vY,vY,vY,vL Pg RI 1 c9,vP Pg RI,vT [115,101,116],vY,vY,vY] (λw'=>aW [(⟨b6,0,none⟩,.bool false),(⟨b6,1,none⟩,.slice pa 2 ca),(⟨b6,2,none⟩,str tB),(⟨b6,3,none⟩,.slice ps 0 cs),(⟨Ou,O4+2 * 5,none⟩,str [102,101,116,99,104]),(⟨Pg,RI,none⟩,str [115,101,116])] w'∧aT Any w' (.agg #[.bool false,.slice pa 2 ca,str tB,.slice ps 0 cs]) ⟨false,[[115,101,116,91,105,110,116,93],[105,110,116]],tB,[]⟩) (by kernel_rfl) rfl (λ_ _ h hb=>⟨h.1.below hb,aT.below h.2 hb (nl _)⟩) ⟨(by(iterate 6 refine cM (by assumption) ?_);exact gD),WM⟩ ⟨rfl,rfl,rfl,rfl,rfl,trivial⟩ ?_ ?_
   · iterate 36
      refine And.intro ?_ ?_
      · first
        | exact bV (by kernel_rfl) rfl
        | exact mT rfl rfl (by kernel_rfl)
        | exact dS rfl (by kernel_rfl) (by kernel_rfl) rfl rfl
        | exact fK rfl (by kernel_rfl) rfl rfl (λw=>by simp[go_sem])
        | exact fZ rfl (by kernel_rfl) rfl rfl rfl (λw=>by simp[go_sem])
        | exact fq rfl (by kernel_rfl) rfl rfl (λw hS=>by simp[go_sem,(hS.1.get 0 rfl),(hS.1.get 1 rfl),(hS.1.get 2 rfl),(hS.1.get 3 rfl),(hS.1.get 4 rfl),(hS.1.get 5 rfl)])
        | exact BL rfl rfl (by kernel_rfl) rfl rfl rfl (by simp[maxLen]) (by simp[maxLen]) (λ_ _=>trivial)
        | exact eS (s1:=.eq (str tB)) (s2:=.ss [[115,101,116,91,105,110,116,93],[105,110,116]]) rfl (enters_of Tryz.func57 (by kernel_rfl) rfl) (by kernel_rfl) rfl rfl rfl (λv v2 wx hS h1 h2=>by rw[show v=str tB from h1];exact VD v2 wx h2)
        | exact eS (s1:=.eq (.agg #[.bool false,.slice pa 2 ca,str tB,.slice ps 0 cs])) (s2:=.sig ⟨false,[[115,101,116,91,105,110,116,93],[105,110,116]],tB,[]⟩) rfl (enters_of Tryz.func26 (by kernel_rfl) rfl) (by kernel_rfl) rfl rfl rfl (λv v2 wx hS h1 h2=>by rw[show v=.agg #[.bool false,.slice pa 2 ca,str tB,.slice ps 0 cs] from h1];exact VG v2 wx hS.2 h2)
        | exact dA rfl (by kernel_rfl) rfl rfl rfl (λw=>by simp[go_sem])
     exact trivial
   · intro aE SL jv eu Mm
     have RU:=Vw.trans (af eu Vw.size);have ZR:=HK.out _ RU;clear jv Mm j0 j1 j2 j3 n0 u0 WM g10 VD VG;simp only[pq,pz,pw];go_wp2_with (first
      | (go_at_call 19;refine(SN _ RU).mono ?_;clear SN;rintro e w12 ⟨rfl,Um⟩;have RV:=RU.trans (af Um RU.size);have ZS:=HK.out _ RV)
      | (go_at_call 19;refine(Om _ RV).mono ?_;clear Om;rintro e w13 ⟨rfl,Un⟩;have Xo:=RV.trans (af Un RV.size)))
     go_ret;exact⟨rfl,hb0.trans (af Xo hb0.size)⟩
end Go.Proofs.YtakgjcfkdemipaaGreatDoor
