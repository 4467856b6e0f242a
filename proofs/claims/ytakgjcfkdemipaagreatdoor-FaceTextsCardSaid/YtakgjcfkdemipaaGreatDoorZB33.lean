/-
  Lemmas for the statement: contract: of the law: shown: the chapter's examples hold. Conditions: bounds of lengths; the variable strings.asciiSpace.
-/
import Derived.Test.YtakgjcfkdemipaaGreatDoorZBn
import Derived.Test.YtakgjcfkdemipaaGreatDoorZB28
import Derived.Test.YtakgjcfkdemipaaGreatDoorZB30
import Derived.Test.YtakgjcfkdemipaaGreatDoorZB32
set_option maxHeartbeats 25600000
namespace Go.Proofs.YtakgjcfkdemipaaGreatDoor
open Go Go.RowKit
section
variable {D:Nat→Prop} {ops:Array Oper} {h:Nat} {V:List VS} {E:List (Nat×VS)} {S:World→Prop} {k:Nat} {o:Oper}
theorem Lx {t:TypeId} {x y:Operand} {u v:Value} {f g:aA} (ho:o.op=.buildSlice t 2 #[(0,x),(1,y)]) (ht:t=22) (hw:cO ops h V o=some true) (hk:V[k]? =some (.dG [f,g])) (hx:aJ ops h V E o x=some (.eq u)) (hy:aJ ops h V E o y=some (.eq v))
 (hu:∀w,S w→∃n q,u=.agg #[str f.name,.int .u8 f.kind,.bool f.par,n,q]∧aY Any w n f.ag∧aY Any w q f.ops) (hv:∀w,S w→∃n q,v=.agg #[str g.name,.int .u8 g.kind,.bool g.par,n,q]∧aY Any w n g.ag∧aY Any w q g.ops) (hl:f.name.length≤maxLen) (hl2:g.name.length≤maxLen):bM Any Tryz.prog S ops h V E k o:=
 oI [(x,.eq u),(y,.eq v)] hw hk (by simp[hx,hy]) λa w Q hS hi next hn=>by
  have h1:a.eval x=u:=hi (x,.eq u) (by simp);have h2:a.eval y=v:=hi (y,.eq v) (by simp);obtain⟨n,q,rfl,xh,hn2⟩:=hu w hS;obtain⟨n2,q2,rfl,Sh,Si⟩:=hv w hS;subst ht;unfold Oper.wp;have hrun:∀ev:Operand→Value,ev x=.agg #[str f.name,.int .u8 f.kind,.bool f.par,n,q]→ev y=.agg #[str g.name,.int .u8 g.kind,.bool g.par,n2,q2]→(execOp ev o).run Tryz.prog w=.ok (.value (.slice (some ⟨w.heap.size,0,none⟩) 2 2)) (w.alloc (.cells #[str f.name,.int .u8 f.kind,.bool f.par,n,q,str g.name,.int .u8 g.kind,.bool g.par,n2,q2] 58)):=λev h1 h2=>by
   unfold execOp;simp[ho,h1,h2,go_sem]
  rw[hrun _ h1 h2];exact hn _ _ (wO (D:=Any) w _ rfl trivial (l:=[f,g]) 58 (by simp[maxLen]) ⟨_,_,_,rfl,hl,xh,hn2,_,_,[],rfl,hl2,Sh,Si,rfl⟩) ((zb w).alloc zr _)
theorem Lw {x:Operand} {cs:Array Value} {r:Value} {i:Nat} (ho:o.op=.extract x i) (hw:cO ops h V o=some true) (hk:V[k]? =some (.eq r)) (hx:aJ ops h V E o x=some (.eq (.tuple cs))) (hr:cs[i]? =some r:=by rfl):bM D Tryz.prog S ops h V E k o:=
 EX x hw hk hx λev w hS h1=>by unfold execOp;simp[ho,h1,hr,go_sem]
end
theorem bG.any {D:Nat→Prop} {w:World} {v:Value} {l:List aA} (h:bG D w v l):bG Any w v l:=by
 obtain⟨p,c,h1,h2,h3,hl,h4⟩:=h
 refine⟨p,c,h1,h2,h3,hl,?_⟩
 rcases h4 with h4|⟨b,o,e1,h5,h6,h7⟩
 · exact .inl h4
 · refine .inr ⟨b,o,e1,trivial,h6,λj hj=>?_⟩
   obtain⟨a,s,k1,k2,k3⟩:=h7 j hj;exact⟨a,s,k1.mono (λ_ _=>trivial),k2.mono (λ_ _=>trivial),k3⟩
set_option maxRecDepth 8000 in
theorem JW (w : World) (ht : dW w) : Calls Tryz.prog 18 #[] w fun e w' => e = .returned (.bool true) ∧ Below w.heap.size w w' := by
 go_enter Tryz.func18,Tryz.ntmps18
 go_upto_region 2 with(go_at_call 56;refine(xL _).mono ?_;rintro e w1 ⟨g,rfl,hL,au⟩)
 have hL:=hL.any
 have hn:∀f∈fO,f.ag.length≤100000:=by simp[fO,fQ,dH]
 have HT:=zh (λW (hW:Below w1.heap.size w1 W)=>(ht.below au zr).below hW zr)
 have HL:=zh (λW (hW:Below w1.heap.size w1 W)=>hL.below hW zr)
 obtain⟨b0,o0,Hp,I3,e0,_,_,GV,L9,c0,c1,c2,c3,c4⟩:=hL.at (k:=0) (x:=fQ) rfl
 obtain⟨b1,o1,Hq,I4,e1,_,_,hN1,Ko,c5,c6,c7,c8,c9⟩:=hL.at (k:=1) (x:=dH) rfl
 simp only[Option.some.injEq,Addr.mk.injEq,and_true] at e0 e1
 obtain⟨rfl,rfl⟩:=e0
 obtain⟨rfl,rfl⟩:=e1
 simp only[Nat.zero_mul,Nat.one_mul,Nat.zero_add,Nat.reduceAdd] at c0 c1 c2 c3 c4 c5 c6 c7 c8 c9
 have HK:=zh (λW (hW:Below w1.heap.size w1 W)=>(⟨Below.keep hW c0,Below.keep hW c1,Below.keep hW c2,Below.keep hW c3,Below.keep hW c4,Below.keep hW c5,Below.keep hW c6,Below.keep hW c7,Below.keep hW c8,Below.keep hW c9⟩:W.cell? ⟨g,0,none⟩=some (str fQ.name)∧W.cell? ⟨g,1,none⟩=some (.int .u8 3)∧W.cell? ⟨g,2,none⟩=some (.bool true)∧W.cell? ⟨g,3,none⟩=some Hp∧W.cell? ⟨g,4,none⟩=some I3∧W.cell? ⟨g,5,none⟩=some (str dH.name)∧W.cell? ⟨g,6,none⟩=some (.int .u8 1)∧W.cell? ⟨g,7,none⟩=some (.bool true)∧W.cell? ⟨g,8,none⟩=some Hq∧W.cell? ⟨g,9,none⟩=some I4))
 have HN:=zh (λW (hW:Below w1.heap.size w1 W)=>(⟨(GV.mono (λ_ _=>trivial)).below hW zr,(L9.mono (λ_ _=>trivial)).below hW zr,(hN1.mono (λ_ _=>trivial)).below hW zr,(Ko.mono (λ_ _=>trivial)).below hW zr⟩:aY Any W Hp fQ.ag∧aY Any W I3 fQ.ops∧aY Any W Hq dH.ag∧aY Any W I4 dH.ops))
 have HA:=λW (hW:Below w1.heap.size w1 W)=>uQ fO _ W (HT.out W hW) (HL.out W hW) hn
 rw[Je] at HA
 have LF:=λv W (hT:dW W) (hv:bG Any W v [dH,fQ])=>uQ [dH,fQ] v W hT hv (by simp[fQ,dH])
 rw[Gp] at LF
 have Mr:=λW (hW:Below w1.heap.size w1 W)=>xW fO _ [] (.slice none 0 0) [115,101,116,91,105,110,116,93] [104,111,108,100,115] W (HT.out W hW) (HL.out W hW) (aY.nil Any _ none 0) hn (by simp) (by simp[maxLen])
 rw[EP] at Mr
 have Ms:=λW (hW:Below w1.heap.size w1 W)=>xW fO _ [] (.slice none 0 0) [115,101,116,91,105,110,116,93] [97,100,100] W (HT.out W hW) (HL.out W hW) (aY.nil Any _ none 0) hn (by simp) (by simp[maxLen])
 rw[Jd] at Ms
 have Mt:=λW (hW:Below w1.heap.size w1 W)=>Cx fO _ [] (.slice none 0 0) [97,114,114,97,121,91,105,110,116,93] W (HT.out W hW) (HL.out W hW) (aY.nil Any _ none 0) hn (by simp) (by simp[maxLen])
 obtain⟨p1,p2,p3⟩:=Jg
 rw[p1] at Mt
 have Mw:=λW (hW:Below w1.heap.size w1 W)=>CO fO _ [] (.slice none 0 0) [115,111,114,116] [98,111,111,108] W (HT.out W hW) (HL.out W hW) (aY.nil Any _ none 0) hn (by simp) (by simp[maxLen]) (by simp[maxLen])
 rw[Jh] at Mw
 have HF:=λW (hW:Below w1.heap.size w1 W)=>BM fO _ [] (.slice none 0 0) dH.ag Hq [98,111,111,108] W (HT.out W hW) (HL.out W hW) (aY.nil Any _ none 0) (HN.out W hW).2.2.1 hn (by simp) (by simp[dH]) (by simp[maxLen])
 rw[Gq] at HF
 have HU:=λW (hW:Below w1.heap.size w1 W)=>Fc _ fQ W (HT.out W hW) ⟨Hp,I3,rfl,by simp[fQ,maxLen],(HN.out W hW).1,(HN.out W hW).2.1⟩ (by simp[fQ])
 rw[Gu] at HU
 have HW:=λW (hW:Below w1.heap.size w1 W)=>C1 _ dH W (HT.out W hW) ⟨Hq,I4,rfl,by simp[dH,maxLen],(HN.out W hW).2.2.1,(HN.out W hW).2.2.2⟩ (by simp[dH])
 rw[Gt] at HW
 have Mq:=λW (hW:Below w1.heap.size w1 W)=>tu fO _ [] (.slice none 0 0) false [115,101,116,91,115,101,116,91,105,110,116,93,93] W (HT.out W hW) (HL.out W hW) (aY.nil Any _ none 0) hn (by simp) (by simp[maxLen])
 rw[Jf] at Mq
 have Js:=λW (hW:Below w1.heap.size w1 W)=>tu fO _ fQ.ag Hp true tS W (HT.out W hW) (HL.out W hW) (HN.out W hW).1 hn (by simp[fQ]) (by simp[tS,maxLen])
 rw[Gs] at Js
 generalize (jP fO [] [115,101,116,91,105,110,116,93] [97,100,100]).1=X2 at *
 generalize (jA fO [] [97,114,114,97,121,91,105,110,116,93]).1=OL at *
 generalize (lF fO [] [115,111,114,116] [98,111,111,108]).1=X3 at *
 obtain⟨x2,hx2,Oj⟩:∃x,OL[2]? =some x∧x.name=[102,101,116,99,104]:=by simpa[Option.map_eq_some_iff] using p3
 have hp2:=zh p2
 have hb0:=au
 clear hL GV L9 hN1 Ko c0 c1 c2 c3 c4 c5 c6 c7 c8 c9 p1 p2 p3 hn ht
 have B1:Below w1.heap.size w1 w1:=zb _
 go_upto_region 3 with(go_at_call 40;refine(HA _ B1).mono ?_;clear HA;rintro e w2 ⟨rfl,aC⟩)
 have B2:=B1.trans (af aC zr)
 obtain⟨k0,k1,k2,k3,k4,k5,k6,k7,k8,k9⟩:=HK.out w2.drew B2.drew
 obtain⟨hm0,G0,hm2,IG⟩:=HN.out w2.drew B2.drew
 have PJ:=HT.out w2.drew B2.drew
 refine dK (D:=Any) (w:=w2) 12 [(1,vL g 0 2 2)] [vL g 0 2 2,vP g (1 * 5),.eq (.agg #[str dH.name,.int .u8 1,.bool true,Hq,I4]),vL g 0 2 2,vP g 0,.eq (.agg #[str fQ.name,.int .u8 3,.bool true,Hp,I3]),.dG [dH,fQ],.eq (.tuple #[.int .i64 1,.int .i64 6]),.eq (.tuple #[.int .i64 1,.int .i64 6]),vI 1,vI 6,vI 1,vI 6] (λw'=>aZ [(⟨g,0,none⟩,str fQ.name),(⟨g,1,none⟩,.int .u8 3),(⟨g,2,none⟩,.bool true),(⟨g,3,none⟩,Hp),(⟨g,4,none⟩,I3),(⟨g,5,none⟩,str dH.name),(⟨g,6,none⟩,.int .u8 1),(⟨g,7,none⟩,.bool true),(⟨g,8,none⟩,Hq),(⟨g,9,none⟩,I4)] w'∧aY Any w' Hp fQ.ag∧aY Any w' I3 fQ.ops∧aY Any w' Hq dH.ag∧aY Any w' I4 dH.ops∧dW w') (by kernel_rfl) rfl (λ_ _ h hb=>⟨h.1.below hb,⟨h.2.1.below hb zr,h.2.2.1.below hb zr,h.2.2.2.1.below hb zr,h.2.2.2.2.1.below hb zr,h.2.2.2.2.2.below hb zr⟩⟩) ⟨(by(iterate 10 refine b9 (by assumption) ?_);exact gy),hm0,G0,hm2,IG,PJ⟩ ⟨rfl,trivial⟩ ?_ ?_
 · iterate 13
    refine And.intro ?_ ?_
    · first
      | exact dr (by kernel_rfl) rfl
      | exact oe rfl rfl (by kernel_rfl)
      | exact eX rfl (by kernel_rfl) (by kernel_rfl) rfl rfl
      | exact gN rfl (by kernel_rfl) rfl rfl (λw=>by simp[go_sem])
      | exact iC rfl (by kernel_rfl) rfl rfl rfl (λw=>by simp[go_sem])
      | exact gv rfl (by kernel_rfl) rfl rfl (λw hS=>by simp[go_sem,(hS.1.get 0 rfl),(hS.1.get 1 rfl),(hS.1.get 2 rfl),(hS.1.get 3 rfl),(hS.1.get 4 rfl),(hS.1.get 5 rfl),(hS.1.get 6 rfl),(hS.1.get 7 rfl),(hS.1.get 8 rfl),(hS.1.get 9 rfl)])
      | exact Lx (f:=dH) (g:=fQ) rfl rfl (by kernel_rfl) rfl rfl rfl (λw hS=>⟨Hq,I4,rfl,hS.2.2.2.1,hS.2.2.2.2.1⟩) (λw hS=>⟨Hp,I3,rfl,hS.2.1,hS.2.2.1⟩) (by simp[dH,maxLen]) (by simp[fQ,maxLen])
      | exact er (s1:=.dG [dH,fQ]) rfl (enters_of Tryz.func40 (by kernel_rfl) rfl) (by kernel_rfl) rfl rfl (λv wx hS h1=>(LF v wx hS.2.2.2.2.2 h1).mono (by rintro e w' ⟨rfl,hb⟩;exact⟨_,rfl,rfl,hb⟩))
      | exact Lw rfl (by kernel_rfl) rfl rfl
      | exact eW rfl (by kernel_rfl) rfl rfl rfl (λw=>by simp[go_sem])
   exact trivial
 · intro aE w3 mo fM GZ
   have h4:aE.tmps.getD 4 undef=.int .i64 1:=GZ 11 _ _ (by decide) rfl rfl;have B3:=B2.trans (af fM B2.size);clear k0 k1 k2 k3 k4 k5 k6 k7 k8 k9 hm0 G0 hm2 IG PJ mo GZ;simp only[pq,pz,pw,h4];clear h4;go_upto_region 13 with(first
    | (go_at_call 23;refine(Mr _ B3).mono ?_;clear Mr;rintro e w4 ⟨u4,rfl,uV,hb4⟩;have g4:=uV.mono (D':=Any) (λ_ _=>trivial);obtain⟨a4,s4,rfl,_,Nr,Nu⟩:=uV;obtain⟨pa,ca,rfl,_⟩:=Nr.shape;obtain⟨ps,cs,rfl,_⟩:=Nu.shape;have B4:=(B3.trans (af hb4 B3.size)).alloc (B3.trans (af hb4 B3.size)).size (.cells #[.bool false,.slice pa 2 ca,str tB,.slice ps 0 cs] 36);have f4:=heap_alloc_new w4 (.cells #[.bool false,.slice pa 2 ca,str tB,.slice ps 0 cs] 36);have g4:=g4.below ((zb w4).alloc zr (.cells #[.bool false,.slice pa 2 ca,str tB,.slice ps 0 cs] 36)) zr)
    | (go_at_call 23;refine(Ms _ B4).mono ?_;clear Ms;rintro e w5 ⟨u5,rfl,BR,eT⟩;obtain⟨a5,s5,rfl,_,Ns,Nv⟩:=BR;obtain⟨Ox,MI,rfl,_⟩:=Ns.shape;obtain⟨Oy,J7,rfl,_⟩:=Nv.shape;have B5:=(B4.trans (af eT B4.size)).alloc (B4.trans (af eT B4.size)).size (.cells #[.bool X2.iter,.slice Ox X2.args.length MI,str X2.res,.slice Oy X2.sigs.length J7] 36);have f5:=aD (.cells #[.bool X2.iter,.slice Ox X2.args.length MI,str X2.res,.slice Oy X2.sigs.length J7] 36) (ah f4 eT);have g5:=(g4.below eT zr).below ((zb w5).alloc zr (.cells #[.bool X2.iter,.slice Ox X2.args.length MI,str X2.res,.slice Oy X2.sigs.length J7] 36)) zr)
    | (go_at_call 21;refine(Mt _ B5).mono ?_;clear Mt;rintro e w6 ⟨u6,rfl,Ni,jJ⟩;obtain⟨p6,c6,G9⟩:=Ni.shape;rw[hp2.out] at G9;subst G9;have m6:=Ni.x9;have B6:=B5.trans (af jJ B5.size);have f6:=ah f5 jJ;have g6:=g5.below jJ zr)
    | (go_at_call 27;refine(Mw _ B6).mono ?_;clear Mw;rintro e w7 ⟨u7,rfl,RN,sB⟩;obtain⟨a7,s7,rfl,_,Nt,Nw⟩:=RN;obtain⟨Mk,LQ,rfl,_⟩:=Nt.shape;obtain⟨Ml,LR,rfl,_⟩:=Nw.shape;have B7:=(B6.trans (af sB B6.size)).alloc (B6.trans (af sB B6.size)).size (.cells #[.bool X3.iter,.slice Mk X3.args.length LQ,str X3.res,.slice Ml X3.sigs.length LR] 36);have f7:=aD (.cells #[.bool X3.iter,.slice Mk X3.args.length LQ,str X3.res,.slice Ml X3.sigs.length LR] 36) (ah f6 sB);have g7:=(g6.below sB zr).below ((zb w7).alloc zr (.cells #[.bool X3.iter,.slice Mk X3.args.length LQ,str X3.res,.slice Ml X3.sigs.length LR] 36)) zr;have m7:=(m6.below sB zr).below ((zb w7).alloc zr (.cells #[.bool X3.iter,.slice Mk X3.args.length LQ,str X3.res,.slice Ml X3.sigs.length LR] 36)) zr;have SY:=HK.out _ B7)
    | (go_at_call 29;refine(HF _ B7).mono ?_;clear HF;rintro e w8 ⟨rfl,tG⟩;have B8:=B7.trans (af tG B7.size);have f8:=ah f7 tG;have g8:=g7.below tG zr;have m8:=m7.below tG zr;have SZ:=HK.out _ B8)
    | (go_at_call 47;refine(HU _ B8).mono ?_;clear HU;rintro e w9 ⟨u9,rfl,q9,Me⟩;obtain⟨p9,c9,rfl,_⟩:=q9.shape;have B9:=B8.trans (af Me B8.size);have f9:=ah f8 Me;have g9:=g8.below Me zr;have m9:=m8.below Me zr;have S0:=HK.out _ B9)
    | (go_at_call 51;refine(HW _ B9).mono ?_;clear HW;rintro e yY ⟨rfl,DL⟩;have OE:=B9.trans (af DL B9.size);have f10:=ah f9 DL;have g10:=g9.below DL zr;have m10:=m9.below DL zr;have Mm:=q9.below DL zr))
   obtain⟨⟨j0,j1,j2,j3⟩,_⟩:=aN f10;obtain⟨Jv,JV,_,_,Q9,_,_,_,_,n0,_⟩:=m10.at hx2;rw[Oj] at n0;subst Q9;obtain⟨J2,Lm,Ra,_,u0⟩:=Mm.at (k:=0) rfl;subst Ra;rw[Nat.add_zero] at u0;have PY:=g10.below (zb yY).drew zr;have j0:=Below.keep (zb yY).drew j0;have j1:=Below.keep (zb yY).drew j1;have j2:=Below.keep (zb yY).drew j2;have j3:=Below.keep (zb yY).drew j3;have n0:=Below.keep (zb yY).drew n0;have u0:=Below.keep (zb yY).drew u0;have OP:=λ(v2:Value) (wx:World) (h2:SS Any wx v2 [[115,101,116,91,105,110,116,93],[105,110,116]])=>show Calls Tryz.prog 57 #[str tB,v2] wx λe w'=>∃u,e=.returned u∧aT Any w' u ⟨false,[[115,101,116,91,105,110,116,93],[105,110,116]],tB,[]⟩∧Below wx.heap.size wx w' from by
    refine(jR tB v2 wx (by obtain⟨p,c,h,_⟩:=h2.shape;exact⟨_,_,_,h⟩)).mono ?_;rintro e w' ⟨rfl,hb⟩;exact⟨_,rfl,⟨_,_,rfl,by simp[tB,maxLen],h2.below hb zr,SS.nil _ _ _ _⟩,hb⟩
   have OR:=λ(v2:Value) (wx:World) (h1:aT Any wx (.agg #[.bool false,.slice pa 2 ca,str tB,.slice ps 0 cs]) ⟨false,[[115,101,116,91,105,110,116,93],[105,110,116]],tB,[]⟩) (h2:aT Any wx v2 ⟨false,[[115,101,116,91,105,110,116,93],[105,110,116]],tB,[]⟩)=>show Calls Tryz.prog 26 #[.agg #[.bool false,.slice pa 2 ca,str tB,.slice ps 0 cs],v2] wx λe w'=>∃u,e=.returned u∧u=.bool true∧Below wx.heap.size wx w' from by
    refine(EN _ _ _ _ _ h1 h2).mono ?_;rintro e w' ⟨rfl,hb⟩;exact⟨_,rfl,by rw[show pK _ _=true by decide],hb⟩
   clear f4 f5 f6 f7 f8 f9 f10 g4 g5 g6 g7 g8 g9 m6 m7 m8 m9 m10 q9 Mm SY SZ S0 Ni hp2;generalize w4.heap.size=b6 at *;refine dK (D:=Any) 35 [(6,vP b6 0),(10,vL Jv JV 7 c6),(14,vT [108,116]),(15,vN),(17,vL J2 Lm 1 c9)] [.eq (.agg #[.bool false,.slice pa 2 ca,str tB,.slice ps 0 cs]),.ss [[115,101,116,91,105,110,116,93],[105,110,116]],.sig ⟨false,[[115,101,116,91,105,110,116,93],[105,110,116]],tB,[]⟩,vY,vY,vL Jv JV 7 c6,vI 7,vY,vY,vY,vL Jv JV 7 c6,vP Jv (JV+2 * 5),vP Jv (JV+2 * 5),vT [102,101,116,99,104],vY,vY,vY,vT [108,116],vY,vY,vY,vN,vY,vY,vY,vL J2 Lm 1 c9,vI 1,vY,vY,vY,vL J2 Lm 1 c9,vP J2 Lm,vT [115,101,116],vY,vY,vY] (λw'=>aZ [(⟨b6,0,none⟩,.bool false),(⟨b6,1,none⟩,.slice pa 2 ca),(⟨b6,2,none⟩,str tB),(⟨b6,3,none⟩,.slice ps 0 cs),(⟨Jv,JV+2 * 5,none⟩,str [102,101,116,99,104]),(⟨J2,Lm,none⟩,str [115,101,116])] w'∧aT Any w' (.agg #[.bool false,.slice pa 2 ca,str tB,.slice ps 0 cs]) ⟨false,[[115,101,116,91,105,110,116,93],[105,110,116]],tB,[]⟩) (by kernel_rfl) rfl (λ_ _ h hb=>⟨h.1.below hb,aT.below h.2 hb zr⟩) ⟨(by(iterate 6 refine b9 (by assumption) ?_);exact gy),PY⟩ ⟨rfl,rfl,rfl,rfl,rfl,trivial⟩ ?_ ?_
   · iterate 36
      refine And.intro ?_ ?_
      · first
        | exact dr (by kernel_rfl) rfl
        | exact oe rfl rfl (by kernel_rfl)
        | exact eX rfl (by kernel_rfl) (by kernel_rfl) rfl rfl
        | exact gN rfl (by kernel_rfl) rfl rfl (λw=>by simp[go_sem])
        | exact iC rfl (by kernel_rfl) rfl rfl rfl (λw=>by simp[go_sem])
        | exact gv rfl (by kernel_rfl) rfl rfl (λw hS=>by simp[go_sem,(hS.1.get 0 rfl),(hS.1.get 1 rfl),(hS.1.get 2 rfl),(hS.1.get 3 rfl),(hS.1.get 4 rfl),(hS.1.get 5 rfl)])
        | exact Bz rfl rfl (by kernel_rfl) rfl rfl rfl (by simp[maxLen]) (by simp[maxLen]) (λ_ _=>trivial)
        | exact gu (s1:=.eq (str tB)) (s2:=.ss [[115,101,116,91,105,110,116,93],[105,110,116]]) rfl (enters_of Tryz.func57 (by kernel_rfl) rfl) (by kernel_rfl) rfl rfl rfl (λv v2 wx hS h1 h2=>by rw[show v=str tB from h1];exact OP v2 wx h2)
        | exact gu (s1:=.eq (.agg #[.bool false,.slice pa 2 ca,str tB,.slice ps 0 cs])) (s2:=.sig ⟨false,[[115,101,116,91,105,110,116,93],[105,110,116]],tB,[]⟩) rfl (enters_of Tryz.func26 (by kernel_rfl) rfl) (by kernel_rfl) rfl rfl rfl (λv v2 wx hS h1 h2=>by rw[show v=.agg #[.bool false,.slice pa 2 ca,str tB,.slice ps 0 cs] from h1];exact OR v2 wx hS.2 h2)
        | exact eW rfl (by kernel_rfl) rfl rfl rfl (λw=>by simp[go_sem])
     exact trivial
   · intro aE Mp mo fM GZ
     have LC:=OE.trans (af fM OE.size);have SV:=HK.out _ LC;clear mo GZ j0 j1 j2 j3 n0 u0 PY g10 OP OR;simp only[pq,pz,pw];go_wp2_with (first
      | (go_at_call 19;refine(Mq _ LC).mono ?_;clear Mq;rintro e w12 ⟨rfl,NB⟩;have LD:=LC.trans (af NB LC.size);have SX:=HK.out _ LD)
      | (go_at_call 19;refine(Js _ LD).mono ?_;clear Js;rintro e w13 ⟨rfl,NC⟩;have Qv:=LD.trans (af NC LD.size)))
     go_ret;exact⟨rfl,hb0.trans (af Qv hb0.size)⟩
end Go.Proofs.YtakgjcfkdemipaaGreatDoor
