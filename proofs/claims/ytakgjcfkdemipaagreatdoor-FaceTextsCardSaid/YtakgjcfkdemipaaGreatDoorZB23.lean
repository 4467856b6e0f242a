/-
  Lemmas for the statement: contract: of the package face: (maker).oneofs. Conditions: bounds of lengths; the variable strings.asciiSpace.
-/
import Derived.Test.YtakgjcfkdemipaaGreatDoorZBn
import Derived.Test.YtakgjcfkdemipaaGreatDoorZB21
set_option maxHeartbeats 25600000
namespace Go.Proofs.YtakgjcfkdemipaaGreatDoor
open Go.RowKit
set_option maxRecDepth 8000 in
theorem Ac (v:Value) (m:Nat) (nv:Value) (p:Bool) (t:List UInt8) (w:World) (hT:dW w) (PO:(dJ t).1.length≤100) (hps:∀x∈(dJ t).1,x.1.length≤1000∧x.2.length≤maxLen) (hv:uM v m nv p t) (ht:t.length≤maxLen):
 Calls Tryz.prog 182 #[v] w λe w'=>∃u,e=.returned u∧cQ w.heap.size w' u (([⟨[101,113,117,97,108],⟨false,[t,t],[98,111,111,108],[]⟩⟩]:List aL)++(dJ t).1.flatMap (λp:List UInt8×List UInt8=>([⟨[105,115,95]++p.1,⟨false,[t],[98,111,111,108],[]⟩⟩,⟨[109,97,107,101,95]++p.1,⟨false,[p.2],t,[]⟩⟩]:List aL)))∧Below w.heap.size w w':=by
 obtain⟨rfl,q,n,c,rfl⟩:=hv
 have bT:=heap_alloc_new w (.cells #[.map (some m),.slice q n c,.bool p,str t] 145)
 have hA:=(zb w).alloc zr (.cells #[.map (some m),.slice q n c,.bool p,str t] 145)
 have HC:=ru t ht (w.alloc (.cells #[.map (some m),.slice q n c,.bool p,str t] 145)) (hT.below hA zr)
 have bx:=(aN bT).1
 generalize (dJ t).1=ps at *
 go_enter Tryz.func182,Tryz.ntmps182
 go_wp2_with (first
  | (go_at_call 238;refine(j5 _ m _ _ t _ ⟨rfl,_,_,_,rfl⟩ ht).mono ?_;rintro e w2 ⟨u,rfl,⟨x,y,rfl,l1,r1,q1⟩,aC⟩;obtain⟨p1,c1,rfl,_⟩:=r1.shape;obtain⟨p2,c2,rfl,_⟩:=q1.shape)
  | (go_at_call 241;refine HC.mono ?_;clear HC;rintro e w1 ⟨v,rfl,hp1,au⟩;obtain⟨pp,cp,rfl⟩:=hp1.shape;have dI:=ah bT au;have oN:=(aN dI).1))
 have hs2:=aC.size
 have hs1:=au.size
 simp only[World.size_alloc] at hs1
 have hown:=jQ (B:=w1.heap.size) (n:=1) w2 hs2 rfl (by unfold maxLen;simp) (show bl (λb=>w1.heap.size≤b) w2 _ [cm t] from⟨_,_,_,rfl,l1,r1,q1,rfl⟩)
 have hB:=aC.alloc hs2 (.cells #[str (cm t).name,.bool (cm t).sig.iter,.slice p1 (cm t).sig.args.length c1,str (cm t).sig.res,.slice p2 (cm t).sig.sigs.length c2] 50)
 have Ir:Below w.heap.size w w1:=hA.trans (af au (by simp))
 clear l1 r1 q1 aC hs2 oN hA au bT bx
 generalize w2.alloc (.cells #[str (cm t).name,.bool (cm t).sig.iter,.slice p1 (cm t).sig.args.length c1,str (cm t).sig.res,.slice p2 (cm t).sig.sigs.length c2] 50)=W3 at *
 generalize Value.agg #[str (cm t).name,.bool (cm t).sig.iter,.slice p1 (cm t).sig.args.length c1,str (cm t).sig.res,.slice p2 (cm t).sig.sigs.length c2]=vEq
 generalize (some (⟨w2.heap.size,0,none⟩:Addr))=pE at *
 go_loopw [5,19] (λv y wx=>∃i:Nat,i≤ps.length∧y=.int .i64 i∧cQ w1.heap.size wx v ([cm t]++(ps.take i).flatMap (λp:List UInt8×List UInt8=>([⟨[105,115,95]++p.1,⟨false,[t],[98,111,111,108],[]⟩⟩,⟨[109,97,107,101,95]++p.1,⟨false,[p.2],t,[]⟩⟩]:List aL)))∧Below w1.heap.size w1 wx) (λ_ y _=>ps.length - (intOf y).toNat)
 case atStart=>exact⟨0,Nat.zero_le _,by go_num,by simpa using hown,hB⟩
 case round=>
  clear hown hB;obtain⟨i,hi,rfl,hown,hB⟩:=hrel;obtain⟨pv,cv,rfl⟩:=hown.shape
  by_cases hlt:i<ps.length
  case neg=>
   have hie:i=ps.length:=by omega
   subst hie;have Ng:[cm t]++(ps.take ps.length).flatMap (λp:List UInt8×List UInt8=>([⟨[105,115,95]++p.1,⟨false,[t],[98,111,111,108],[]⟩⟩,⟨[109,97,107,101,95]++p.1,⟨false,[p.2],t,[]⟩⟩]:List aL))=[cm t]++ps.flatMap (λp:List UInt8×List UInt8=>([⟨[105,115,95]++p.1,⟨false,[t],[98,111,111,108],[]⟩⟩,⟨[109,97,107,101,95]++p.1,⟨false,[p.2],t,[]⟩⟩]:List aL)):=by rw[List.take_length]
   generalize [cm t]++(ps.take ps.length).flatMap (λp:List UInt8×List UInt8=>([⟨[105,115,95]++p.1,⟨false,[t],[98,111,111,108],[]⟩⟩,⟨[109,97,107,101,95]++p.1,⟨false,[p.2],t,[]⟩⟩]:List aL))=LL at *;go_wp2_with fail;go_ret;subst Ng;exact⟨_,rfl,by simpa[cm] using hown.mono Ir.size,Ir.trans (af hB Ir.size)⟩
  case pos=>
   have KZ:=hp1.below hB;obtain⟨b1,o1,cz,⟨nm,ty⟩,mq,hx,pG,od⟩:=KZ.at hlt;injection mq with mq;subst mq;obtain⟨hnm,hty⟩:=hps _ (List.mem_of_getElem? hx);simp only at hnm hty pG od;have FV:=zh (show([cm t]++(ps.take i).flatMap (λp:List UInt8×List UInt8=>([⟨[105,115,95]++p.1,⟨false,[t],[98,111,111,108],[]⟩⟩,⟨[109,97,107,101,95]++p.1,⟨false,[p.2],t,[]⟩⟩]:List aL)))++((λp:List UInt8×List UInt8=>([⟨[105,115,95]++p.1,⟨false,[t],[98,111,111,108],[]⟩⟩,⟨[109,97,107,101,95]++p.1,⟨false,[p.2],t,[]⟩⟩]:List aL)) (nm,ty))=[cm t]++(ps.take (i+1)).flatMap (λp:List UInt8×List UInt8=>([⟨[105,115,95]++p.1,⟨false,[t],[98,111,111,108],[]⟩⟩,⟨[109,97,107,101,95]++p.1,⟨false,[p.2],t,[]⟩⟩]:List aL)) by rw[List.append_assoc,List.take_add_one,hx];simp);have hlen:([cm t]++(ps.take i).flatMap (λp:List UInt8×List UInt8=>([⟨[105,115,95]++p.1,⟨false,[t],[98,111,111,108],[]⟩⟩,⟨[109,97,107,101,95]++p.1,⟨false,[p.2],t,[]⟩⟩]:List aL))).length≤300:=by
    simp only[List.length_append,List.length_flatMap,List.length_cons,List.length_nil,List.map_const',List.sum_replicate_nat,List.length_take];omega
   generalize ([cm t]++(ps.take i).flatMap (λp:List UInt8×List UInt8=>([⟨[105,115,95]++p.1,⟨false,[t],[98,111,111,108],[]⟩⟩,⟨[109,97,107,101,95]++p.1,⟨false,[p.2],t,[]⟩⟩]:List aL)))=L at *;have qO:=cG dI hB (bA dI);have gi:(i:Int)<(ps.length:Int):=by omega
   go_upto_region 6 with fail;have DE:=heap_alloc_new wr (.cells #[.string ⟨nm.toArray⟩,.string ⟨ty.toArray⟩] 155);have yU:=aD (.cells #[.string ⟨nm.toArray⟩,.string ⟨ty.toArray⟩] 155) qO;have JQ:=hown.below ((zb wr).alloc zr (.cells #[.string ⟨nm.toArray⟩,.string ⟨ty.toArray⟩] 155)) zr;have DA:=hB.alloc hB.size (.cells #[.string ⟨nm.toArray⟩,.string ⟨ty.toArray⟩] 155);clear qO hown hB KZ pG od;generalize wr.alloc (.cells #[.string ⟨nm.toArray⟩,.string ⟨ty.toArray⟩] 155)=WB at *;generalize wr.heap.size=PB at *;refine kK (S:=λw'=>w'.heap[PB]? =some (.cells #[str nm,str ty] 155 (0,0))∧w'.heap[w.heap.size]? =some (.cells #[.map (some m),.slice q n c,.bool p,str t] 145 (0,0))∧cQ w1.heap.size w' (.slice pv L.length cv) L∧Below WB.heap.size WB w') (A:=λj v w'=>match j with
    | 0=>v=.slice pv L.length cv
    | 1=>v=.pointer (some ⟨PB,0,none⟩)
    | 2=>v=str nm
    | 3=>v=str ([105,115,95]++nm)
    | 4=>v=.pointer (some ⟨w.heap.size,3,none⟩)
    | 5=>v=str t
    | 6=>SS (λb=>WB.heap.size≤b) w' v [t]
    | 7=>aT (λb=>WB.heap.size≤b) w' v ⟨false,[t],[98,111,111,108],[]⟩
    | 8=>gx (λb=>WB.heap.size≤b) w' v ⟨[105,115,95]++nm,⟨false,[t],[98,111,111,108],[]⟩⟩
    | 9=>v=.pointer (some ⟨PB,0,none⟩)
    | 10=>v=str nm
    | 11=>v=str ([109,97,107,101,95]++nm)
    | 12=>v=.pointer (some ⟨w.heap.size,3,none⟩)
    | 13=>v=str t
    | 14=>v=.pointer (some ⟨PB,1,none⟩)
    | 15=>v=str ty
    | 16=>SS (λb=>WB.heap.size≤b) w' v [ty]
    | 17=>aT (λb=>WB.heap.size≤b) w' v ⟨false,[ty],t,[]⟩
    | 18=>gx (λb=>WB.heap.size≤b) w' v ⟨[109,97,107,101,95]++nm,⟨false,[ty],t,[]⟩⟩
    | 19=>mj (λb=>WB.heap.size≤b) WB.heap.size w' v [⟨[105,115,95]++nm,⟨false,[t],[98,111,111,108],[]⟩⟩,⟨[109,97,107,101,95]++nm,⟨false,[ty],t,[]⟩⟩]
    | _=>True) 20 (by kernel_rfl) (by decide) (by kernel_rfl) (by kernel_rfl) (by kernel_rfl) ?_ (λw1 w2 h hb=>⟨ah h.1 hb,ah h.2.1 hb,h.2.2.1.below hb zr,h.2.2.2.trans (af hb h.2.2.2.size)⟩) ⟨DE,yU,JQ.below (zb WB).drew zr,(zb _).drew⟩ (pN ⟨?_,?_,?_,?_,?_,?_,?_,?_,?_,?_,?_,?_,?_,?_,?_,?_,?_,?_,?_,?_,trivial⟩) ?_
   · intro j v w1 w2 h hb
     match j with
     | 0=>exact h
     | 1=>exact h
     | 2=>exact h
     | 3=>exact h
     | 4=>exact h
     | 5=>exact h
     | 6=>exact SS.below (show SS (λb=>WB.heap.size≤b) w1 v [t] from h) hb zr
     | 7=>exact aT.below (show aT (λb=>WB.heap.size≤b) w1 v ⟨false,[t],[98,111,111,108],[]⟩ from h) hb zr
     | 8=>exact gx.below (show gx (λb=>WB.heap.size≤b) w1 v ⟨[105,115,95]++nm,⟨false,[t],[98,111,111,108],[]⟩⟩ from h) hb zr
     | 9=>exact h
     | 10=>exact h
     | 11=>exact h
     | 12=>exact h
     | 13=>exact h
     | 14=>exact h
     | 15=>exact h
     | 16=>exact SS.below (show SS (λb=>WB.heap.size≤b) w1 v [ty] from h) hb zr
     | 17=>exact aT.below (show aT (λb=>WB.heap.size≤b) w1 v ⟨false,[ty],t,[]⟩ from h) hb zr
     | 18=>exact gx.below (show gx (λb=>WB.heap.size≤b) w1 v ⟨[109,97,107,101,95]++nm,⟨false,[ty],t,[]⟩⟩ from h) hb zr
     | 19=>exact mj.below (show mj (λb=>WB.heap.size≤b) WB.heap.size w1 v [⟨[105,115,95]++nm,⟨false,[t],[98,111,111,108],[]⟩⟩,⟨[109,97,107,101,95]++nm,⟨false,[ty],t,[]⟩⟩] from h) hb zr
     | _+20=>trivial
   · intro x wx hS hd ho next hn
     have hle:WB.heap.size≤wx.heap.size:=hS.2.2.2.size;have hc:=(aN hS.2.1).1;have ij:=dX hS.1;have e5:x.tmps[5]?.getD undef=.slice pv L.length cv:=aR (ho 5 (fG (by kernel_rfl)));clear hd ho;unfold Oper.wp;simp only[execOp];simp[go_sem,e5];exact hn _ _ rfl (zb _)
   · intro x wx hS hd ho next hn
     have hle:WB.heap.size≤wx.heap.size:=hS.2.2.2.size;have hc:=(aN hS.2.1).1;have ij:=dX hS.1;have e7:x.tmps[7]?.getD undef=.pointer (some ⟨PB,0,none⟩):=aR (ho 7 (fG (by kernel_rfl)));clear hd ho;unfold Oper.wp;simp only[execOp];simp[go_sem,e7];exact hn _ _ rfl (zb _)
   · intro x wx hS hd ho next hn
     have hle:WB.heap.size≤wx.heap.size:=hS.2.2.2.size;have hc:=(aN hS.2.1).1;have ij:=dX hS.1;have Jz:x.tmps[24]?.getD undef=.pointer (some ⟨PB,0,none⟩):=aR (hd {on:=1,ground:=.data } (by simp) rfl _ 24 rfl rfl);clear hd ho;unfold Oper.wp;simp only[execOp];simp[go_sem,Jz,ij];exact hn _ _ rfl (zb _)
   · intro x wx hS hd ho next hn
     have hle:WB.heap.size≤wx.heap.size:=hS.2.2.2.size;have hc:=(aN hS.2.1).1;have ij:=dX hS.1;have JA:x.tmps[25]?.getD undef=str nm:=aR (hd {on:=2,ground:=.data } (by simp) rfl _ 25 rfl rfl);clear hd ho;unfold Oper.wp;simp only[execOp];simp[go_sem,JA];rw[if_neg (by omega)];exact hn _ _ rfl (zb _)
   · intro x wx hS hd ho next hn
     have hle:WB.heap.size≤wx.heap.size:=hS.2.2.2.size;have hc:=(aN hS.2.1).1;have ij:=dX hS.1;have e1:x.tmps[1]?.getD undef=.pointer (some ⟨w.heap.size,0,none⟩):=aR (ho 1 (fG (by kernel_rfl)));clear hd ho;unfold Oper.wp;simp only[execOp];simp[go_sem,e1];exact hn _ _ rfl (zb _)
   · intro x wx hS hd ho next hn
     have hle:WB.heap.size≤wx.heap.size:=hS.2.2.2.size;have hc:=(aN hS.2.1).1;have ij:=dX hS.1;have JC:x.tmps[27]?.getD undef=.pointer (some ⟨w.heap.size,3,none⟩):=aR (hd {on:=4,ground:=.data } (by simp) rfl _ 27 rfl rfl);clear hd ho;unfold Oper.wp;simp only[execOp];simp[go_sem,JC,hc];exact hn _ _ rfl (zb _)
   · intro x wx hS hd ho next hn
     have hle:WB.heap.size≤wx.heap.size:=hS.2.2.2.size;have hc:=(aN hS.2.1).1;have ij:=dX hS.1;have JD:x.tmps[28]?.getD undef=str t:=aR (hd {on:=5,ground:=.data } (by simp) rfl _ 28 rfl rfl);clear hd ho;unfold Oper.wp;simp only[execOp];simp[go_sem,JD];exact hn _ _ (SS.new (λb=>WB.heap.size≤b) wx (show WB.heap.size≤wx.heap.size from hle) [t] 9 (0,0) (by unfold maxLen;simp) (by intro s hs;simp only[List.mem_cons,List.not_mem_nil,or_false] at hs;rcases hs with hs<;>rw[hs]<;>first|exact ht|exact hty|simp[maxLen])) ((zb _).alloc zr _)
   · intro x wx hS hd ho next hn
     have hle:WB.heap.size≤wx.heap.size:=hS.2.2.2.size;have hc:=(aN hS.2.1).1;have ij:=dX hS.1;have MU:SS (λb=>WB.heap.size≤b) wx (x.eval (.tmp 29)) [t]:=(hd {on:=6,ground:=.data } (by simp) rfl _ 29 rfl rfl);obtain⟨UB,TL,FI,_⟩:=MU.shape;rw[FI] at MU;have FI:=aR FI;clear hd ho;unfold Oper.wp;simp only[execOp];simp[go_sem,FI];refine(kD _ _ _ wx MU (by first|exact ht|exact hty|simp[maxLen])).mono ?_;rintro e w3 ⟨u,rfl,hu,hb⟩;exact hn _ _ hu hb
   · intro x wx hS hd ho next hn
     have hle:WB.heap.size≤wx.heap.size:=hS.2.2.2.size;have hc:=(aN hS.2.1).1;have ij:=dX hS.1;have JB:x.tmps[26]?.getD undef=str ([105,115,95]++nm):=aR (hd {on:=3,ground:=.data } (by simp) rfl _ 26 rfl rfl);have Rl:aT (λb=>WB.heap.size≤b) wx (x.eval (.tmp 30)) ⟨false,[t],[98,111,111,108],[]⟩:=(hd {on:=7,ground:=.data } (by simp) rfl _ 30 rfl rfl);obtain⟨UI,UO,Fs,S2,Qn,Qa⟩:=Rl;obtain⟨Td,QS,rfl,_⟩:=Qn.shape;obtain⟨Tl,Q0,rfl,_⟩:=Qa.shape;have Fs:=aR Fs;clear hd ho;unfold Oper.wp;simp only[execOp];simp[go_sem,JB,Fs];exact hn _ _ ⟨_,_,rfl,⟨by first|(simp[maxLen];done)|(simp[maxLen];omega),S2⟩,Qn,Qa⟩ (zb _)
   · intro x wx hS hd ho next hn
     have hle:WB.heap.size≤wx.heap.size:=hS.2.2.2.size;have hc:=(aN hS.2.1).1;have ij:=dX hS.1;have e7:x.tmps[7]?.getD undef=.pointer (some ⟨PB,0,none⟩):=aR (ho 7 (fG (by kernel_rfl)));clear hd ho;unfold Oper.wp;simp only[execOp];simp[go_sem,e7];exact hn _ _ rfl (zb _)
   · intro x wx hS hd ho next hn
     have hle:WB.heap.size≤wx.heap.size:=hS.2.2.2.size;have hc:=(aN hS.2.1).1;have ij:=dX hS.1;have GQ:x.tmps[32]?.getD undef=.pointer (some ⟨PB,0,none⟩):=aR (hd {on:=9,ground:=.data } (by simp) rfl _ 32 rfl rfl);clear hd ho;unfold Oper.wp;simp only[execOp];simp[go_sem,GQ,ij];exact hn _ _ rfl (zb _)
   · intro x wx hS hd ho next hn
     have hle:WB.heap.size≤wx.heap.size:=hS.2.2.2.size;have hc:=(aN hS.2.1).1;have ij:=dX hS.1;have GR:x.tmps[33]?.getD undef=str nm:=aR (hd {on:=10,ground:=.data } (by simp) rfl _ 33 rfl rfl);clear hd ho;unfold Oper.wp;simp only[execOp];simp[go_sem,GR];rw[if_neg (by omega)];exact hn _ _ rfl (zb _)
   · intro x wx hS hd ho next hn
     have hle:WB.heap.size≤wx.heap.size:=hS.2.2.2.size;have hc:=(aN hS.2.1).1;have ij:=dX hS.1;have e1:x.tmps[1]?.getD undef=.pointer (some ⟨w.heap.size,0,none⟩):=aR (ho 1 (fG (by kernel_rfl)));clear hd ho;unfold Oper.wp;simp only[execOp];simp[go_sem,e1];exact hn _ _ rfl (zb _)
   · intro x wx hS hd ho next hn
     have hle:WB.heap.size≤wx.heap.size:=hS.2.2.2.size;have hc:=(aN hS.2.1).1;have ij:=dX hS.1;have MM:x.tmps[35]?.getD undef=.pointer (some ⟨w.heap.size,3,none⟩):=aR (hd {on:=12,ground:=.data } (by simp) rfl _ 35 rfl rfl);clear hd ho;unfold Oper.wp;simp only[execOp];simp[go_sem,MM,hc];exact hn _ _ rfl (zb _)
   · intro x wx hS hd ho next hn
     have hle:WB.heap.size≤wx.heap.size:=hS.2.2.2.size;have hc:=(aN hS.2.1).1;have ij:=dX hS.1;have e7:x.tmps[7]?.getD undef=.pointer (some ⟨PB,0,none⟩):=aR (ho 7 (fG (by kernel_rfl)));clear hd ho;unfold Oper.wp;simp only[execOp];simp[go_sem,e7];exact hn _ _ rfl (zb _)
   · intro x wx hS hd ho next hn
     have hle:WB.heap.size≤wx.heap.size:=hS.2.2.2.size;have hc:=(aN hS.2.1).1;have ij:=dX hS.1;have JE:x.tmps[37]?.getD undef=.pointer (some ⟨PB,1,none⟩):=aR (hd {on:=14,ground:=.data } (by simp) rfl _ 37 rfl rfl);clear hd ho;unfold Oper.wp;simp only[execOp];simp[go_sem,JE,ij];exact hn _ _ rfl (zb _)
   · intro x wx hS hd ho next hn
     have hle:WB.heap.size≤wx.heap.size:=hS.2.2.2.size;have hc:=(aN hS.2.1).1;have ij:=dX hS.1;have J9:x.tmps[38]?.getD undef=str ty:=aR (hd {on:=15,ground:=.data } (by simp) rfl _ 38 rfl rfl);clear hd ho;unfold Oper.wp;simp only[execOp];simp[go_sem,J9];exact hn _ _ (SS.new (λb=>WB.heap.size≤b) wx (show WB.heap.size≤wx.heap.size from hle) [ty] 9 (0,0) (by unfold maxLen;simp) (by intro s hs;simp only[List.mem_cons,List.not_mem_nil,or_false] at hs;rcases hs with hs<;>rw[hs]<;>first|exact ht|exact hty|simp[maxLen])) ((zb _).alloc zr _)
   · intro x wx hS hd ho next hn
     have hle:WB.heap.size≤wx.heap.size:=hS.2.2.2.size;have hc:=(aN hS.2.1).1;have ij:=dX hS.1;have MN:x.tmps[36]?.getD undef=str t:=aR (hd {on:=13,ground:=.data } (by simp) rfl _ 36 rfl rfl);have Ke:SS (λb=>WB.heap.size≤b) wx (x.eval (.tmp 39)) [ty]:=(hd {on:=16,ground:=.data } (by simp) rfl _ 39 rfl rfl);obtain⟨UD,TN,GS,_⟩:=Ke.shape;rw[GS] at Ke;have GS:=aR GS;clear hd ho;unfold Oper.wp;simp only[execOp];simp[go_sem,MN,GS];refine(kD _ _ _ wx Ke (by first|exact ht|exact hty|simp[maxLen])).mono ?_;rintro e w3 ⟨u,rfl,hu,hb⟩;exact hn _ _ hu hb
   · intro x wx hS hd ho next hn
     have hle:WB.heap.size≤wx.heap.size:=hS.2.2.2.size;have hc:=(aN hS.2.1).1;have ij:=dX hS.1;have ML:x.tmps[34]?.getD undef=str ([109,97,107,101,95]++nm):=aR (hd {on:=11,ground:=.data } (by simp) rfl _ 34 rfl rfl);have Rp:aT (λb=>WB.heap.size≤b) wx (x.eval (.tmp 40)) ⟨false,[ty],t,[]⟩:=(hd {on:=17,ground:=.data } (by simp) rfl _ 40 rfl rfl);obtain⟨UK,UQ,Ka,S6,Qr,Qe⟩:=Rp;obtain⟨Th,QW,rfl,_⟩:=Qr.shape;obtain⟨Tp,Q4,rfl,_⟩:=Qe.shape;have Ka:=aR Ka;clear hd ho;unfold Oper.wp;simp only[execOp];simp[go_sem,ML,Ka];exact hn _ _ ⟨_,_,rfl,⟨by first|(simp[maxLen];done)|(simp[maxLen];omega),S6⟩,Qr,Qe⟩ (zb _)
   · intro x wx hS hd ho next hn
     have hle:WB.heap.size≤wx.heap.size:=hS.2.2.2.size;have hc:=(aN hS.2.1).1;have ij:=dX hS.1;have Rm:gx (λb=>WB.heap.size≤b) wx (x.eval (.tmp 31)) ⟨[105,115,95]++nm,⟨false,[t],[98,111,111,108],[]⟩⟩:=(hd {on:=8,ground:=.data } (by simp) rfl _ 31 rfl rfl);obtain⟨x31,y31,Fu,S3,Qo,Qb⟩:=Rm;obtain⟨Te,QT,rfl,_⟩:=Qo.shape;obtain⟨Tm,Q1,rfl,_⟩:=Qb.shape;have Fu:=aR Fu;have Rq:gx (λb=>WB.heap.size≤b) wx (x.eval (.tmp 41)) ⟨[109,97,107,101,95]++nm,⟨false,[ty],t,[]⟩⟩:=(hd {on:=18,ground:=.data } (by simp) rfl _ 41 rfl rfl);obtain⟨UL,US,Kb,S9,Qs,Qf⟩:=Rq;obtain⟨Ti,QX,rfl,_⟩:=Qs.shape;obtain⟨Tq,Q5,rfl,_⟩:=Qf.shape;have Kb:=aR Kb;clear hd ho;unfold Oper.wp;simp only[execOp];simp[go_sem,Fu,Kb];exact hn _ _ (yz (D:=(λb=>WB.heap.size≤b)) wx hle rfl (by unfold maxLen;simp) ⟨_,_,_,rfl,S3,Qo,Qb,_,_,_,rfl,S9,Qs,Qf,rfl⟩) ((zb _).alloc zr _)
   · intro x wx hdf hsz hout hS hA
     have eL:x.tmps.getD 23 undef=.slice pv L.length cv:=hA 0 _ 23 (by decide) rfl rfl;have hR:mj (λb=>WB.heap.size≤b) WB.heap.size wx (x.tmps.getD 42 undef) [⟨[105,115,95]++nm,⟨false,[t],[98,111,111,108],[]⟩⟩,⟨[109,97,107,101,95]++nm,⟨false,[ty],t,[]⟩⟩]:=hA 19 _ 42 (by decide) rfl rfl;obtain⟨pR,cR,eR⟩:=hR.shape;rw[eR] at hR;have ha:=oh hdf hsz hout;rw[ha];simp only[List.take_succ_cons,List.take_zero,dA,eL,eR,pz,pw];clear ha hA hout hdf hsz
     show wpAny _ _ _ _ (1+1) _ _ _
     refine wpAny_ready (rs:=[20]) (by kernel_rfl) (by simp) (AllReady.cons rfl (λK' hK=>?_) AllReady.nil);rw[if_pos (by kernel_rfl)];refine sQ (.tmp 23) (.tmp 42) rfl (v:=.slice pv L.length cv) (y:=.slice pR 2 cR) (by simp[Act.eval]) (by simp[Act.eval]) hS.2.2.1 hR (by simp) (λb hb e=>absurd (JQ.lt e).2 (by omega)) (by simp;omega) (Nat.le_trans DA.size hS.2.2.2.size) (λv' w5 h5 eT=>hK _ _ ?_);simp only[Act.put,List.setIfInBounds_toArray];refine wpAny_ready (fuel:=0) (rs:=[20+1]) (by kernel_rfl) (by simp) (AllReady.cons rfl (λK' hK=>?_) AllReady.nil);rw[if_pos (by kernel_rfl)];unfold Oper.wp;simp only[execOp];simp[go_sem];refine hK _ _ (wpAny_done (by kernel_rfl) ?_ _);go_wp2_with fail;refine⟨⟨i+1,hlt,by go_num,FV.out▸h5,(DA.trans (af hS.2.2.2 DA.size)).trans eT⟩,by simp only[intOf];omega⟩
set_option maxRecDepth 8000 in
theorem yw (v:Value) (m:Nat) (nv:Value) (p:Bool) (t:List UInt8) (w:World) (hT:dW w) (PO:(dJ t).1.length≤100) (hps:∀x∈(dJ t).1,x.1.length≤1000∧x.2.length≤maxLen) (hv:uM v m nv p t) (ht:t.length≤maxLen):
 Calls Tryz.prog 181 #[v] w λe w'=>∃u,e=.returned u∧cQ w.heap.size w' u (([⟨[101,113,117,97,108],⟨false,[t,t],[98,111,111,108],[]⟩⟩]:List aL)++(dJ t).1.flatMap (λp:List UInt8×List UInt8=>([⟨[103,101,116,95]++p.1,⟨false,[t],p.2,[]⟩⟩,⟨[115,101,116,95]++p.1,⟨false,[t,p.2],[],[]⟩⟩]:List aL))++[⟨[109,97,107,101],⟨false,((dJ t).1.map (·.2)),t,[]⟩⟩])∧Below w.heap.size w w':=by
 obtain⟨rfl,q,n,c,rfl⟩:=hv
 have bT:=heap_alloc_new w (.cells #[.map (some m),.slice q n c,.bool p,str t] 145)
 have hA:=(zb w).alloc zr (.cells #[.map (some m),.slice q n c,.bool p,str t] 145)
 have HC:=ru t ht (w.alloc (.cells #[.map (some m),.slice q n c,.bool p,str t] 145)) (hT.below hA zr)
 have bx:=(aN bT).1
 obtain⟨i0,gw,hz0,hz1,hz2⟩:=bY oy
 obtain⟨i1,hj0,hy0,hy1,hy2⟩:=bY iM
 generalize (dJ t).1=ps at *
 go_enter Tryz.func181,Tryz.ntmps181
 go_wp2_with (first
  | (go_at_call 238;refine(j5 _ m _ _ t _ ⟨rfl,_,_,_,rfl⟩ ht).mono ?_;rintro e w2 ⟨u,rfl,⟨x,y,rfl,l1,r1,q1⟩,aC⟩;obtain⟨p1,c1,rfl,_⟩:=r1.shape;obtain⟨p2,c2,rfl,_⟩:=q1.shape)
  | (go_at_call 241;refine HC.mono ?_;clear HC;rintro e w1 ⟨v,rfl,hp1,au⟩;obtain⟨pp,cp,rfl⟩:=hp1.shape;have dI:=ah bT au;have oN:=(aN dI).1))
 have hs2:=aC.size
 have hs1:=au.size
 simp only[World.size_alloc] at hs1
 have hown:=jQ (B:=w1.heap.size) (n:=1) w2 hs2 rfl (by unfold maxLen;simp) (show bl (λb=>w1.heap.size≤b) w2 _ [cm t] from⟨_,_,_,rfl,l1,r1,q1,rfl⟩)
 have hB:=aC.alloc hs2 (.cells #[str (cm t).name,.bool (cm t).sig.iter,.slice p1 (cm t).sig.args.length c1,str (cm t).sig.res,.slice p2 (cm t).sig.sigs.length c2] 50)
 have Ir:Below w.heap.size w w1:=hA.trans (af au (by simp))
 clear l1 r1 q1 aC hs2 oN hA au bT bx
 generalize w2.alloc (.cells #[str (cm t).name,.bool (cm t).sig.iter,.slice p1 (cm t).sig.args.length c1,str (cm t).sig.res,.slice p2 (cm t).sig.sigs.length c2] 50)=W3 at *
 generalize Value.agg #[str (cm t).name,.bool (cm t).sig.iter,.slice p1 (cm t).sig.args.length c1,str (cm t).sig.res,.slice p2 (cm t).sig.sigs.length c2]=vEq
 generalize (some (⟨w2.heap.size,0,none⟩:Addr))=pE at *
 go_loopw [5,6,20] (λv a y wx=>∃i:Nat,i≤ps.length∧y=.int .i64 i∧jF (λb=>a.ownBlock=some b) w1.heap.size wx v ([cm t]++(ps.take i).flatMap (λp:List UInt8×List UInt8=>([⟨[103,101,116,95]++p.1,⟨false,[t],p.2,[]⟩⟩,⟨[115,101,116,95]++p.1,⟨false,[t,p.2],[],[]⟩⟩]:List aL)))∧wx.ownsRow w1.heap.size 9 1 a i (aB ((ps.take i).map (·.2)))∧Below w1.heap.size w1 wx) (λ_ _ y _=>ps.length - (intOf y).toNat)
 case atStart=>exact⟨0,Nat.zero_le _,by go_num,by simpa using hown.x (λb e=>by cases e),by simpa[aB] using World.ownsRow_nil _ _ _ _,hB⟩
 case round =>
  clear hown hB;obtain⟨i,hi,rfl,hown,hall,hB⟩:=hrel;obtain⟨pv,cv,rfl⟩:=hown.shape;obtain⟨pa,ca,rfl⟩:=bu hall
  by_cases hlt:i<ps.length
  case neg=>
   have hie:i=ps.length:=by omega
   subst hie;have Ng:=zh (show [cm t]++(ps.take ps.length).flatMap (λp:List UInt8×List UInt8=>([⟨[103,101,116,95]++p.1,⟨false,[t],p.2,[]⟩⟩,⟨[115,101,116,95]++p.1,⟨false,[t,p.2],[],[]⟩⟩]:List aL))=[cm t]++ps.flatMap (λp:List UInt8×List UInt8=>([⟨[103,101,116,95]++p.1,⟨false,[t],p.2,[]⟩⟩,⟨[115,101,116,95]++p.1,⟨false,[t,p.2],[],[]⟩⟩]:List aL)) by rw[List.take_length]);have hlen:([cm t]++(ps.take ps.length).flatMap (λp:List UInt8×List UInt8=>([⟨[103,101,116,95]++p.1,⟨false,[t],p.2,[]⟩⟩,⟨[115,101,116,95]++p.1,⟨false,[t,p.2],[],[]⟩⟩]:List aL))).length≤300:=by
    simp only[List.length_append,List.length_flatMap,List.length_cons,List.length_nil,List.map_const',List.sum_replicate_nat,List.length_take];omega
   generalize [cm t]++(ps.take ps.length).flatMap (λp:List UInt8×List UInt8=>([⟨[103,101,116,95]++p.1,⟨false,[t],p.2,[]⟩⟩,⟨[115,101,116,95]++p.1,⟨false,[t,p.2],[],[]⟩⟩]:List aL))=LL at *;rw[List.take_length] at hall;have qO:=cG dI hB (bA dI);have iu:=(aN qO).1;obtain⟨cs,hcs,hC⟩:=hown.own;have yT:SS (λb=>(Value.slice pv LL.length cv).ownBlock≠some b) wr (.slice pa ps.length ca) (ps.map (·.2)):=by
    refine SS.bH (base:=w1.heap.size) (e:=9) ?_ ?_ ?_
    · rw[List.length_map];exact hall
    · intro s hs
      obtain⟨x,hx,rfl⟩:=List.mem_map.1 hs;exact(hps x hx).2
    · intro b hb
      exact vG hall hcs (by decide) b hb
   go_wp2_with (first
    | (at_builtin;refine bq _ rfl _ _ 31 rfl w1.heap.size 50 i0 _ 5 88 ja gw hz0 hz1 hz2 rfl (by decide) _ _ cs rfl (BU.alloc _) ⟨w3.heap.size,0,none⟩ 1 1 [str [109,97,107,101],.bool false,.slice px nx MH,str t,.slice py 0 cb] rfl rfl (gF _ _ _) (by intro u hu;simp only[List.mem_cons,List.not_mem_nil,or_false] at hu;rcases hu with rfl|rfl|rfl|rfl|rfl<;>rfl) (by decide) (by unfold maxLen;omega) (by omega) (Nat.le_trans dx.size (by simp)) ?_;intro v' w5 gX hgr sF)
    | (go_at_call 239;refine(kD _ (ps.map (·.2)) _ _ yT ht).mono ?_;rintro e w3 ⟨u3,rfl,⟨a3,q3,rfl,l3,r3,s3⟩,aH⟩;obtain⟨px,MH,hpx,_⟩:=r3.shape;obtain⟨py,cb,JR,_⟩:=s3.shape;simp only[List.length_nil] at hpx JR;generalize hnx:(ps.map (·.2)).length=nx at hpx;subst hpx JR;have BU:=ay hcs aH zr;have Kh:=hC.below aH zr;have dx:=hB.trans (af aH hB.size)))
   go_ret;have C3:=(zb w3).alloc zr (.cells #[str [109,97,107,101],.bool false,.slice px nx MH,str t,.slice py 0 cb] 50);have h5:=cQ.append (k:=[⟨[109,97,107,101],⟨false,ps.map (·.2),t,[]⟩⟩]) (Kh.below C3 zr) (bl.below C3 zr ⟨_,_,[],rfl,⟨by simp[maxLen],l3⟩,r3,s3,rfl⟩) gX hgr sF;have kH:=Below.grown (B:=w1.heap.size) (dx.alloc dx.size (.cells #[str [109,97,107,101],.bool false,.slice px nx MH,str t,.slice py 0 cb] 50)) hgr (Nat.le_trans dx.size (by simp)) (λk e=>(BU.lt k e).1);rw[Ng.out] at h5;exact⟨_,rfl,by simpa[cm] using h5.mono Ir.size,Ir.trans (af kH Ir.size)⟩
  case pos=>
   have KZ:=hp1.below hB;obtain⟨b1,o1,cz,⟨nm,ty⟩,mq,hx,pG,od⟩:=KZ.at hlt;injection mq with mq;subst mq;obtain⟨hnm,hty⟩:=hps _ (List.mem_of_getElem? hx);simp only at hnm hty pG od;have FV:=zh (show([cm t]++(ps.take i).flatMap (λp:List UInt8×List UInt8=>([⟨[103,101,116,95]++p.1,⟨false,[t],p.2,[]⟩⟩,⟨[115,101,116,95]++p.1,⟨false,[t,p.2],[],[]⟩⟩]:List aL)))++((λp:List UInt8×List UInt8=>([⟨[103,101,116,95]++p.1,⟨false,[t],p.2,[]⟩⟩,⟨[115,101,116,95]++p.1,⟨false,[t,p.2],[],[]⟩⟩]:List aL)) (nm,ty))=[cm t]++(ps.take (i+1)).flatMap (λp:List UInt8×List UInt8=>([⟨[103,101,116,95]++p.1,⟨false,[t],p.2,[]⟩⟩,⟨[115,101,116,95]++p.1,⟨false,[t,p.2],[],[]⟩⟩]:List aL)) by rw[List.append_assoc,List.take_add_one,hx];simp);have RO:=zh (show aB ((ps.take i).map (·.2))++[str ty]=aB ((ps.take (i+1)).map (·.2)) by rw[List.take_add_one,hx];simp[aB]);have hlen:([cm t]++(ps.take i).flatMap (λp:List UInt8×List UInt8=>([⟨[103,101,116,95]++p.1,⟨false,[t],p.2,[]⟩⟩,⟨[115,101,116,95]++p.1,⟨false,[t,p.2],[],[]⟩⟩]:List aL))).length≤300:=by
    simp only[List.length_append,List.length_flatMap,List.length_cons,List.length_nil,List.map_const',List.sum_replicate_nat,List.length_take];omega
   generalize ([cm t]++(ps.take i).flatMap (λp:List UInt8×List UInt8=>([⟨[103,101,116,95]++p.1,⟨false,[t],p.2,[]⟩⟩,⟨[115,101,116,95]++p.1,⟨false,[t,p.2],[],[]⟩⟩]:List aL)))=L at *;generalize aB ((ps.take i).map (·.2))=LA at *;have qO:=cG dI hB (bA dI);have gi:(i:Int)<(ps.length:Int):=by omega
   have DE:=heap_alloc_new wr (.cells #[.string ⟨nm.toArray⟩,.string ⟨ty.toArray⟩] 155);have tE:=aD (.cells #[.string ⟨ty.toArray⟩] 9) DE;have cP:=dX DE;have qd:=((zb wr).alloc zr (.cells #[.string ⟨nm.toArray⟩,.string ⟨ty.toArray⟩] 155)).alloc (by simp) (.cells #[.string ⟨ty.toArray⟩] 9);have JQ:=hown.below qd zr;have Ky:=ay hall qd zr;have DA:=hB.trans (af qd hB.size);have O7:=oQ (w:=wr.alloc (.cells #[.string ⟨nm.toArray⟩,.string ⟨ty.toArray⟩] 155)) (n:=wr.heap.size+1) (by simp) (str ty) 9;have RM:∀b,(Value.slice pa i ca).ownBlock=some b→b<wr.heap.size:=λb e=>aK hall e
   have hne:=vG JQ.choose_spec.1 Ky (by decide);clear hown hall hB KZ;go_upto_region 8 with(at_builtin;refine bq _ rfl _ _ 34 rfl w1.heap.size 9 i1 _ 1 16 eV hj0 hy0 hy1 hy2 rfl (by decide) _ _ _ rfl Ky ⟨wr.heap.size+1,0,none⟩ 1 1 [str ty] rfl rfl O7 (by intro u hu;rw[List.mem_singleton.1 hu];rfl) (by decide) (by unfold maxLen;omega) (by omega) DA.size ?_;intro a' WB DJ hgr sF);obtain⟨C9,LU,rfl⟩:=bu DJ;have yU:=eO hgr (cG qO qd (bA qO)) (λe=>by have:=(Ky.lt _ e).1;have:=bA dI;omega);have RI:=eO hgr tE (λe=>by have:=RM _ e;omega);have KW:=JQ.grow (a':=.slice C9 (i+1) LU) hgr hne sF;have Ik:=Below.grown (B:=w1.heap.size) DA hgr DA.size (λk e=>(Ky.lt k e).1);clear qO DE tE cP JQ Ky DA O7 hne pG od;generalize wr.heap.size=PB at *;refine kK (S:=λw'=>w'.heap[PB]? =some (.cells #[str nm,str ty] 155 (0,0))∧w'.heap[w.heap.size]? =some (.cells #[.map (some m),.slice q n c,.bool p,str t] 145 (0,0))∧jF (λb=>(Value.slice C9 (i+1) LU).ownBlock=some b) w1.heap.size w' (.slice pv L.length cv) L∧w'.ownsRow w1.heap.size 9 1 (.slice C9 (i+1) LU) (i+1) (LA++[str ty])∧Below WB.heap.size WB w') (A:=λj v w'=>match j with
    | 0=>v=.slice pv L.length cv
    | 1=>v=.pointer (some ⟨PB,0,none⟩)
    | 2=>v=str nm
    | 3=>v=str ([103,101,116,95]++nm)
    | 4=>v=.pointer (some ⟨PB,1,none⟩)
    | 5=>v=str ty
    | 6=>v=.pointer (some ⟨w.heap.size,3,none⟩)
    | 7=>v=str t
    | 8=>SS (λb=>WB.heap.size≤b) w' v [t]
    | 9=>aT (λb=>WB.heap.size≤b) w' v ⟨false,[t],ty,[]⟩
    | 10=>gx (λb=>WB.heap.size≤b) w' v ⟨[103,101,116,95]++nm,⟨false,[t],ty,[]⟩⟩
    | 11=>v=.pointer (some ⟨PB,0,none⟩)
    | 12=>v=str nm
    | 13=>v=str ([115,101,116,95]++nm)
    | 14=>v=.pointer (some ⟨w.heap.size,3,none⟩)
    | 15=>v=str t
    | 16=>v=.pointer (some ⟨PB,1,none⟩)
    | 17=>v=str ty
    | 18=>SS (λb=>WB.heap.size≤b) w' v [t,ty]
    | 19=>aT (λb=>WB.heap.size≤b) w' v ⟨false,[t,ty],[],[]⟩
    | 20=>gx (λb=>WB.heap.size≤b) w' v ⟨[115,101,116,95]++nm,⟨false,[t,ty],[],[]⟩⟩
    | 21=>mj (λb=>WB.heap.size≤b) WB.heap.size w' v [⟨[103,101,116,95]++nm,⟨false,[t],ty,[]⟩⟩,⟨[115,101,116,95]++nm,⟨false,[t,ty],[],[]⟩⟩]
    | _=>True) 22 (by kernel_rfl) (by decide) (by kernel_rfl) (by kernel_rfl) (by kernel_rfl) ?_ (λw1 w2 h hb=>⟨ah h.1 hb,ah h.2.1 hb,h.2.2.1.below hb zr,ay h.2.2.2.1 hb zr,h.2.2.2.2.trans (af hb h.2.2.2.2.size)⟩) ⟨RI,yU,KW.below (zb WB).drew zr,ay DJ (zb WB).drew zr,(zb _).drew⟩ (pN ⟨?_,?_,?_,?_,?_,?_,?_,?_,?_,?_,?_,?_,?_,?_,?_,?_,?_,?_,?_,?_,?_,?_,trivial⟩) ?_
   · intro j v w1 w2 h hb
     match j with
     | 0=>exact h
     | 1=>exact h
     | 2=>exact h
     | 3=>exact h
     | 4=>exact h
     | 5=>exact h
     | 6=>exact h
     | 7=>exact h
     | 8=>exact SS.below (show SS (λb=>WB.heap.size≤b) w1 v [t] from h) hb zr
     | 9=>exact aT.below (show aT (λb=>WB.heap.size≤b) w1 v ⟨false,[t],ty,[]⟩ from h) hb zr
     | 10=>exact gx.below (show gx (λb=>WB.heap.size≤b) w1 v ⟨[103,101,116,95]++nm,⟨false,[t],ty,[]⟩⟩ from h) hb zr
     | 11=>exact h
     | 12=>exact h
     | 13=>exact h
     | 14=>exact h
     | 15=>exact h
     | 16=>exact h
     | 17=>exact h
     | 18=>exact SS.below (show SS (λb=>WB.heap.size≤b) w1 v [t,ty] from h) hb zr
     | 19=>exact aT.below (show aT (λb=>WB.heap.size≤b) w1 v ⟨false,[t,ty],[],[]⟩ from h) hb zr
     | 20=>exact gx.below (show gx (λb=>WB.heap.size≤b) w1 v ⟨[115,101,116,95]++nm,⟨false,[t,ty],[],[]⟩⟩ from h) hb zr
     | 21=>exact mj.below (show mj (λb=>WB.heap.size≤b) WB.heap.size w1 v [⟨[103,101,116,95]++nm,⟨false,[t],ty,[]⟩⟩,⟨[115,101,116,95]++nm,⟨false,[t,ty],[],[]⟩⟩] from h) hb zr
     | _+22=>trivial
   · intro x wx hS hd ho next hn
     have hle:WB.heap.size≤wx.heap.size:=hS.2.2.2.2.size;have hc:=(aN hS.2.1).1;have ij:=dX hS.1;have e5:x.tmps[5]?.getD undef=.slice pv L.length cv:=aR (ho 5 (fG (by kernel_rfl)));clear hd ho;unfold Oper.wp;simp only[execOp];simp[go_sem,e5];exact hn _ _ rfl (zb _)
   · intro x wx hS hd ho next hn
     have hle:WB.heap.size≤wx.heap.size:=hS.2.2.2.2.size;have hc:=(aN hS.2.1).1;have ij:=dX hS.1;have e8:x.tmps[8]?.getD undef=.pointer (some ⟨PB,0,none⟩):=aR (ho 8 (fG (by kernel_rfl)));clear hd ho;unfold Oper.wp;simp only[execOp];simp[go_sem,e8];exact hn _ _ rfl (zb _)
   · intro x wx hS hd ho next hn
     have hle:WB.heap.size≤wx.heap.size:=hS.2.2.2.2.size;have hc:=(aN hS.2.1).1;have ij:=dX hS.1;have Fs:x.tmps[30]?.getD undef=.pointer (some ⟨PB,0,none⟩):=aR (hd {on:=1,ground:=.data } (by simp) rfl _ 30 rfl rfl);clear hd ho;unfold Oper.wp;simp only[execOp];simp[go_sem,Fs,ij];exact hn _ _ rfl (zb _)
   · intro x wx hS hd ho next hn
     have hle:WB.heap.size≤wx.heap.size:=hS.2.2.2.2.size;have hc:=(aN hS.2.1).1;have ij:=dX hS.1;have Fu:x.tmps[31]?.getD undef=str nm:=aR (hd {on:=2,ground:=.data } (by simp) rfl _ 31 rfl rfl);clear hd ho;unfold Oper.wp;simp only[execOp];simp[go_sem,Fu];rw[if_neg (by omega)];exact hn _ _ rfl (zb _)
   · intro x wx hS hd ho next hn
     have hle:WB.heap.size≤wx.heap.size:=hS.2.2.2.2.size;have hc:=(aN hS.2.1).1;have ij:=dX hS.1;have e8:x.tmps[8]?.getD undef=.pointer (some ⟨PB,0,none⟩):=aR (ho 8 (fG (by kernel_rfl)));clear hd ho;unfold Oper.wp;simp only[execOp];simp[go_sem,e8];exact hn _ _ rfl (zb _)
   · intro x wx hS hd ho next hn
     have hle:WB.heap.size≤wx.heap.size:=hS.2.2.2.2.size;have hc:=(aN hS.2.1).1;have ij:=dX hS.1;have GR:x.tmps[33]?.getD undef=.pointer (some ⟨PB,1,none⟩):=aR (hd {on:=4,ground:=.data } (by simp) rfl _ 33 rfl rfl);clear hd ho;unfold Oper.wp;simp only[execOp];simp[go_sem,GR,ij];exact hn _ _ rfl (zb _)
   · intro x wx hS hd ho next hn
     have hle:WB.heap.size≤wx.heap.size:=hS.2.2.2.2.size;have hc:=(aN hS.2.1).1;have ij:=dX hS.1;have e1:x.tmps[1]?.getD undef=.pointer (some ⟨w.heap.size,0,none⟩):=aR (ho 1 (fG (by kernel_rfl)));clear hd ho;unfold Oper.wp;simp only[execOp];simp[go_sem,e1];exact hn _ _ rfl (zb _)
   · intro x wx hS hd ho next hn
     have hle:WB.heap.size≤wx.heap.size:=hS.2.2.2.2.size;have hc:=(aN hS.2.1).1;have ij:=dX hS.1;have MM:x.tmps[35]?.getD undef=.pointer (some ⟨w.heap.size,3,none⟩):=aR (hd {on:=6,ground:=.data } (by simp) rfl _ 35 rfl rfl);clear hd ho;unfold Oper.wp;simp only[execOp];simp[go_sem,MM,hc];exact hn _ _ rfl (zb _)
   · intro x wx hS hd ho next hn
     have hle:WB.heap.size≤wx.heap.size:=hS.2.2.2.2.size;have hc:=(aN hS.2.1).1;have ij:=dX hS.1;have MN:x.tmps[36]?.getD undef=str t:=aR (hd {on:=7,ground:=.data } (by simp) rfl _ 36 rfl rfl);clear hd ho;unfold Oper.wp;simp only[execOp];simp[go_sem,MN];exact hn _ _ (SS.new (λb=>WB.heap.size≤b) wx (show WB.heap.size≤wx.heap.size from hle) [t] 9 (0,0) (by unfold maxLen;simp) (by intro s hs;simp only[List.mem_cons,List.not_mem_nil,or_false] at hs;rcases hs with hs<;>rw[hs]<;>first|exact ht|exact hty|simp[maxLen])) ((zb _).alloc zr _)
   · intro x wx hS hd ho next hn
     have hle:WB.heap.size≤wx.heap.size:=hS.2.2.2.2.size;have hc:=(aN hS.2.1).1;have ij:=dX hS.1;have ML:x.tmps[34]?.getD undef=str ty:=aR (hd {on:=5,ground:=.data } (by simp) rfl _ 34 rfl rfl);have MV:SS (λb=>WB.heap.size≤b) wx (x.eval (.tmp 37)) [t]:=(hd {on:=8,ground:=.data } (by simp) rfl _ 37 rfl rfl);obtain⟨UC,TM,JE,_⟩:=MV.shape;rw[JE] at MV;have JE:=aR JE;clear hd ho;unfold Oper.wp;simp only[execOp];simp[go_sem,ML,JE];refine(kD _ _ _ wx MV (by first|exact ht|exact hty|simp[maxLen])).mono ?_;rintro e w3 ⟨u,rfl,hu,hb⟩;exact hn _ _ hu hb
   · intro x wx hS hd ho next hn
     have hle:WB.heap.size≤wx.heap.size:=hS.2.2.2.2.size;have hc:=(aN hS.2.1).1;have ij:=dX hS.1;have GQ:x.tmps[32]?.getD undef=str ([103,101,116,95]++nm):=aR (hd {on:=3,ground:=.data } (by simp) rfl _ 32 rfl rfl);have Rn:aT (λb=>WB.heap.size≤b) wx (x.eval (.tmp 38)) ⟨false,[t],ty,[]⟩:=(hd {on:=9,ground:=.data } (by simp) rfl _ 38 rfl rfl);obtain⟨x38,y38,J9,S4,Qp,Qc⟩:=Rn;obtain⟨Tf,QU,rfl,_⟩:=Qp.shape;obtain⟨Tn,Q2,rfl,_⟩:=Qc.shape;have J9:=aR J9;clear hd ho;unfold Oper.wp;simp only[execOp];simp[go_sem,GQ,J9];exact hn _ _ ⟨_,_,rfl,⟨by first|(simp[maxLen];done)|(simp[maxLen];omega),S4⟩,Qp,Qc⟩ (zb _)
   · intro x wx hS hd ho next hn
     have hle:WB.heap.size≤wx.heap.size:=hS.2.2.2.2.size;have hc:=(aN hS.2.1).1;have ij:=dX hS.1;have e8:x.tmps[8]?.getD undef=.pointer (some ⟨PB,0,none⟩):=aR (ho 8 (fG (by kernel_rfl)));clear hd ho;unfold Oper.wp;simp only[execOp];simp[go_sem,e8];exact hn _ _ rfl (zb _)
   · intro x wx hS hd ho next hn
     have hle:WB.heap.size≤wx.heap.size:=hS.2.2.2.2.size;have hc:=(aN hS.2.1).1;have ij:=dX hS.1;have Ka:x.tmps[40]?.getD undef=.pointer (some ⟨PB,0,none⟩):=aR (hd {on:=11,ground:=.data } (by simp) rfl _ 40 rfl rfl);clear hd ho;unfold Oper.wp;simp only[execOp];simp[go_sem,Ka,ij];exact hn _ _ rfl (zb _)
   · intro x wx hS hd ho next hn
     have hle:WB.heap.size≤wx.heap.size:=hS.2.2.2.2.size;have hc:=(aN hS.2.1).1;have ij:=dX hS.1;have Kb:x.tmps[41]?.getD undef=str nm:=aR (hd {on:=12,ground:=.data } (by simp) rfl _ 41 rfl rfl);clear hd ho;unfold Oper.wp;simp only[execOp];simp[go_sem,Kb];rw[if_neg (by omega)];exact hn _ _ rfl (zb _)
   · intro x wx hS hd ho next hn
     have hle:WB.heap.size≤wx.heap.size:=hS.2.2.2.2.size;have hc:=(aN hS.2.1).1;have ij:=dX hS.1;have e1:x.tmps[1]?.getD undef=.pointer (some ⟨w.heap.size,0,none⟩):=aR (ho 1 (fG (by kernel_rfl)));clear hd ho;unfold Oper.wp;simp only[execOp];simp[go_sem,e1];exact hn _ _ rfl (zb _)
   · intro x wx hS hd ho next hn
     have hle:WB.heap.size≤wx.heap.size:=hS.2.2.2.2.size;have hc:=(aN hS.2.1).1;have ij:=dX hS.1;have Rc:x.tmps[43]?.getD undef=.pointer (some ⟨w.heap.size,3,none⟩):=aR (hd {on:=14,ground:=.data } (by simp) rfl _ 43 rfl rfl);clear hd ho;unfold Oper.wp;simp only[execOp];simp[go_sem,Rc,hc];exact hn _ _ rfl (zb _)
   · intro x wx hS hd ho next hn
     have hle:WB.heap.size≤wx.heap.size:=hS.2.2.2.2.size;have hc:=(aN hS.2.1).1;have ij:=dX hS.1;have e8:x.tmps[8]?.getD undef=.pointer (some ⟨PB,0,none⟩):=aR (ho 8 (fG (by kernel_rfl)));clear hd ho;unfold Oper.wp;simp only[execOp];simp[go_sem,e8];exact hn _ _ rfl (zb _)
   · intro x wx hS hd ho next hn
     have hle:WB.heap.size≤wx.heap.size:=hS.2.2.2.2.size;have hc:=(aN hS.2.1).1;have ij:=dX hS.1;have Rf:x.tmps[45]?.getD undef=.pointer (some ⟨PB,1,none⟩):=aR (hd {on:=16,ground:=.data } (by simp) rfl _ 45 rfl rfl);clear hd ho;unfold Oper.wp;simp only[execOp];simp[go_sem,Rf,ij];exact hn _ _ rfl (zb _)
   · intro x wx hS hd ho next hn
     have hle:WB.heap.size≤wx.heap.size:=hS.2.2.2.2.size;have hc:=(aN hS.2.1).1;have ij:=dX hS.1;have Re:x.tmps[44]?.getD undef=str t:=aR (hd {on:=15,ground:=.data } (by simp) rfl _ 44 rfl rfl);have Rh:x.tmps[46]?.getD undef=str ty:=aR (hd {on:=17,ground:=.data } (by simp) rfl _ 46 rfl rfl);clear hd ho;unfold Oper.wp;simp only[execOp];simp[go_sem,Re,Rh];exact hn _ _ (SS.new (λb=>WB.heap.size≤b) wx (show WB.heap.size≤wx.heap.size from hle) [t,ty] 9 (0,0) (by unfold maxLen;simp) (by intro s hs;simp only[List.mem_cons,List.not_mem_nil,or_false] at hs;rcases hs with hs|hs<;>rw[hs]<;>first|exact ht|exact hty|simp[maxLen])) ((zb _).alloc zr _)
   · intro x wx hS hd ho next hn
     have hle:WB.heap.size≤wx.heap.size:=hS.2.2.2.2.size;have hc:=(aN hS.2.1).1;have ij:=dX hS.1;have MW:SS (λb=>WB.heap.size≤b) wx (x.eval (.tmp 47)) [t,ty]:=(hd {on:=18,ground:=.data } (by simp) rfl _ 47 rfl rfl);obtain⟨UE,TO,LY,_⟩:=MW.shape;rw[LY] at MW;have LY:=aR LY;clear hd ho;unfold Oper.wp;simp only[execOp];simp[go_sem,LY];refine(kD _ _ _ wx MW (by first|exact ht|exact hty|simp[maxLen])).mono ?_;rintro e w3 ⟨u,rfl,hu,hb⟩;exact hn _ _ hu hb
   · intro x wx hS hd ho next hn
     have hle:WB.heap.size≤wx.heap.size:=hS.2.2.2.2.size;have hc:=(aN hS.2.1).1;have ij:=dX hS.1;have Rb:x.tmps[42]?.getD undef=str ([115,101,116,95]++nm):=aR (hd {on:=13,ground:=.data } (by simp) rfl _ 42 rfl rfl);have h48:aT (λb=>WB.heap.size≤b) wx (x.eval (.tmp 48)) ⟨false,[t,ty],[],[]⟩:=(hd {on:=19,ground:=.data } (by simp) rfl _ 48 rfl rfl);obtain⟨UM,UT,MO,Ta,Qt,Qg⟩:=h48;obtain⟨Tj,QY,rfl,_⟩:=Qt.shape;obtain⟨Ts,Q6,rfl,_⟩:=Qg.shape;have MO:=aR MO;clear hd ho;unfold Oper.wp;simp only[execOp];simp[go_sem,Rb,MO];exact hn _ _ ⟨_,_,rfl,⟨by first|(simp[maxLen];done)|(simp[maxLen];omega),Ta⟩,Qt,Qg⟩ (zb _)
   · intro x wx hS hd ho next hn
     have hle:WB.heap.size≤wx.heap.size:=hS.2.2.2.2.size;have hc:=(aN hS.2.1).1;have ij:=dX hS.1;have Ke:gx (λb=>WB.heap.size≤b) wx (x.eval (.tmp 39)) ⟨[103,101,116,95]++nm,⟨false,[t],ty,[]⟩⟩:=(hd {on:=10,ground:=.data } (by simp) rfl _ 39 rfl rfl);obtain⟨UJ,UP,GS,S5,Qq,Qd⟩:=Ke;obtain⟨Tg,QV,rfl,_⟩:=Qq.shape;obtain⟨To,Q3,rfl,_⟩:=Qd.shape;have GS:=aR GS;have Rr:gx (λb=>WB.heap.size≤b) wx (x.eval (.tmp 49)) ⟨[115,101,116,95]++nm,⟨false,[t,ty],[],[]⟩⟩:=(hd {on:=20,ground:=.data } (by simp) rfl _ 49 rfl rfl);obtain⟨UN,UU,MP,Tc,Qu,Qh⟩:=Rr;obtain⟨Tk,QZ,rfl,_⟩:=Qu.shape;obtain⟨Tt,Q7,rfl,_⟩:=Qh.shape;have MP:=aR MP;clear hd ho;unfold Oper.wp;simp only[execOp];simp[go_sem,GS,MP];exact hn _ _ (yz (D:=(λb=>WB.heap.size≤b)) wx hle rfl (by unfold maxLen;simp) ⟨_,_,_,rfl,S5,Qq,Qd,_,_,_,rfl,Tc,Qu,Qh,rfl⟩) ((zb _).alloc zr _)
   · intro x wx hdf hsz hout hS hA
     have eL:x.tmps.getD 29 undef=.slice pv L.length cv:=hA 0 _ 29 (by decide) rfl rfl;have hR:mj (λb=>WB.heap.size≤b) WB.heap.size wx (x.tmps.getD 50 undef) [⟨[103,101,116,95]++nm,⟨false,[t],ty,[]⟩⟩,⟨[115,101,116,95]++nm,⟨false,[t,ty],[],[]⟩⟩]:=hA 21 _ 50 (by decide) rfl rfl;obtain⟨pR,cR,eR⟩:=hR.shape;rw[eR] at hR;have ha:=oh hdf hsz hout;rw[ha];simp only[List.take_succ_cons,List.take_zero,dA,eL,eR,pz,pw];clear ha hA hout hdf hsz
     show wpAny _ _ _ _ (1+1) _ _ _
     refine wpAny_ready (rs:=[22]) (by kernel_rfl) (by simp) (AllReady.cons rfl (λK' hK=>?_) AllReady.nil);rw[if_pos (by kernel_rfl)];refine sj (.tmp 29) (.tmp 50) rfl (v:=.slice pv L.length cv) (y:=.slice pR 2 cR) (by simp[Act.eval]) (by simp[Act.eval]) hS.2.2.1 hR (by simp) (λb hb=>⟨λe=>absurd (KW.own.lt e).2 (by omega),λe=>absurd (aK DJ e) (by omega)⟩) (by simp;omega) (Nat.le_trans Ik.size hS.2.2.2.2.size) (λv' w6 h6 jJ pT=>hK _ _ ?_);simp only[Act.put,List.setIfInBounds_toArray];refine wpAny_ready (fuel:=0) (rs:=[22+1]) (by kernel_rfl) (by simp) (AllReady.cons rfl (λK' hK=>?_) AllReady.nil);rw[if_pos (by kernel_rfl)];unfold Oper.wp;simp only[execOp];simp[go_sem];refine hK _ _ (wpAny_done (by kernel_rfl) ?_ _);have N0:=vG hS.2.2.2.1 hS.2.2.1.choose_spec.1 (by decide);go_wp2_with fail;have h7:=cB (w':=w6) hS.2.2.2.1 (λb e=>pT.block b (aK hS.2.2.2.1 e) (λe2=>N0 b e e2.symm));rw[RO.out] at h7;rw[FV.out] at h6;refine⟨⟨v',.slice C9 (i+1) LU,.pointer (some ⟨PB,0,none⟩),.int .i64 (i+1),⟨(i+1),by omega,by go_num,?_,?_,(Ik.trans (af hS.2.2.2.2 Ik.size)).trans jJ⟩,rfl,rfl,rfl,rfl⟩,by simp only[intOf];omega⟩
     · simpa using h6
     · simpa using h7
set_option maxRecDepth 8000 in
theorem Cn {D:Nat→Prop} (v:Value) (m:Nat) (nv:Value) (p:Bool) (t:List UInt8) (fs:List aA) (w:World) (hv:uM v m nv p t) (ht:t.length≤maxLen) (hT:dW w) (DM:(eH t).1.length≤maxLen) (hs:dV D w m fs) (ha:mB fs):
 Calls Tryz.prog 183 #[v] w λe w'=>∃u,e=.returned u∧aY D w' u (((ew fs (eH t).1).map (·.ops)).getD [])∧Below w.heap.size w w':=by
 obtain⟨rfl,q,n,c,rfl⟩:=hv
 have bT:=heap_alloc_new w (.cells #[.map (some m),.slice q n c,.bool p,str t] 145)
 have hA:=(zb w).alloc zr (.cells #[.map (some m),.slice q n c,.bool p,str t] 145)
 have HC:=tU t ht (w.alloc (.cells #[.map (some m),.slice q n c,.bool p,str t] 145)) (hT.below hA zr)
 have bx:=(aN bT).1
 have K7:=hs.below hA zr
 have HF:=λW hS=>qG (D:=D) fs m (eH t).1 W hS ha DM
 clear hs hT
 rcases hq:ew fs (eH t).1 with _|f
 · simp only[hq,Option.isSome_none,Option.map_none,Option.getD_none] at HF ⊢
   clear hq;generalize (eH t).1=nm at *;go_enter Tryz.func183,Tryz.ntmps183;go_wp2_with (first
    | (go_at_call 75;refine(HF _ (K7.below au zr)).mono ?_;rintro e w2 ⟨v,rfl,h1,h2,aC⟩;obtain rfl:=h1 trivial)
    | (go_at_call 120;refine HC.mono ?_;clear HC;rintro e w1 ⟨rfl,au⟩;have dI:=ah bT au;have oN:=(aN dI).1))
   go_ret;exact⟨_,rfl,aY.nil _ _ _ _,((hA.trans (af au (by simp))).trans (af aC (by have:=au.size;simp at this;omega))).alloc (by have:=au.size;have:=aC.size;simp at *;omega) _⟩
 · simp only[hq,Option.isSome_some,Option.map_some,Option.getD_some] at HF ⊢
   clear hq;generalize (eH t).1=nm at *;go_enter Tryz.func183,Tryz.ntmps183;go_wp2_with (first
    | (go_at_call 75;refine(HF _ (K7.below au zr)).mono ?_;rintro e w2 ⟨v,rfl,h1,h2,aC⟩;obtain⟨P9,ov,rfl,hnl,hN,hO⟩:=h2 f rfl;clear h2;obtain⟨p1,c1,rfl,_⟩:=hN.shape;obtain⟨p2,c2,rfl,_⟩:=hO.shape)
    | (go_at_call 120;refine HC.mono ?_;clear HC;rintro e w1 ⟨rfl,au⟩;have dI:=ah bT au;have oN:=(aN dI).1))
   go_ret;exact⟨_,rfl,hO.below ((zb w2).alloc zr _) zr,((hA.trans (af au (by simp))).trans (af aC (by have:=au.size;simp at this;omega))).alloc (by have:=au.size;have:=aC.size;simp at *;omega) _⟩
set_option maxRecDepth 8000 in
theorem Ai {D:Nat→Prop} (v:Value) (m:Nat) (nv:Value) (p:Bool) (t:List UInt8) (l:List aL) (w:World) (hv:uM v m nv p t) (hn:aY D w nv l) (hl:l.length≤100000):
 Calls Tryz.prog 184 #[v] w λe w'=>∃u,e=.returned u∧cQ w.heap.size w' u l∧Below w.heap.size w w':=by
 obtain⟨rfl,_⟩:=hv
 have hnf:=hn.fresh
 obtain⟨q,c,rfl,_,hm,hle⟩:=hn.shape
 unfold maxLen at hm
 obtain⟨i0,gw,hz0,hz1,hz2⟩:=bY oy
 have bT:=heap_alloc_new w (.cells #[.map (some m),.slice q l.length c,.bool p,str t] 145)
 have hA:=(zb w).alloc zr (.cells #[.map (some m),.slice q l.length c,.bool p,str t] 145)
 have bx:=(aN bT).1
 have PL:=hnf.below hA zr
 clear hn hnf
 go_enter Tryz.func184,Tryz.ntmps184
 go_wp2_with fail
 clear bx
 go_loopw [3,10] (λa y wx=>∃i:Nat,i≤l.length∧y=.int .i64 i∧cQ w.heap.size wx a (l.take i)∧Below w.heap.size w wx∧aY (λb=>D b∧b<w.heap.size) wx (.slice q l.length c) l) (λ_ y _=>l.length - (intOf y).toNat)
 case atStart=>exact⟨0,Nat.zero_le _,by go_num,cQ.nil _ _,hA,PL⟩
 case round=>
  clear PL hA bT;obtain⟨i,hi,rfl,hown,hB,hN⟩:=hrel;obtain⟨pv,cv,rfl⟩:=hown.shape
  by_cases hlt:i<l.length
  case neg=>
   have hie:i=l.length:=by omega
   subst hie;rw[List.take_length] at hown;go_wp2_with fail;go_ret;exact⟨_,rfl,by first|exact hown|simpa using hown,hB⟩
  case pos=>
   obtain⟨x,hx⟩:∃x,l[i]? =some x:=⟨_,List.getElem?_eq_getElem hlt⟩
   obtain⟨b1,o1,av,sv,mq,Il,⟨F8,mI⟩,fe,eE,uq,pG,od,pZ,rK⟩:=hN.at hx;subst mq;obtain⟨pa,ca,rfl,_⟩:=fe.shape;obtain⟨ps,cs,rfl,_⟩:=eE.shape;have FV:=zh (show l.take i++[x]=l.take (i+1) by rw[List.take_add_one,hx];simp);have hlen:(l.take i).length=i:=by rw[List.length_take];omega
   generalize l.take i=L at *;clear hx;obtain⟨cc,hcs,hC⟩:=hown;have ig:=(zb wr).alloc zr (.cells #[str x.name,.bool x.sig.iter,.slice pa x.sig.args.length ca,str x.sig.res,.slice ps x.sig.sigs.length cs] 79);have bL:=hB.alloc hB.size (.cells #[str x.name,.bool x.sig.iter,.slice pa x.sig.args.length ca,str x.sig.res,.slice ps x.sig.sigs.length cs] 79);have hN1:=hN.below ig zr;have mU:=ay hcs ig zr;have BP:=hC.below ig zr;have sx:=fe.below ig zr;have sy:=eE.below ig zr;have hp1:=bz (heap_alloc_new wr (.cells #[str x.name,.bool x.sig.iter,.slice pa x.sig.args.length ca,str x.sig.res,.slice ps x.sig.sigs.length cs] 79));have hp1:=hp1.1;have FP:=hlen;clear hN hC ig hB fe eE;go_wp2_with (at_builtin;refine bq _ rfl _ _ 31 rfl w.heap.size 50 i0 _ 5 88 ja gw hz0 hz1 hz2 rfl (by decide) _ _ cc rfl (mU.alloc _) ⟨wr.heap.size+1,0,none⟩ 1 1 [str x.name,.bool x.sig.iter,.slice pa x.sig.args.length ca,str x.sig.res,.slice ps x.sig.sigs.length cs] rfl rfl (by have:=gF (wr.alloc (.cells #[str x.name,.bool x.sig.iter,.slice pa x.sig.args.length ca,str x.sig.res,.slice ps x.sig.sigs.length cs] 79)) [str x.name,.bool x.sig.iter,.slice pa x.sig.args.length ca,str x.sig.res,.slice ps x.sig.sigs.length cs] 50;simpa using this) (by intro u hu;simp only[List.mem_cons,List.not_mem_nil,or_false] at hu;rcases hu with rfl|rfl|rfl|rfl|rfl<;>rfl) (by decide) (by unfold maxLen;omega) (by omega) (Nat.le_trans bL.size (by simp)) ?_;intro v' w5 gX hgr sF);have C3:=(zb (wr.alloc (.cells #[str x.name,.bool x.sig.iter,.slice pa x.sig.args.length ca,str x.sig.res,.slice ps x.sig.sigs.length cs] 79))).alloc zr (.cells #[str x.name,.bool x.sig.iter,.slice pa x.sig.args.length ca,str x.sig.res,.slice ps x.sig.sigs.length cs] 50);have hne:∀b,D b∧b<w.heap.size→(Value.slice pv L.length cv).ownBlock≠some b:=λb hb e=>by have:=(mU.lt _ e).1;omega
   have h5:=cQ.append (k:=[x]) (BP.below C3 zr) (bl.below C3 zr ⟨_,_,[],rfl,⟨F8,mI⟩,sx.mono hne,sy.mono hne,rfl⟩) gX hgr sF;have kH:=Below.grown (B:=w.heap.size) (bL.alloc bL.size (.cells #[str x.name,.bool x.sig.iter,.slice pa x.sig.args.length ca,str x.sig.res,.slice ps x.sig.sigs.length cs] 50)) hgr (Nat.le_trans bL.size (by simp)) (λk e=>(mU.lt k e).1);have JL:=(hN1.below C3 zr).agree (w':=w5) (λb hb hlt=>hgr.block b hlt (λe=>hne b hb e.symm));refine⟨⟨i+1,hlt,by go_num,FV.out▸h5,kH,JL⟩,by simp only[intOf];omega⟩
theorem Bi (w:World):Calls Tryz.prog 122 #[] w λe w'=>e=.returned (.agg #[.nilFunc,.func (.func 177) #[] #[],.func (.func 178) #[] #[],.func (.func 179) #[] #[],.func (.func 180) #[] #[],.func (.func 181) #[] #[],.func (.func 182) #[] #[],.func (.func 183) #[] #[],.func (.func 184) #[] #[]])∧Below w.heap.size w w':=by
 go_enter Tryz.func122,Tryz.ntmps122
 go_wp2_with fail
 refine bodyPost_ret (v:=.agg #[.nilFunc,.func (.func 177) #[] #[],.func (.func 178) #[] #[],.func (.func 179) #[] #[],.func (.func 180) #[] #[],.func (.func 181) #[] #[],.func (.func 182) #[] #[],.func (.func 183) #[] #[],.func (.func 184) #[] #[]]) (by simp[results,Tryz.results122,go_sem]) rfl ?_
 exact⟨rfl,(zb w).alloc zr _⟩
theorem eZ {w:World} {b:Nat} {a0 a1 a2:Value} {t:TypeId} (h:w.heap[b]? =some (.cells #[a0,a1,a2] t (0,0))):w.cell? ⟨b,0,none⟩=some a0∧w.cell? ⟨b,1,none⟩=some a1∧w.cell? ⟨b,2,none⟩=some a2:=
 ⟨(ak h 0).trans rfl,(ak h 1).trans rfl,(ak h 2).trans rfl⟩
def Di (t:List UInt8):Prop:=t.length≤maxLen∧(bQ t).1.length≤maxLen∧(eH t).1.length≤maxLen∧(dJ t).1.length≤100∧∀x∈(dJ t).1,x.1.length≤1000∧x.2.length≤maxLen
def ScopeM (D:Nat→Prop) (w:World) (v:Value) (c:bw):Prop:=∃m nv,v=.agg #[.map (some m),nv,.bool c.par]∧dV D w m c.dG∧aY D w nv c.ag
theorem ScopeM.below {D:Nat→Prop} {K:Nat} {w w':World} {v:Value} {c:bw} (h:ScopeM D w v c) (hb:Below K w w') (hK:w.heap.size≤K):ScopeM D w' v c:=by
 obtain⟨m,nv,h1,h2,h3⟩:=h
 exact⟨m,nv,h1,h2.below hb hK,h3.below hb hK⟩
theorem ScopeM.shape {D:Nat→Prop} {w:World} {v:Value} {c:bw} (h:ScopeM D w v c):∃m q n,v=.agg #[.map (some m),.slice q c.ag.length n,.bool c.par]:=by
 obtain⟨m,nv,h1,h2,h3⟩:=h
 obtain⟨p,c',rfl,_⟩:=h3.shape
 exact⟨m,p,c',h1⟩
section
variable {D:Nat→Prop} {ops:Array Oper} {h:Nat} {V:List VS} {E:List (Nat×VS)} {S:World→Prop} {k:Nat} {o:Oper}
theorem vM {f:FuncId} {tys:Array TypeId} {s:VS} (ho:o.op=.call {callee:=.value (.func f),args:= #[],argTypes:=tys }) (en:∀args w,(callFunc f args).run Tryz.prog w=.ok (.enter f args) w)
 (hw:cO ops h V o=some true) (hk:V[k]? =some s) (hc:∀(w:World),S w→Calls Tryz.prog f #[] w λe w'=>∃u,e=.returned u∧s.holds D w' u∧Below w.heap.size w w'):bM D Tryz.prog S ops h V E k o:=
 oI [] hw hk rfl λa w Q hS _ next hn=>by
  have hrun:(execOp a.eval o).run Tryz.prog w=.ok (.enter f #[]) w:=by
   simp[execOp,ho,resolve,Deferred.ofValue,invoke,Act.eval,en]
  unfold Oper.wp;rw[hrun,Oper.upon_enter];refine(hc w hS).mono ?_;rintro e w' ⟨u,rfl,hu,hb⟩;exact hn u w' hu hb
theorem Bw {f:FuncId} {x y:Operand} {tys:Array TypeId} {s s1:VS} (ho:o.op=.call {callee:=.value x,args:= #[y],argTypes:=tys }) (en:∀args w,(callFunc f args).run Tryz.prog w=.ok (.enter f args) w)
 (hw:cO ops h V o=some true) (hk:V[k]? =some s) (hx:aJ ops h V E o x=some (.eq (.func (.func f) #[] #[]))) (hy:aJ ops h V E o y=some s1)
 (hc:∀(v:Value) (w:World),S w→s1.holds D w v→Calls Tryz.prog f #[v] w λe w'=>∃u,e=.returned u∧s.holds D w' u∧Below w.heap.size w w'):bM D Tryz.prog S ops h V E k o:=
 oI [(x,.eq (.func (.func f) #[] #[])),(y,s1)] hw hk (by simp[hx,hy]) λa w Q hS hi next hn=>by
  have h1:a.eval x=.func (.func f) #[] #[]:=hi (x,.eq (.func (.func f) #[] #[])) (by simp);have h2:=hi (y,s1) (by simp);have hrun:(execOp a.eval o).run Tryz.prog w=.ok (.enter f #[a.eval y]) w:=by
   simp[execOp,ho,h1,resolve,Deferred.ofValue,invoke,en]
  unfold Oper.wp;rw[hrun,Oper.upon_enter];refine(hc _ w hS h2).mono ?_;rintro e w' ⟨u,rfl,hu,hb⟩;exact hn u w' hu hb
end
def Jp:Value:=.agg #[.nilFunc,.func (.func 177) #[] #[],.func (.func 178) #[] #[],.func (.func 179) #[] #[],.func (.func 180) #[] #[],.func (.func 181) #[] #[],.func (.func 182) #[] #[],.func (.func 183) #[] #[],.func (.func 184) #[] #[]]
set_option maxRecDepth 8000 in
theorem js {D:Nat→Prop} (c:bw) (v:Value) (t:List UInt8) (w:World) (hv:ScopeM D w v c) (hty:Di t) (hT:dW w) (k:Nat) (F:FuncId) (hk:(aq t).2.k=k) (hF:∀(ev:Operand→Value) (o:Oper) (x y:Operand) (w:World),o.op=.index 142 x y→ev x=Jp→ev y=.int .u8 k→(execOp ev o).run Tryz.prog w=.ok (.value (.func (.func F) #[] #[])) w) (en:∀args w,(callFunc F args).run Tryz.prog w=.ok (.enter F args) w)
 (HM:∀m q cq W,Below w.heap.size w W→ScopeM D W (.agg #[.map (some m),.slice q c.ag.length cq,.bool c.par]) c→Calls Tryz.prog F #[.agg #[.map (some m),.slice q c.ag.length cq,.bool c.par,str t]] W λe W'=>∃u,e=.returned u∧aY Any W' u (dU c t).1∧Below W.heap.size W W') (hA:(dU c t).2=if k=7 then(bQ t).1 else []):
 Calls Tryz.prog 63 #[v,str t] w λe w'=>∃u,e=.returned (.tuple #[u,str (dU c t).2])∧aY (λ_=>True) w' u (dU c t).1∧Below w.heap.size w w':=by
 obtain⟨m,nv,rfl,hs,hN⟩:=hv
 obtain⟨q,cq,rfl,_⟩:=hN.shape
 have bT:=heap_alloc_new w (.cells #[.map (some m),.slice q c.ag.length cq,.bool c.par] 86)
 have hB:=(zb w).alloc zr (.cells #[.map (some m),.slice q c.ag.length cq,.bool c.par] 86)
 have HC:=tW t hty.1 (w.alloc (.cells #[.map (some m),.slice q c.ag.length cq,.bool c.par] 86)) (hT.below hB zr)
 have HG:=λW hW=>q8 t hty.1 W (hT.below (B:=w.heap.size) hW zr)
 have HM:=λW (hW:Below w.heap.size w W)=>HM m q cq W hW ⟨m,_,rfl,hs.below hW zr,hN.below hW zr⟩
 rw[hk] at HC
 generalize dU c t=RK at *
 generalize (aq t).1=CK at *
 clear hk hN hs
 by_cases h7:k=7
 case neg=>
  have g7:((k:Int)==7)=false:=by simpa using λe=>h7 (by omega)
  rw[if_neg h7] at hA;clear h7 HG;go_enter Tryz.func63,Tryz.ntmps63;go_upto_region 5 with(go_at_call 119;refine HC.mono ?_;clear HC;rintro e w1 ⟨rfl,au⟩;have dI:=ah bT au;have B1:=hB.trans (af au (by simp)));clear au;clear bT hB;obtain⟨y0,y1,y2⟩:=eZ (w:=w1.drew) dI;refine qj (D:=Any) (d:=some 5) (w:=w1) 9 [(1,vT t),(2,vP w.heap.size 0),(6,.eq (.int .u8 k)),(8,vT [])] [.eq Jp,.eq (.int .u8 k),.eq (.func (.func F) #[] #[]),.eq (.agg #[.map (some m),.slice q c.ag.length cq,.bool c.par]),vT t,.eq (.agg #[.map (some m),.slice q c.ag.length cq,.bool c.par,str t]),.ops RK.1,vT [],.ops RK.1,vT []] (λw'=>aZ [(⟨w.heap.size,0,none⟩,.map (some m)),(⟨w.heap.size,1,none⟩,.slice q c.ag.length cq),(⟨w.heap.size,2,none⟩,.bool c.par)] w'∧Below w.heap.size w w') (by kernel_rfl) rfl rfl (λ_ _ h hb=>⟨h.1.below hb,h.2.trans (af hb h.2.size)⟩) ⟨b9 y0 (b9 y1 (b9 y2 gy)),B1.drew⟩ ⟨rfl,rfl,rfl,rfl,trivial⟩ ?_ ?_
  · iterate 10
     refine And.intro ?_ ?_
     · first
       | exact oe rfl rfl (by kernel_rfl)
       | exact vM rfl (enters_of Tryz.func122 (by kernel_rfl) rfl) (by kernel_rfl) rfl λw _=>(Bi w).mono (by rintro e w' ⟨rfl,hb⟩;exact⟨_,rfl,rfl,hb⟩)
       | exact AE _ _ (by kernel_rfl) rfl rfl rfl λev w _ h1 h2=>hF ev _ _ _ w rfl h1 h2
       | exact gv rfl (by kernel_rfl) rfl rfl (λw h=>by simp[go_sem,h.1.get 0 rfl,h.1.get 1 rfl,h.1.get 2 rfl])
       | exact AE (.tmp 25) (.tmp 26) (by kernel_rfl) rfl rfl rfl λev w _ h1 h2=>by unfold execOp;simp[h1,h2,go_sem]
       | exact Bw (s1:=.eq (.agg #[.map (some m),.slice q c.ag.length cq,.bool c.par,str t])) rfl en (by kernel_rfl) rfl rfl rfl λv w h e=>by rw[show v=_ from e];exact(HM w h.2).mono (by rintro e w' ⟨u,rfl,hu,hb⟩;exact⟨u,rfl,hu,hb⟩)
    exact trivial
  · intro aE wE mo fM GZ
    have hu:aY Any wE (aE.tmps.getD 4 undef) RK.1:=GZ 8 _ _ (by decide) rfl rfl;obtain⟨p2,c2,e2,_⟩:=hu.shape;rw[e2] at hu;simp only[pq,e2,pz,pw];go_wp2_with fail;go_ret2;rw[hA];exact⟨_,rfl,hu,mo.2⟩
 case pos=>
  subst h7;rw[if_pos rfl] at hA;go_enter Tryz.func63,Tryz.ntmps63;go_upto_region 5 with(first
   | (go_at_call 121;refine(HG w1 B1).mono ?_;clear HG;rintro e w2 ⟨rfl,aC⟩;have fS:=ah dI aC;have B2:=B1.trans (af aC B1.size))
   | (go_at_call 119;refine HC.mono ?_;clear HC;rintro e w1 ⟨rfl,au⟩;have dI:=ah bT au;have B1:=hB.trans (af au (by simp))))
  clear dI B1 au aC;clear bT hB;obtain⟨y0,y1,y2⟩:=eZ (w:=w2.drew) fS;refine qj (D:=Any) (d:=some 5) (w:=w2) 9 [(1,vT t),(2,vP w.heap.size 0),(6,.eq (.int .u8 7)),(8,vT (bQ t).1)] [.eq Jp,.eq (.int .u8 7),.eq (.func (.func F) #[] #[]),.eq (.agg #[.map (some m),.slice q c.ag.length cq,.bool c.par]),vT t,.eq (.agg #[.map (some m),.slice q c.ag.length cq,.bool c.par,str t]),.ops RK.1,vT (bQ t).1,.ops RK.1,vT (bQ t).1] (λw'=>aZ [(⟨w.heap.size,0,none⟩,.map (some m)),(⟨w.heap.size,1,none⟩,.slice q c.ag.length cq),(⟨w.heap.size,2,none⟩,.bool c.par)] w'∧Below w.heap.size w w') (by kernel_rfl) rfl rfl (λ_ _ h hb=>⟨h.1.below hb,h.2.trans (af hb h.2.size)⟩) ⟨b9 y0 (b9 y1 (b9 y2 gy)),B2.drew⟩ ⟨rfl,rfl,rfl,rfl,trivial⟩ ?_ ?_
  · iterate 10
     refine And.intro ?_ ?_
     · first
       | exact oe rfl rfl (by kernel_rfl)
       | exact vM rfl (enters_of Tryz.func122 (by kernel_rfl) rfl) (by kernel_rfl) rfl λw _=>(Bi w).mono (by rintro e w' ⟨rfl,hb⟩;exact⟨_,rfl,rfl,hb⟩)
       | exact AE _ _ (by kernel_rfl) rfl rfl rfl λev w _ h1 h2=>hF ev _ _ _ w rfl h1 h2
       | exact gv rfl (by kernel_rfl) rfl rfl (λw h=>by simp[go_sem,h.1.get 0 rfl,h.1.get 1 rfl,h.1.get 2 rfl])
       | exact AE (.tmp 25) (.tmp 26) (by kernel_rfl) rfl rfl rfl λev w _ h1 h2=>by unfold execOp;simp[h1,h2,go_sem]
       | exact Bw (s1:=.eq (.agg #[.map (some m),.slice q c.ag.length cq,.bool c.par,str t])) rfl en (by kernel_rfl) rfl rfl rfl λv w h e=>by rw[show v=_ from e];exact(HM w h.2).mono (by rintro e w' ⟨u,rfl,hu,hb⟩;exact⟨u,rfl,hu,hb⟩)
    exact trivial
  · intro aE wE mo fM GZ
    have hu:aY Any wE (aE.tmps.getD 4 undef) RK.1:=GZ 8 _ _ (by decide) rfl rfl;obtain⟨p2,c2,e2,_⟩:=hu.shape;rw[e2] at hu;simp only[pq,e2,pz,pw];go_wp2_with fail;go_ret2;rw[hA];exact⟨_,rfl,hu,mo.2⟩
theorem Bo {D:Nat→Prop} (c:bw) (v:Value) (t:List UInt8) (w:World) (hv:ScopeM D w v c) (hty:Di t) (hT:dW w) (ha:mB c.dG) (hn:c.ag.length≤100000) (hk:1≤(aq t).2.k∧(aq t).2.k≤8):
 Calls Tryz.prog 63 #[v,str t] w λe w'=>∃u,e=.returned (.tuple #[u,str (dU c t).2])∧aY (λ_=>True) w' u (dU c t).1∧Below w.heap.size w w':=by
 have hkk:(aq t).2.k=1∨(aq t).2.k=2∨(aq t).2.k=3∨(aq t).2.k=4∨(aq t).2.k=5∨(aq t).2.k=6∨(aq t).2.k=7∨(aq t).2.k=8:=by omega
 clear hk
 rcases hkk with hk|hk|hk|hk|hk|hk|hk|hk
 · refine js c v t w hv hty hT 1 177 hk (λev o x y w ho h1 h2=>by unfold execOp;simp only[ho,h1,h2];kernel_rfl) (enters_of Tryz.func177 (by kernel_rfl) rfl) (λm q cq W hW FU=>?_) (by unfold dU;rw[hk];rfl)
   refine(Ed _ m _ _ t W ⟨rfl,_,_,_,rfl⟩ hty.1).mono ?_;rintro e w' ⟨u,rfl,hu,hb⟩;refine⟨_,rfl,?_,hb⟩;unfold dU;rw[hk];exact hu.x9
 · refine js c v t w hv hty hT 2 178 hk (λev o x y w ho h1 h2=>by unfold execOp;simp only[ho,h1,h2];kernel_rfl) (enters_of Tryz.func178 (by kernel_rfl) rfl) (λm q cq W hW FU=>?_) (by unfold dU;rw[hk];rfl)
   refine(BG _ m _ _ t W ⟨rfl,_,_,_,rfl⟩ hty.1).mono ?_;rintro e w' ⟨u,rfl,hu,hb⟩;refine⟨_,rfl,?_,hb⟩;unfold dU;rw[hk];exact hu.x9
 · refine js c v t w hv hty hT 3 179 hk (λev o x y w ho h1 h2=>by unfold execOp;simp only[ho,h1,h2];kernel_rfl) (enters_of Tryz.func179 (by kernel_rfl) rfl) (λm q cq W hW FU=>?_) (by unfold dU;rw[hk];rfl)
   refine(Ct _ m _ _ t W ⟨rfl,_,_,_,rfl⟩ hty.1).mono ?_;rintro e w' ⟨u,rfl,hu,hb⟩;refine⟨_,rfl,?_,hb⟩;unfold dU;rw[hk];exact hu.x9
 · refine js c v t w hv hty hT 4 180 hk (λev o x y w ho h1 h2=>by unfold execOp;simp only[ho,h1,h2];kernel_rfl) (enters_of Tryz.func180 (by kernel_rfl) rfl) (λm q cq W hW FU=>?_) (by unfold dU;rw[hk];rfl)
   refine(zi _ m _ _ t W (hT.below hW zr) hty.2.1 ⟨rfl,_,_,_,rfl⟩ hty.1).mono ?_;rintro e w' ⟨u,rfl,hu,hb⟩;refine⟨_,rfl,?_,hb⟩;unfold dU;rw[hk];exact hu.x9
 · refine js c v t w hv hty hT 5 181 hk (λev o x y w ho h1 h2=>by unfold execOp;simp only[ho,h1,h2];kernel_rfl) (enters_of Tryz.func181 (by kernel_rfl) rfl) (λm q cq W hW FU=>?_) (by unfold dU;rw[hk];rfl)
   refine(yw _ m _ _ t W (hT.below hW zr) hty.2.2.2.1 hty.2.2.2.2 ⟨rfl,_,_,_,rfl⟩ hty.1).mono ?_;rintro e w' ⟨u,rfl,hu,hb⟩;refine⟨_,rfl,?_,hb⟩;unfold dU;rw[hk];exact hu.x9
 · refine js c v t w hv hty hT 6 182 hk (λev o x y w ho h1 h2=>by unfold execOp;simp only[ho,h1,h2];kernel_rfl) (enters_of Tryz.func182 (by kernel_rfl) rfl) (λm q cq W hW FU=>?_) (by unfold dU;rw[hk];rfl)
   refine(Ac _ m _ _ t W (hT.below hW zr) hty.2.2.2.1 hty.2.2.2.2 ⟨rfl,_,_,_,rfl⟩ hty.1).mono ?_;rintro e w' ⟨u,rfl,hu,hb⟩;refine⟨_,rfl,?_,hb⟩;unfold dU;rw[hk];exact hu.x9
 · refine js c v t w hv hty hT 7 183 hk (λev o x y w ho h1 h2=>by unfold execOp;simp only[ho,h1,h2];kernel_rfl) (enters_of Tryz.func183 (by kernel_rfl) rfl) (λm q cq W hW FU=>?_) (by unfold dU;rw[hk];rfl)
   obtain⟨m',P9,e',hs,hN⟩:=FU;simp only[Value.agg.injEq,Array.mk.injEq,List.cons.injEq,Value.map.injEq,Option.some.injEq,and_true] at e';obtain⟨rfl,rfl⟩:=e';refine(Cn _ m _ _ t c.dG W ⟨rfl,_,_,_,rfl⟩ hty.1 (hT.below hW zr) hty.2.2.1 hs ha).mono ?_;rintro e w' ⟨u,rfl,hu,hb⟩;refine⟨_,rfl,?_,hb⟩;unfold dU;rw[hk];exact hu.mono (λ_ _=>trivial)
 · refine js c v t w hv hty hT 8 184 hk (λev o x y w ho h1 h2=>by unfold execOp;simp only[ho,h1,h2];kernel_rfl) (enters_of Tryz.func184 (by kernel_rfl) rfl) (λm q cq W hW FU=>?_) (by unfold dU;rw[hk];rfl)
   obtain⟨m',P9,e',hs,hN⟩:=FU;simp only[Value.agg.injEq,Array.mk.injEq,List.cons.injEq,Value.map.injEq,Option.some.injEq,and_true] at e';obtain⟨rfl,rfl⟩:=e';refine(Ai _ m _ _ t c.ag W ⟨rfl,_,_,_,rfl⟩ hN hn).mono ?_;rintro e w' ⟨u,rfl,hu,hb⟩;refine⟨_,rfl,?_,hb⟩;unfold dU;rw[hk];exact hu.x9
def named (n:List UInt8) (o:aL):Bool:=o.name==n
theorem xQ (n:List UInt8) (o:aL):named n o=decide (o.name=n):=by
 unfold named
 by_cases h:o.name=n<;>simp[h]
theorem xC {α:Type} (p:α→Bool):∀(l:List α) (k:Nat),(pU p l k= -1∧l.find? p=none)∨∃(i:Nat) (x:α),pU p l k=((k+i:Nat):Int)∧l.find? p=some x∧l[i]? =some x
 | [],k=>.inl ⟨rfl,rfl⟩
 | x::r,k=>by
  rw[pU];rcases h:p x with _|_
  · rw[List.find?_cons_of_neg (by simp[h])]
    simp only[Bool.false_eq_true,if_false];rcases xC p r (k+1) with h2|⟨i,y,h2,h3,h4⟩
    · exact .inl h2
    · exact .inr ⟨i+1,y,by rw[h2];omega,h3,h4⟩
  · rw[List.find?_cons_of_pos h]
    exact .inr ⟨0,x,by simp,rfl,rfl⟩
theorem Gj {D:Nat→Prop} (x:aL) (n:List UInt8) (v:Value) (ob:Nat) (w:World) (hv:gx D w v x) (hc:w.cell? ⟨ob,0,none⟩=some (str n)):
 Calls Tryz.prog 137 #[v,.pointer (some ⟨ob,0,none⟩)] w λe w'=>e=.returned (.bool (named n x))∧Below w.heap.size w w':=by
 obtain⟨a,s,rfl,_,h2,h3⟩:=hv
 obtain⟨pa,ca,rfl,_⟩:=h2.shape
 obtain⟨ps,cs,rfl,_⟩:=h3.shape
 have hA:=(zb w).alloc zr (.cells #[str x.name,.bool x.sig.iter,.slice pa x.sig.args.length ca,str x.sig.res,.slice ps x.sig.sigs.length cs] 50)
 have hc:=Below.keep hA hc
 clear h2 h3
 rcases hq:(x.name==n) with _|_
 all_goals
  have HX:=zh (show named n x=_ from hq);go_enter Tryz.func137,Tryz.ntmps137;go_wp2_with fail;go_ret;rw[HX.out];exact⟨by first|rfl|simp,hA⟩
set_option maxRecDepth 4000 in
theorem xx {D:Nat→Prop} (l:List aL) (n:List UInt8) (v:Value) (ob:Nat) (w:World) (hv:aY D w v l) (hc:w.cell? ⟨ob,0,none⟩=some (str n)):
 Calls Tryz.prog 136 #[v,.func (.func 137) #[] #[.pointer (some ⟨ob,0,none⟩)]] w λe w'=>e=.returned (.int .i64 (pU (named n) l 0))∧Below w.heap.size w w':=by
 obtain⟨p,c,rfl,_,hm,hle⟩:=hv.shape
 unfold maxLen at hm
 clear hle
 go_enter Tryz.func136,Tryz.ntmps136
 go_wp2_with fail
 go_loopw [8] (λa wr=>∃i:Nat,i≤l.length∧a=.int .i64 i∧Below w.heap.size w wr∧Hid (pU (named n) l 0=pU (named n) (l.drop i) i)) (λa _=>l.length - (intOf a).toNat)
 case atStart=>exact⟨0,Nat.zero_le _,rfl,zb _,rfl⟩
 case round=>
  obtain⟨i,hi,rfl,hb,hA⟩:=hrel
  by_cases hlt:i<l.length
  case neg=>
   have HX:=zh (show pU (named n) l 0= -1 by rw[hA.out,List.drop_eq_nil_of_le (by omega)];rfl);clear hA;go_wp2_with fail;go_ret;exact⟨by rw[HX.out];rfl,hb⟩
  case pos=>
   obtain⟨x,hkx⟩:∃x,l[i]? =some x:=⟨_,List.getElem?_eq_getElem hlt⟩
   obtain⟨b1,o1,av,sv,rfl,_,hle,fe,eE,uq,pG,od,pZ,rK⟩:=(hv.below hb zr).at hkx;have HN:=Gj x n _ ob wr ⟨av,sv,rfl,hle,fe,eE⟩ (Below.keep hb hc);obtain⟨pa,ca,rfl,_⟩:=fe.shape;obtain⟨ps,cs,rfl,_⟩:=eE.shape;have hd:=hA.out;rw[bp hkx,pU] at hd;clear hA hkx fe eE;rcases hn:named n x with _|_
   · rw[hn] at HN hd
     have HX:=zh (hd.trans (if_neg (by simp)));clear hd hn;go_wp2_with (go_at_call 137;refine HN.mono ?_;clear HN;rintro e w1 ⟨rfl,au⟩);exact⟨⟨i+1,by omega,by go_num,hb.trans (af au hb.size),HX⟩,by simp only[intOf];omega⟩
   · rw[hn] at HN hd
     have HX:=zh (hd.trans (if_pos rfl));clear hd hn;go_wp2_with (go_at_call 137;refine HN.mono ?_;clear HN;rintro e w1 ⟨rfl,au⟩);go_ret;exact⟨by rw[HX.out];rfl,hb.trans (af au hb.size)⟩
theorem Cv {c:bw} {t n:List UInt8} (h:(dU c t).1.find? (named n)=none):ng c t n=(.zero,40):=by
 unfold ng
 rw[show(λo:aL=>decide (o.name=n))=named n from funext λo=>(xQ n o).symm,h]
theorem Cw {c:bw} {t n:List UInt8} {o:aL} (h:(dU c t).1.find? (named n)=some o):ng c t n=eF o.sig (dU c t).2:=by
 unfold ng
 rw[show(λo:aL=>decide (o.name=n))=named n from funext λo=>(xQ n o).symm,h]
def sR (c:bw) (t:List UInt8):Prop:=(dU c t).2.length≤maxLen∧∀o∈(dU c t).1,o.sig.args.length≤100000∧o.sig.sigs.length≤100000
set_option maxRecDepth 8000 in
theorem Ep {D:Nat→Prop} (c:bw) (v:Value) (t n:List UInt8) (w:World) (hv:ScopeM D w v c) (hty:Di t) (hro:sR c t) (hT:dW w) (ha:mB c.dG) (hn:c.ag.length≤100000) (hk:1≤(aq t).2.k∧(aq t).2.k≤8):
 Calls Tryz.prog 72 #[v,str t,str n] w λe w'=>∃u,e=.returned (.tuple #[u,.int .i64 (ng c t n).2])∧aT (λb=>w.heap.size≤b) w' u (ng c t n).1∧Below w.heap.size w w':=by
 have F4:=hv
 obtain⟨m,q,cq,rfl⟩:=hv.shape
 have bT:=heap_alloc_new w (.cells #[.map (some m),.slice q c.ag.length cq,.bool c.par] 86)
 have hA:=(zb w).alloc zr (.cells #[.map (some m),.slice q c.ag.length cq,.bool c.par] 86)
 have Kg:=hA.alloc (by simp) (.cells #[str n] 9)
 have wZ:=cI (w:=w.alloc (.cells #[.map (some m),.slice q c.ag.length cq,.bool c.par] 86)) (n:=w.heap.size+1) (by simp) #[str n] 9
 have L3:=Kg.alloc (by simp;omega) (.cells #[.bool false,.slice none 0 0,.string ⟨#[]⟩,.slice none 0 0] 36)
 have Pw:=cI (w:=(w.alloc (.cells #[.map (some m),.slice q c.ag.length cq,.bool c.par] 86)).alloc (.cells #[str n] 9)) (n:=w.heap.size+1+1) (by simp) #[.bool false,.slice none 0 0,.string ⟨#[]⟩,.slice none 0 0] 36
 have wZ:=aD (.cells #[.bool false,.slice none 0 0,.string ⟨#[]⟩,.slice none 0 0] 36) wZ
 have bT:=aD (.cells #[.bool false,.slice none 0 0,.string ⟨#[]⟩,.slice none 0 0] 36) (aD (.cells #[str n] 9) bT)
 have HR:=Bo c _ t _ (F4.below L3 zr) hty (hT.below L3 zr) ha hn hk
 have bx:=eZ bT
 have HT:=zh (λW (hW:Below w.heap.size w W)=>hT.below hW zr)
 have HO:=xC (named n) (dU c t).1 0
 have Nj:=λh=>Cv (c:=c) (t:=t) (n:=n) h
 have Nk:=λo h=>Cw (c:=c) (t:=t) (n:=n) (o:=o) h
 obtain⟨hal,hro⟩:=hro
 clear hv F4 hk hty hT
 generalize dU c t=RK at *
 generalize ng c t n=OI at *
 rcases HO with⟨hi,hf⟩|⟨i,x,hi,hf,hx⟩
 · obtain rfl:=Nj hf
   clear Nj Nk hf;go_enter Tryz.func72,Tryz.ntmps72;go_wp2_with (first
    | (go_at_call 136;refine(xx RK.1 n _ (w.heap.size+1) _ hu ((ak (ah wZ au) 0).trans rfl)).mono ?_;rintro e w2 ⟨rfl,aC⟩;rw[hi];have FW:=ah Iv aC;have b4:=aN FW)
    | (go_at_call 63;refine HR.mono ?_;clear HR;rintro e w1 ⟨u,rfl,hu,au⟩;obtain⟨pu,cu,rfl,_⟩:=hu.shape;have Iv:=ah Pw au))
   refine bodyPost_ret (v:=.tuple #[.agg #[.bool false,.slice none 0 0,str [],.slice none 0 0],.int .i64 40]) (by simp[results,Tryz.results72,go_sem,b4.1]) rfl ?_;have cD:=L3.trans (af (au.trans (af aC au.size)) (by simp;omega));exact⟨_,rfl,aT.zero _ _,Below.ep cD (b:=w.heap.size+1+1) (by omega) _ _ _ _⟩
 · obtain rfl:=Nk x hf
   clear Nj Nk hf;have hi:pU (named n) RK.1 0=(i:Int):=by rw[hi];simp
   have hlt:i<RK.1.length:=(List.getElem?_eq_some_iff.1 hx).1;have hmem:=hro x (List.mem_of_getElem? hx);have SP:=zh hx;clear hro hx;go_enter Tryz.func72,Tryz.ntmps72;go_wp2_with (first
    | (go_at_call 64;refine(Bk _ x.sig RK.2 _ (HT.out _ cD) ⟨_,_,rfl,mI,fe,eE⟩ hmem.1 hmem.2 hal).mono ?_;rintro e w3 ⟨u3,rfl,⟨a3,q3,rfl,l3,r3,s3⟩,aH⟩;obtain⟨C9,cz,rfl,_⟩:=r3.shape;obtain⟨py,cy,rfl,_⟩:=s3.shape;have ND:=ah FW aH;have b4:=aN ND)
    | (go_at_call 136;refine(xx RK.1 n _ (w.heap.size+1) _ hu ((ak (ah wZ au) 0).trans rfl)).mono ?_;rintro e w2 ⟨rfl,aC⟩;rw[hi];have FW:=ah Iv aC;have cD:=L3.trans (af (au.trans (af aC au.size)) (by simp;omega));obtain⟨b1,o1,av,sv,rfl,_,⟨_,mI⟩,fe,eE,uq,pG,od,pZ,rK⟩:=(hu.below aC zr).at SP.out;obtain⟨pa,ca,rfl,_⟩:=fe.shape;obtain⟨ps,cs,rfl,_⟩:=eE.shape)
    | (go_at_call 63;refine HR.mono ?_;clear HR;rintro e w1 ⟨u,rfl,hu,au⟩;obtain⟨pu,cu,rfl,_⟩:=hu.shape;have Iv:=ah Pw au))
   refine bodyPost_ret (v:=.tuple #[.agg #[.bool (eF x.sig RK.2).1.iter,.slice C9 (eF x.sig RK.2).1.args.length cz,str (eF x.sig RK.2).1.res,.slice py (eF x.sig RK.2).1.sigs.length cy],.int .i64 (eF x.sig RK.2).2]) (by simp[results,Tryz.results72,go_sem,b4.1]) rfl ?_;have dx:=cD.trans (af aH cD.size);have hs2:w.heap.size+1+1<w2.heap.size:=bA FW;refine⟨_,rfl,⟨_,_,rfl,l3,?_,?_⟩,Below.ep dx (b:=w.heap.size+1+1) (by omega) _ _ _ _⟩
   · exact(SS.ep r3 (b:=w.heap.size+1+1) (by intro b hb;omega) _ _ _ _).mono (by intro b hb;omega)
   · exact(SS.ep s3 (b:=w.heap.size+1+1) (by intro b hb;omega) _ _ _ _).mono (by intro b hb;omega)
end Go.Proofs.YtakgjcfkdemipaaGreatDoor
