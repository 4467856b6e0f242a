/-
  Lemmas for the statement: contract: of the package face: (maker).oneofs. Contract: of the package face: (maker).records. Contracts: of the package face: shelved, (shelf).find. Conditions: bounds of lengths; the variable strings.asciiSpace.
-/
import Derived.Test.YtakgjcfkdemipaaGreatDoorZGn
import Derived.Test.YtakgjcfkdemipaaGreatDoorZG21
set_option maxHeartbeats 25600000
namespace Go.Proofs.YtakgjcfkdemipaaGreatDoor
open Go.RowKit
set_option maxRecDepth 8000 in
theorem De (v:Value) (m:Nat) (nv:Value) (p:Bool) (t:List UInt8) (w:World) (hT:fN w) (KS:(cK t).1.length≤100) (hps:∀x∈(cK t).1,x.1.length≤1000∧x.2.length≤maxLen) (hv:yC v m nv p t) (ht:t.length≤maxLen):
 Calls Tryz.prog 182 #[v] w λe w'=>∃u,e=.returned u∧dU w.heap.size w' u (([⟨[101,113,117,97,108],⟨false,[t,t],[98,111,111,108],[]⟩⟩]:List aG)++(cK t).1.flatMap (λp:List UInt8×List UInt8=>([⟨[105,115,95]++p.1,⟨false,[t],[98,111,111,108],[]⟩⟩,⟨[109,97,107,101,95]++p.1,⟨false,[p.2],t,[]⟩⟩]:List aG)))∧Below w.heap.size w w':=by
 obtain⟨rfl,q,n,c,rfl⟩:=hv
 have cI:=heap_alloc_new w (.cells #[.map (some m),.slice q n c,.bool p,str t] 145)
 have hA:=(Below.refl _ w).alloc (nl _) (.cells #[.map (some m),.slice q n c,.bool p,str t] 145)
 have HC:=ux t ht (w.alloc (.cells #[.map (some m),.slice q n c,.bool p,str t] 145)) (hT.below hA (nl _))
 have bx:=(aU cI).1
 generalize (cK t).1=ps at *
 go_enter Tryz.func182,Tryz.ntmps182
 go_wp2_with (first
  | (go_at_call 238;refine(lN _ m _ _ t _ ⟨rfl,_,_,_,rfl⟩ ht).mono ?_;rintro e w2 ⟨u,rfl,⟨x,y,rfl,l1,r1,q1⟩,aA⟩;obtain⟨p1,c1,rfl,_⟩:=r1.shape;obtain⟨p2,c2,rfl,_⟩:=q1.shape)
  | (go_at_call 241;refine HC.mono ?_;clear HC;rintro e w1 ⟨v,rfl,hp1,ay⟩;obtain⟨pp,cp,rfl⟩:=hp1.shape;have ff:=ah cI ay;have rV:=(aU ff).1))
 have hs2:=aA.size
 have hs1:=ay.size
 simp only[World.size_alloc] at hs1
 have hown:=lD (B:=w1.heap.size) (n:=1) w2 hs2 rfl (by unfold maxLen;simp) (show bN (λb=>w1.heap.size≤b) w2 _ [dK t] from⟨_,_,_,rfl,l1,r1,q1,rfl⟩)
 have hB:=aA.alloc hs2 (.cells #[str (dK t).name,.bool (dK t).sig.iter,.slice p1 (dK t).sig.args.length c1,str (dK t).sig.res,.slice p2 (dK t).sig.sigs.length c2] 50)
 have Cb:Below w.heap.size w w1:=hA.trans (af ay (by simp))
 clear l1 r1 q1 aA hs2 rV hA ay cI bx
 generalize w2.alloc (.cells #[str (dK t).name,.bool (dK t).sig.iter,.slice p1 (dK t).sig.args.length c1,str (dK t).sig.res,.slice p2 (dK t).sig.sigs.length c2] 50)=W3 at *
 generalize Value.agg #[str (dK t).name,.bool (dK t).sig.iter,.slice p1 (dK t).sig.args.length c1,str (dK t).sig.res,.slice p2 (dK t).sig.sigs.length c2]=vEq
 generalize (some (⟨w2.heap.size,0,none⟩:Addr))=pE at *
 go_loopw [5,19] (λv y wx=>∃i:Nat,i≤ps.length∧y=.int .i64 i∧dU w1.heap.size wx v ([dK t]++(ps.take i).flatMap (λp:List UInt8×List UInt8=>([⟨[105,115,95]++p.1,⟨false,[t],[98,111,111,108],[]⟩⟩,⟨[109,97,107,101,95]++p.1,⟨false,[p.2],t,[]⟩⟩]:List aG)))∧Below w1.heap.size w1 wx) (λ_ y _=>ps.length - (intOf y).toNat)
 case atStart=>exact⟨0,Nat.zero_le _,by go_num,by simpa using hown,hB⟩
 case round=>
  clear hown hB;obtain⟨i,hi,rfl,hown,hB⟩:=hrel;obtain⟨pv,cv,rfl⟩:=hown.shape
  by_cases hlt:i<ps.length
  case neg=>
   have hie:i=ps.length:=by omega
   subst hie;have TR:[dK t]++(ps.take ps.length).flatMap (λp:List UInt8×List UInt8=>([⟨[105,115,95]++p.1,⟨false,[t],[98,111,111,108],[]⟩⟩,⟨[109,97,107,101,95]++p.1,⟨false,[p.2],t,[]⟩⟩]:List aG))=[dK t]++ps.flatMap (λp:List UInt8×List UInt8=>([⟨[105,115,95]++p.1,⟨false,[t],[98,111,111,108],[]⟩⟩,⟨[109,97,107,101,95]++p.1,⟨false,[p.2],t,[]⟩⟩]:List aG)):=by rw[List.take_length]
   generalize [dK t]++(ps.take ps.length).flatMap (λp:List UInt8×List UInt8=>([⟨[105,115,95]++p.1,⟨false,[t],[98,111,111,108],[]⟩⟩,⟨[109,97,107,101,95]++p.1,⟨false,[p.2],t,[]⟩⟩]:List aG))=LL at *;go_wp2_with fail;go_ret;subst TR;exact⟨_,rfl,by simpa[dK] using hown.mono Cb.size,Cb.trans (af hB Cb.size)⟩
  case pos=>
   have Rj:=hp1.below hB;obtain⟨b1,o1,cz,⟨nm,ty⟩,kj,hx,kK,mR⟩:=Rj.at hlt;injection kj with kj;subst kj;obtain⟨hnm,hty⟩:=hps _ (List.mem_of_getElem? hx);simp only at hnm hty kK mR;have pG:=Lib.hid (show([dK t]++(ps.take i).flatMap (λp:List UInt8×List UInt8=>([⟨[105,115,95]++p.1,⟨false,[t],[98,111,111,108],[]⟩⟩,⟨[109,97,107,101,95]++p.1,⟨false,[p.2],t,[]⟩⟩]:List aG)))++((λp:List UInt8×List UInt8=>([⟨[105,115,95]++p.1,⟨false,[t],[98,111,111,108],[]⟩⟩,⟨[109,97,107,101,95]++p.1,⟨false,[p.2],t,[]⟩⟩]:List aG)) (nm,ty))=[dK t]++(ps.take (i+1)).flatMap (λp:List UInt8×List UInt8=>([⟨[105,115,95]++p.1,⟨false,[t],[98,111,111,108],[]⟩⟩,⟨[109,97,107,101,95]++p.1,⟨false,[p.2],t,[]⟩⟩]:List aG)) by rw[List.append_assoc,List.take_add_one,hx];simp);have hlen:([dK t]++(ps.take i).flatMap (λp:List UInt8×List UInt8=>([⟨[105,115,95]++p.1,⟨false,[t],[98,111,111,108],[]⟩⟩,⟨[109,97,107,101,95]++p.1,⟨false,[p.2],t,[]⟩⟩]:List aG))).length≤300:=by
    simp only[List.length_append,List.length_flatMap,List.length_cons,List.length_nil,List.map_const',List.sum_replicate_nat,List.length_take];omega
   generalize ([dK t]++(ps.take i).flatMap (λp:List UInt8×List UInt8=>([⟨[105,115,95]++p.1,⟨false,[t],[98,111,111,108],[]⟩⟩,⟨[109,97,107,101,95]++p.1,⟨false,[p.2],t,[]⟩⟩]:List aG)))=L at *;have ue:=dY ff hB (bH ff);have gi:(i:Int)<(ps.length:Int):=by omega
   go_upto_region 6 with fail;have H6:=heap_alloc_new wr (.cells #[.string ⟨nm.toArray⟩,.string ⟨ty.toArray⟩] 155);have Cc:=aH (.cells #[.string ⟨nm.toArray⟩,.string ⟨ty.toArray⟩] 155) ue;have OX:=hown.below ((Below.refl _ wr).alloc (nl _) (.cells #[.string ⟨nm.toArray⟩,.string ⟨ty.toArray⟩] 155)) (nl _);have Aj:=hB.alloc hB.size (.cells #[.string ⟨nm.toArray⟩,.string ⟨ty.toArray⟩] 155);clear ue hown hB Rj kK mR;generalize wr.alloc (.cells #[.string ⟨nm.toArray⟩,.string ⟨ty.toArray⟩] 155)=WB at *;generalize wr.heap.size=PB at *;refine mK (S:=λw'=>w'.heap[PB]? =some (.cells #[str nm,str ty] 155 (0,0))∧w'.heap[w.heap.size]? =some (.cells #[.map (some m),.slice q n c,.bool p,str t] 145 (0,0))∧dU w1.heap.size w' (.slice pv L.length cv) L∧Below WB.heap.size WB w') (A:=λj v w'=>match j with
    | 0=>v=.slice pv L.length cv
    | 1=>v=.pointer (some ⟨PB,0,none⟩)
    | 2=>v=str nm
    | 3=>v=str ([105,115,95]++nm)
    | 4=>v=.pointer (some ⟨w.heap.size,3,none⟩)
    | 5=>v=str t
    | 6=>SS (λb=>WB.heap.size≤b) w' v [t]
    | 7=>aT (λb=>WB.heap.size≤b) w' v ⟨false,[t],[98,111,111,108],[]⟩
    | 8=>gR (λb=>WB.heap.size≤b) w' v ⟨[105,115,95]++nm,⟨false,[t],[98,111,111,108],[]⟩⟩
    | 9=>v=.pointer (some ⟨PB,0,none⟩)
    | 10=>v=str nm
    | 11=>v=str ([109,97,107,101,95]++nm)
    | 12=>v=.pointer (some ⟨w.heap.size,3,none⟩)
    | 13=>v=str t
    | 14=>v=.pointer (some ⟨PB,1,none⟩)
    | 15=>v=str ty
    | 16=>SS (λb=>WB.heap.size≤b) w' v [ty]
    | 17=>aT (λb=>WB.heap.size≤b) w' v ⟨false,[ty],t,[]⟩
    | 18=>gR (λb=>WB.heap.size≤b) w' v ⟨[109,97,107,101,95]++nm,⟨false,[ty],t,[]⟩⟩
    | 19=>oB (λb=>WB.heap.size≤b) WB.heap.size w' v [⟨[105,115,95]++nm,⟨false,[t],[98,111,111,108],[]⟩⟩,⟨[109,97,107,101,95]++nm,⟨false,[ty],t,[]⟩⟩]
    | _=>True) 20 (by kernel_rfl) (by decide) (by kernel_rfl) (by kernel_rfl) (by kernel_rfl) ?_ (λw1 w2 h hb=>⟨ah h.1 hb,ah h.2.1 hb,h.2.2.1.below hb (nl _),h.2.2.2.trans (af hb h.2.2.2.size)⟩) ⟨H6,Cc,OX.below (Below.refl _ WB).drew (nl _),(Below.refl _ _).drew⟩ (sH ⟨?_,?_,?_,?_,?_,?_,?_,?_,?_,?_,?_,?_,?_,?_,?_,?_,?_,?_,?_,?_,trivial⟩) ?_
   · intro j v w1 w2 h hb
     match j with
     | 0=>exact h
     | 1=>exact h
     | 2=>exact h
     | 3=>exact h
     | 4=>exact h
     | 5=>exact h
     | 6=>exact SS.below (show SS (λb=>WB.heap.size≤b) w1 v [t] from h) hb (nl _)
     | 7=>exact aT.below (show aT (λb=>WB.heap.size≤b) w1 v ⟨false,[t],[98,111,111,108],[]⟩ from h) hb (nl _)
     | 8=>exact gR.below (show gR (λb=>WB.heap.size≤b) w1 v ⟨[105,115,95]++nm,⟨false,[t],[98,111,111,108],[]⟩⟩ from h) hb (nl _)
     | 9=>exact h
     | 10=>exact h
     | 11=>exact h
     | 12=>exact h
     | 13=>exact h
     | 14=>exact h
     | 15=>exact h
     | 16=>exact SS.below (show SS (λb=>WB.heap.size≤b) w1 v [ty] from h) hb (nl _)
     | 17=>exact aT.below (show aT (λb=>WB.heap.size≤b) w1 v ⟨false,[ty],t,[]⟩ from h) hb (nl _)
     | 18=>exact gR.below (show gR (λb=>WB.heap.size≤b) w1 v ⟨[109,97,107,101,95]++nm,⟨false,[ty],t,[]⟩⟩ from h) hb (nl _)
     | 19=>exact oB.below (show oB (λb=>WB.heap.size≤b) WB.heap.size w1 v [⟨[105,115,95]++nm,⟨false,[t],[98,111,111,108],[]⟩⟩,⟨[109,97,107,101,95]++nm,⟨false,[ty],t,[]⟩⟩] from h) hb (nl _)
     | _+20=>trivial
   · intro x wx hS hd ho next hn
     have hle:WB.heap.size≤wx.heap.size:=hS.2.2.2.size;have hc:=(aU hS.2.1).1;have jF:=fJ hS.1;have e5:x.tmps[5]?.getD undef=.slice pv L.length cv:=bA (ho 5 (gO (by kernel_rfl)));clear hd ho;unfold Oper.wp;simp only[execOp];simp[go_sem,e5];exact hn _ _ rfl (Below.refl _ _)
   · intro x wx hS hd ho next hn
     have hle:WB.heap.size≤wx.heap.size:=hS.2.2.2.size;have hc:=(aU hS.2.1).1;have jF:=fJ hS.1;have e7:x.tmps[7]?.getD undef=.pointer (some ⟨PB,0,none⟩):=bA (ho 7 (gO (by kernel_rfl)));clear hd ho;unfold Oper.wp;simp only[execOp];simp[go_sem,e7];exact hn _ _ rfl (Below.refl _ _)
   · intro x wx hS hd ho next hn
     have hle:WB.heap.size≤wx.heap.size:=hS.2.2.2.size;have hc:=(aU hS.2.1).1;have jF:=fJ hS.1;have Gw:x.tmps[24]?.getD undef=.pointer (some ⟨PB,0,none⟩):=bA (hd {on:=1,ground:=.data } (by simp) rfl _ 24 rfl rfl);clear hd ho;unfold Oper.wp;simp only[execOp];simp[go_sem,Gw,jF];exact hn _ _ rfl (Below.refl _ _)
   · intro x wx hS hd ho next hn
     have hle:WB.heap.size≤wx.heap.size:=hS.2.2.2.size;have hc:=(aU hS.2.1).1;have jF:=fJ hS.1;have Ox:x.tmps[25]?.getD undef=str nm:=bA (hd {on:=2,ground:=.data } (by simp) rfl _ 25 rfl rfl);clear hd ho;unfold Oper.wp;simp only[execOp];simp[go_sem,Ox];rw[if_neg (by omega)];exact hn _ _ rfl (Below.refl _ _)
   · intro x wx hS hd ho next hn
     have hle:WB.heap.size≤wx.heap.size:=hS.2.2.2.size;have hc:=(aU hS.2.1).1;have jF:=fJ hS.1;have e1:x.tmps[1]?.getD undef=.pointer (some ⟨w.heap.size,0,none⟩):=bA (ho 1 (gO (by kernel_rfl)));clear hd ho;unfold Oper.wp;simp only[execOp];simp[go_sem,e1];exact hn _ _ rfl (Below.refl _ _)
   · intro x wx hS hd ho next hn
     have hle:WB.heap.size≤wx.heap.size:=hS.2.2.2.size;have hc:=(aU hS.2.1).1;have jF:=fJ hS.1;have Oz:x.tmps[27]?.getD undef=.pointer (some ⟨w.heap.size,3,none⟩):=bA (hd {on:=4,ground:=.data } (by simp) rfl _ 27 rfl rfl);clear hd ho;unfold Oper.wp;simp only[execOp];simp[go_sem,Oz,hc];exact hn _ _ rfl (Below.refl _ _)
   · intro x wx hS hd ho next hn
     have hle:WB.heap.size≤wx.heap.size:=hS.2.2.2.size;have hc:=(aU hS.2.1).1;have jF:=fJ hS.1;have OA:x.tmps[28]?.getD undef=str t:=bA (hd {on:=5,ground:=.data } (by simp) rfl _ 28 rfl rfl);clear hd ho;unfold Oper.wp;simp only[execOp];simp[go_sem,OA];exact hn _ _ (SS.new (λb=>WB.heap.size≤b) wx (show WB.heap.size≤wx.heap.size from hle) [t] 9 (0,0) (by unfold maxLen;simp) (by intro s hs;simp only[List.mem_cons,List.not_mem_nil,or_false] at hs;rcases hs with hs<;>rw[hs]<;>first|exact ht|exact hty|simp[maxLen])) ((Below.refl _ _).alloc (nl _) _)
   · intro x wx hS hd ho next hn
     have hle:WB.heap.size≤wx.heap.size:=hS.2.2.2.size;have hc:=(aU hS.2.1).1;have jF:=fJ hS.1;have Tq:SS (λb=>WB.heap.size≤b) wx (x.eval (.tmp 29)) [t]:=(hd {on:=6,ground:=.data } (by simp) rfl _ 29 rfl rfl);obtain⟨p29,c29,Kr,_⟩:=Tq.shape;rw[Kr] at Tq;have Kr:=bA Kr;clear hd ho;unfold Oper.wp;simp only[execOp];simp[go_sem,Kr];refine(mm _ _ _ wx Tq (by first|exact ht|exact hty|simp[maxLen])).mono ?_;rintro e w3 ⟨u,rfl,hu,hb⟩;exact hn _ _ hu hb
   · intro x wx hS hd ho next hn
     have hle:WB.heap.size≤wx.heap.size:=hS.2.2.2.size;have hc:=(aU hS.2.1).1;have jF:=fJ hS.1;have Oy:x.tmps[26]?.getD undef=str ([105,115,95]++nm):=bA (hd {on:=3,ground:=.data } (by simp) rfl _ 26 rfl rfl);have Yp:aT (λb=>WB.heap.size≤b) wx (x.eval (.tmp 30)) ⟨false,[t],[98,111,111,108],[]⟩:=(hd {on:=7,ground:=.data } (by simp) rfl _ 30 rfl rfl);obtain⟨x30,y30,J6,ZX,Xg,WZ⟩:=Yp;obtain⟨Z6,XQ,rfl,_⟩:=Xg.shape;obtain⟨zae,XY,rfl,_⟩:=WZ.shape;have J6:=bA J6;clear hd ho;unfold Oper.wp;simp only[execOp];simp[go_sem,Oy,J6];exact hn _ _ ⟨_,_,rfl,⟨by first|(simp[maxLen];done)|(simp[maxLen];omega),ZX⟩,Xg,WZ⟩ (Below.refl _ _)
   · intro x wx hS hd ho next hn
     have hle:WB.heap.size≤wx.heap.size:=hS.2.2.2.size;have hc:=(aU hS.2.1).1;have jF:=fJ hS.1;have e7:x.tmps[7]?.getD undef=.pointer (some ⟨PB,0,none⟩):=bA (ho 7 (gO (by kernel_rfl)));clear hd ho;unfold Oper.wp;simp only[execOp];simp[go_sem,e7];exact hn _ _ rfl (Below.refl _ _)
   · intro x wx hS hd ho next hn
     have hle:WB.heap.size≤wx.heap.size:=hS.2.2.2.size;have hc:=(aU hS.2.1).1;have jF:=fJ hS.1;have LQ:x.tmps[32]?.getD undef=.pointer (some ⟨PB,0,none⟩):=bA (hd {on:=9,ground:=.data } (by simp) rfl _ 32 rfl rfl);clear hd ho;unfold Oper.wp;simp only[execOp];simp[go_sem,LQ,jF];exact hn _ _ rfl (Below.refl _ _)
   · intro x wx hS hd ho next hn
     have hle:WB.heap.size≤wx.heap.size:=hS.2.2.2.size;have hc:=(aU hS.2.1).1;have jF:=fJ hS.1;have LR:x.tmps[33]?.getD undef=str nm:=bA (hd {on:=10,ground:=.data } (by simp) rfl _ 33 rfl rfl);clear hd ho;unfold Oper.wp;simp only[execOp];simp[go_sem,LR];rw[if_neg (by omega)];exact hn _ _ rfl (Below.refl _ _)
   · intro x wx hS hd ho next hn
     have hle:WB.heap.size≤wx.heap.size:=hS.2.2.2.size;have hc:=(aU hS.2.1).1;have jF:=fJ hS.1;have e1:x.tmps[1]?.getD undef=.pointer (some ⟨w.heap.size,0,none⟩):=bA (ho 1 (gO (by kernel_rfl)));clear hd ho;unfold Oper.wp;simp only[execOp];simp[go_sem,e1];exact hn _ _ rfl (Below.refl _ _)
   · intro x wx hS hd ho next hn
     have hle:WB.heap.size≤wx.heap.size:=hS.2.2.2.size;have hc:=(aU hS.2.1).1;have jF:=fJ hS.1;have Tj:x.tmps[35]?.getD undef=.pointer (some ⟨w.heap.size,3,none⟩):=bA (hd {on:=12,ground:=.data } (by simp) rfl _ 35 rfl rfl);clear hd ho;unfold Oper.wp;simp only[execOp];simp[go_sem,Tj,hc];exact hn _ _ rfl (Below.refl _ _)
   · intro x wx hS hd ho next hn
     have hle:WB.heap.size≤wx.heap.size:=hS.2.2.2.size;have hc:=(aU hS.2.1).1;have jF:=fJ hS.1;have e7:x.tmps[7]?.getD undef=.pointer (some ⟨PB,0,none⟩):=bA (ho 7 (gO (by kernel_rfl)));clear hd ho;unfold Oper.wp;simp only[execOp];simp[go_sem,e7];exact hn _ _ rfl (Below.refl _ _)
   · intro x wx hS hd ho next hn
     have hle:WB.heap.size≤wx.heap.size:=hS.2.2.2.size;have hc:=(aU hS.2.1).1;have jF:=fJ hS.1;have OB:x.tmps[37]?.getD undef=.pointer (some ⟨PB,1,none⟩):=bA (hd {on:=14,ground:=.data } (by simp) rfl _ 37 rfl rfl);clear hd ho;unfold Oper.wp;simp only[execOp];simp[go_sem,OB,jF];exact hn _ _ rfl (Below.refl _ _)
   · intro x wx hS hd ho next hn
     have hle:WB.heap.size≤wx.heap.size:=hS.2.2.2.size;have hc:=(aU hS.2.1).1;have jF:=fJ hS.1;have Pp:x.tmps[38]?.getD undef=str ty:=bA (hd {on:=15,ground:=.data } (by simp) rfl _ 38 rfl rfl);clear hd ho;unfold Oper.wp;simp only[execOp];simp[go_sem,Pp];exact hn _ _ (SS.new (λb=>WB.heap.size≤b) wx (show WB.heap.size≤wx.heap.size from hle) [ty] 9 (0,0) (by unfold maxLen;simp) (by intro s hs;simp only[List.mem_cons,List.not_mem_nil,or_false] at hs;rcases hs with hs<;>rw[hs]<;>first|exact ht|exact hty|simp[maxLen])) ((Below.refl _ _).alloc (nl _) _)
   · intro x wx hS hd ho next hn
     have hle:WB.heap.size≤wx.heap.size:=hS.2.2.2.size;have hc:=(aU hS.2.1).1;have jF:=fJ hS.1;have Tk:x.tmps[36]?.getD undef=str t:=bA (hd {on:=13,ground:=.data } (by simp) rfl _ 36 rfl rfl);have Pu:SS (λb=>WB.heap.size≤b) wx (x.eval (.tmp 39)) [ty]:=(hd {on:=16,ground:=.data } (by simp) rfl _ 39 rfl rfl);obtain⟨p39,c39,LU,_⟩:=Pu.shape;rw[LU] at Pu;have LU:=bA LU;clear hd ho;unfold Oper.wp;simp only[execOp];simp[go_sem,Tk,LU];refine(mm _ _ _ wx Pu (by first|exact ht|exact hty|simp[maxLen])).mono ?_;rintro e w3 ⟨u,rfl,hu,hb⟩;exact hn _ _ hu hb
   · intro x wx hS hd ho next hn
     have hle:WB.heap.size≤wx.heap.size:=hS.2.2.2.size;have hc:=(aU hS.2.1).1;have jF:=fJ hS.1;have Ks:x.tmps[34]?.getD undef=str ([109,97,107,101,95]++nm):=bA (hd {on:=11,ground:=.data } (by simp) rfl _ 34 rfl rfl);have Yt:aT (λb=>WB.heap.size≤b) wx (x.eval (.tmp 40)) ⟨false,[ty],t,[]⟩:=(hd {on:=17,ground:=.data } (by simp) rfl _ 40 rfl rfl);obtain⟨x40,y40,Pq,Z1,Xk,Xc⟩:=Yt;obtain⟨zaa,XU,rfl,_⟩:=Xk.shape;obtain⟨zai,X7,rfl,_⟩:=Xc.shape;have Pq:=bA Pq;clear hd ho;unfold Oper.wp;simp only[execOp];simp[go_sem,Ks,Pq];exact hn _ _ ⟨_,_,rfl,⟨by first|(simp[maxLen];done)|(simp[maxLen];omega),Z1⟩,Xk,Xc⟩ (Below.refl _ _)
   · intro x wx hS hd ho next hn
     have hle:WB.heap.size≤wx.heap.size:=hS.2.2.2.size;have hc:=(aU hS.2.1).1;have jF:=fJ hS.1;have Yq:gR (λb=>WB.heap.size≤b) wx (x.eval (.tmp 31)) ⟨[105,115,95]++nm,⟨false,[t],[98,111,111,108],[]⟩⟩:=(hd {on:=8,ground:=.data } (by simp) rfl _ 31 rfl rfl);obtain⟨x31,y31,J7,ZY,Xh,W9⟩:=Yq;obtain⟨Z7,XR,rfl,_⟩:=Xh.shape;obtain⟨zaf,XZ,rfl,_⟩:=W9.shape;have J7:=bA J7;have Yu:gR (λb=>WB.heap.size≤b) wx (x.eval (.tmp 41)) ⟨[109,97,107,101,95]++nm,⟨false,[ty],t,[]⟩⟩:=(hd {on:=18,ground:=.data } (by simp) rfl _ 41 rfl rfl);obtain⟨x41,y41,Pr,Z2,Xl,Xd⟩:=Yu;obtain⟨zab,XV,rfl,_⟩:=Xl.shape;obtain⟨zaj,X8,rfl,_⟩:=Xd.shape;have Pr:=bA Pr;clear hd ho;unfold Oper.wp;simp only[execOp];simp[go_sem,J7,Pr];exact hn _ _ (Bw (D:=(λb=>WB.heap.size≤b)) wx hle rfl (by unfold maxLen;simp) ⟨_,_,_,rfl,ZY,Xh,W9,_,_,_,rfl,Z2,Xl,Xd,rfl⟩) ((Below.refl _ _).alloc (nl _) _)
   · intro x wx hdf hsz hout hS hA
     have eL:x.tmps.getD 23 undef=.slice pv L.length cv:=hA 0 _ 23 (by decide) rfl rfl;have hR:oB (λb=>WB.heap.size≤b) WB.heap.size wx (x.tmps.getD 42 undef) [⟨[105,115,95]++nm,⟨false,[t],[98,111,111,108],[]⟩⟩,⟨[109,97,107,101,95]++nm,⟨false,[ty],t,[]⟩⟩]:=hA 19 _ 42 (by decide) rfl rfl;obtain⟨pR,cR,eR⟩:=hR.shape;rw[eR] at hR;have ha:=qW hdf hsz hout;rw[ha];simp only[List.take_succ_cons,List.take_zero,dQ,eL,eR,pz,pw];clear ha hA hout hdf hsz
     show wpAny _ _ _ _ (1+1) _ _ _
     refine wpAny_ready (rs:=[20]) (by kernel_rfl) (by simp) (AllReady.cons rfl (λK' hK=>?_) AllReady.nil);rw[if_pos (by kernel_rfl)];refine wL (.tmp 23) (.tmp 42) rfl (v:=.slice pv L.length cv) (y:=.slice pR 2 cR) (by simp[Act.eval]) (by simp[Act.eval]) hS.2.2.1 hR (by simp) (λb hb e=>absurd (OX.lt e).2 (by omega)) (by simp;omega) (Nat.le_trans Aj.size hS.2.2.2.size) (λv' w5 h5 cW=>hK _ _ ?_);simp only[Act.put,List.setIfInBounds_toArray];refine wpAny_ready (fuel:=0) (rs:=[20+1]) (by kernel_rfl) (by simp) (AllReady.cons rfl (λK' hK=>?_) AllReady.nil);rw[if_pos (by kernel_rfl)];unfold Oper.wp;simp only[execOp];simp[go_sem];refine hK _ _ (wpAny_done (by kernel_rfl) ?_ _);go_wp2_with fail;refine⟨⟨i+1,hlt,by go_num,pG.out▸h5,(Aj.trans (af hS.2.2.2 Aj.size)).trans cW⟩,by simp only[intOf];omega⟩
end Go.Proofs.YtakgjcfkdemipaaGreatDoor
namespace Go.Proofs.YtakgjcfkdemipaaGreatDoor
open Go.RowKit
set_option maxRecDepth 8000 in
theorem Bp (v:Value) (m:Nat) (nv:Value) (p:Bool) (t:List UInt8) (w:World) (hT:fN w) (KS:(cK t).1.length≤100) (hps:∀x∈(cK t).1,x.1.length≤1000∧x.2.length≤maxLen) (hv:yC v m nv p t) (ht:t.length≤maxLen):
 Calls Tryz.prog 181 #[v] w λe w'=>∃u,e=.returned u∧dU w.heap.size w' u (([⟨[101,113,117,97,108],⟨false,[t,t],[98,111,111,108],[]⟩⟩]:List aG)++(cK t).1.flatMap (λp:List UInt8×List UInt8=>([⟨[103,101,116,95]++p.1,⟨false,[t],p.2,[]⟩⟩,⟨[115,101,116,95]++p.1,⟨false,[t,p.2],[],[]⟩⟩]:List aG))++[⟨[109,97,107,101],⟨false,((cK t).1.map (·.2)),t,[]⟩⟩])∧Below w.heap.size w w':=by
 obtain⟨rfl,q,n,c,rfl⟩:=hv
 have cI:=heap_alloc_new w (.cells #[.map (some m),.slice q n c,.bool p,str t] 145)
 have hA:=(Below.refl _ w).alloc (nl _) (.cells #[.map (some m),.slice q n c,.bool p,str t] 145)
 have HC:=ux t ht (w.alloc (.cells #[.map (some m),.slice q n c,.bool p,str t] 145)) (hT.below hA (nl _))
 have bx:=(aU cI).1
 obtain⟨i0,fV,hz0,hz1,hz2⟩:=bu pJ
 obtain⟨i1,hj0,hy0,hy1,hy2⟩:=bu iP
 generalize (cK t).1=ps at *
 go_enter Tryz.func181,Tryz.ntmps181
 go_wp2_with (first
  | (go_at_call 238;refine(lN _ m _ _ t _ ⟨rfl,_,_,_,rfl⟩ ht).mono ?_;rintro e w2 ⟨u,rfl,⟨x,y,rfl,l1,r1,q1⟩,aA⟩;obtain⟨p1,c1,rfl,_⟩:=r1.shape;obtain⟨p2,c2,rfl,_⟩:=q1.shape)
  | (go_at_call 241;refine HC.mono ?_;clear HC;rintro e w1 ⟨v,rfl,hp1,ay⟩;obtain⟨pp,cp,rfl⟩:=hp1.shape;have ff:=ah cI ay;have rV:=(aU ff).1))
 have hs2:=aA.size
 have hs1:=ay.size
 simp only[World.size_alloc] at hs1
 have hown:=lD (B:=w1.heap.size) (n:=1) w2 hs2 rfl (by unfold maxLen;simp) (show bN (λb=>w1.heap.size≤b) w2 _ [dK t] from⟨_,_,_,rfl,l1,r1,q1,rfl⟩)
 have hB:=aA.alloc hs2 (.cells #[str (dK t).name,.bool (dK t).sig.iter,.slice p1 (dK t).sig.args.length c1,str (dK t).sig.res,.slice p2 (dK t).sig.sigs.length c2] 50)
 have Cb:Below w.heap.size w w1:=hA.trans (af ay (by simp))
 clear l1 r1 q1 aA hs2 rV hA ay cI bx
 generalize w2.alloc (.cells #[str (dK t).name,.bool (dK t).sig.iter,.slice p1 (dK t).sig.args.length c1,str (dK t).sig.res,.slice p2 (dK t).sig.sigs.length c2] 50)=W3 at *
 generalize Value.agg #[str (dK t).name,.bool (dK t).sig.iter,.slice p1 (dK t).sig.args.length c1,str (dK t).sig.res,.slice p2 (dK t).sig.sigs.length c2]=vEq
 generalize (some (⟨w2.heap.size,0,none⟩:Addr))=pE at *
 go_loopw [5,6,20] (λv a y wx=>∃i:Nat,i≤ps.length∧y=.int .i64 i∧iu (λb=>a.ownBlock=some b) w1.heap.size wx v ([dK t]++(ps.take i).flatMap (λp:List UInt8×List UInt8=>([⟨[103,101,116,95]++p.1,⟨false,[t],p.2,[]⟩⟩,⟨[115,101,116,95]++p.1,⟨false,[t,p.2],[],[]⟩⟩]:List aG)))∧wx.ownsRow w1.heap.size 9 1 a i (aD ((ps.take i).map (·.2)))∧Below w1.heap.size w1 wx) (λ_ _ y _=>ps.length - (intOf y).toNat)
 case atStart=>exact⟨0,Nat.zero_le _,by go_num,by simpa using hown.x (λb e=>by cases e),by simpa[aD] using World.ownsRow_nil _ _ _ _,hB⟩
 case round =>
  clear hown hB;obtain⟨i,hi,rfl,hown,hall,hB⟩:=hrel;obtain⟨pv,cv,rfl⟩:=hown.shape;obtain⟨pa,ca,rfl⟩:=aS hall
  by_cases hlt:i<ps.length
  case neg=>
   have hie:i=ps.length:=by omega
   subst hie;have TR:=Lib.hid (show [dK t]++(ps.take ps.length).flatMap (λp:List UInt8×List UInt8=>([⟨[103,101,116,95]++p.1,⟨false,[t],p.2,[]⟩⟩,⟨[115,101,116,95]++p.1,⟨false,[t,p.2],[],[]⟩⟩]:List aG))=[dK t]++ps.flatMap (λp:List UInt8×List UInt8=>([⟨[103,101,116,95]++p.1,⟨false,[t],p.2,[]⟩⟩,⟨[115,101,116,95]++p.1,⟨false,[t,p.2],[],[]⟩⟩]:List aG)) by rw[List.take_length]);have hlen:([dK t]++(ps.take ps.length).flatMap (λp:List UInt8×List UInt8=>([⟨[103,101,116,95]++p.1,⟨false,[t],p.2,[]⟩⟩,⟨[115,101,116,95]++p.1,⟨false,[t,p.2],[],[]⟩⟩]:List aG))).length≤300:=by
    simp only[List.length_append,List.length_flatMap,List.length_cons,List.length_nil,List.map_const',List.sum_replicate_nat,List.length_take];omega
   generalize [dK t]++(ps.take ps.length).flatMap (λp:List UInt8×List UInt8=>([⟨[103,101,116,95]++p.1,⟨false,[t],p.2,[]⟩⟩,⟨[115,101,116,95]++p.1,⟨false,[t,p.2],[],[]⟩⟩]:List aG))=LL at *;rw[List.take_length] at hall;have ue:=dY ff hB (bH ff);have iE:=(aU ue).1;obtain⟨cs,hcs,hC⟩:=hown.own;have nW:SS (λb=>(Value.slice pv LL.length cv).ownBlock≠some b) wr (.slice pa ps.length ca) (ps.map (·.2)):=by
    refine SS.bG (base:=w1.heap.size) (e:=9) ?_ ?_ ?_
    · rw[List.length_map];exact hall
    · intro s hs
      obtain⟨x,hx,rfl⟩:=List.mem_map.1 hs;exact(hps x hx).2
    · intro b hb
      exact zl hall hcs (by decide) b hb
   go_wp2_with (first
    | (at_builtin;refine aL _ rfl _ _ 31 rfl w1.heap.size 50 i0 _ 5 88 iT fV hz0 hz1 hz2 rfl (by decide) _ _ cs rfl (Fa.alloc _) ⟨w3.heap.size,0,none⟩ 1 1 [str [109,97,107,101],.bool false,.slice px nx Te,str t,.slice py 0 cb] rfl rfl (ew _ _ _) (by intro u hu;simp only[List.mem_cons,List.not_mem_nil,or_false] at hu;rcases hu with rfl|rfl|rfl|rfl|rfl<;>rfl) (by decide) (by unfold maxLen;omega) (by omega) (Nat.le_trans dg.size (by simp)) ?_;intro v' w5 dJ hgr n5)
    | (go_at_call 239;refine(mm _ (ps.map (·.2)) _ _ nW ht).mono ?_;rintro e w3 ⟨u3,rfl,⟨a3,q3,rfl,l3,r3,s3⟩,aK⟩;obtain⟨px,Te,hpx,_⟩:=r3.shape;obtain⟨py,cb,OZ,_⟩:=s3.shape;simp only[List.length_nil] at hpx OZ;generalize hnx:(ps.map (·.2)).length=nx at hpx;subst hpx OZ;have Fa:=az hcs aK (nl _);have PT:=hC.below aK (nl _);have dg:=hB.trans (af aK hB.size)))
   go_ret;have Gz:=(Below.refl _ w3).alloc (nl _) (.cells #[str [109,97,107,101],.bool false,.slice px nx Te,str t,.slice py 0 cb] 50);have h5:=dU.append (k:=[⟨[109,97,107,101],⟨false,ps.map (·.2),t,[]⟩⟩]) (PT.below Gz (nl _)) (bN.below Gz (nl _) ⟨_,_,[],rfl,⟨by simp[maxLen],l3⟩,r3,s3,rfl⟩) dJ hgr n5;have iq:=Below.grown (B:=w1.heap.size) (dg.alloc dg.size (.cells #[str [109,97,107,101],.bool false,.slice px nx Te,str t,.slice py 0 cb] 50)) hgr (Nat.le_trans dg.size (by simp)) (λk e=>(Fa.lt k e).1);rw[TR.out] at h5;exact⟨_,rfl,by simpa[dK] using h5.mono Cb.size,Cb.trans (af iq Cb.size)⟩
  case pos=>
   have Rj:=hp1.below hB;obtain⟨b1,o1,cz,⟨nm,ty⟩,kj,hx,kK,mR⟩:=Rj.at hlt;injection kj with kj;subst kj;obtain⟨hnm,hty⟩:=hps _ (List.mem_of_getElem? hx);simp only at hnm hty kK mR;have pG:=Lib.hid (show([dK t]++(ps.take i).flatMap (λp:List UInt8×List UInt8=>([⟨[103,101,116,95]++p.1,⟨false,[t],p.2,[]⟩⟩,⟨[115,101,116,95]++p.1,⟨false,[t,p.2],[],[]⟩⟩]:List aG)))++((λp:List UInt8×List UInt8=>([⟨[103,101,116,95]++p.1,⟨false,[t],p.2,[]⟩⟩,⟨[115,101,116,95]++p.1,⟨false,[t,p.2],[],[]⟩⟩]:List aG)) (nm,ty))=[dK t]++(ps.take (i+1)).flatMap (λp:List UInt8×List UInt8=>([⟨[103,101,116,95]++p.1,⟨false,[t],p.2,[]⟩⟩,⟨[115,101,116,95]++p.1,⟨false,[t,p.2],[],[]⟩⟩]:List aG)) by rw[List.append_assoc,List.take_add_one,hx];simp);have Sq:=Lib.hid (show aD ((ps.take i).map (·.2))++[str ty]=aD ((ps.take (i+1)).map (·.2)) by rw[List.take_add_one,hx];simp[aD]);have hlen:([dK t]++(ps.take i).flatMap (λp:List UInt8×List UInt8=>([⟨[103,101,116,95]++p.1,⟨false,[t],p.2,[]⟩⟩,⟨[115,101,116,95]++p.1,⟨false,[t,p.2],[],[]⟩⟩]:List aG))).length≤300:=by
    simp only[List.length_append,List.length_flatMap,List.length_cons,List.length_nil,List.map_const',List.sum_replicate_nat,List.length_take];omega
   generalize ([dK t]++(ps.take i).flatMap (λp:List UInt8×List UInt8=>([⟨[103,101,116,95]++p.1,⟨false,[t],p.2,[]⟩⟩,⟨[115,101,116,95]++p.1,⟨false,[t,p.2],[],[]⟩⟩]:List aG)))=L at *;generalize aD ((ps.take i).map (·.2))=LA at *;have ue:=dY ff hB (bH ff);have gi:(i:Int)<(ps.length:Int):=by omega
   have H6:=heap_alloc_new wr (.cells #[.string ⟨nm.toArray⟩,.string ⟨ty.toArray⟩] 155);have xb:=aH (.cells #[.string ⟨ty.toArray⟩] 9) H6;have cP:=fJ H6;have sV:=((Below.refl _ wr).alloc (nl _) (.cells #[.string ⟨nm.toArray⟩,.string ⟨ty.toArray⟩] 155)).alloc (by simp) (.cells #[.string ⟨ty.toArray⟩] 9);have OX:=hown.below sV (nl _);have QG:=az hall sV (nl _);have Aj:=hB.trans (af sV hB.size);have VW:=rY (w:=wr.alloc (.cells #[.string ⟨nm.toArray⟩,.string ⟨ty.toArray⟩] 155)) (n:=wr.heap.size+1) (by simp) (str ty) 9;have YM:∀b,(Value.slice pa i ca).ownBlock=some b→b<wr.heap.size:=λb e=>aV hall e
   have hne:=zl OX.choose_spec.1 QG (by decide);clear hown hall hB Rj;go_upto_region 8 with(at_builtin;refine aL _ rfl _ _ 34 rfl w1.heap.size 9 i1 _ 1 16 fD hj0 hy0 hy1 hy2 rfl (by decide) _ _ _ rfl QG ⟨wr.heap.size+1,0,none⟩ 1 1 [str ty] rfl rfl VW (by intro u hu;rw[List.mem_singleton.1 hu];rfl) (by decide) (by unfold maxLen;omega) (by omega) Aj.size ?_;intro a' WB Ih hgr n5);obtain⟨GI,R5,rfl⟩:=aS Ih;have Cc:=dG hgr (dY ue sV (bH ue)) (λe=>by have:=(QG.lt _ e).1;have:=bH ff;omega);have YK:=dG hgr xb (λe=>by have:=YM _ e;omega);have Rf:=OX.grow (a':=.slice GI (i+1) R5) hgr hne n5;have MW:=Below.grown (B:=w1.heap.size) Aj hgr Aj.size (λk e=>(QG.lt k e).1);clear ue H6 xb cP OX QG Aj VW hne kK mR;generalize wr.heap.size=PB at *;refine mK (S:=λw'=>w'.heap[PB]? =some (.cells #[str nm,str ty] 155 (0,0))∧w'.heap[w.heap.size]? =some (.cells #[.map (some m),.slice q n c,.bool p,str t] 145 (0,0))∧iu (λb=>(Value.slice GI (i+1) R5).ownBlock=some b) w1.heap.size w' (.slice pv L.length cv) L∧w'.ownsRow w1.heap.size 9 1 (.slice GI (i+1) R5) (i+1) (LA++[str ty])∧Below WB.heap.size WB w') (A:=λj v w'=>match j with
    | 0=>v=.slice pv L.length cv
    | 1=>v=.pointer (some ⟨PB,0,none⟩)
    | 2=>v=str nm
    | 3=>v=str ([103,101,116,95]++nm)
    | 4=>v=.pointer (some ⟨PB,1,none⟩)
    | 5=>v=str ty
    | 6=>v=.pointer (some ⟨w.heap.size,3,none⟩)
    | 7=>v=str t
    | 8=>SS (λb=>WB.heap.size≤b) w' v [t]
    | 9=>aT (λb=>WB.heap.size≤b) w' v ⟨false,[t],ty,[]⟩
    | 10=>gR (λb=>WB.heap.size≤b) w' v ⟨[103,101,116,95]++nm,⟨false,[t],ty,[]⟩⟩
    | 11=>v=.pointer (some ⟨PB,0,none⟩)
    | 12=>v=str nm
    | 13=>v=str ([115,101,116,95]++nm)
    | 14=>v=.pointer (some ⟨w.heap.size,3,none⟩)
    | 15=>v=str t
    | 16=>v=.pointer (some ⟨PB,1,none⟩)
    | 17=>v=str ty
    | 18=>SS (λb=>WB.heap.size≤b) w' v [t,ty]
    | 19=>aT (λb=>WB.heap.size≤b) w' v ⟨false,[t,ty],[],[]⟩
    | 20=>gR (λb=>WB.heap.size≤b) w' v ⟨[115,101,116,95]++nm,⟨false,[t,ty],[],[]⟩⟩
    | 21=>oB (λb=>WB.heap.size≤b) WB.heap.size w' v [⟨[103,101,116,95]++nm,⟨false,[t],ty,[]⟩⟩,⟨[115,101,116,95]++nm,⟨false,[t,ty],[],[]⟩⟩]
    | _=>True) 22 (by kernel_rfl) (by decide) (by kernel_rfl) (by kernel_rfl) (by kernel_rfl) ?_ (λw1 w2 h hb=>⟨ah h.1 hb,ah h.2.1 hb,h.2.2.1.below hb (nl _),az h.2.2.2.1 hb (nl _),h.2.2.2.2.trans (af hb h.2.2.2.2.size)⟩) ⟨YK,Cc,Rf.below (Below.refl _ WB).drew (nl _),az Ih (Below.refl _ WB).drew (nl _),(Below.refl _ _).drew⟩ (sH ⟨?_,?_,?_,?_,?_,?_,?_,?_,?_,?_,?_,?_,?_,?_,?_,?_,?_,?_,?_,?_,?_,?_,trivial⟩) ?_
   · intro j v w1 w2 h hb
     match j with
     | 0=>exact h
     | 1=>exact h
     | 2=>exact h
     | 3=>exact h
     | 4=>exact h
     | 5=>exact h
     | 6=>exact h
     | 7=>exact h
     | 8=>exact SS.below (show SS (λb=>WB.heap.size≤b) w1 v [t] from h) hb (nl _)
     | 9=>exact aT.below (show aT (λb=>WB.heap.size≤b) w1 v ⟨false,[t],ty,[]⟩ from h) hb (nl _)
     | 10=>exact gR.below (show gR (λb=>WB.heap.size≤b) w1 v ⟨[103,101,116,95]++nm,⟨false,[t],ty,[]⟩⟩ from h) hb (nl _)
     | 11=>exact h
     | 12=>exact h
     | 13=>exact h
     | 14=>exact h
     | 15=>exact h
     | 16=>exact h
     | 17=>exact h
     | 18=>exact SS.below (show SS (λb=>WB.heap.size≤b) w1 v [t,ty] from h) hb (nl _)
     | 19=>exact aT.below (show aT (λb=>WB.heap.size≤b) w1 v ⟨false,[t,ty],[],[]⟩ from h) hb (nl _)
     | 20=>exact gR.below (show gR (λb=>WB.heap.size≤b) w1 v ⟨[115,101,116,95]++nm,⟨false,[t,ty],[],[]⟩⟩ from h) hb (nl _)
     | 21=>exact oB.below (show oB (λb=>WB.heap.size≤b) WB.heap.size w1 v [⟨[103,101,116,95]++nm,⟨false,[t],ty,[]⟩⟩,⟨[115,101,116,95]++nm,⟨false,[t,ty],[],[]⟩⟩] from h) hb (nl _)
     | _+22=>trivial
   · intro x wx hS hd ho next hn
     have hle:WB.heap.size≤wx.heap.size:=hS.2.2.2.2.size;have hc:=(aU hS.2.1).1;have jF:=fJ hS.1;have e5:x.tmps[5]?.getD undef=.slice pv L.length cv:=bA (ho 5 (gO (by kernel_rfl)));clear hd ho;unfold Oper.wp;simp only[execOp];simp[go_sem,e5];exact hn _ _ rfl (Below.refl _ _)
   · intro x wx hS hd ho next hn
     have hle:WB.heap.size≤wx.heap.size:=hS.2.2.2.2.size;have hc:=(aU hS.2.1).1;have jF:=fJ hS.1;have e8:x.tmps[8]?.getD undef=.pointer (some ⟨PB,0,none⟩):=bA (ho 8 (gO (by kernel_rfl)));clear hd ho;unfold Oper.wp;simp only[execOp];simp[go_sem,e8];exact hn _ _ rfl (Below.refl _ _)
   · intro x wx hS hd ho next hn
     have hle:WB.heap.size≤wx.heap.size:=hS.2.2.2.2.size;have hc:=(aU hS.2.1).1;have jF:=fJ hS.1;have J6:x.tmps[30]?.getD undef=.pointer (some ⟨PB,0,none⟩):=bA (hd {on:=1,ground:=.data } (by simp) rfl _ 30 rfl rfl);clear hd ho;unfold Oper.wp;simp only[execOp];simp[go_sem,J6,jF];exact hn _ _ rfl (Below.refl _ _)
   · intro x wx hS hd ho next hn
     have hle:WB.heap.size≤wx.heap.size:=hS.2.2.2.2.size;have hc:=(aU hS.2.1).1;have jF:=fJ hS.1;have J7:x.tmps[31]?.getD undef=str nm:=bA (hd {on:=2,ground:=.data } (by simp) rfl _ 31 rfl rfl);clear hd ho;unfold Oper.wp;simp only[execOp];simp[go_sem,J7];rw[if_neg (by omega)];exact hn _ _ rfl (Below.refl _ _)
   · intro x wx hS hd ho next hn
     have hle:WB.heap.size≤wx.heap.size:=hS.2.2.2.2.size;have hc:=(aU hS.2.1).1;have jF:=fJ hS.1;have e8:x.tmps[8]?.getD undef=.pointer (some ⟨PB,0,none⟩):=bA (ho 8 (gO (by kernel_rfl)));clear hd ho;unfold Oper.wp;simp only[execOp];simp[go_sem,e8];exact hn _ _ rfl (Below.refl _ _)
   · intro x wx hS hd ho next hn
     have hle:WB.heap.size≤wx.heap.size:=hS.2.2.2.2.size;have hc:=(aU hS.2.1).1;have jF:=fJ hS.1;have LR:x.tmps[33]?.getD undef=.pointer (some ⟨PB,1,none⟩):=bA (hd {on:=4,ground:=.data } (by simp) rfl _ 33 rfl rfl);clear hd ho;unfold Oper.wp;simp only[execOp];simp[go_sem,LR,jF];exact hn _ _ rfl (Below.refl _ _)
   · intro x wx hS hd ho next hn
     have hle:WB.heap.size≤wx.heap.size:=hS.2.2.2.2.size;have hc:=(aU hS.2.1).1;have jF:=fJ hS.1;have e1:x.tmps[1]?.getD undef=.pointer (some ⟨w.heap.size,0,none⟩):=bA (ho 1 (gO (by kernel_rfl)));clear hd ho;unfold Oper.wp;simp only[execOp];simp[go_sem,e1];exact hn _ _ rfl (Below.refl _ _)
   · intro x wx hS hd ho next hn
     have hle:WB.heap.size≤wx.heap.size:=hS.2.2.2.2.size;have hc:=(aU hS.2.1).1;have jF:=fJ hS.1;have Tj:x.tmps[35]?.getD undef=.pointer (some ⟨w.heap.size,3,none⟩):=bA (hd {on:=6,ground:=.data } (by simp) rfl _ 35 rfl rfl);clear hd ho;unfold Oper.wp;simp only[execOp];simp[go_sem,Tj,hc];exact hn _ _ rfl (Below.refl _ _)
   · intro x wx hS hd ho next hn
     have hle:WB.heap.size≤wx.heap.size:=hS.2.2.2.2.size;have hc:=(aU hS.2.1).1;have jF:=fJ hS.1;have Tk:x.tmps[36]?.getD undef=str t:=bA (hd {on:=7,ground:=.data } (by simp) rfl _ 36 rfl rfl);clear hd ho;unfold Oper.wp;simp only[execOp];simp[go_sem,Tk];exact hn _ _ (SS.new (λb=>WB.heap.size≤b) wx (show WB.heap.size≤wx.heap.size from hle) [t] 9 (0,0) (by unfold maxLen;simp) (by intro s hs;simp only[List.mem_cons,List.not_mem_nil,or_false] at hs;rcases hs with hs<;>rw[hs]<;>first|exact ht|exact hty|simp[maxLen])) ((Below.refl _ _).alloc (nl _) _)
   · intro x wx hS hd ho next hn
     have hle:WB.heap.size≤wx.heap.size:=hS.2.2.2.2.size;have hc:=(aU hS.2.1).1;have jF:=fJ hS.1;have Ks:x.tmps[34]?.getD undef=str ty:=bA (hd {on:=5,ground:=.data } (by simp) rfl _ 34 rfl rfl);have Ts:SS (λb=>WB.heap.size≤b) wx (x.eval (.tmp 37)) [t]:=(hd {on:=8,ground:=.data } (by simp) rfl _ 37 rfl rfl);obtain⟨p37,c37,OB,_⟩:=Ts.shape;rw[OB] at Ts;have OB:=bA OB;clear hd ho;unfold Oper.wp;simp only[execOp];simp[go_sem,Ks,OB];refine(mm _ _ _ wx Ts (by first|exact ht|exact hty|simp[maxLen])).mono ?_;rintro e w3 ⟨u,rfl,hu,hb⟩;exact hn _ _ hu hb
   · intro x wx hS hd ho next hn
     have hle:WB.heap.size≤wx.heap.size:=hS.2.2.2.2.size;have hc:=(aU hS.2.1).1;have jF:=fJ hS.1;have LQ:x.tmps[32]?.getD undef=str ([103,101,116,95]++nm):=bA (hd {on:=3,ground:=.data } (by simp) rfl _ 32 rfl rfl);have Yr:aT (λb=>WB.heap.size≤b) wx (x.eval (.tmp 38)) ⟨false,[t],ty,[]⟩:=(hd {on:=9,ground:=.data } (by simp) rfl _ 38 rfl rfl);obtain⟨x38,y38,Pp,ZZ,Xi,Xa⟩:=Yr;obtain⟨Z8,XS,rfl,_⟩:=Xi.shape;obtain⟨zag,X5,rfl,_⟩:=Xa.shape;have Pp:=bA Pp;clear hd ho;unfold Oper.wp;simp only[execOp];simp[go_sem,LQ,Pp];exact hn _ _ ⟨_,_,rfl,⟨by first|(simp[maxLen];done)|(simp[maxLen];omega),ZZ⟩,Xi,Xa⟩ (Below.refl _ _)
   · intro x wx hS hd ho next hn
     have hle:WB.heap.size≤wx.heap.size:=hS.2.2.2.2.size;have hc:=(aU hS.2.1).1;have jF:=fJ hS.1;have e8:x.tmps[8]?.getD undef=.pointer (some ⟨PB,0,none⟩):=bA (ho 8 (gO (by kernel_rfl)));clear hd ho;unfold Oper.wp;simp only[execOp];simp[go_sem,e8];exact hn _ _ rfl (Below.refl _ _)
   · intro x wx hS hd ho next hn
     have hle:WB.heap.size≤wx.heap.size:=hS.2.2.2.2.size;have hc:=(aU hS.2.1).1;have jF:=fJ hS.1;have Pq:x.tmps[40]?.getD undef=.pointer (some ⟨PB,0,none⟩):=bA (hd {on:=11,ground:=.data } (by simp) rfl _ 40 rfl rfl);clear hd ho;unfold Oper.wp;simp only[execOp];simp[go_sem,Pq,jF];exact hn _ _ rfl (Below.refl _ _)
   · intro x wx hS hd ho next hn
     have hle:WB.heap.size≤wx.heap.size:=hS.2.2.2.2.size;have hc:=(aU hS.2.1).1;have jF:=fJ hS.1;have Pr:x.tmps[41]?.getD undef=str nm:=bA (hd {on:=12,ground:=.data } (by simp) rfl _ 41 rfl rfl);clear hd ho;unfold Oper.wp;simp only[execOp];simp[go_sem,Pr];rw[if_neg (by omega)];exact hn _ _ rfl (Below.refl _ _)
   · intro x wx hS hd ho next hn
     have hle:WB.heap.size≤wx.heap.size:=hS.2.2.2.2.size;have hc:=(aU hS.2.1).1;have jF:=fJ hS.1;have e1:x.tmps[1]?.getD undef=.pointer (some ⟨w.heap.size,0,none⟩):=bA (ho 1 (gO (by kernel_rfl)));clear hd ho;unfold Oper.wp;simp only[execOp];simp[go_sem,e1];exact hn _ _ rfl (Below.refl _ _)
   · intro x wx hS hd ho next hn
     have hle:WB.heap.size≤wx.heap.size:=hS.2.2.2.2.size;have hc:=(aU hS.2.1).1;have jF:=fJ hS.1;have Yg:x.tmps[43]?.getD undef=.pointer (some ⟨w.heap.size,3,none⟩):=bA (hd {on:=14,ground:=.data } (by simp) rfl _ 43 rfl rfl);clear hd ho;unfold Oper.wp;simp only[execOp];simp[go_sem,Yg,hc];exact hn _ _ rfl (Below.refl _ _)
   · intro x wx hS hd ho next hn
     have hle:WB.heap.size≤wx.heap.size:=hS.2.2.2.2.size;have hc:=(aU hS.2.1).1;have jF:=fJ hS.1;have e8:x.tmps[8]?.getD undef=.pointer (some ⟨PB,0,none⟩):=bA (ho 8 (gO (by kernel_rfl)));clear hd ho;unfold Oper.wp;simp only[execOp];simp[go_sem,e8];exact hn _ _ rfl (Below.refl _ _)
   · intro x wx hS hd ho next hn
     have hle:WB.heap.size≤wx.heap.size:=hS.2.2.2.2.size;have hc:=(aU hS.2.1).1;have jF:=fJ hS.1;have Yi:x.tmps[45]?.getD undef=.pointer (some ⟨PB,1,none⟩):=bA (hd {on:=16,ground:=.data } (by simp) rfl _ 45 rfl rfl);clear hd ho;unfold Oper.wp;simp only[execOp];simp[go_sem,Yi,jF];exact hn _ _ rfl (Below.refl _ _)
   · intro x wx hS hd ho next hn
     have hle:WB.heap.size≤wx.heap.size:=hS.2.2.2.2.size;have hc:=(aU hS.2.1).1;have jF:=fJ hS.1;have Yh:x.tmps[44]?.getD undef=str t:=bA (hd {on:=15,ground:=.data } (by simp) rfl _ 44 rfl rfl);have Yj:x.tmps[46]?.getD undef=str ty:=bA (hd {on:=17,ground:=.data } (by simp) rfl _ 46 rfl rfl);clear hd ho;unfold Oper.wp;simp only[execOp];simp[go_sem,Yh,Yj];exact hn _ _ (SS.new (λb=>WB.heap.size≤b) wx (show WB.heap.size≤wx.heap.size from hle) [t,ty] 9 (0,0) (by unfold maxLen;simp) (by intro s hs;simp only[List.mem_cons,List.not_mem_nil,or_false] at hs;rcases hs with hs|hs<;>rw[hs]<;>first|exact ht|exact hty|simp[maxLen])) ((Below.refl _ _).alloc (nl _) _)
   · intro x wx hS hd ho next hn
     have hle:WB.heap.size≤wx.heap.size:=hS.2.2.2.2.size;have hc:=(aU hS.2.1).1;have jF:=fJ hS.1;have Tt:SS (λb=>WB.heap.size≤b) wx (x.eval (.tmp 47)) [t,ty]:=(hd {on:=18,ground:=.data } (by simp) rfl _ 47 rfl rfl);obtain⟨p47,c47,R9,_⟩:=Tt.shape;rw[R9] at Tt;have R9:=bA R9;clear hd ho;unfold Oper.wp;simp only[execOp];simp[go_sem,R9];refine(mm _ _ _ wx Tt (by first|exact ht|exact hty|simp[maxLen])).mono ?_;rintro e w3 ⟨u,rfl,hu,hb⟩;exact hn _ _ hu hb
   · intro x wx hS hd ho next hn
     have hle:WB.heap.size≤wx.heap.size:=hS.2.2.2.2.size;have hc:=(aU hS.2.1).1;have jF:=fJ hS.1;have Yf:x.tmps[42]?.getD undef=str ([115,101,116,95]++nm):=bA (hd {on:=13,ground:=.data } (by simp) rfl _ 42 rfl rfl);have h48:aT (λb=>WB.heap.size≤b) wx (x.eval (.tmp 48)) ⟨false,[t,ty],[],[]⟩:=(hd {on:=19,ground:=.data } (by simp) rfl _ 48 rfl rfl);obtain⟨x48,y48,Tl,Z3,Xm,Xe⟩:=h48;obtain⟨zac,XW,rfl,_⟩:=Xm.shape;obtain⟨zak,X9,rfl,_⟩:=Xe.shape;have Tl:=bA Tl;clear hd ho;unfold Oper.wp;simp only[execOp];simp[go_sem,Yf,Tl];exact hn _ _ ⟨_,_,rfl,⟨by first|(simp[maxLen];done)|(simp[maxLen];omega),Z3⟩,Xm,Xe⟩ (Below.refl _ _)
   · intro x wx hS hd ho next hn
     have hle:WB.heap.size≤wx.heap.size:=hS.2.2.2.2.size;have hc:=(aU hS.2.1).1;have jF:=fJ hS.1;have Pu:gR (λb=>WB.heap.size≤b) wx (x.eval (.tmp 39)) ⟨[103,101,116,95]++nm,⟨false,[t],ty,[]⟩⟩:=(hd {on:=10,ground:=.data } (by simp) rfl _ 39 rfl rfl);obtain⟨x39,y39,LU,Z0,Xj,Xb⟩:=Pu;obtain⟨Z9,XT,rfl,_⟩:=Xj.shape;obtain⟨zah,X6,rfl,_⟩:=Xb.shape;have LU:=bA LU;have Yv:gR (λb=>WB.heap.size≤b) wx (x.eval (.tmp 49)) ⟨[115,101,116,95]++nm,⟨false,[t,ty],[],[]⟩⟩:=(hd {on:=20,ground:=.data } (by simp) rfl _ 49 rfl rfl);obtain⟨x49,y49,Tm,Z4,Xn,Xf⟩:=Yv;obtain⟨zad,XX,rfl,_⟩:=Xn.shape;obtain⟨zal,Ya,rfl,_⟩:=Xf.shape;have Tm:=bA Tm;clear hd ho;unfold Oper.wp;simp only[execOp];simp[go_sem,LU,Tm];exact hn _ _ (Bw (D:=(λb=>WB.heap.size≤b)) wx hle rfl (by unfold maxLen;simp) ⟨_,_,_,rfl,Z0,Xj,Xb,_,_,_,rfl,Z4,Xn,Xf,rfl⟩) ((Below.refl _ _).alloc (nl _) _)
   · intro x wx hdf hsz hout hS hA
     have eL:x.tmps.getD 29 undef=.slice pv L.length cv:=hA 0 _ 29 (by decide) rfl rfl;have hR:oB (λb=>WB.heap.size≤b) WB.heap.size wx (x.tmps.getD 50 undef) [⟨[103,101,116,95]++nm,⟨false,[t],ty,[]⟩⟩,⟨[115,101,116,95]++nm,⟨false,[t,ty],[],[]⟩⟩]:=hA 21 _ 50 (by decide) rfl rfl;obtain⟨pR,cR,eR⟩:=hR.shape;rw[eR] at hR;have ha:=qW hdf hsz hout;rw[ha];simp only[List.take_succ_cons,List.take_zero,dQ,eL,eR,pz,pw];clear ha hA hout hdf hsz
     show wpAny _ _ _ _ (1+1) _ _ _
     refine wpAny_ready (rs:=[22]) (by kernel_rfl) (by simp) (AllReady.cons rfl (λK' hK=>?_) AllReady.nil);rw[if_pos (by kernel_rfl)];refine vO (.tmp 29) (.tmp 50) rfl (v:=.slice pv L.length cv) (y:=.slice pR 2 cR) (by simp[Act.eval]) (by simp[Act.eval]) hS.2.2.1 hR (by simp) (λb hb=>⟨λe=>absurd (Rf.own.lt e).2 (by omega),λe=>absurd (aV Ih e) (by omega)⟩) (by simp;omega) (Nat.le_trans MW.size hS.2.2.2.2.size) (λv' w6 h6 jw nZ=>hK _ _ ?_);simp only[Act.put,List.setIfInBounds_toArray];refine wpAny_ready (fuel:=0) (rs:=[22+1]) (by kernel_rfl) (by simp) (AllReady.cons rfl (λK' hK=>?_) AllReady.nil);rw[if_pos (by kernel_rfl)];unfold Oper.wp;simp only[execOp];simp[go_sem];refine hK _ _ (wpAny_done (by kernel_rfl) ?_ _);have UN:=zl hS.2.2.2.1 hS.2.2.1.choose_spec.1 (by decide);go_wp2_with fail;have h7:=dL (w':=w6) hS.2.2.2.1 (λb e=>nZ.block b (aV hS.2.2.2.1 e) (λe2=>UN b e e2.symm));rw[Sq.out] at h7;rw[pG.out] at h6;refine⟨⟨v',.slice GI (i+1) R5,.pointer (some ⟨PB,0,none⟩),.int .i64 (i+1),⟨(i+1),by omega,by go_num,?_,?_,(MW.trans (af hS.2.2.2.2 MW.size)).trans jw⟩,rfl,rfl,rfl,rfl⟩,by simp only[intOf];omega⟩
     · simpa using h6
     · simpa using h7
end Go.Proofs.YtakgjcfkdemipaaGreatDoor
namespace Go.Proofs.YtakgjcfkdemipaaGreatDoor
open Go.RowKit Go.Maps Go.Deep
def G9 (f:aB) (n q:Value):Value:=.agg #[str f.name,.int .u8 f.kind,.bool f.par,n,q]
theorem yI {D:Nat→Prop} {w:World} {p:Option Addr} {c:Nat} {l:List aB} (h:aZ D w (.slice p l.length c) l):
 ∃g:Nat→Value×Value,∀j f,l[j]? =some f→f.name.length≤maxLen∧aJ D w (g j).1 f.ag∧aJ D w (g j).2 f.ops∧∃b o,p=some ⟨b,o,none⟩∧
  w.cell? ⟨b,o+j * 5,none⟩=some (str f.name)∧w.cell? ⟨b,o+j * 5+1,none⟩=some (.int .u8 f.kind)∧w.cell? ⟨b,o+j * 5+2,none⟩=some (.bool f.par)∧w.cell? ⟨b,o+j * 5+3,none⟩=some (g j).1∧w.cell? ⟨b,o+j * 5+4,none⟩=some (g j).2:=by
 have each:∀j,j<l.length→∃x:Value×Value,∀f,l[j]? =some f→f.name.length≤maxLen∧aJ D w x.1 f.ag∧aJ D w x.2 f.ops∧∃b o,p=some ⟨b,o,none⟩∧
  w.cell? ⟨b,o+j * 5,none⟩=some (str f.name)∧w.cell? ⟨b,o+j * 5+1,none⟩=some (.int .u8 f.kind)∧w.cell? ⟨b,o+j * 5+2,none⟩=some (.bool f.par)∧w.cell? ⟨b,o+j * 5+3,none⟩=some x.1∧w.cell? ⟨b,o+j * 5+4,none⟩=some x.2:=by
  intro j hj;obtain⟨b,o,n,q,h1,_,h2,h3,h4,h5⟩:=h.at (List.getElem?_eq_getElem hj);refine⟨(n,q),λf hf=>?_⟩;rw[List.getElem?_eq_getElem hj] at hf;cases hf;exact⟨h2,h3,h4,b,o,h1,h5⟩
 haveI:Inhabited (Value×Value):=⟨(undef,undef)⟩
 obtain⟨g,hg⟩:=choose_lt each
 exact⟨g,λj f hf=>hg j (List.getElem?_eq_some_iff.1 hf).1 f hf⟩
def qU (l:List aB) (g:Nat→Value×Value) (i:Nat):List (aB×Value):=(List.range i).map λj=>(l[j]?.getD default,G9 (l[j]?.getD default) (g j).1 (g j).2)
theorem DN {l:List aB} {g:Nat→Value×Value} {i:Nat} {f:aB} (h:l[i]? =some f):qU l g (i+1)=qU l g i++[(f,G9 f (g i).1 (g i).2)]:=by
 unfold qU
 rw[List.range_succ,List.map_append,List.map_cons,List.map_nil,h]
 rfl
theorem Gq (l:List aB) (g:Nat→Value×Value):(qU l g l.length).map (·.1)=l:=by
 unfold qU
 rw[List.map_map]
 apply List.ext_getElem?
 intro j
 by_cases hj:j<l.length
 · simp[hj]
 · simp[hj]
def MA (x:aB×Value):List UInt8×Value:=(x.1.name,x.2)
set_option maxRecDepth 8000 in
theorem sF {D:Nat→Prop} (l:List aB) (v:Value) (w:World) (hv:aZ D w v l) (hn:l.length≤100000):
 Calls Tryz.prog 91 #[v] w λe w'=>∃M,e=.returned (.agg #[.map (some M)])∧fI D w' M l∧Below w.heap.size w w':=by
 have hmm:=@run_makeMap Tryz.prog
 obtain⟨p,c,rfl,_,hm,hle⟩:=hv.shape
 unfold maxLen at hm
 obtain⟨g,hg⟩:=yI hv
 have HG:=Lib.hid hg
 clear hg
 have hB:=(((Below.refl _ w).alloc (nl _) (.cells #[.map none] 84)).alloc (by simp) (.map #[] 0)).alloc (by simp;omega) (.cells #[.map (some (w.heap.size+1))] 84)
 have GA:kn (((w.alloc (.cells #[.map none] 84)).alloc (.map #[] 0)).alloc (.cells #[.map (some (w.heap.size+1))] 84)) (w.heap.size+1) []:=by
  have:=kn.made (w.alloc (.cells #[.map none] 84));rw[World.size_alloc] at this;exact this.kept (World.grownBy_alloc _ _ none) (by simp)
 have h0:=aH (.cells #[.map (some (w.heap.size+1))] 84) (aH (.map #[] 0) (heap_alloc_new w (.cells #[.map none] 84)))
 have h3:=dD (w:=(w.alloc (.cells #[.map none] 84)).alloc (.map #[] 0)) (n:=w.heap.size+1+1) (by simp) #[.map (some (w.heap.size+1))] 84
 go_enter Tryz.func91,Tryz.ntmps91
 go_wp2_with fail
 generalize ((w.alloc (.cells #[.map none] 84)).alloc (.map #[] 0)).alloc (.cells #[.map (some (w.heap.size+1))] 84)=W at *
 go_loopw [10] (λy wx=>∃i:Nat,i≤l.length∧y=.int .i64 i∧kn wx (w.heap.size+1) ((qU l g i).map MA)∧wx.heap[w.heap.size]? =some (.cells #[.map none] 84)∧wx.heap[w.heap.size+1+1]? =some (.cells #[.map (some (w.heap.size+1))] 84)∧Below w.heap.size w wx) (λy _=>l.length - (intOf y).toNat)
 case atStart=>exact⟨0,Nat.zero_le _,by go_num,GA,h0,h3,hB⟩
 case round=>
  clear hB GA h0 h3;obtain⟨i,hi,rfl,fO,h0,h3,hb⟩:=hrel;have b0:=G2 h0;have b3:=(G2 h3).1
  by_cases hlt:i<l.length
  case neg=>
   have hie:i=l.length:=by omega
   subst hie;go_wp2_with fail;have hsh:fI (λb=>D b∧b<w.heap.size) wr (w.heap.size+1) l:=⟨qU l g l.length,Gq l g,fO,λx hx=>by
    obtain⟨j,hj,rfl⟩:=List.mem_map.1 hx;have hj':j<l.length:=List.mem_range.1 hj;have hk:l[j]? =some l[j]:=List.getElem?_eq_getElem hj';obtain⟨k1,k2,k3,_⟩:=HG.out j l[j] hk;rw[hk];exact⟨_,_,rfl,k1,k2.fresh.below hb (nl _),k3.fresh.below hb (nl _)⟩⟩
   refine bodyPost_ret (v:=.agg #[.map (some (w.heap.size+1))]) (by simp[results,Tryz.results91,go_sem,b0]) rfl ?_;refine⟨_,rfl,?_,hb.setCell (p:=⟨w.heap.size,0,none⟩) (nl _) _⟩;exact(hsh.set (a:=⟨w.heap.size,0,none⟩) (by simp) (by intro b hb;exact Nat.ne_of_lt hb.2) _).mono λb hb=>hb.1
  case pos=>
   obtain⟨f,UE⟩:∃f,l[i]? =some f:=⟨_,List.getElem?_eq_getElem hlt⟩
   obtain⟨hnl,hN,hO,b1,o1,rfl,d0,d1,d2,d3,d4⟩:=HG.out i f UE;have d0:=Below.keep hb d0;have d1:=Below.keep hb d1;have d2:=Below.keep hb d2;have d3:=Below.keep hb d3;have d4:=Below.keep hb d4;have HW:=Lib.hid (DN (g:=g) UE);obtain⟨pn,cn,en,_⟩:=hN.shape;obtain⟨po,co,eo,_⟩:=hO.shape;rw[en] at d3;rw[eo] at d4;have HE:=Lib.hid (show G9 f (g i).1 (g i).2=.agg #[str f.name,.int .u8 f.kind,.bool f.par,.slice pn f.ag.length cn,.slice po f.ops.length co] by rw[en,eo];rfl);clear UE hN hO en eo;have b3a:=(G2 (aH (.cells #[str f.name,.int .u8 f.kind,.bool f.par,.slice pn f.ag.length cn,.slice po f.ops.length co] 58) h3)).1;have mQ:=hb.alloc hb.size (.cells #[str f.name,.int .u8 f.kind,.bool f.par,.slice pn f.ag.length cn,.slice po f.ops.length co] 58);have Ym:=aH (.cells #[str f.name,.int .u8 f.kind,.bool f.par,.slice pn f.ag.length cn,.slice po f.ops.length co] 58) h0;have Ys:=aH (.cells #[str f.name,.int .u8 f.kind,.bool f.par,.slice pn f.ag.length cn,.slice po f.ops.length co] 58) h3;have xy:=fO.kept (World.grownBy_alloc wr (.cells #[str f.name,.int .u8 f.kind,.bool f.par,.slice pn f.ag.length cn,.slice po f.ops.length co] 58) none) (by simp);have hlen:((qU l g i).map MA).length<maxLen:=by
    unfold qU maxLen;simp;omega
   go_wp2_with (at_mapUpdate;refine sP _ rfl _ _ _ rfl (w.heap.size+1) _ rfl xy hlen f.name _ rfl rfl hnl ?_;intro w5 kY Aq);rw[←HE.out] at kY;refine⟨⟨i+1,hlt,by go_num,?_,dG Aq Ym (by simp),dG Aq Ys (by simp),mQ.grown Aq mQ.size (λk e=>by cases e;omega)⟩,by simp only[intOf];omega⟩;rw[HW.out,List.map_append];exact kY
set_option maxRecDepth 8000 in
theorem tR {D:Nat→Prop} (fs:List aB) (m:Nat) (n:List UInt8) (w:World) (hs:fI D w m fs) (ha:oF fs) (hn:n.length≤maxLen):
 Calls Tryz.prog 75 #[.agg #[.map (some m)],str n] w λe w'=>∃v,e=.returned (.tuple #[v,.bool (ez fs n).isSome])∧(ez fs n=none→v=oI)∧(∀f,ez fs n=some f→fE D w' v f)∧Below w.heap.size w w':=by
 have hA:=(Below.refl _ w).alloc (nl _) (.cells #[.map (some m)] 84)
 have hB:=hA.alloc (by simp) (.cells #[.string ⟨#[]⟩,.int .u8 0,.bool false,.slice none 0 0,.slice none 0 0] 58)
 have UZ:fI (λb=>D b∧b<w.heap.size) w m fs:=by
  obtain⟨L,k1,k2,k3⟩:=hs;exact⟨L,k1,k2,λx hx=>(k3 x hx).fresh⟩
 obtain⟨v,hlk,h1,h2⟩:=(UZ.below hB (nl _)).look ha hn
 rcases hq:ez fs n with _|f
 · obtain rfl:=h1 hq
   rw[hq] at hlk;have HQ:=Lib.hid hq;clear h1 h2 hq;dsimp only[Option.isSome_none] at hlk;go_enter Tryz.func75,Tryz.ntmps75;go_wp2_with fail;refine bodyPost_ret (v:=.tuple #[oI,.bool false]) (by simp[results,Tryz.results75,go_sem]) rfl ?_;exact⟨_,rfl,(λ_=>rfl),(λf hf=>by cases hf),(hB.alloc (by simp;omega) _)⟩
 · have hF:=h2 f hq
   rw[hq] at hlk;clear h1 h2 hq;dsimp only[Option.isSome_some] at hlk;obtain⟨nv,ov,rfl,hnl,hN,hO⟩:=hF;have VY:fE (λb=>D b∧b<w.heap.size) _ (.agg #[str f.name,.int .u8 f.kind,.bool f.par,nv,ov]) f:=⟨nv,ov,rfl,hnl,hN,hO⟩;have HF:=λW hW=>fE.agree VY (w':=W) hW
   clear VY;obtain⟨p1,c1,rfl,_⟩:=hN.shape;obtain⟨p2,c2,rfl,_⟩:=hO.shape;clear hN hO;go_enter Tryz.func75,Tryz.ntmps75;go_wp2_with fail;refine bodyPost_ret (v:=.tuple #[.agg #[str f.name,.int .u8 f.kind,.bool f.par,.slice p1 f.ag.length c1,.slice p2 f.ops.length c2],.bool true]) (by simp[results,Tryz.results75,go_sem]) rfl ?_;have PW:=((hA.alloc (by simp) (.cells #[.string ⟨f.name.toArray⟩,.int .u8 f.kind,.bool f.par,.slice p1 f.ag.length c1,.slice p2 f.ops.length c2] 58)).alloc (by simp;omega) (.cells #[.string ⟨f.name.toArray⟩,.int .u8 f.kind,.bool f.par,.slice p1 f.ag.length c1,.slice p2 f.ops.length c2] 58));refine⟨_,rfl,(λh=>by cases h),?_,PW⟩;intro g hg;cases hg;refine(HF _ λb hb hlt=>?_).mono λb hb=>hb.1
   exact(PW.block b hb.2).trans (hB.block b hb.2).symm
end Go.Proofs.YtakgjcfkdemipaaGreatDoor
namespace Go.Proofs.YtakgjcfkdemipaaGreatDoor
open Go.RowKit
set_option maxRecDepth 8000 in
theorem Fy {D:Nat→Prop} (v:Value) (m:Nat) (nv:Value) (p:Bool) (t:List UInt8) (fs:List aB) (w:World) (hv:yC v m nv p t) (ht:t.length≤maxLen) (hT:fN w) (GC:(dI t).1.length≤maxLen) (hs:fI D w m fs) (ha:oF fs):
 Calls Tryz.prog 183 #[v] w λe w'=>∃u,e=.returned u∧aJ D w' u (((ez fs (dI t).1).map (·.ops)).getD [])∧Below w.heap.size w w':=by
 obtain⟨rfl,q,n,c,rfl⟩:=hv
 have cI:=heap_alloc_new w (.cells #[.map (some m),.slice q n c,.bool p,str t] 145)
 have hA:=(Below.refl _ w).alloc (nl _) (.cells #[.map (some m),.slice q n c,.bool p,str t] 145)
 have HC:=xE t ht (w.alloc (.cells #[.map (some m),.slice q n c,.bool p,str t] 145)) (hT.below hA (nl _))
 have bx:=(aU cI).1
 have Rr:=hs.below hA (nl _)
 have HF:=λW hS=>tR (D:=D) fs m (dI t).1 W hS ha GC
 clear hs hT
 rcases hq:ez fs (dI t).1 with _|f
 · simp only[hq,Option.isSome_none,Option.map_none,Option.getD_none] at HF ⊢
   clear hq;generalize (dI t).1=nm at *;go_enter Tryz.func183,Tryz.ntmps183;go_wp2_with (first
    | (go_at_call 75;refine(HF _ (Rr.below ay (nl _))).mono ?_;rintro e w2 ⟨v,rfl,h1,h2,aA⟩;obtain rfl:=h1 trivial)
    | (go_at_call 120;refine HC.mono ?_;clear HC;rintro e w1 ⟨rfl,ay⟩;have ff:=ah cI ay;have rV:=(aU ff).1))
   go_ret;exact⟨_,rfl,aJ.nil _ _ _ _,((hA.trans (af ay (by simp))).trans (af aA (by have:=ay.size;simp at this;omega))).alloc (by have:=ay.size;have:=aA.size;simp at *;omega) _⟩
 · simp only[hq,Option.isSome_some,Option.map_some,Option.getD_some] at HF ⊢
   clear hq;generalize (dI t).1=nm at *;go_enter Tryz.func183,Tryz.ntmps183;go_wp2_with (first
    | (go_at_call 75;refine(HF _ (Rr.below ay (nl _))).mono ?_;rintro e w2 ⟨v,rfl,h1,h2,aA⟩;obtain⟨WY,ov,rfl,hnl,hN,hO⟩:=h2 f rfl;clear h2;obtain⟨p1,c1,rfl,_⟩:=hN.shape;obtain⟨p2,c2,rfl,_⟩:=hO.shape)
    | (go_at_call 120;refine HC.mono ?_;clear HC;rintro e w1 ⟨rfl,ay⟩;have ff:=ah cI ay;have rV:=(aU ff).1))
   go_ret;exact⟨_,rfl,hO.below ((Below.refl _ w2).alloc (nl _) _) (nl _),((hA.trans (af ay (by simp))).trans (af aA (by have:=ay.size;simp at this;omega))).alloc (by have:=ay.size;have:=aA.size;simp at *;omega) _⟩
set_option maxRecDepth 8000 in
theorem Dj {D:Nat→Prop} (v:Value) (m:Nat) (nv:Value) (p:Bool) (t:List UInt8) (l:List aG) (w:World) (hv:yC v m nv p t) (hn:aJ D w nv l) (hl:l.length≤100000):
 Calls Tryz.prog 184 #[v] w λe w'=>∃u,e=.returned u∧dU w.heap.size w' u l∧Below w.heap.size w w':=by
 obtain⟨rfl,_⟩:=hv
 have hnf:=hn.fresh
 obtain⟨q,c,rfl,_,hm,hle⟩:=hn.shape
 unfold maxLen at hm
 obtain⟨i0,fV,hz0,hz1,hz2⟩:=bu pJ
 have cI:=heap_alloc_new w (.cells #[.map (some m),.slice q l.length c,.bool p,str t] 145)
 have hA:=(Below.refl _ w).alloc (nl _) (.cells #[.map (some m),.slice q l.length c,.bool p,str t] 145)
 have bx:=(aU cI).1
 have Wx:=hnf.below hA (nl _)
 clear hn hnf
 go_enter Tryz.func184,Tryz.ntmps184
 go_wp2_with fail
 clear bx
 go_loopw [3,10] (λa y wx=>∃i:Nat,i≤l.length∧y=.int .i64 i∧dU w.heap.size wx a (l.take i)∧Below w.heap.size w wx∧aJ (λb=>D b∧b<w.heap.size) wx (.slice q l.length c) l) (λ_ y _=>l.length - (intOf y).toNat)
 case atStart=>exact⟨0,Nat.zero_le _,by go_num,dU.nil _ _,hA,Wx⟩
 case round=>
  clear Wx hA cI;obtain⟨i,hi,rfl,hown,hB,hN⟩:=hrel;obtain⟨pv,cv,rfl⟩:=hown.shape
  by_cases hlt:i<l.length
  case neg=>
   have hie:i=l.length:=by omega
   subst hie;rw[List.take_length] at hown;go_wp2_with fail;go_ret;exact⟨_,rfl,by first|exact hown|simpa using hown,hB⟩
  case pos=>
   obtain⟨x,hx⟩:∃x,l[i]? =some x:=⟨_,List.getElem?_eq_getElem hlt⟩
   obtain⟨b1,o1,av,sv,kj,KD,⟨Az,kC⟩,dy,cQ,uR,kK,mR,qG,sN⟩:=hN.at hx;subst kj;obtain⟨pa,ca,rfl,_⟩:=dy.shape;obtain⟨ps,cs,rfl,_⟩:=cQ.shape;have pG:=Lib.hid (show l.take i++[x]=l.take (i+1) by rw[List.take_add_one,hx];simp);have hlen:(l.take i).length=i:=by rw[List.length_take];omega
   generalize l.take i=L at *;clear hx;obtain⟨cc,hcs,hC⟩:=hown;have jE:=(Below.refl _ wr).alloc (nl _) (.cells #[str x.name,.bool x.sig.iter,.slice pa x.sig.args.length ca,str x.sig.res,.slice ps x.sig.sigs.length cs] 79);have bJ:=hB.alloc hB.size (.cells #[str x.name,.bool x.sig.iter,.slice pa x.sig.args.length ca,str x.sig.res,.slice ps x.sig.sigs.length cs] 79);have Sh:=hN.below jE (nl _);have pI:=az hcs jE (nl _);have E1:=hC.below jE (nl _);have vZ:=dy.below jE (nl _);have v8:=cQ.below jE (nl _);have hp1:=bL (heap_alloc_new wr (.cells #[str x.name,.bool x.sig.iter,.slice pa x.sig.args.length ca,str x.sig.res,.slice ps x.sig.sigs.length cs] 79));have hp1:=hp1.1;have Ak:=hlen;clear hN hC jE hB dy cQ;go_wp2_with (at_builtin;refine aL _ rfl _ _ 31 rfl w.heap.size 50 i0 _ 5 88 iT fV hz0 hz1 hz2 rfl (by decide) _ _ cc rfl (pI.alloc _) ⟨wr.heap.size+1,0,none⟩ 1 1 [str x.name,.bool x.sig.iter,.slice pa x.sig.args.length ca,str x.sig.res,.slice ps x.sig.sigs.length cs] rfl rfl (by have:=ew (wr.alloc (.cells #[str x.name,.bool x.sig.iter,.slice pa x.sig.args.length ca,str x.sig.res,.slice ps x.sig.sigs.length cs] 79)) [str x.name,.bool x.sig.iter,.slice pa x.sig.args.length ca,str x.sig.res,.slice ps x.sig.sigs.length cs] 50;simpa using this) (by intro u hu;simp only[List.mem_cons,List.not_mem_nil,or_false] at hu;rcases hu with rfl|rfl|rfl|rfl|rfl<;>rfl) (by decide) (by unfold maxLen;omega) (by omega) (Nat.le_trans bJ.size (by simp)) ?_;intro v' w5 dJ hgr n5);have Gz:=(Below.refl _ (wr.alloc (.cells #[str x.name,.bool x.sig.iter,.slice pa x.sig.args.length ca,str x.sig.res,.slice ps x.sig.sigs.length cs] 79))).alloc (nl _) (.cells #[str x.name,.bool x.sig.iter,.slice pa x.sig.args.length ca,str x.sig.res,.slice ps x.sig.sigs.length cs] 50);have hne:∀b,D b∧b<w.heap.size→(Value.slice pv L.length cv).ownBlock≠some b:=λb hb e=>by have:=(pI.lt _ e).1;omega
   have h5:=dU.append (k:=[x]) (E1.below Gz (nl _)) (bN.below Gz (nl _) ⟨_,_,[],rfl,⟨Az,kC⟩,vZ.mono hne,v8.mono hne,rfl⟩) dJ hgr n5;have iq:=Below.grown (B:=w.heap.size) (bJ.alloc bJ.size (.cells #[str x.name,.bool x.sig.iter,.slice pa x.sig.args.length ca,str x.sig.res,.slice ps x.sig.sigs.length cs] 50)) hgr (Nat.le_trans bJ.size (by simp)) (λk e=>(pI.lt k e).1);have OO:=(Sh.below Gz (nl _)).agree (w':=w5) (λb hb hlt=>hgr.block b hlt (λe=>hne b hb e.symm));refine⟨⟨i+1,hlt,by go_num,pG.out▸h5,iq,OO⟩,by simp only[intOf];omega⟩
end Go.Proofs.YtakgjcfkdemipaaGreatDoor
namespace Go.Proofs.YtakgjcfkdemipaaGreatDoor
open Go.RowKit
set_option maxRecDepth 8000 in
theorem FC (v:Value) (m:Nat) (nv:Value) (p:Bool) (t:List UInt8) (w:World) (hv:yC v m nv p t) (ht:t.length≤maxLen):
 Calls Tryz.prog 179 #[v] w λe w'=>∃u,e=.returned u∧dU w.heap.size w' u [⟨[101,113,117,97,108],⟨false,[t,t],[98,111,111,108],[]⟩⟩]∧Below w.heap.size w w':=by
 obtain⟨rfl,q,n,c,rfl⟩:=hv
 have hA:=(Below.refl _ w).alloc (nl _) (.cells #[.map (some m),.slice q n c,.bool p,str t] 145)
 go_enter Tryz.func179,Tryz.ntmps179
 go_wp2_with (go_at_call 238;refine(lN _ m _ _ t _ ⟨rfl,_,_,_,rfl⟩ ht).mono ?_;rintro e w1 ⟨u,rfl,⟨x,y,rfl,l1,r1,q1⟩,ay⟩;obtain⟨p1,c1,rfl,_⟩:=r1.shape;obtain⟨p2,c2,rfl,_⟩:=q1.shape)
 go_ret
 have hs:=ay.size
 simp only[World.size_alloc] at hs
 exact⟨_,rfl,lD w1 (by omega) rfl (by unfold maxLen;simp) ⟨_,_,_,rfl,l1,r1,q1,rfl⟩,(hA.trans (af ay (by simp))).alloc (by omega) _⟩
set_option maxRecDepth 8000 in
theorem EN (v:Value) (m:Nat) (nv:Value) (p:Bool) (t:List UInt8) (w:World) (hv:yC v m nv p t) (ht:t.length≤maxLen):
 Calls Tryz.prog 178 #[v] w λe w'=>∃u,e=.returned u∧dU w.heap.size w' u [⟨[101,113,117,97,108],⟨false,[t,t],[98,111,111,108],[]⟩⟩,⟨[97,110,100],⟨false,[t,t],t,[]⟩⟩,⟨[111,114],⟨false,[t,t],t,[]⟩⟩,⟨[110,111,116],⟨false,[t],t,[]⟩⟩]∧Below w.heap.size w w':=by
 obtain⟨rfl,q,n,c,rfl⟩:=hv
 have cI:=heap_alloc_new w (.cells #[.map (some m),.slice q n c,.bool p,str t] 145)
 have hA:=(Below.refl _ w).alloc (nl _) (.cells #[.map (some m),.slice q n c,.bool p,str t] 145)
 go_enter Tryz.func178,Tryz.ntmps178
 go_upto_region 1 with fail
 have rV:=(aU cI).1
 refine zA (D:=λb=>w.heap.size≤b) (d:=some 2) 28 [(1,vP w.heap.size 0)] [.eq (.agg #[.map (some m),.slice q n c,.bool p,str t]),.op (dK t),vP w.heap.size 3,vT t,vP w.heap.size 3,vT t,vP w.heap.size 3,vT t,.ss [t,t],.sig ⟨false,[t,t],t,[]⟩,.op ⟨[97,110,100],⟨false,[t,t],t,[]⟩⟩,vP w.heap.size 3,vT t,vP w.heap.size 3,vT t,vP w.heap.size 3,vT t,.ss [t,t],.sig ⟨false,[t,t],t,[]⟩,.op ⟨[111,114],⟨false,[t,t],t,[]⟩⟩,vP w.heap.size 3,vT t,vP w.heap.size 3,vT t,.ss [t],.sig ⟨false,[t],t,[]⟩,.op ⟨[110,111,116],⟨false,[t],t,[]⟩⟩,.prop λw' v=>dU w.heap.size w' v [dK t,⟨[97,110,100],⟨false,[t,t],t,[]⟩⟩,⟨[111,114],⟨false,[t,t],t,[]⟩⟩,⟨[110,111,116],⟨false,[t],t,[]⟩⟩],.prop λw' v=>dU w.heap.size w' v [dK t,⟨[97,110,100],⟨false,[t,t],t,[]⟩⟩,⟨[111,114],⟨false,[t,t],t,[]⟩⟩,⟨[110,111,116],⟨false,[t],t,[]⟩⟩]] (λw'=>aW [(⟨w.heap.size,0,none⟩,.map (some m)),(⟨w.heap.size,1,none⟩,.slice q n c),(⟨w.heap.size,2,none⟩,.bool p),(⟨w.heap.size,3,none⟩,str t)] w'∧Below w.heap.size w w') (by kernel_rfl) rfl rfl (λ_ _ h hb=>⟨h.1.below hb,h.2.trans (af hb h.2.size)⟩) ⟨cM rV.1 (cM rV.2.1 (cM rV.2.2.1 (cM rV.2.2.2 gD))),hA.drew⟩ ⟨rfl,trivial⟩ ?_ ?_
 · iterate 29
    refine And.intro ?_ ?_
    · first
      | exact mT rfl rfl (by kernel_rfl)
      | exact fK rfl (by kernel_rfl) rfl rfl (λw=>by simp[go_sem])
      | exact fq rfl (by kernel_rfl) rfl rfl (λw h=>by simp[go_sem,h.1.get 0 rfl,h.1.get 1 rfl,h.1.get 2 rfl,h.1.get 3 rfl])
      | exact JH rfl (by kernel_rfl) rfl rfl ht λ_ h=>h.2.size
      | exact EF rfl rfl (by kernel_rfl) rfl rfl (by first|exact ht|simp[maxLen]) λ_ h=>h.2.size
      | exact BL rfl rfl (by kernel_rfl) rfl rfl rfl (by first|exact ht|simp[maxLen]) (by first|exact ht|simp[maxLen]) λ_ h=>h.2.size
      | exact JL rfl (by kernel_rfl) rfl rfl rfl (by first|exact ht|simp[maxLen])
      | exact JI rfl rfl (by kernel_rfl) rfl rfl rfl (by simp[maxLen])
      | exact Oe rfl rfl (by kernel_rfl) rfl rfl rfl rfl rfl λ_ h=>h.2.size
   exact trivial
 · intro aE u wE jv eu hu
   have hu:=hu wE (Below.refl _ _);obtain⟨p2,c2,rfl⟩:=hu.shape;simp only[pq,pz,pw];go_wp2_with fail;go_ret;exact⟨_,rfl,hu,jv.2⟩
end Go.Proofs.YtakgjcfkdemipaaGreatDoor
namespace Go.Proofs.YtakgjcfkdemipaaGreatDoor
open Go.RowKit
theorem Et (w:World):Calls Tryz.prog 122 #[] w λe w'=>e=.returned (.agg #[.nilFunc,.func (.func 177) #[] #[],.func (.func 178) #[] #[],.func (.func 179) #[] #[],.func (.func 180) #[] #[],.func (.func 181) #[] #[],.func (.func 182) #[] #[],.func (.func 183) #[] #[],.func (.func 184) #[] #[]])∧Below w.heap.size w w':=by
 go_enter Tryz.func122,Tryz.ntmps122
 go_wp2_with fail
 refine bodyPost_ret (v:=.agg #[.nilFunc,.func (.func 177) #[] #[],.func (.func 178) #[] #[],.func (.func 179) #[] #[],.func (.func 180) #[] #[],.func (.func 181) #[] #[],.func (.func 182) #[] #[],.func (.func 183) #[] #[],.func (.func 184) #[] #[]]) (by simp[results,Tryz.results122,go_sem]) rfl ?_
 exact⟨rfl,(Below.refl _ w).alloc (nl _) _⟩
theorem gB {w:World} {b:Nat} {a0 a1 a2:Value} {t:TypeId} (h:w.heap[b]? =some (.cells #[a0,a1,a2] t (0,0))):w.cell? ⟨b,0,none⟩=some a0∧w.cell? ⟨b,1,none⟩=some a1∧w.cell? ⟨b,2,none⟩=some a2:=
 ⟨(ak h 0).trans rfl,(ak h 1).trans rfl,(ak h 2).trans rfl⟩
def GW (t:List UInt8):Prop:=t.length≤maxLen∧(bQ t).1.length≤maxLen∧(dI t).1.length≤maxLen∧(cK t).1.length≤100∧∀x∈(cK t).1,x.1.length≤1000∧x.2.length≤maxLen
end Go.Proofs.YtakgjcfkdemipaaGreatDoor
namespace Go.Proofs.YtakgjcfkdemipaaGreatDoor
open Go.RowKit
def ScopeM (D:Nat→Prop) (w:World) (v:Value) (c:aR):Prop:=∃m nv,v=.agg #[.map (some m),nv,.bool c.par]∧fI D w m c.bK∧aJ D w nv c.ag
theorem ScopeM.below {D:Nat→Prop} {K:Nat} {w w':World} {v:Value} {c:aR} (h:ScopeM D w v c) (hb:Below K w w') (hK:w.heap.size≤K):ScopeM D w' v c:=by
 obtain⟨m,nv,h1,h2,h3⟩:=h
 exact⟨m,nv,h1,h2.below hb hK,h3.below hb hK⟩
theorem ScopeM.shape {D:Nat→Prop} {w:World} {v:Value} {c:aR} (h:ScopeM D w v c):∃m q n,v=.agg #[.map (some m),.slice q c.ag.length n,.bool c.par]:=by
 obtain⟨m,nv,h1,h2,h3⟩:=h
 obtain⟨p,c',rfl,_⟩:=h3.shape
 exact⟨m,p,c',h1⟩
section
variable {D:Nat→Prop} {ops:Array Oper} {h:Nat} {V:List VS} {E:List (Nat×VS)} {S:World→Prop} {k:Nat} {o:Oper}
theorem zo {f:FuncId} {tys:Array TypeId} {s:VS} (ho:o.op=.call {callee:=.value (.func f),args:= #[],argTypes:=tys }) (en:∀args w,(callFunc f args).run Tryz.prog w=.ok (.enter f args) w)
 (hw:dN ops h V o=some true) (hk:V[k]? =some s) (hc:∀(w:World),S w→Calls Tryz.prog f #[] w λe w'=>∃u,e=.returned u∧s.holds D w' u∧Below w.heap.size w w'):bX D Tryz.prog S ops h V E k o:=
 qN [] hw hk rfl λa w Q hS _ next hn=>by
  have hrun:(execOp a.eval o).run Tryz.prog w=.ok (.enter f #[]) w:=by
   simp[execOp,ho,resolve,Deferred.ofValue,invoke,Act.eval,en]
  unfold Oper.wp;rw[hrun,Oper.upon_enter];refine(hc w hS).mono ?_;rintro e w' ⟨u,rfl,hu,hb⟩;exact hn u w' hu hb
theorem EE {f:FuncId} {x y:Operand} {tys:Array TypeId} {s s1:VS} (ho:o.op=.call {callee:=.value x,args:= #[y],argTypes:=tys }) (en:∀args w,(callFunc f args).run Tryz.prog w=.ok (.enter f args) w)
 (hw:dN ops h V o=some true) (hk:V[k]? =some s) (hx:aM ops h V E o x=some (.eq (.func (.func f) #[] #[]))) (hy:aM ops h V E o y=some s1)
 (hc:∀(v:Value) (w:World),S w→s1.holds D w v→Calls Tryz.prog f #[v] w λe w'=>∃u,e=.returned u∧s.holds D w' u∧Below w.heap.size w w'):bX D Tryz.prog S ops h V E k o:=
 qN [(x,.eq (.func (.func f) #[] #[])),(y,s1)] hw hk (by simp[hx,hy]) λa w Q hS hi next hn=>by
  have h1:a.eval x=.func (.func f) #[] #[]:=hi (x,.eq (.func (.func f) #[] #[])) (by simp);have h2:=hi (y,s1) (by simp);have hrun:(execOp a.eval o).run Tryz.prog w=.ok (.enter f #[a.eval y]) w:=by
   simp[execOp,ho,h1,resolve,Deferred.ofValue,invoke,en]
  unfold Oper.wp;rw[hrun,Oper.upon_enter];refine(hc _ w hS h2).mono ?_;rintro e w' ⟨u,rfl,hu,hb⟩;exact hn u w' hu hb
end
def Oi:Value:=.agg #[.nilFunc,.func (.func 177) #[] #[],.func (.func 178) #[] #[],.func (.func 179) #[] #[],.func (.func 180) #[] #[],.func (.func 181) #[] #[],.func (.func 182) #[] #[],.func (.func 183) #[] #[],.func (.func 184) #[] #[]]
set_option maxRecDepth 8000 in
theorem kL {D:Nat→Prop} (c:aR) (v:Value) (t:List UInt8) (w:World) (hv:ScopeM D w v c) (hty:GW t) (hT:fN w) (k:Nat) (F:FuncId) (hk:(aq t).2.k=k) (hF:∀(ev:Operand→Value) (o:Oper) (x y:Operand) (w:World),o.op=.index 142 x y→ev x=Oi→ev y=.int .u8 k→(execOp ev o).run Tryz.prog w=.ok (.value (.func (.func F) #[] #[])) w) (en:∀args w,(callFunc F args).run Tryz.prog w=.ok (.enter F args) w)
 (HM:∀m q cq W,Below w.heap.size w W→ScopeM D W (.agg #[.map (some m),.slice q c.ag.length cq,.bool c.par]) c→Calls Tryz.prog F #[.agg #[.map (some m),.slice q c.ag.length cq,.bool c.par,str t]] W λe W'=>∃u,e=.returned u∧aJ Any W' u (cG c t).1∧Below W.heap.size W W') (hA:(cG c t).2=if k=7 then(bQ t).1 else []):
 Calls Tryz.prog 63 #[v,str t] w λe w'=>∃u,e=.returned (.tuple #[u,str (cG c t).2])∧aJ (λ_=>True) w' u (cG c t).1∧Below w.heap.size w w':=by
 obtain⟨m,nv,rfl,hs,hN⟩:=hv
 obtain⟨q,cq,rfl,_⟩:=hN.shape
 have cI:=heap_alloc_new w (.cells #[.map (some m),.slice q c.ag.length cq,.bool c.par] 86)
 have hB:=(Below.refl _ w).alloc (nl _) (.cells #[.map (some m),.slice q c.ag.length cq,.bool c.par] 86)
 have HC:=xG t hty.1 (w.alloc (.cells #[.map (some m),.slice q c.ag.length cq,.bool c.par] 86)) (hT.below hB (nl _))
 have HG:=λW hW=>uq t hty.1 W (hT.below (B:=w.heap.size) hW (nl _))
 have HM:=λW (hW:Below w.heap.size w W)=>HM m q cq W hW ⟨m,_,rfl,hs.below hW (nl _),hN.below hW (nl _)⟩
 rw[hk] at HC
 generalize cG c t=RK at *
 generalize (aq t).1=CK at *
 clear hk hN hs
 by_cases h7:k=7
 case neg=>
  have g7:((k:Int)==7)=false:=by simpa using λe=>h7 (by omega)
  rw[if_neg h7] at hA;clear h7 HG;go_enter Tryz.func63,Tryz.ntmps63;go_upto_region 5 with(go_at_call 119;refine HC.mono ?_;clear HC;rintro e w1 ⟨rfl,ay⟩;have ff:=ah cI ay;have B1:=hB.trans (af ay (by simp)));clear ay;clear cI hB;obtain⟨y0,y1,y2⟩:=gB (w:=w1.drew) ff;refine EH (D:=Any) (d:=some 5) (w:=w1) 9 [(1,vT t),(2,vP w.heap.size 0),(6,.eq (.int .u8 k)),(8,vT [])] [.eq Oi,.eq (.int .u8 k),.eq (.func (.func F) #[] #[]),.eq (.agg #[.map (some m),.slice q c.ag.length cq,.bool c.par]),vT t,.eq (.agg #[.map (some m),.slice q c.ag.length cq,.bool c.par,str t]),.ops RK.1,vT [],.ops RK.1,vT []] (λw'=>aW [(⟨w.heap.size,0,none⟩,.map (some m)),(⟨w.heap.size,1,none⟩,.slice q c.ag.length cq),(⟨w.heap.size,2,none⟩,.bool c.par)] w'∧Below w.heap.size w w') (by kernel_rfl) rfl rfl (λ_ _ h hb=>⟨h.1.below hb,h.2.trans (af hb h.2.size)⟩) ⟨cM y0 (cM y1 (cM y2 gD)),B1.drew⟩ ⟨rfl,rfl,rfl,rfl,trivial⟩ ?_ ?_
  · iterate 10
     refine And.intro ?_ ?_
     · first
       | exact mT rfl rfl (by kernel_rfl)
       | exact zo rfl (enters_of Tryz.func122 (by kernel_rfl) rfl) (by kernel_rfl) rfl λw _=>(Et w).mono (by rintro e w' ⟨rfl,hb⟩;exact⟨_,rfl,rfl,hb⟩)
       | exact BK _ _ (by kernel_rfl) rfl rfl rfl λev w _ h1 h2=>hF ev _ _ _ w rfl h1 h2
       | exact fq rfl (by kernel_rfl) rfl rfl (λw h=>by simp[go_sem,h.1.get 0 rfl,h.1.get 1 rfl,h.1.get 2 rfl])
       | exact BK (.tmp 25) (.tmp 26) (by kernel_rfl) rfl rfl rfl λev w _ h1 h2=>by unfold execOp;simp[h1,h2,go_sem]
       | exact EE (s1:=.eq (.agg #[.map (some m),.slice q c.ag.length cq,.bool c.par,str t])) rfl en (by kernel_rfl) rfl rfl rfl λv w h e=>by rw[show v=_ from e];exact(HM w h.2).mono (by rintro e w' ⟨u,rfl,hu,hb⟩;exact⟨u,rfl,hu,hb⟩)
    exact trivial
  · intro aE wE jv eu Mm
    have hu:aJ Any wE (aE.tmps.getD 4 undef) RK.1:=Mm 8 _ _ (by decide) rfl rfl;obtain⟨p2,c2,e2,_⟩:=hu.shape;rw[e2] at hu;simp only[pq,e2,pz,pw];go_wp2_with fail;go_ret2;rw[hA];exact⟨_,rfl,hu,jv.2⟩
 case pos=>
  subst h7;rw[if_pos rfl] at hA;go_enter Tryz.func63,Tryz.ntmps63;go_upto_region 5 with(first
   | (go_at_call 121;refine(HG w1 B1).mono ?_;clear HG;rintro e w2 ⟨rfl,aA⟩;have iw:=ah ff aA;have B2:=B1.trans (af aA B1.size))
   | (go_at_call 119;refine HC.mono ?_;clear HC;rintro e w1 ⟨rfl,ay⟩;have ff:=ah cI ay;have B1:=hB.trans (af ay (by simp))))
  clear ff B1 ay aA;clear cI hB;obtain⟨y0,y1,y2⟩:=gB (w:=w2.drew) iw;refine EH (D:=Any) (d:=some 5) (w:=w2) 9 [(1,vT t),(2,vP w.heap.size 0),(6,.eq (.int .u8 7)),(8,vT (bQ t).1)] [.eq Oi,.eq (.int .u8 7),.eq (.func (.func F) #[] #[]),.eq (.agg #[.map (some m),.slice q c.ag.length cq,.bool c.par]),vT t,.eq (.agg #[.map (some m),.slice q c.ag.length cq,.bool c.par,str t]),.ops RK.1,vT (bQ t).1,.ops RK.1,vT (bQ t).1] (λw'=>aW [(⟨w.heap.size,0,none⟩,.map (some m)),(⟨w.heap.size,1,none⟩,.slice q c.ag.length cq),(⟨w.heap.size,2,none⟩,.bool c.par)] w'∧Below w.heap.size w w') (by kernel_rfl) rfl rfl (λ_ _ h hb=>⟨h.1.below hb,h.2.trans (af hb h.2.size)⟩) ⟨cM y0 (cM y1 (cM y2 gD)),B2.drew⟩ ⟨rfl,rfl,rfl,rfl,trivial⟩ ?_ ?_
  · iterate 10
     refine And.intro ?_ ?_
     · first
       | exact mT rfl rfl (by kernel_rfl)
       | exact zo rfl (enters_of Tryz.func122 (by kernel_rfl) rfl) (by kernel_rfl) rfl λw _=>(Et w).mono (by rintro e w' ⟨rfl,hb⟩;exact⟨_,rfl,rfl,hb⟩)
       | exact BK _ _ (by kernel_rfl) rfl rfl rfl λev w _ h1 h2=>hF ev _ _ _ w rfl h1 h2
       | exact fq rfl (by kernel_rfl) rfl rfl (λw h=>by simp[go_sem,h.1.get 0 rfl,h.1.get 1 rfl,h.1.get 2 rfl])
       | exact BK (.tmp 25) (.tmp 26) (by kernel_rfl) rfl rfl rfl λev w _ h1 h2=>by unfold execOp;simp[h1,h2,go_sem]
       | exact EE (s1:=.eq (.agg #[.map (some m),.slice q c.ag.length cq,.bool c.par,str t])) rfl en (by kernel_rfl) rfl rfl rfl λv w h e=>by rw[show v=_ from e];exact(HM w h.2).mono (by rintro e w' ⟨u,rfl,hu,hb⟩;exact⟨u,rfl,hu,hb⟩)
    exact trivial
  · intro aE wE jv eu Mm
    have hu:aJ Any wE (aE.tmps.getD 4 undef) RK.1:=Mm 8 _ _ (by decide) rfl rfl;obtain⟨p2,c2,e2,_⟩:=hu.shape;rw[e2] at hu;simp only[pq,e2,pz,pw];go_wp2_with fail;go_ret2;rw[hA];exact⟨_,rfl,hu,jv.2⟩
theorem Ey {D:Nat→Prop} (c:aR) (v:Value) (t:List UInt8) (w:World) (hv:ScopeM D w v c) (hty:GW t) (hT:fN w) (ha:oF c.bK) (hn:c.ag.length≤100000) (hk:1≤(aq t).2.k∧(aq t).2.k≤8):
 Calls Tryz.prog 63 #[v,str t] w λe w'=>∃u,e=.returned (.tuple #[u,str (cG c t).2])∧aJ (λ_=>True) w' u (cG c t).1∧Below w.heap.size w w':=by
 have hkk:(aq t).2.k=1∨(aq t).2.k=2∨(aq t).2.k=3∨(aq t).2.k=4∨(aq t).2.k=5∨(aq t).2.k=6∨(aq t).2.k=7∨(aq t).2.k=8:=by omega
 clear hk
 rcases hkk with hk|hk|hk|hk|hk|hk|hk|hk
 · refine kL c v t w hv hty hT 1 177 hk (λev o x y w ho h1 h2=>by unfold execOp;simp only[ho,h1,h2];kernel_rfl) (enters_of Tryz.func177 (by kernel_rfl) rfl) (λm q cq W hW KH=>?_) (by unfold cG;rw[hk];rfl)
   refine(IQ _ m _ _ t W ⟨rfl,_,_,_,rfl⟩ hty.1).mono ?_;rintro e w' ⟨u,rfl,hu,hb⟩;refine⟨_,rfl,?_,hb⟩;unfold cG;rw[hk];exact hu.uN
 · refine kL c v t w hv hty hT 2 178 hk (λev o x y w ho h1 h2=>by unfold execOp;simp only[ho,h1,h2];kernel_rfl) (enters_of Tryz.func178 (by kernel_rfl) rfl) (λm q cq W hW KH=>?_) (by unfold cG;rw[hk];rfl)
   refine(EN _ m _ _ t W ⟨rfl,_,_,_,rfl⟩ hty.1).mono ?_;rintro e w' ⟨u,rfl,hu,hb⟩;refine⟨_,rfl,?_,hb⟩;unfold cG;rw[hk];exact hu.uN
 · refine kL c v t w hv hty hT 3 179 hk (λev o x y w ho h1 h2=>by unfold execOp;simp only[ho,h1,h2];kernel_rfl) (enters_of Tryz.func179 (by kernel_rfl) rfl) (λm q cq W hW KH=>?_) (by unfold cG;rw[hk];rfl)
   refine(FC _ m _ _ t W ⟨rfl,_,_,_,rfl⟩ hty.1).mono ?_;rintro e w' ⟨u,rfl,hu,hb⟩;refine⟨_,rfl,?_,hb⟩;unfold cG;rw[hk];exact hu.uN
 · refine kL c v t w hv hty hT 4 180 hk (λev o x y w ho h1 h2=>by unfold execOp;simp only[ho,h1,h2];kernel_rfl) (enters_of Tryz.func180 (by kernel_rfl) rfl) (λm q cq W hW KH=>?_) (by unfold cG;rw[hk];rfl)
   refine(Cp _ m _ _ t W (hT.below hW (nl _)) hty.2.1 ⟨rfl,_,_,_,rfl⟩ hty.1).mono ?_;rintro e w' ⟨u,rfl,hu,hb⟩;refine⟨_,rfl,?_,hb⟩;unfold cG;rw[hk];exact hu.uN
 · refine kL c v t w hv hty hT 5 181 hk (λev o x y w ho h1 h2=>by unfold execOp;simp only[ho,h1,h2];kernel_rfl) (enters_of Tryz.func181 (by kernel_rfl) rfl) (λm q cq W hW KH=>?_) (by unfold cG;rw[hk];rfl)
   refine(Bp _ m _ _ t W (hT.below hW (nl _)) hty.2.2.2.1 hty.2.2.2.2 ⟨rfl,_,_,_,rfl⟩ hty.1).mono ?_;rintro e w' ⟨u,rfl,hu,hb⟩;refine⟨_,rfl,?_,hb⟩;unfold cG;rw[hk];exact hu.uN
 · refine kL c v t w hv hty hT 6 182 hk (λev o x y w ho h1 h2=>by unfold execOp;simp only[ho,h1,h2];kernel_rfl) (enters_of Tryz.func182 (by kernel_rfl) rfl) (λm q cq W hW KH=>?_) (by unfold cG;rw[hk];rfl)
   refine(De _ m _ _ t W (hT.below hW (nl _)) hty.2.2.2.1 hty.2.2.2.2 ⟨rfl,_,_,_,rfl⟩ hty.1).mono ?_;rintro e w' ⟨u,rfl,hu,hb⟩;refine⟨_,rfl,?_,hb⟩;unfold cG;rw[hk];exact hu.uN
 · refine kL c v t w hv hty hT 7 183 hk (λev o x y w ho h1 h2=>by unfold execOp;simp only[ho,h1,h2];kernel_rfl) (enters_of Tryz.func183 (by kernel_rfl) rfl) (λm q cq W hW KH=>?_) (by unfold cG;rw[hk];rfl)
   obtain⟨m',WY,e',hs,hN⟩:=KH;simp only[Value.agg.injEq,Array.mk.injEq,List.cons.injEq,Value.map.injEq,Option.some.injEq,and_true] at e';obtain⟨rfl,rfl⟩:=e';refine(Fy _ m _ _ t c.bK W ⟨rfl,_,_,_,rfl⟩ hty.1 (hT.below hW (nl _)) hty.2.2.1 hs ha).mono ?_;rintro e w' ⟨u,rfl,hu,hb⟩;refine⟨_,rfl,?_,hb⟩;unfold cG;rw[hk];exact hu.mono (λ_ _=>trivial)
 · refine kL c v t w hv hty hT 8 184 hk (λev o x y w ho h1 h2=>by unfold execOp;simp only[ho,h1,h2];kernel_rfl) (enters_of Tryz.func184 (by kernel_rfl) rfl) (λm q cq W hW KH=>?_) (by unfold cG;rw[hk];rfl)
   obtain⟨m',WY,e',hs,hN⟩:=KH;simp only[Value.agg.injEq,Array.mk.injEq,List.cons.injEq,Value.map.injEq,Option.some.injEq,and_true] at e';obtain⟨rfl,rfl⟩:=e';refine(Dj _ m _ _ t c.ag W ⟨rfl,_,_,_,rfl⟩ hN hn).mono ?_;rintro e w' ⟨u,rfl,hu,hb⟩;refine⟨_,rfl,?_,hb⟩;unfold cG;rw[hk];exact hu.uN
end Go.Proofs.YtakgjcfkdemipaaGreatDoor
