/-
  Lemmas for the statement: contract: of the package face: signature. Conditions: bounds of lengths; the variable strings.asciiSpace.
-/
import Derived.Test.YtemjidmkolfgnaaGreatDoorSBn
import Derived.Test.YtemjidmkolfgnaaGreatDoorSB21
import Derived.Test.YtemjidmkolfgnaaGreatDoorSB33
set_option maxHeartbeats 12800000
namespace Go.Proofs.YtemjidmkolfgnaaGreatDoor
section
open Go Go.RowKit
theorem fQ (s p:List UInt8):(Lib.trimSuffix s p).length≤s.length:=by
 unfold Lib.trimSuffix
 split
 · simp
 · exact nl _
theorem nR:∀(s:List UInt8) (d:Int),∀a∈cR d s,a.length≤s.length
 | [],d,a,h=>by simp[cR] at h;simp[h]
 | x :: s, d, a, h => by
  rw[cR] at h;split at h
  · rcases List.mem_cons.1 h with rfl|h
    · simp
    · have:=nR s d a h;simp;omega
  · cases hq:cR (if x=91 then d+1 else if x=93 then d - 1 else d) s with
    | nil=>rw[hq] at h;simp[jK] at h;simp[h]
    | cons b l=>
     have ih:=nR s (if x=91 then d+1 else if x=93 then d - 1 else d);rw[hq] at h ih;simp only[jK,List.mem_cons] at h;rcases h with rfl|h
     · have:=ih b (by simp);simp;omega
     · have:=ih a (by simp[h]);simp;omega
theorem B0 (s:List UInt8):∀a∈iA s,a.length≤s.length:=λa h=>by
 unfold iA at h
 split at h
 · cases h
 · exact nR s 0 a h
structure CU (s:List UInt8) (q:List UInt8×List (List UInt8)) (u:Bool×List UInt8×List UInt8) (args:List (List UInt8)):Prop where
 a1:Lib.hasSuffix s [41]=true→(bC [32,115,105,103,110,97,108,115,40] (Lib.trimSuffix s [41])).2.2=true→q=((bC [32,115,105,103,110,97,108,115,40] (Lib.trimSuffix s [41])).1,aN 44 (bC [32,115,105,103,110,97,108,115,40] (Lib.trimSuffix s [41])).2.1)
 a2:(Lib.hasSuffix s [41]=false∨(bC [32,115,105,103,110,97,108,115,40] (Lib.trimSuffix s [41])).2.2=false)→q=(s,[])
 b1:(bC [32,121,105,101,108,100,115,32] q.1).2.2=true→u=(true,(bC [32,121,105,101,108,100,115,32] q.1).2.1,(bC [32,121,105,101,108,100,115,32] q.1).1)
 b2:(bC [32,121,105,101,108,100,115,32] q.1).2.2=false→(bC [32,114,101,116,117,114,110,115,32] q.1).2.2=true→u=(false,(bC [32,114,101,116,117,114,110,115,32] q.1).2.1,(bC [32,114,101,116,117,114,110,115,32] q.1).1)
 b3:(bC [32,121,105,101,108,100,115,32] q.1).2.2=false→(bC [32,114,101,116,117,114,110,115,32] q.1).2.2=false→u=(false,[],q.1)
 c1:5<u.2.2.length→args=iA (Lib.trimSuffix (u.2.2.drop 5) [41])
 c2:¬5<u.2.2.length→args=[]
 e:rP s=⟨u.1,args,u.2.1,q.2⟩
 ql:q.1.length≤s.length
theorem BX (s:List UInt8):∃q u args,CU s q u args:=by
 refine⟨_,_,_,⟨?_,?_,?_,?_,?_,?_,?_,rfl,?_⟩⟩
 · exact λh1 h2=>by rw[if_pos ⟨h1,h2⟩]
 · exact λh=>by
    rw[if_neg];rintro⟨h1,h2⟩;rcases h with h|h
    · rw[h] at h1;cases h1
    · rw[h] at h2;cases h2
 · exact λh=>by rw[if_pos h]
 · exact λh h2=>by rw[if_neg (by rw[h];simp),if_pos h2]
 · exact λh h2=>by rw[if_neg (by rw[h];simp),if_neg (by rw[h2];simp)]
 · exact λh=>by rw[if_pos h]
 · exact λh=>by rw[if_neg h]
 · split
   · exact Nat.le_trans (fJ _).1 (fQ _ _)
   · exact nl _
set_option maxRecDepth 8000 in
theorem Er (s:List UInt8) (w:World) (hs:s.length≤100000) (hm:fe w):
 Calls Tryz.prog 107 #[str s] w λe w'=>∃v,e=.returned v∧iX (λb=>w.heap.size≤b) w' v (rP s)∧Below w.heap.size w w':=by
 obtain⟨q,u,args,H⟩:=BX s
 have HE:=zh H.e
 have Wt:=H.ql
 have HM:=zh (λW (hW:Below w.heap.size w W)=>hm.below hW)
 have hA:=(zb w).alloc zr (.cells #[.bool false,.slice none 0 0,.string ⟨#[]⟩,.slice none 0 0] 176)
 have hB:=hA.alloc (by simp) (.cells #[.bool false,.slice none 0 0,.string ⟨#[]⟩,.slice none 0 0] 176)
 have Sb:=aK (.cells #[.bool false,.slice none 0 0,.string ⟨#[]⟩,.slice none 0 0] 176) (heap_alloc_new w (.cells #[.bool false,.slice none 0 0,.string ⟨#[]⟩,.slice none 0 0] 176))
 have Sc:=gV (w:=w.alloc (.cells #[.bool false,.slice none 0 0,.string ⟨#[]⟩,.slice none 0 0] 176)) (n:=w.heap.size+1) (by simp) #[.bool false,.slice none 0 0,.string ⟨#[]⟩,.slice none 0 0] 176
 have C1:=λW=>jS s [41] W hs
 generalize rP s=SP at *
 go_enter Tryz.func107,Tryz.ntmps107
 go_upto_if 20 with(go_at_call 106;refine(C1 _).mono ?_;clear C1;rintro e w1 ⟨rfl,hw1⟩;subst hw1)
 generalize rB:(w.alloc (.cells #[.bool false,.slice none 0 0,.string ⟨#[]⟩,.slice none 0 0] 176)).alloc (.cells #[.bool false,.slice none 0 0,.string ⟨#[]⟩,.slice none 0 0] 176)=W1 at *
 have fc:Below w.heap.size w W1:=rB▸hB
 have N6:W1.heap[w.heap.size]? =some (.cells #[.bool false,.slice none 0 0,.string ⟨#[]⟩,.slice none 0 0] 176):=rB▸Sb
 have M1:W1.heap[w.heap.size+1]? =some (.cells #[.bool false,.slice none 0 0,.string ⟨#[]⟩,.slice none 0 0] 176):=rB▸Sc
 clear rB hA hB Sb Sc hm
 go_cut [0] from 4 to 31 (λx wx=>x=str q.1∧∃g,wx.heap[w.heap.size+1]? =some (.cells #[.bool false,.slice none 0 0,.string ⟨#[]⟩,g] 176)∧SS (λb=>w.heap.size+1<b) wx g q.2∧wx.heap[w.heap.size]? =some (.cells #[.bool false,.slice none 0 0,.string ⟨#[]⟩,.slice none 0 0] 176)∧Below w.heap.size w wx)
 case first =>
  have C2:=λW (hW:Below w.heap.size w W)=>iI (Lib.trimSuffix s [41]) [32,115,105,103,110,97,108,115,40] W (by have:=fQ s [41];omega) (by simp) (HM.out W hW)
  have C3:=λW (hW:Below w.heap.size w W)=>wB (bC [32,115,105,103,110,97,108,115,40] (Lib.trimSuffix s [41])).2.1 44 W (by have:=(fJ (p:=[32,115,105,103,110,97,108,115,40]) (Lib.trimSuffix s [41])).2;have:=fQ s [41];omega) (HM.out W hW)
  have ha1:=H.a1;have ha2:=H.a2;clear H HE;rcases h1:Lib.hasSuffix s [41] with _|_
  · have hq:=ha2 (.inl h1)
    subst hq;clear C2 C3 ha1 ha2 h1;go_wp2_with fail
    go_meet
    case rel=>exact⟨rfl,_,M1,SS.nil _ _ _ _,N6,fc⟩
  · generalize bC [32,115,105,103,110,97,108,115,40] (Lib.trimSuffix s [41])=CT at *
    obtain⟨VW,VX,Th⟩:=CT;dsimp only at C2 C3 ha1 ha2;rcases Th with _|_
    · have hq:=ha2 (.inr rfl)
      subst hq;clear C3 ha1 ha2 h1;go_wp2_with (go_at_call 104;refine(C2 _ fc).mono ?_;clear C2;rintro e w2 ⟨rfl,bO⟩)
      go_meet
      case rel=>exact⟨rfl,_,ag M1 bO,SS.nil _ _ _ _,ag N6 bO,fc.trans (aa bO fc.size)⟩
    · have hq:=ha1 h1 rfl
      subst hq;clear ha1 ha2 h1;go_wp2_with (first
       | (go_at_call 138;refine(C3 _ B2).mono ?_;clear C3;rintro e w3 ⟨v3,rfl,Jg,cK⟩;obtain⟨p3,c3,rfl,_⟩:=Jg.shape;have kX:=ag (ag M1 bO) cK;have bX:=fV kX)
       | (go_at_call 104;refine(C2 _ fc).mono ?_;clear C2;rintro e w2 ⟨rfl,bO⟩;have B2:=fc.trans (aa bO fc.size)))
      go_meet
      case rel=>
       have B3:=B2.trans (aa cK B2.size);have hz1:=aj M1;have hz2:=bO.size;refine⟨rfl,_,heap_setCell_same _ _ _ _ _ _ kX,(Jg.mono λb hb=>by omega).set (λb hb=>by simp only;omega) _,?_,B3.setCell (p:=⟨w.heap.size+1,3,none⟩) (by simp) _⟩;exact(heap_setCell_other _ _ _ _ (by simp)).trans (ag (ag N6 bO) cK)
 case rest =>
  obtain⟨rfl,g,hX,hG,hR,hb⟩:=hcut;have hk1:=H.b1;have hk2:=H.b2;have vV:=H.b3;have C4:=iI q.1 [32,121,105,101,108,100,115,32] wc (by omega) (by simp) (HM.out wc hb);have C5:=λW (hW:Below w.heap.size w W)=>iI q.1 [32,114,101,116,117,114,110,115,32] W (by omega) (by simp) (HM.out W hW)
  have hcl:=(fJ (p:=[32,121,105,101,108,100,115,32]) q.1);have Gf:=(fJ (p:=[32,114,101,116,117,114,110,115,32]) q.1);have hc1:=H.c1;have yp:=H.c2;obtain⟨pg,cg,rfl,_⟩:=hG.shape;clear H N6 M1 fc;generalize bC [32,121,105,101,108,100,115,32] q.1=YT at *;generalize bC [32,114,101,116,117,114,110,115,32] q.1=RT at *;obtain⟨WI,WJ,VJ⟩:=YT;obtain⟨WE,WG,VB⟩:=RT;obtain⟨q1,q2⟩:=q;obtain⟨u1,u2,u3⟩:=u;dsimp only at *;have bX:=fV hX
  go_upto_if 38 with(go_at_call 104;refine C4.mono ?_;clear C4;rintro e w2 ⟨rfl,bO⟩)
  have B2:=hb.trans (aa bO hb.size);have kX:=ag hX bO;have kR:=ag hR bO;have NM:=hG.below bO zr;have hsz:=aj hX;have UX:=bO.size;clear bX hX hR hG hb bO
  go_cut [0] from 9 to 52 (λx wx=>x=str u3∧u3.length≤s.length∧u2.length≤maxLen∧wx.heap[w.heap.size+1]? =some (.cells #[.bool u1,.slice none 0 0,.string ⟨u2.toArray⟩,.slice pg q2.length cg] 176)∧SS (λb=>w.heap.size+1<b) wx (.slice pg q2.length cg) q2∧wx.heap[w.heap.size]? =some (.cells #[.bool false,.slice none 0 0,.string ⟨#[]⟩,.slice none 0 0] 176)∧Below w.heap.size w wx)
  case first =>
   rcases VJ with _|_
   · rcases VB with _|_
     · have hu:=vV rfl rfl
       simp only[Prod.mk.injEq] at hu;obtain⟨rfl,rfl,rfl⟩:=hu;clear hk1 hk2 vV hc1 yp HE;go_wp2_with (go_at_call 104;refine(C5 _ B2).mono ?_;clear C5;rintro e w3 ⟨rfl,cK⟩)
       go_meet
       case rel=>exact⟨rfl,by omega,Nat.zero_le _,ag kX cK,NM.below cK zr,ag kR cK,B2.trans (aa cK B2.size)⟩
     · have hu:=hk2 rfl rfl
       simp only[Prod.mk.injEq] at hu;obtain⟨rfl,rfl,rfl⟩:=hu;clear hk1 hk2 vV hc1 yp HE;go_wp2_with (go_at_call 104;refine(C5 _ B2).mono ?_;clear C5;rintro e w3 ⟨rfl,cK⟩;have VQ:=fV (ag kX cK))
       go_meet
       case rel=>exact⟨rfl,by omega,by unfold maxLen;omega,heap_setCell_same _ _ _ _ _ _ (ag kX cK),(NM.below cK zr).set (λb hb=>by simp only;omega) _,(heap_setCell_other _ _ _ _ (by simp)).trans (ag kR cK),(B2.trans (aa cK B2.size)).setCell (p:=⟨w.heap.size+1,2,none⟩) (by simp) _⟩
   · have hu:=hk1 rfl
     simp only[Prod.mk.injEq] at hu;obtain⟨rfl,rfl,rfl⟩:=hu;have bX:=fV kX;clear hk1 hk2 vV hc1 yp HE C5;go_wp2_with fail
     go_meet
     case rel=>exact⟨rfl,by omega,by unfold maxLen;omega,heap_setCell_same _ _ _ _ _ _ (heap_setCell_same _ _ _ _ _ _ kX),(NM.set (λb hb=>by simp only;omega) _).set (λb hb=>by simp only;omega) _,((heap_setCell_other _ _ _ _ (by simp)).trans (heap_setCell_other _ _ _ _ (by simp))).trans kR,(B2.setCell (p:=⟨w.heap.size+1,0,none⟩) (by simp) _).setCell (p:=⟨w.heap.size+1,2,none⟩) (by simp) _⟩
  case rest=>
   obtain⟨rfl,CJ,N4,hX,hG,hR,hb⟩:=hcut;have MN:=aj hX;clear hk1 hk2 vV C5 B2 kX kR NM hcl Gf
   by_cases h5:5<u3.length
   · obtain rfl:=hc1 h5
     have g5:(5:Int)<(u3.length:Int):=by omega
     have C6:=jw (u3.drop 5) [41] wc (by rw[List.length_drop];omega);have htl:=fQ (u3.drop 5) [41];rw[List.length_drop] at htl;have C7:=yT (Lib.trimSuffix (u3.drop 5) [41]) wc (by omega);have hpl:=B0 (Lib.trimSuffix (u3.drop 5) [41]);generalize Lib.trimSuffix (u3.drop 5) [41]=TT at *;generalize iA TT=PP at *;have S0:=zh (show ∀a∈PP,a.length≤maxLen from λa ha=>by have:=hpl a ha;unfold maxLen;omega);clear hc1 yp hpl;go_wp2_with (first
      | (go_at_call 142;refine C7.mono ?_;clear C7;rintro e w3 ⟨v3,rfl,Pg,cK⟩;obtain⟨p3,c3,rfl⟩:=aJ Pg;have kX:=ag hX cK;have kR:=ag hR cK;have bX:=fV (heap_setCell_same _ _ 1 _ _ (.slice p3 PP.length c3) kX);have VP:=fV kX;have bR:=fV ((heap_setCell_other w3 ⟨w.heap.size+1,1,none⟩ w.heap.size (.slice p3 PP.length c3) (by simp)).trans kR))
      | (go_at_call 139;refine C6.mono ?_;clear C6;rintro e w2 ⟨rfl,MW⟩;subst MW))
     have SA:=cK.size;refine bodyPost_ret (v:=.agg #[.bool u1,.slice p3 PP.length c3,.string ⟨u2.toArray⟩,.slice pg q2.length cg]) (by simp[results,Tryz.results107,go_sem,bR]) rfl ?_;rw[HE.out];have hP:SS (λb=>w.heap.size+1<b) w3 (.slice p3 PP.length c3) PP:=SS.eZ Pg S0.out λb hb=>by have:=(Pg.lt b hb).1;omega
     have B3:=hb.trans (aa cK hb.size);refine⟨_,rfl,⟨_,_,rfl,N4,?_,?_⟩,?_⟩
     · exact(SS.uQ (hP.set (a:=⟨w.heap.size+1,1,none⟩) (λb hb=>by simp only;omega) _) (b:=w.heap.size) (λb hb=>by omega) _ _ _ _).mono λb hb=>by omega
     · exact(SS.uQ ((hG.below cK zr).set (a:=⟨w.heap.size+1,1,none⟩) (λb hb=>by simp only;omega) _) (b:=w.heap.size) (λb hb=>by omega) _ _ _ _).mono λb hb=>by omega
     · exact Below.uQ (B3.setCell (p:=⟨w.heap.size+1,1,none⟩) (by simp) _) (b:=w.heap.size) zr _ _ _ _
   · obtain rfl:=yp h5
     have g5:¬(5:Int)<(u3.length:Int):=by omega
     have bX:=fV hX;have bR:=fV hR;clear hc1 yp;go_wp2_with fail;refine bodyPost_ret (v:=.agg #[.bool u1,.slice none 0 0,.string ⟨u2.toArray⟩,.slice pg q2.length cg]) (by simp[results,Tryz.results107,go_sem,bR]) rfl ?_;rw[HE.out];refine⟨_,rfl,⟨_,_,rfl,N4,SS.nil _ _ _ _,?_⟩,?_⟩
     · exact(SS.uQ hG (b:=w.heap.size) (λb hb=>by omega) _ _ _ _).mono λb hb=>by omega
     · exact Below.uQ hb (b:=w.heap.size) zr _ _ _ _
end
section
open Go.RowKit
theorem ja {s:List UInt8} (h:isName s=true):s.length≤12:=by
 cases s with
 | nil=>simp
 | cons c r=>
  simp only[isName,Bool.and_eq_true,decide_eq_true_eq] at h;exact h.1.1.1
theorem nM {B:Nat}:∀l:List (List UInt8),(∀s∈l,s.length≤B)→(di l).length≤l.length * (B+1)
 | [],_=>by simp[di]
 | [a],h=>by
  have:=h a (by simp);simp[di];omega
 | a::b::l,h=>by
  have h1:=h a (by simp);have h2:=nM (b::l) (λs hs=>h s (by simp at hs ⊢;right;exact hs));rw[di,List.length_append,List.length_cons];simp only[List.length_cons (a:=a),Nat.succ_mul] at h2 ⊢;omega
theorem nh:∀{l:List (List UInt8)},gO l=true→∀s∈l,isName s=true
 | [],_=>λs h=>by cases h
 | [a],h=>λs hs=>by
  rw[List.mem_singleton.1 hs];exact h
 | a::b::l,h=>λs hs=>by
  rw[gO] at h;simp only[Bool.and_eq_true] at h;rcases List.mem_cons.1 hs with rfl|hs
  · exact h.1.1
  · exact nh h.2 s hs
theorem pM {s:List UInt8} (h:(bH s).1=0):s.length≤100:=
 (rZ (t:=(bH s).2) (Prod.ext h rfl)).2.2.1
structure pF (s:fT):Prop where
 a:(di s.args).length≤1000
 r:s.res.length≤100
 g:(di s.sigs).length≤100
 an:s.args.length≤6
 gn:s.sigs.length≤6
theorem AA {s:fT} {o:Bool} (h:eB s o=true):pF s:=by
 obtain⟨h1,h2,h3,_,h5⟩:=gY h
 have ha:=nM (B:=100) s.args λt ht=>pM (h5 t (by unfold dH;simp[ht])).1
 have hg:=nM (B:=12) s.sigs λt ht=>ja (nh h3 t ht)
 have m1:=Nat.mul_le_mul_right 101 h1
 have m2:=Nat.mul_le_mul_right 13 h2
 refine⟨by omega,?_,by omega,h1,h2⟩
 by_cases hr:s.res=[]
 · rw[hr];simp
 · exact pM (h5 s.res (by unfold dH;simp[hr])).1
theorem uz {wd:List UInt8} {o:dw} (hw:wd.length≤10) (hn:o.name.length≤12) (hs:pF o.sig):(cG wd o).length≤2000:=by
 have h1:=hs.a
 have h2:=hs.r
 have h3:=hs.g
 unfold cG zx
 rcases o.sig.iter with _|_<;>by_cases hr:o.sig.res=[]<;>by_cases hg:o.sig.sigs=[]<;>simp[hr,hg]<;>omega
theorem jT {wd:List UInt8} (hw:wd.length≤10):∀l:List dw,(∀o∈l,o.name.length≤12∧pF o.sig)→(l.flatMap (cG wd)).length≤l.length * 2000
 | [],_=>by simp
 | o::l,h=>by
  have h1:=uz hw (h o (by simp)).1 (h o (by simp)).2;have h2:=jT hw l λx hx=>h x (by simp[hx])
  rw[List.flatMap_cons,List.length_append,List.length_cons,Nat.succ_mul];omega
theorem nN:∀ss:List (List UInt8),Lib.join ss []=ss.flatten
 | []=>rfl
 | [a]=>by simp[Lib.join]
 | a::b::l=>by
  have:=nN (b::l);rw[List.flatten_cons,←this];simp[Lib.join,List.intercalate]
theorem o7 {D:Nat→Prop} (ss:List (List UInt8)) (sep:List UInt8) (v:Value) (w:World) (h:SS D w v ss) (hlen:(Lib.join ss sep).length≤140737488355328) (hn:ss.length≤140737488355328):
 Calls Tryz.prog 63 #[v,str sep] w λe w'=>e=.returned (str (Lib.join ss sep))∧Below w.heap.size w w':=by
 obtain⟨p,c,rfl,hc,_,_,h4⟩:=h
 rcases h4 with rfl|⟨b,o,rfl,_,hlt,hcell⟩
 · refine(Tryz.strings_Join_none p c ⟨sep.toArray⟩ w).mono ?_
   rintro e w' ⟨rfl,rfl⟩;exact⟨rfl,zb _⟩
 · have hm:(ss.map λs=>(⟨s.toArray⟩:ByteArray)).map (·.data.toList)=ss:=by
    rw[List.map_map];exact(List.map_congr_left λ_ _=>rfl).trans (List.map_id ss)
   have hj:Lib.join ((ss.map λs=>(⟨s.toArray⟩:ByteArray)).map (·.data.toList)) (⟨sep.toArray⟩:ByteArray).data.toList=Lib.join ss sep:=by rw[hm]
   have:=Tryz.strings_Join b o c (ss.map λs=>⟨s.toArray⟩) ⟨sep.toArray⟩ w ?_ hlt (by simpa using hn) (by simpa using hc) (by rw[hj];exact hlen)
   · rw[hj,List.length_map] at this
     exact this
   · intro j x hx
     rw[List.getElem?_map,Option.map_eq_some_iff] at hx;obtain⟨s,hs,rfl⟩:=hx;obtain⟨hj,rfl⟩:=List.getElem?_eq_some_iff.1 hs;exact hcell j hj
theorem gD {D:Nat→Prop} {L:List (List UInt8)} {J:List UInt8} (hJ:L.flatten=J) (v:Value) (w:World) (h:SS D w v L) (hlen:J.length≤1000000) (hn:L.length≤1000000):
 Calls Tryz.prog 144 #[v] w λe w'=>e=.returned (str J)∧Below w.heap.size w w':=by
 have HC:=o7 L [] v w h (by rw[nN,hJ];omega) (by omega)
 rw[nN,hJ] at HC
 obtain⟨p,c,rfl,_⟩:=h.shape
 clear hJ h
 go_enter Tryz.func144,Tryz.ntmps144
 go_wp2_with (go_at_call 63;refine HC.mono ?_;clear HC;rintro e w2 ⟨rfl,hb⟩)
 go_ret
 exact⟨rfl,hb⟩
theorem vv {D:Nat→Prop} (ss:List (List UInt8)) (v:Value) (w:World) (h:SS D w v ss) (hlen:(di ss).length≤1000000) (hn:ss.length≤1000000):
 Calls Tryz.prog 63 #[v,str [44]] w λe w'=>e=.returned (str (di ss))∧Below w.heap.size w w':=by
 have HC:=o7 ss [44] v w h (by rw[join_eq];omega) (by omega)
 rw[join_eq] at HC
 exact HC
theorem sI (w:World):Calls Tryz.prog 105 #[] w λe w'=>e=.returned (.agg #[str [],str [112,114,111,99],str [105,116,101,114],str [99,108,117,115,116,101,114]])∧Below w.heap.size w w':=by
 go_enter Tryz.func105,Tryz.ntmps105
 go_wp2_with fail
 have hg:=heap_alloc_new w (.cells #[str [],str [112,114,111,99],str [105,116,101,114],str [99,108,117,115,116,101,114]] 172)
 refine bodyPost_ret (v:=.agg #[str [],str [112,114,111,99],str [105,116,101,114],str [99,108,117,115,116,101,114]]) (by simp[results,Tryz.results105,go_sem]) rfl ?_
 exact⟨rfl,(zb _).alloc zr _⟩
theorem yW (wd nm:List UInt8) (s:fT) (hw:wd.length≤10) (hn:nm.length≤12) (hs:pF s):∃X1 X2 X3 X4:List UInt8,
 [wd,[32],nm,[32],cond s.iter [105,116,101,114,40] [112,114,111,99,40],di s.args,[41]].flatten=X1∧[X1,cond s.iter [32,121,105,101,108,100,115,32] [32,114,101,116,117,114,110,115,32],s.res].flatten=X2∧
 [X1,[32,115,105,103,110,97,108,115,40],di s.sigs,[41]].flatten=X3∧[X2,[32,115,105,103,110,97,108,115,40],di s.sigs,[41]].flatten=X4∧
 X1.length≤1100∧X2.length≤1300∧X3.length≤1500∧X4.length≤1500∧cG wd ⟨nm,s⟩=(if s.res=[] then(if s.sigs=[] then X1 else X3) else(if s.sigs=[] then X2 else X4))++[10]:=by
 refine⟨_,_,_,_,rfl,rfl,rfl,rfl,?_,?_,?_,?_,?_⟩
 · have h1:=hs.a
   cases s.iter<;>simp<;>omega
 · have h1:=hs.a
   have h2:=hs.r;cases s.iter<;>simp<;>omega
 · have h1:=hs.a
   have h2:=hs.g;cases s.iter<;>simp<;>omega
 · have h1:=hs.a
   have h2:=hs.r;have h3:=hs.g;cases s.iter<;>simp<;>omega
 · unfold cG zx
   cases s.iter<;>by_cases hr:s.res=[]<;>by_cases hg:s.sigs=[]<;>simp[hr,hg]
set_option maxRecDepth 8000 in
theorem wP {D:Nat→Prop} (wd nm:List UInt8) (v:Value) (s:fT) (w:World) (hv:iX D w v s) (hw:wd.length≤10) (hn:nm.length≤12) (hs:pF s):
 Calls Tryz.prog 145 #[str wd,str nm,v] w λe w'=>e=.returned (str (cG wd ⟨nm,s⟩))∧Below w.heap.size w w':=by
 obtain⟨a,g,rfl,ow,Bb,Pt⟩:=hv
 obtain⟨X1,X2,X3,X4,e1,e2,e3,e4,l1,l2,l3,l4,hL⟩:=yW wd nm s hw hn hs
 have hA:=(zb w).alloc zr (.cells #[.bool s.iter,a,str s.res,g] 176)
 have nE:=heap_alloc_new w (.cells #[.bool s.iter,a,str s.res,g] 176)
 have Ns:=λW (hW:Below (w.heap.size+1) (w.alloc (.cells #[.bool s.iter,a,str s.res,g] 176)) W)=>vv s.args a W ((Bb.below hA zr).below hW (by simp)) (by have:=hs.a;omega) (by have:=hs.an;omega)
 have Nt:=λW (hW:Below (w.heap.size+1) (w.alloc (.cells #[.bool s.iter,a,str s.res,g] 176)) W)=>vv s.sigs g W ((Pt.below hA zr).below hW (by simp)) (by have:=hs.g;omega) (by have:=hs.gn;omega)
 have hle:wd.length≤maxLen∧nm.length≤maxLen∧(di s.args).length≤maxLen∧(di s.sigs).length≤maxLen∧s.res.length≤maxLen∧X1.length≤maxLen∧X2.length≤maxLen:=by
  have:=hs.a;have:=hs.r;have:=hs.g;unfold maxLen;omega
 obtain⟨m1,m2,m3,m4,m5,m6,m7⟩:=hle
 have H1:=λW=>gD e1 _ _ (SS.new (λ_=>True) W trivial _ 9 (0,0) (by simp[maxLen]) (by intro x hx;cases hi:s.iter<;>rw[hi] at hx<;>simp only[cond_true,cond_false,List.mem_cons,List.not_mem_nil,or_false] at hx<;>rcases hx with hx|hx|hx|hx|hx|hx|hx<;>rw[hx]<;>first|assumption|simp[maxLen])) (by omega) (by simp)
 have H2:=λW=>gD e2 _ _ (SS.new (λ_=>True) W trivial _ 9 (0,0) (by simp[maxLen]) (by intro x hx;cases hi:s.iter<;>rw[hi] at hx<;>simp only[cond_true,cond_false,List.mem_cons,List.not_mem_nil,or_false] at hx<;>rcases hx with hx|hx|hx<;>rw[hx]<;>first|assumption|simp[maxLen])) (by omega) (by simp)
 have H3:=λW=>gD e3 _ _ (SS.new (λ_=>True) W trivial _ 9 (0,0) (by simp[maxLen]) (by intro x hx;simp only[List.mem_cons,List.not_mem_nil,or_false] at hx;rcases hx with hx|hx|hx|hx<;>rw[hx]<;>first|assumption|simp[maxLen])) (by omega) (by simp)
 have H4:=λW=>gD e4 _ _ (SS.new (λ_=>True) W trivial _ 9 (0,0) (by simp[maxLen]) (by intro x hx;simp only[List.mem_cons,List.not_mem_nil,or_false] at hx;rcases hx with hx|hx|hx|hx<;>rw[hx]<;>first|assumption|simp[maxLen])) (by omega) (by simp)
 obtain⟨pa,ca,rfl,_⟩:=Bb.shape
 obtain⟨pg,cg,rfl,_⟩:=Pt.shape
 have HL:=zh hL
 clear Bb Pt e1 e2 e3 e4 hL hs hw hn m1 m2 m3 m4 m5 m6 m7
 obtain⟨it,args,res,sigs⟩:=s
 dsimp only at *
 have q0:Below (w.heap.size+1) (w.alloc (.cells #[.bool it,.slice pa args.length ca,str res,.slice pg sigs.length cg] 176)) (w.alloc (.cells #[.bool it,.slice pa args.length ca,str res,.slice pg sigs.length cg] 176)):=zb _
 have n1:¬9223372036854775807<X1.length+1:=by omega
 have n2:¬9223372036854775807<X2.length+1:=by omega
 have n3:¬9223372036854775807<X3.length+1:=by omega
 have n4:¬9223372036854775807<X4.length+1:=by omega
 have bx:=(fV nE).1
 by_cases hr:res=[]
 · subst hr
   clear H2 H4;rcases Nat.eq_zero_or_pos sigs.length with hg|hg
   · obtain rfl:=List.length_eq_zero_iff.1 hg
     clear Nt H3;cases it
     all_goals
      have tH:=HL.out;simp only[if_true] at tH;have tH:=zh tH;clear HL;go_enter Tryz.func145,Tryz.ntmps145;go_wp2_with (first
       | (go_at_call 144;refine(H1 w2).mono ?_;rintro e w3 ⟨rfl,cK⟩;have q3:Below (w.heap.size+1) _ w3:=(q2.alloc (by simpa using q2.size) _).trans (aa cK (by have:=q2.size;simp at this ⊢;omega));have Oo:=(fV (fB nE q3 (by omega))).1)
       | (go_at_call 63;refine(Ns _ q0).mono ?_;rintro e w2 ⟨rfl,bO⟩;have q2:=q0.trans (aa bO (by simp))))
      go_ret;exact⟨by rw[tH.out];rfl,hA.trans (aa q3 (Nat.le_succ _))⟩
   · have hg2:¬sigs=[]:=λe=>by rw[e] at hg;simp at hg
     have hg3:(0:Int)<(sigs.length:Int):=by omega
     cases it
     all_goals
      have tH:=HL.out;simp only[hg2,if_true,if_false] at tH;have tH:=zh tH;clear HL hg2;go_enter Tryz.func145,Tryz.ntmps145;go_wp2_with (first
       | (go_at_call 144;refine(H3 w5).mono ?_;rintro e w6 ⟨rfl,rE⟩;have q6:Below (w.heap.size+1) _ w6:=(q5.alloc (by simpa using q5.size) _).trans (aa rE (by have:=q5.size;simp at this ⊢;omega)))
       | (go_at_call 63;refine(Nt w3 q3).mono ?_;rintro e w5 ⟨rfl,oo⟩;have q5:=q3.trans (aa oo (by simpa using q3.size)))
       | (go_at_call 144;refine(H1 w2).mono ?_;rintro e w3 ⟨rfl,cK⟩;have q3:Below (w.heap.size+1) _ w3:=(q2.alloc (by simpa using q2.size) _).trans (aa cK (by have:=q2.size;simp at this ⊢;omega));have Oo:=(fV (fB nE q3 (by omega))).1)
       | (go_at_call 63;refine(Ns _ q0).mono ?_;rintro e w2 ⟨rfl,bO⟩;have q2:=q0.trans (aa bO (by simp))))
      go_ret;exact⟨by rw[tH.out];rfl,hA.trans (aa q6 (Nat.le_succ _))⟩
 · clear H3
   have gr:res.isEmpty=false:=by cases res<;>simp at hr ⊢
   have V5:=zh hr;rcases Nat.eq_zero_or_pos sigs.length with hg|hg
   · obtain rfl:=List.length_eq_zero_iff.1 hg
     clear Nt H4;cases it
     all_goals
      have tH:=HL.out;simp only[hr,if_true,if_false] at tH;have tH:=zh tH;clear HL hr;go_enter Tryz.func145,Tryz.ntmps145;go_wp2_with (first
       | (go_at_call 144;refine(H2 w3).mono ?_;rintro e w4 ⟨rfl,hb4⟩;have q4:Below (w.heap.size+1) _ w4:=(q3.alloc (by simpa using q3.size) _).trans (aa hb4 (by have:=q3.size;simp at this ⊢;omega));have Td:=(fV (fB nE q4 (by omega))).1)
       | (go_at_call 144;refine(H1 w2).mono ?_;rintro e w3 ⟨rfl,cK⟩;have q3:Below (w.heap.size+1) _ w3:=(q2.alloc (by simpa using q2.size) _).trans (aa cK (by have:=q2.size;simp at this ⊢;omega));have Oo:=(fV (fB nE q3 (by omega))).1)
       | (go_at_call 63;refine(Ns _ q0).mono ?_;rintro e w2 ⟨rfl,bO⟩;have q2:=q0.trans (aa bO (by simp))))
      go_ret;exact⟨by rw[tH.out];rfl,hA.trans (aa q4 (Nat.le_succ _))⟩
   · have hg2:¬sigs=[]:=λe=>by rw[e] at hg;simp at hg
     have hg3:(0:Int)<(sigs.length:Int):=by omega
     cases it
     all_goals
      have tH:=HL.out;simp only[hr,hg2,if_false] at tH;have tH:=zh tH;clear HL hg2 hr;go_enter Tryz.func145,Tryz.ntmps145;go_wp2_with (first
       | (go_at_call 144;refine(H4 w5).mono ?_;rintro e w6 ⟨rfl,rE⟩;have q6:Below (w.heap.size+1) _ w6:=(q5.alloc (by simpa using q5.size) _).trans (aa rE (by have:=q5.size;simp at this ⊢;omega)))
       | (go_at_call 63;refine(Nt w4 q4).mono ?_;rintro e w5 ⟨rfl,oo⟩;have q5:=q4.trans (aa oo (by simpa using q4.size)))
       | (go_at_call 144;refine(H2 w3).mono ?_;rintro e w4 ⟨rfl,hb4⟩;have q4:Below (w.heap.size+1) _ w4:=(q3.alloc (by simpa using q3.size) _).trans (aa hb4 (by have:=q3.size;simp at this ⊢;omega));have Td:=(fV (fB nE q4 (by omega))).1)
       | (go_at_call 144;refine(H1 w2).mono ?_;rintro e w3 ⟨rfl,cK⟩;have q3:Below (w.heap.size+1) _ w3:=(q2.alloc (by simpa using q2.size) _).trans (aa cK (by have:=q2.size;simp at this ⊢;omega));have Oo:=(fV (fB nE q3 (by omega))).1)
       | (go_at_call 63;refine(Ns _ q0).mono ?_;rintro e w2 ⟨rfl,bO⟩;have q2:=q0.trans (aa bO (by simp))))
      go_ret;exact⟨by rw[tH.out];rfl,hA.trans (aa q6 (Nat.le_succ _))⟩
def gP (par:Bool):List (List UInt8)→List dw→Bool
 | _,[]=>true
 | acc,o::l=> !hasB acc o.name&&(isName o.name&&(eB o.sig par&&gP par (acc++[o.name]) l))
theorem uH (par:Bool):∀(l:List dw) (acc:List (List UInt8)),gP par acc l=(l.all (λo=>isName o.name&&eB o.sig par)&&oB (l.map (·.name))&&l.all (λo=> !hasB acc o.name))
 | [],acc=>rfl
 | o :: l, acc => by
  have key:l.all (λx=> !hasB (acc++[o.name]) x.name)=(!(l.map (·.name)).contains o.name&&l.all (λx=> !hasB acc x.name)):=by
   clear uH
   induction l with
   | nil=>rfl
   | cons x l ih=>
    rw[List.all_cons,ih,List.map_cons,List.contains_cons,List.all_cons];have h1:hasB (acc++[o.name]) x.name=(hasB acc x.name||(o.name==x.name)):=by
     unfold hasB;simp only[List.contains_eq_any_beq,List.any_append,List.any_cons,List.any_nil,Bool.or_false];rw[BEq.comm (a:=x.name)]
    rw[h1];cases hasB acc x.name<;>cases (o.name==x.name)<;>cases (l.map (·.name)).contains o.name<;>simp
  rw[gP,uH par l,key];simp only[List.all_cons,List.map_cons,oB];cases isName o.name<;>cases eB o.sig par<;>cases hasB acc o.name<;>cases (l.map (·.name)).contains o.name<;>cases oB (l.map (·.name))<;>simp
def iK (f:aZ):Bool:=decide (f.kind=3)||match f.ops with
 | [o]=>decide (o.name=f.name)&&decide (o.sig.iter=decide (f.kind=2))
 | _=>false
theorem Ds (f:aZ):gT f=(isName f.name&&(decide (1≤f.kind)&&(decide (f.kind≤3)&&(dx f.aB&&((f.par||f.aB.isEmpty)&&(decide (1≤f.ops.length)&&(decide (f.ops.length≤20)&&(gP f.par [] f.ops&&iK f)))))))):=by
 have h:f.ops.all (λo=> !hasB [] o.name)=true:=by rw[List.all_eq_true];intro o _;rfl
 rw[uH,h,Bool.and_true]
 unfold gT iK
 simp only[Bool.and_assoc]
 rfl
def sj (f:aZ):Nat:=if gT f=true then 0 else 42
theorem Dr {f:aZ} (h:gT f=false):sj f=42:=by unfold sj;rw[h];rfl
set_option maxRecDepth 8000 in
theorem tV {D:Nat→Prop} (v:Value) (f:aZ) (w:World) (ht:gx w) (hv:kQ D w v f) (hn:f.aB.length≤100000)
 (fW:(isName f.name&&(decide (1≤f.kind)&&(decide (f.kind≤3)&&(dx f.aB&&((f.par||f.aB.isEmpty)&&(decide (1≤f.ops.length)&&decide (f.ops.length≤20)))))))=false):
 Calls Tryz.prog 143 #[v] w λe w'=>e=.returned (.int .i64 42)∧Below w.heap.size w w':=by
 obtain⟨nv,ov,rfl,hnl,h1,h2⟩:=hv
 have HN:=λW (hW:Below w.heap.size w W)=>bp f.name W (ht.below hW zr) hnl
 have HD:=λW (hW:Below w.heap.size w W)=>qx f.aB nv W (ht.below hW zr) (h1.below hW zr) hn
 obtain⟨p1,c1,rfl,_⟩:=h1.shape
 obtain⟨p2,c2,rfl,_⟩:=h2.shape
 obtain⟨name,kind,par,aB,ops⟩:=f
 dsimp only at *
 have hB:=((zb w).alloc zr (.cells #[str name,.int .u8 kind,.bool par,.slice p1 aB.length c1,.slice p2 ops.length c2] 123))
 have hg:=heap_alloc_new w (.cells #[str name,.int .u8 kind,.bool par,.slice p1 aB.length c1,.slice p2 ops.length c2] 123)
 clear h1 h2
 rcases k1:isName name with _|_
 · rw[k1] at HN
   clear fW;go_enter Tryz.func143,Tryz.ntmps143;go_wp2_with (go_at_call 59;refine(HN _ hB).mono ?_;clear HN;rintro e w1 ⟨rfl,aP⟩;have hB:=hB.trans (aa aP hB.size));go_ret;exact⟨rfl,hB⟩
 rw[k1] at HN fW
 by_cases k2:1≤kind
 case neg=>
  have g:(kind:Int)<1:=by omega
  clear fW;go_enter Tryz.func143,Tryz.ntmps143;go_wp2_with (go_at_call 59;refine(HN _ hB).mono ?_;clear HN;rintro e w1 ⟨rfl,aP⟩;have hg:=ag hg aP;have bx:=(cH hg).1;have hB:=hB.trans (aa aP hB.size));go_ret;exact⟨rfl,hB⟩
 have g2:¬(kind:Int)<1:=by omega
 have b2:decide ((kind:Int)<1)=false:=decide_eq_false g2
 by_cases k3:kind≤3
 case neg=>
  have g:(3:Int)<(kind:Int):=by omega
  clear fW;go_enter Tryz.func143,Tryz.ntmps143;go_wp2_with (go_at_call 59;refine(HN _ hB).mono ?_;clear HN;rintro e w1 ⟨rfl,aP⟩;have hg:=ag hg aP;have bx:=(cH hg).1;have hB:=hB.trans (aa aP hB.size));go_ret;exact⟨rfl,hB⟩
 have g3:¬(3:Int)<(kind:Int):=by omega
 have b3:decide ((3:Int)<(kind:Int))=false:=decide_eq_false g3
 rcases k4:dx aB with _|_
 · rw[k4] at HD
   clear fW;go_enter Tryz.func143,Tryz.ntmps143;go_wp2_with (first
    | (go_at_call 59;refine(HN _ hB).mono ?_;clear HN;rintro e w1 ⟨rfl,aP⟩;have hg:=ag hg aP;have bx:=(cH hg).1;have hB:=hB.trans (aa aP hB.size))
    | (go_at_call 176;refine(HD _ hB).mono ?_;clear HD;rintro e w2 ⟨rfl,bO⟩;have hg:=ag hg bO;have bx:=(cH hg).1;have hB:=hB.trans (aa bO hB.size)))
   go_ret;exact⟨rfl,hB⟩
 rw[k4] at HD fW
 have fW:((par||aB.isEmpty)&&(decide (1≤ops.length)&&decide (ops.length≤20)))=false:=by simpa[k2,k3] using fW
 rcases k5:(par||aB.isEmpty) with _|_
 · obtain⟨rfl,hne⟩:par=false∧aB.isEmpty=false:=by simpa using k5
   have g5:(0:Int)<(aB.length:Int):=by
    have:aB≠[]:=by simpa using hne
    have:=List.length_pos_iff.2 this;omega
   have b5:decide (0<aB.length)=true:=decide_eq_true (by omega);clear fW k5 hne;go_enter Tryz.func143,Tryz.ntmps143;go_wp2_with (first
    | (go_at_call 59;refine(HN _ hB).mono ?_;clear HN;rintro e w1 ⟨rfl,aP⟩;have hg:=ag hg aP;have bx:=(cH hg).1;have hB:=hB.trans (aa aP hB.size))
    | (go_at_call 176;refine(HD _ hB).mono ?_;clear HD;rintro e w2 ⟨rfl,bO⟩;have hg:=ag hg bO;have bx:=(cH hg).1;have hB:=hB.trans (aa bO hB.size)))
   go_ret;exact⟨rfl,hB⟩
 rw[k5,Bool.true_and] at fW
 have g5:par=true∨(par=false∧decide (0<aB.length)=false):=by
  cases par
  · refine .inr ⟨rfl,?_⟩
    have:aB=[]:=by simpa using k5
    subst this;simp
  · exact .inl rfl
 by_cases k6:1≤ops.length
 case neg=>
  have g:(ops.length:Int)<1:=by omega
  have b6:decide ((ops.length:Int)<1)=true:=decide_eq_true g;have VN:decide (ops.length<1)=true:=decide_eq_true (by omega);clear fW k5 k6;rcases g5 with rfl|⟨rfl,g5⟩
  all_goals
   go_enter Tryz.func143,Tryz.ntmps143;go_wp2_with (first
    | (go_at_call 59;refine(HN _ hB).mono ?_;clear HN;rintro e w1 ⟨rfl,aP⟩;have hg:=ag hg aP;have bx:=(cH hg).1;have hB:=hB.trans (aa aP hB.size))
    | (go_at_call 176;refine(HD _ hB).mono ?_;clear HD;rintro e w2 ⟨rfl,bO⟩;have hg:=ag hg bO;have bx:=(cH hg).1;have hB:=hB.trans (aa bO hB.size)))
   go_ret;exact⟨rfl,hB⟩
 case pos=>
  have g6:¬(ops.length:Int)<1:=by omega
  have g:(20:Int)<(ops.length:Int):=by
   have:¬ops.length≤20:=by simpa[k6] using fW
   omega
  have b6:decide ((ops.length:Int)<1)=false:=decide_eq_false g6;have b7:decide ((20:Int)<(ops.length:Int))=true:=decide_eq_true g;have VO:decide (20<ops.length)=true:=decide_eq_true (by omega);clear fW k5 k6;rcases g5 with rfl|⟨rfl,g5⟩
  all_goals
   go_enter Tryz.func143,Tryz.ntmps143;go_wp2_with (first
    | (go_at_call 59;refine(HN _ hB).mono ?_;clear HN;rintro e w1 ⟨rfl,aP⟩;have hg:=ag hg aP;have bx:=(cH hg).1;have hB:=hB.trans (aa aP hB.size))
    | (go_at_call 176;refine(HD _ hB).mono ?_;clear HD;rintro e w2 ⟨rfl,bO⟩;have hg:=ag hg bO;have bx:=(cH hg).1;have hB:=hB.trans (aa bO hB.size)))
   go_ret;exact⟨rfl,hB⟩
theorem SS.row {w:World} {base:Nat} {e:TypeId} {v:Value} {ss:List (List UInt8)} {n:Nat} (h:w.ownsRow base e 1 v n (aA ss)) (hn:ss.length=n) (hl:∀s∈ss,s.length≤maxLen):SS (λb=>base≤b) w v ss:=by
 subst hn
 exact SS.eZ h hl λb hb=>(h.lt b hb).1
end
open Go Go.RowKit
def aU (c:UInt8):List (List UInt8)→List UInt8
 | []=>[]
 | [a]=>a
 | a::b::l=>a++c::aU c (b::l)
theorem iH (c:UInt8):∀l,Lib.join l [c]=aU c l
 | []=>rfl
 | [a]=>Lib.join_one a [c]
 | a::b::l=>by
  rw[Lib.join_cons,aU,←iH c (b::l),Lib.join_cons];simp[Lib.joinTail]
theorem nL (c:UInt8):∀l:List (List UInt8),l.length≤(aU c l).length+1
 | []=>by simp[aU]
 | [a]=>by simp[aU]
 | a::b::l=>by
  have:=nL c (b::l);rw[aU];simp at this ⊢;omega
theorem lS (c:UInt8):∀l:List (List UInt8),∀a∈l,a.length≤(aU c l).length
 | [],a,h=>by cases h
 | [b],a,h=>by
  rw[List.mem_singleton.1 h,aU];exact nl _
 | b::d::l,a,h=>by
  rw[aU];rcases List.mem_cons.1 h with rfl|h
  · simp
  · have:=lS c (d::l) a h
    simp;omega
theorem Eh {c:UInt8} {a:List UInt8} (h:c∉a) (r:List UInt8):Lib.index (a++c::r) [c]=(a.length:Int):=by
 refine Lib.index_first (by simp) ?_ λj hj=>?_
 · rw[mJ,decide_eq_true_eq,List.getElem?_append_right zr]
   simp
 · rw[mJ,decide_eq_false_iff_not,List.getElem?_append_left hj]
   intro e;exact h (List.mem_of_getElem? e)
theorem mS (c:UInt8):∀l:List (List UInt8),l≠[]→(∀a∈l.dropLast,c∉a)→Lib.splitK [c] 0 (l.length - 1) (aU c l)=l
 | [],h,_=>absurd rfl h
 | [a],_,_=>rfl
 | a::b::l,_,h=>by
  have ih:=mS c (b::l) (by simp) λx hx=>h x (by rw[List.dropLast_cons_of_ne_nil (by simp)];exact List.mem_cons_of_mem _ hx)
  have ha:=h a (by rw[List.dropLast_cons_of_ne_nil (by simp)];simp);have hi:=Eh ha (aU c (b::l));rw[aU,show(a::b::l).length - 1=(b::l).length - 1+1 by simp,Lib.splitK,hi,if_neg (by simp)];have e:(a++c::aU c (b::l)).drop ((a.length:Int).toNat+[c].length)=aU c (b::l):=by
   rw[List.drop_append];simp
  rw[e,ih];simp
theorem wC (c:UInt8) (l:List (List UInt8)) (s:List UInt8) (w:World) (h0:l≠[]) (hno:∀a∈l.dropLast,c∉a) (hj:aU c l=s) (hs:s.length≤100000) (hm:fe w):
 Calls Tryz.prog 117 #[str s,str [c],.int .i64 (l.length:Int)] w λe w'=>∃v,e=.returned v∧SS (λb=>w.heap.size≤b) w' v l∧Below w.heap.size w w':=by
 obtain⟨m,hm⟩:=hm
 have h1:=List.length_pos_iff.2 h0
 have h2:=nL c l
 rw[hj] at h2
 have hsz:(⟨s.toArray⟩:ByteArray).size=s.length:=by show s.toArray.size=_;simp
 refine(Tryz.strings_SplitN ⟨s.toArray⟩ ⟨[c].toArray⟩ l.length m w (by omega) hm (by show 1≤[c].toArray.size;simp) (by omega) (by omega)).mono ?_
 rintro e w' ⟨rfl,rfl⟩
 rw[hsz,show min l.length (s.length+1)=l.length by omega]
 have hq:=Lib.splitB_data ⟨[c].toArray⟩ 0 (l.length - 1) ⟨s.toArray⟩
 rw[show(⟨[c].toArray⟩:ByteArray).data.toList=[c] from rfl,show(⟨s.toArray⟩:ByteArray).data.toList=s by simp,←hj,mS c l h0 hno,hj] at hq
 generalize Lib.splitB ⟨[c].toArray⟩ 0 (l.length - 1) ⟨s.toArray⟩=R at *
 have hl:R.length=l.length:=by rw[←hq,List.length_map]
 rw[hl]
 refine⟨_,rfl,⟨_,_,rfl,nl _,by unfold maxLen;omega,λa ha=>?_,.inr ⟨_,0,rfl,nl _,by simp,λj hjl=>?_⟩⟩,(zb w).alloc zr _⟩
 · have:=lS c l a ha
   rw[hj] at this;unfold maxLen;omega
 · rw[Nat.zero_add]
   refine(af (heap_alloc_new w _) j).trans ?_;unfold Lib.cellsOf;rw[List.getElem?_toArray,List.getElem?_append_left (by rw[List.length_map,hl];exact hjl),List.getElem?_map];have hj2:j<R.length:=by omega
   have e:(R[j]).data.toList=l[j]:=by
    have:=congrArg (λx:List (List UInt8)=>x[j]?) hq;simp only[List.getElem?_map,List.getElem?_eq_getElem hj2,List.getElem?_eq_getElem hjl,Option.map_some,Option.some.injEq] at this;exact this
   rw[List.getElem?_eq_getElem hj2,Option.map_some,←e]
end Go.Proofs.YtemjidmkolfgnaaGreatDoor
