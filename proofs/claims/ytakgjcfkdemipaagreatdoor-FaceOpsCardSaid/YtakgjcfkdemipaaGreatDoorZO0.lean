/-
  Lemmas for the statement: contract of the reference argusref04: good, a level on. Contracts of the reference argusref04: param, GoodIn, asked and Good where CheckAll answers as said. Contract of the reference argusref04: Check. Conditions: bounds of lengths; the variable strings.asciiSpace.
-/
import Derived.Test.YtakgjcfkdemipaaGreatDoorZG24
import Derived.Test.YtakgjcfkdemipaaGreatDoorZG32
import Derived.Test.YtakgjcfkdemipaaGreatDoorZG34
import Derived.Test.YtakgjcfkdemipaaGreatDoorZGn
set_option maxHeartbeats 25600000
namespace Go.Proofs.YtakgjcfkdemipaaGreatDoor
open Go.RowKit
set_option maxRecDepth 8000 in
theorem Dy (c:aR) (n:Nat) (hG:wM c n) (fW:qm c):wM c (n+1):=by
 intro D D' lv nv t w hl hn htl NA
 have HV:=Lib.hid (λW (hW:Below w.heap.size w W)=>hl.below hW (nl _))
 have SP:=Lib.hid (λW (hW:Below w.heap.size w W)=>hn.below hW (nl _))
 have HO:=rL t htl w
 have HI:=λW=>Bv t htl W
 by_cases h0:(aq t).1=0
 case neg=>
  have g1:((((aq t).1:Nat):Int) != 0)=true:=by rw[bne_iff_ne];omega
  have g2:¬((((aq t).1:Nat):Int)=0):=by omega
  have HX:=Lib.hid (show cV c (n+1) t=(aq t).1 by rw[cV,if_pos h0]);obtain⟨pl,cl,rfl,_⟩:=hl.shape;obtain⟨pn,cn,rfl,_⟩:=hn.shape;clear h0 hl hn HV SP HI;generalize (aq t).1=C at *;generalize cV c (n+1) t=GN at *;go_enter Tryz.func68,Tryz.ntmps68;go_wp2_with (go_at_call 34;refine HO.mono ?_;clear HO;rintro e w1 ⟨rfl,ay⟩);go_ret;rw[HX.out];exact⟨rfl,ay⟩
 case pos =>
  obtain⟨hi2,hil,Nv⟩:=uo h0;rw[h0] at HO
  by_cases ho:eW t=true∧c.par=false
  case pos=>
   obtain⟨kB,yO⟩:=ho;have HX:=Lib.hid (show cV c (n+1) t=43 by rw[cV,if_neg (by simp[h0]),if_pos ⟨kB,yO⟩]);rw[kB] at HO;generalize cV c (n+1) t=GN at *;simp only[yO];obtain⟨pl,cl,rfl,_⟩:=hl.shape;obtain⟨pn,cn,rfl,_⟩:=hn.shape;clear h0 kB yO hi2 hil Nv hl hn HV SP HI;go_enter Tryz.func68,Tryz.ntmps68;go_wp2_with (go_at_call 34;refine HO.mono ?_;clear HO;rintro e w1 ⟨rfl,ay⟩);go_ret;rw[HX.out];exact⟨rfl,ay⟩
  case neg =>
   have HX:=Lib.hid (show cV c (n+1) t=dV ((dO t).1.map (gH c (cV c n))) by rw[cV,if_neg (by simp[h0]),if_neg ho]);generalize cV c (n+1) t=GN at *;rw[hi2] at HI;generalize (dO t).1=l at *;have Sw:eW t=false∨(eW t=true∧c.par=true):=by cases h1:eW t<;>cases h2:c.par<;>simp_all
   clear ho h0 hi2;generalize eW t=O at *;obtain⟨pl,cl,rfl,hlc,hlm,_⟩:=hl.shape;obtain⟨pn,cn,rfl,_⟩:=hn.shape;unfold maxLen at hlm;have Xv:=Lib.hid hl;clear hl hn;rcases Sw with rfl|⟨rfl,OY⟩
   all_goals
    try rw[OY]
    go_enter Tryz.func68,Tryz.ntmps68;go_wp2_with (first
     | (go_at_call 127;refine(HI _).mono ?_;clear HI;rintro e w2 ⟨vi,rfl,T4,aA⟩;obtain⟨p3,c3,rfl⟩:=T4.sh)
     | (go_at_call 34;refine HO.mono ?_;clear HO;rintro e w1 ⟨rfl,ay⟩))
    have kr:=ay.trans (af aA ay.size);clear ay aA;go_loopw [13] (λa wx=>∃i:Nat,i≤l.length∧a=.int .i64 i∧Below w.heap.size w wx∧Strs wx (.slice p3 l.length c3) l∧Hid (dV (l.map (gH c (cV c n)))=dV ((l.drop i).map (gH c (cV c n))))) (λa _=>l.length - (intOf a).toNat)
    case atStart=>exact⟨0,Nat.zero_le _,by go_num,kr,T4,rfl⟩
    case round =>
     clear kr T4;obtain⟨i,hi,rfl,hb,nW,hE⟩:=hrel
     by_cases hlt:i<l.length
     case neg=>
      have HY:=Lib.hid (show GN=0 by rw[HX.out,hE.out,List.drop_eq_nil_of_le (by omega)];rfl);clear hE;go_wp2_with fail;go_ret;rw[HY.out];exact⟨rfl,hb⟩
     case pos =>
      obtain⟨u,yN⟩:∃u,l[i]? =some u:=⟨_,List.getElem?_eq_getElem hlt⟩
      obtain⟨U4,wq,huv⟩:=Nv u (List.mem_of_getElem? yN);have wq:u.length≤maxLen:=Nat.le_trans wq (by decide);obtain⟨b1,o1,rfl,pc⟩:=nW.at yN;have hd:=hE.out;rw[bp yN,List.map_cons] at hd;clear hE yN Nv;have HK:=gP u wq wr
      by_cases kS:(aq u).2.k=7
      case neg=>
       have g1:(((aq u).2.k:Int) != 7)=true:=by rw[bne_iff_ne];omega
       have g2:¬(((aq u).2.k:Int)=7):=by omega
       have HY:=Lib.hid (hd.trans (gj (xQ kS)));clear kS hd;go_wp2_with (go_at_call 128;refine HK.mono ?_;clear HK;rintro e w1 ⟨rfl,ay⟩;have bJ:=hb.trans (af ay hb.size);have hS1:=nW.below ay (nl _);have kK:=Below.keep ay pc);exact⟨⟨i+1,hlt,by go_num,bJ,hS1,HY⟩,by simp only[intOf];omega⟩
      case pos =>
       obtain⟨_,hal,GC,_,hac,_⟩:=qX U4 kS;rw[kS] at HK;have qj:=λW=>x9 u wq W
       have mB:=λW=>uY u wq W
       have vV:=λW (hW:Below w.heap.size w W)=>Ex c.bK (dI u).1 _ W (HV.out W hW)
       rcases qC (j6 (dI u).1) c.bK 0 with⟨Ke,hq⟩|⟨fi,f,Ke,hq,hfi⟩
       · rw[kG] at hq
         have HY:=Lib.hid (hd.trans ((eH (by rw[j7 kS hq];decide)).trans (j7 kS hq)));rw[Ke] at vV;clear hd Ke hq;go_wp2_with (first
          | (go_at_call 95;refine(vV _ dg).mono ?_;clear vV;rintro e w4 ⟨rfl,hb4⟩;have dH:=dg.trans (af hb4 dg.size);have qv:=o9.below hb4 (nl _))
          | (go_at_call 130;refine(mB _).mono ?_;clear mB;rintro e w3 ⟨rfl,aK⟩;have dg:=bW.trans (af aK bW.size);have o9:=kA.below aK (nl _))
          | (go_at_call 129;refine(qj _).mono ?_;clear qj;rintro e w2 ⟨rfl,aA⟩;have bW:=bJ.trans (af aA bJ.size);have kA:=hS1.below aA (nl _);have mR:=Below.keep aA kK)
          | (go_at_call 128;refine HK.mono ?_;clear HK;rintro e w1 ⟨rfl,ay⟩;have bJ:=hb.trans (af ay hb.size);have hS1:=nW.below ay (nl _);have kK:=Below.keep ay pc))
         go_ret;rw[HX.out,HY.out];exact⟨rfl,dH⟩
       · rw [kG] at hq
         rw[Ke,Nat.zero_add] at vV;have hfo:=fW.1 f (List.mem_of_getElem? hfi);have hfl:fi<c.bK.length:=(List.getElem?_eq_some_iff.1 hfi).1;obtain⟨bf,of,Vl,Vm,rfl,_,_,E7,Sm,_,e1,e2,e3,_⟩:=Xv.out.at hfi;obtain⟨po,co,rfl,_⟩:=E7.shape;clear Ke hfi Sm;have g0:¬((fi:Int)<0):=by omega
         by_cases h3:f.kind=3
         case neg=>
          have HY:=Lib.hid (hd.trans ((eH (by rw[fu kS hq (λh=>h3 h.1)];decide)).trans (fu kS hq (λh=>h3 h.1))));have g1:((f.kind:Int) != 3)=true:=by rw[bne_iff_ne];omega
          have g2:¬((f.kind:Int)=3):=by omega
          clear hq hd h3 E7 hfo;go_wp2_with (first
           | (go_at_call 95;refine(vV _ dg).mono ?_;clear vV;rintro e w4 ⟨rfl,hb4⟩;have dH:=dg.trans (af hb4 dg.size);have qv:=o9.below hb4 (nl _);have Po:=Below.keep dH e1;have Gw:=Below.keep dH e2;have Ks:=Below.keep dH e3)
               | (go_at_call 130;refine(mB _).mono ?_;clear mB;rintro e w3 ⟨rfl,aK⟩;have dg:=bW.trans (af aK bW.size);have o9:=kA.below aK (nl _))
               | (go_at_call 129;refine(qj _).mono ?_;clear qj;rintro e w2 ⟨rfl,aA⟩;have bW:=bJ.trans (af aA bJ.size);have kA:=hS1.below aA (nl _);have mR:=Below.keep aA kK)
               | (go_at_call 128;refine HK.mono ?_;clear HK;rintro e w1 ⟨rfl,ay⟩;have bJ:=hb.trans (af ay hb.size);have hS1:=nW.below ay (nl _);have kK:=Below.keep ay pc))
          go_ret;rw[HX.out,HY.out];exact⟨rfl,dH⟩
         case pos =>
          rw[h3] at e1;rcases hha:(bQ u).2.1 with _|_<;>rcases jb:f.par with _|_
          · have HY:=Lib.hid (hd.trans (gj (uG kS hq h3 jb hha)))
            rw[hha] at mB;rw[jb] at e2;clear hq hd E7 hfo hha jb hac;go_wp2_with (first
             | (go_at_call 95;refine(vV _ dg).mono ?_;clear vV;rintro e w4 ⟨rfl,hb4⟩;have dH:=dg.trans (af hb4 dg.size);have qv:=o9.below hb4 (nl _);have Po:=Below.keep dH e1;have Gw:=Below.keep dH e2;have Ks:=Below.keep dH e3)
              | (go_at_call 130;refine(mB _).mono ?_;clear mB;rintro e w3 ⟨rfl,aK⟩;have dg:=bW.trans (af aK bW.size);have o9:=kA.below aK (nl _))
              | (go_at_call 129;refine(qj _).mono ?_;clear qj;rintro e w2 ⟨rfl,aA⟩;have bW:=bJ.trans (af aA bJ.size);have kA:=hS1.below aA (nl _);have mR:=Below.keep aA kK)
              | (go_at_call 128;refine HK.mono ?_;clear HK;rintro e w1 ⟨rfl,ay⟩;have bJ:=hb.trans (af ay hb.size);have hS1:=nW.below ay (nl _);have kK:=Below.keep ay pc))
            exact⟨⟨i+1,hlt,by go_num,dH,qv,HY⟩,by simp only[intOf];omega⟩
          · have HY:=Lib.hid (hd.trans ((eH (by rw[fu kS hq (λh=>by rw[hha,jb] at h;simp at h)];decide)).trans (fu kS hq (λh=>by rw[hha,jb] at h;simp at h))))
            rw[hha] at mB;rw[jb] at e2;clear hq hd E7 hfo hha jb hac;go_wp2_with (first
             | (go_at_call 95;refine(vV _ dg).mono ?_;clear vV;rintro e w4 ⟨rfl,hb4⟩;have dH:=dg.trans (af hb4 dg.size);have qv:=o9.below hb4 (nl _);have Po:=Below.keep dH e1;have Gw:=Below.keep dH e2;have Ks:=Below.keep dH e3)
              | (go_at_call 130;refine(mB _).mono ?_;clear mB;rintro e w3 ⟨rfl,aK⟩;have dg:=bW.trans (af aK bW.size);have o9:=kA.below aK (nl _))
              | (go_at_call 129;refine(qj _).mono ?_;clear qj;rintro e w2 ⟨rfl,aA⟩;have bW:=bJ.trans (af aA bJ.size);have kA:=hS1.below aA (nl _);have mR:=Below.keep aA kK)
              | (go_at_call 128;refine HK.mono ?_;clear HK;rintro e w1 ⟨rfl,ay⟩;have bJ:=hb.trans (af ay hb.size);have hS1:=nW.below ay (nl _);have kK:=Below.keep ay pc))
            go_ret;rw[HX.out,HY.out];exact⟨rfl,dH⟩
          · have HY:=Lib.hid (hd.trans ((eH (by rw[fu kS hq (λh=>by rw[hha,jb] at h;simp at h)];decide)).trans (fu kS hq (λh=>by rw[hha,jb] at h;simp at h))))
            rw[hha] at mB;rw[jb] at e2;clear hq hd E7 hfo hha jb hac;go_wp2_with (first
             | (go_at_call 95;refine(vV _ dg).mono ?_;clear vV;rintro e w4 ⟨rfl,hb4⟩;have dH:=dg.trans (af hb4 dg.size);have qv:=o9.below hb4 (nl _);have Po:=Below.keep dH e1;have Gw:=Below.keep dH e2;have Ks:=Below.keep dH e3)
              | (go_at_call 130;refine(mB _).mono ?_;clear mB;rintro e w3 ⟨rfl,aK⟩;have dg:=bW.trans (af aK bW.size);have o9:=kA.below aK (nl _))
              | (go_at_call 129;refine(qj _).mono ?_;clear qj;rintro e w2 ⟨rfl,aA⟩;have bW:=bJ.trans (af aA bJ.size);have kA:=hS1.below aA (nl _);have mR:=Below.keep aA kK)
              | (go_at_call 128;refine HK.mono ?_;clear HK;rintro e w1 ⟨rfl,ay⟩;have bJ:=hb.trans (af ay hb.size);have hS1:=nW.below ay (nl _);have kK:=Below.keep ay pc))
            go_ret;rw[HX.out,HY.out];exact⟨rfl,dH⟩
          · obtain⟨ha0,QJ,QI⟩:=hac hha
            have GD:iz (bQ u).1<n:=by omega
            obtain⟨k0,rfl⟩:∃k0,n=k0+1:=⟨n - 1,by omega⟩
            have Wr:∀o∈f.ag,o.sig.args.length≤100000:=λo ho=>Nat.le_trans ((dr (ec hfo).2.2.2.1).2 o ho).1 (by decide)
            have sQ:=λW (hW:Below w.heap.size w W)=>yb c k0 hG fW _ _ _ f.ag (bQ u).1 W (HV.out W hW) (SP.out W hW) (E7.below hW (nl _)) Wr ha0 QJ GD
            try simp only[OY] at sQ
            have hfit:=xP (n:=k0+1) kS hq h3 jb hha;rw[Hj ha0 (ve c _ fW.1 fW.2)] at hfit;rw[hha] at mB;rw[jb] at e2;clear hq E7 hfo hha jb hac ha0 QJ QI GD Wr;generalize sJ c (k0+1) f.ag (bQ u).1=FI at *;rcases FI with _|y
            · have HY:=Lib.hid (hd.trans (gj (hfit.trans (if_pos rfl))))
              clear hd hfit;go_wp2_with (first
               | (go_at_call 131;refine(sQ _ dH).mono ?_;clear sQ;rintro e w5 ⟨rfl,cW⟩;have iq:=dH.trans (af cW dH.size);have Ca:=qv.below cW (nl _))
               | (go_at_call 95;refine(vV _ dg).mono ?_;clear vV;rintro e w4 ⟨rfl,hb4⟩;have dH:=dg.trans (af hb4 dg.size);have qv:=o9.below hb4 (nl _);have Po:=Below.keep dH e1;have Gw:=Below.keep dH e2;have Ks:=Below.keep dH e3)
               | (go_at_call 130;refine(mB _).mono ?_;clear mB;rintro e w3 ⟨rfl,aK⟩;have dg:=bW.trans (af aK bW.size);have o9:=kA.below aK (nl _))
               | (go_at_call 129;refine(qj _).mono ?_;clear qj;rintro e w2 ⟨rfl,aA⟩;have bW:=bJ.trans (af aA bJ.size);have kA:=hS1.below aA (nl _);have mR:=Below.keep aA kK)
               | (go_at_call 128;refine HK.mono ?_;clear HK;rintro e w1 ⟨rfl,ay⟩;have bJ:=hb.trans (af ay hb.size);have hS1:=nW.below ay (nl _);have kK:=Below.keep ay pc))
              exact⟨⟨i+1,hlt,by go_num,iq,Ca,HY⟩,by simp only[intOf];omega⟩
            · have HZ:=hfit.trans (if_neg (by simp))
              have HY:=Lib.hid (hd.trans ((eH (by rw[HZ];decide)).trans HZ));clear hd hfit HZ;go_wp2_with (first
               | (go_at_call 131;refine(sQ _ dH).mono ?_;clear sQ;rintro e w5 ⟨rfl,cW⟩;have iq:=dH.trans (af cW dH.size);have Ca:=qv.below cW (nl _))
               | (go_at_call 95;refine(vV _ dg).mono ?_;clear vV;rintro e w4 ⟨rfl,hb4⟩;have dH:=dg.trans (af hb4 dg.size);have qv:=o9.below hb4 (nl _);have Po:=Below.keep dH e1;have Gw:=Below.keep dH e2;have Ks:=Below.keep dH e3)
               | (go_at_call 130;refine(mB _).mono ?_;clear mB;rintro e w3 ⟨rfl,aK⟩;have dg:=bW.trans (af aK bW.size);have o9:=kA.below aK (nl _))
               | (go_at_call 129;refine(qj _).mono ?_;clear qj;rintro e w2 ⟨rfl,aA⟩;have bW:=bJ.trans (af aA bJ.size);have kA:=hS1.below aA (nl _);have mR:=Below.keep aA kK)
               | (go_at_call 128;refine HK.mono ?_;clear HK;rintro e w1 ⟨rfl,ay⟩;have bJ:=hb.trans (af ay hb.size);have hS1:=nW.below ay (nl _);have kK:=Below.keep ay pc))
              go_ret;rw[HX.out,HY.out];exact⟨rfl,iq⟩
theorem nJ (c:aR) (fW:qm c):∀n,wM c n
 | 0=>λ_ _ _ _ _ _ _ _ _ h=>absurd h (Nat.not_lt_zero _)
 | n+1=>Dy c n (nJ c fW n) fW
end Go.Proofs.YtakgjcfkdemipaaGreatDoor
namespace Go.Proofs.YtakgjcfkdemipaaGreatDoor
open Go.RowKit
theorem rK {D D':Nat→Prop} (c:aR) (fW:qm c) (lv nv:Value) (t:List UInt8) (w:World) (hl:aZ D w lv c.bK) (hn:aJ D' w nv c.ag) (htl:t.length≤maxLen):
 Calls Tryz.prog 68 #[lv,nv,.bool c.par,str t] w λe w'=>e=.returned (.int .i64 (dx c t))∧Below w.heap.size w w':=
 nJ c fW 7 D D' lv nv t w hl hn htl (by have:=oh t;omega)
theorem wQ {l:List aB} {ag:List aG} {par:Bool} (h:bP l ag=0):qm ⟨l,ag,par⟩:=by
 unfold bP at h
 split at h
 · rename_i h1;exact absurd h h1
 · rename_i h1
   split at h
   · rename_i h2
     exact⟨(iD l 0 none (sR (by simpa using h1)).1).2.1,h2⟩
   · cases h
theorem DA {D:Nat→Prop} (ag:List aG) (v:Value) (t:List UInt8) (w:World) (hv:aJ D w v ag) (htl:t.length≤maxLen):
 Calls Tryz.prog 69 #[v,str t] w λe w'=>e=.returned (.bool (dX ag t))∧Below w.heap.size w w':=by
 have HO:=rL t htl w
 obtain⟨q,cq,rfl,_,hm,_⟩:=hv.shape
 unfold maxLen at hm
 by_cases h:0<ag.length
 · have HX:=Lib.hid (show dX ag t=true by unfold dX;rw[decide_eq_true h];rfl)
   have g:(0:Int)<(ag.length:Int):=by omega
   go_enter Tryz.func69,Tryz.ntmps69;go_wp2_with (go_at_call 34;refine HO.mono ?_;clear HO;rintro e w1 ⟨rfl,ay⟩);go_ret;rw[HX.out];exact⟨rfl,ay⟩
 · have HX:=Lib.hid (show dX ag t=eW t by unfold dX;rw[decide_eq_false h];rfl)
   obtain rfl:ag=[]:=List.length_eq_zero_iff.1 (by omega);go_enter Tryz.func69,Tryz.ntmps69;go_wp2_with (go_at_call 34;refine HO.mono ?_;clear HO;rintro e w1 ⟨rfl,ay⟩);go_ret;rw[HX.out];exact⟨rfl,ay⟩
def MJ (l:List aB):Prop:=∀(D:Nat→Prop) (v:Value) (w:World),aZ D w v l→Calls Tryz.prog 41 #[v] w λe w'=>e=.returned (.tuple #[.int .i64 (ja l).1,.int .i64 (ja l).2])∧Below w.heap.size w w'
theorem uZ {D D':Nat→Prop} (l:List aB) (hA:MJ l) (v:Value) (ag:List aG) (wv:Value) (w:World) (hv:aZ D w v l) (hw:aJ D' w wv ag):
 Calls Tryz.prog 60 #[v,wv] w λe w'=>e=.returned (.int .i64 (bP l ag))∧Below w.heap.size w w':=by
 have HA:=hA D v w hv
 have HN:=λW (hW:Below w.heap.size w W)=>jB ag wv W (hw.below hW (nl _))
 obtain⟨p,c,rfl,_⟩:=hv.shape
 obtain⟨q,cq,rfl,_⟩:=hw.shape
 have CI:bP l ag=if(ja l).2≠0 then(ja l).2 else if bh ag=true then 0 else 42:=rfl
 generalize bP l ag=AS at *
 generalize (ja l).1=A1 at *
 generalize (ja l).2=A2 at *
 generalize bh ag=NK at *
 clear hv hw hA
 by_cases h:A2=0
 · subst h
   cases NK
   all_goals
    have HX:=Lib.hid CI;clear CI;go_enter Tryz.func60,Tryz.ntmps60;go_wp2_with (first
     | (go_at_call 80;refine(HN _ ay).mono ?_;clear HN;rintro e w2 ⟨rfl,aA⟩)
     | (go_at_call 41;refine HA.mono ?_;clear HA;rintro e w1 ⟨rfl,ay⟩))
    go_ret;rw[HX.out];exact⟨by simp,ay.trans (af aA ay.size)⟩
 · have HX:=Lib.hid (CI.trans (if_pos h))
   have g1:((A2:Int)==0)=false:=by rw[beq_eq_false_iff_ne];omega
   have g2:¬((A2:Int)=0):=by omega
   clear CI;go_enter Tryz.func60,Tryz.ntmps60;go_wp2_with (go_at_call 41;refine HA.mono ?_;clear HA;rintro e w1 ⟨rfl,ay⟩);go_ret;rw[HX.out];exact⟨rfl,ay⟩
end Go.Proofs.YtakgjcfkdemipaaGreatDoor
namespace Go.Proofs.YtakgjcfkdemipaaGreatDoor
open Go.RowKit
theorem He {f:aB} (h:(isName f.name&&(decide (1≤f.kind)&&(decide (f.kind≤3)&&(bh f.ag&&(f.par||f.ag.isEmpty)))))=false):jS f=42:=by
 apply kW
 rw[ni]
 revert h
 cases isName f.name<;>cases decide (1≤f.kind)<;>cases decide (f.kind≤3)<;>cases bh f.ag<;>cases (f.par||f.ag.isEmpty)<;>simp
theorem wS {f:aB} (h:(decide (1≤f.ops.length)&&decide (f.ops.length≤20))=false):jS f=42:=by
 apply kW
 rw[ni]
 revert h
 cases decide (1≤f.ops.length)<;>cases decide (f.ops.length≤20)<;>simp
theorem nU {f:aB} (h:(fR f.par [] f.ops&&jH f)=false):jS f=42:=by
 apply kW
 rw[ni,h]
 simp
theorem Hf {f:aB} (h1:(isName f.name&&(decide (1≤f.kind)&&(decide (f.kind≤3)&&(bh f.ag&&(f.par||f.ag.isEmpty)))))=true) (h2:(decide (1≤f.ops.length)&&decide (f.ops.length≤20))=true) (h3:(fR f.par [] f.ops&&jH f)=true):jS f=0:=by
 apply q8
 rw[ni]
 simp only[Bool.and_eq_true] at h1 h2 h3 ⊢
 exact⟨h1.1,h1.2.1,h1.2.2.1,h1.2.2.2.1,h1.2.2.2.2,h2.1,h2.2,h3⟩
theorem AJ (k:Nat):(((k:Int)==2):Bool)=decide (k=2):=by
 by_cases h:k=2
 · subst h;rfl
 · rw[decide_eq_false h,beq_eq_false_iff_ne];omega
set_option maxRecDepth 8000 in
theorem Ds {D:Nat→Prop} (v:Value) (f:aB) (w:World) (hv:fE D w v f)
 (ku:(isName f.name&&(decide (1≤f.kind)&&(decide (f.kind≤3)&&(bh f.ag&&(f.par||f.ag.isEmpty)))))=false):
 Calls Tryz.prog 39 #[v] w λe w'=>e=.returned (.int .i64 42)∧Below w.heap.size w w':=by
 obtain⟨nv,ov,rfl,hnl,h1,h2⟩:=hv
 have HN:=λW=>aN f.name W hnl
 have HD:=λW (hW:Below w.heap.size w W)=>jB f.ag nv W (h1.below hW (nl _))
 obtain⟨p1,c1,rfl,_⟩:=h1.shape
 obtain⟨p2,c2,rfl,_⟩:=h2.shape
 obtain⟨name,kind,par,ag,ops⟩:=f
 dsimp only at *
 have hB:=((Below.refl _ w).alloc (nl _) (.cells #[str name,.int .u8 kind,.bool par,.slice p1 ag.length c1,.slice p2 ops.length c2] 58))
 have hg:=heap_alloc_new w (.cells #[str name,.int .u8 kind,.bool par,.slice p1 ag.length c1,.slice p2 ops.length c2] 58)
 have bx:=(bL hg).1
 clear h1 h2
 rcases k1:isName name with _|_
 · rw[k1] at HN
   clear ku;go_enter Tryz.func39,Tryz.ntmps39;go_wp2_with (go_at_call 87;refine(HN _).mono ?_;clear HN;rintro e w1 ⟨rfl,ay⟩;have hB:=hB.trans (af ay hB.size));go_ret;exact⟨rfl,hB⟩
 rw[k1] at HN ku
 by_cases k2:1≤kind
 case neg=>
  have g:(kind:Int)<1:=by omega
  clear ku;go_enter Tryz.func39,Tryz.ntmps39;go_wp2_with (go_at_call 87;refine(HN _).mono ?_;clear HN;rintro e w1 ⟨rfl,ay⟩;have hg:=ah hg ay;have bx:=(bL hg).1;have hB:=hB.trans (af ay hB.size));go_ret;exact⟨rfl,hB⟩
 have g2:¬(kind:Int)<1:=by omega
 have b2:decide ((kind:Int)<1)=false:=decide_eq_false g2
 by_cases k3:kind≤3
 case neg=>
  have g:(3:Int)<(kind:Int):=by omega
  clear ku;go_enter Tryz.func39,Tryz.ntmps39;go_wp2_with (go_at_call 87;refine(HN _).mono ?_;clear HN;rintro e w1 ⟨rfl,ay⟩;have hg:=ah hg ay;have bx:=(bL hg).1;have hB:=hB.trans (af ay hB.size));go_ret;exact⟨rfl,hB⟩
 have g3:¬(3:Int)<(kind:Int):=by omega
 have b3:decide ((3:Int)<(kind:Int))=false:=decide_eq_false g3
 rcases k4:bh ag with _|_
 · rw[k4] at HD
   clear ku;go_enter Tryz.func39,Tryz.ntmps39;go_wp2_with (first
    | (go_at_call 87;refine(HN _).mono ?_;clear HN;rintro e w1 ⟨rfl,ay⟩;have hg:=ah hg ay;have bx:=(bL hg).1;have hB:=hB.trans (af ay hB.size))
    | (go_at_call 80;refine(HD _ hB).mono ?_;clear HD;rintro e w2 ⟨rfl,aA⟩;have hB:=hB.trans (af aA hB.size)))
   go_ret;exact⟨rfl,hB⟩
 rw[k4,decide_eq_true k2,decide_eq_true k3] at ku
 simp only[Bool.true_and,Bool.or_eq_false_iff] at ku
 obtain⟨rfl,k5⟩:=ku
 have k5:0<ag.length:=by cases ag with|nil=>simp at k5|cons=>simp
 have g5:(0:Int)<(ag.length:Int):=by omega
 rw[k4] at HD
 go_enter Tryz.func39,Tryz.ntmps39
 go_wp2_with (first
  | (go_at_call 87;refine(HN _).mono ?_;clear HN;rintro e w1 ⟨rfl,ay⟩;have hg:=ah hg ay;have bx:=(bL hg).1;have hB:=hB.trans (af ay hB.size))
  | (go_at_call 80;refine(HD _ hB).mono ?_;clear HD;rintro e w2 ⟨rfl,aA⟩;have hg:=ah hg aA;have bx:=(bL hg).1;have hB:=hB.trans (af aA hB.size)))
 go_ret
 exact⟨rfl,hB⟩
set_option maxRecDepth 8000 in
theorem ox {D:Nat→Prop} (v:Value) (f:aB) (w:World) (hv:fE D w v f) (hok:(isName f.name&&(decide (1≤f.kind)&&(decide (f.kind≤3)&&(bh f.ag&&(f.par||f.ag.isEmpty)))))=true)
 (hk:f.kind≠3) (hx:f.ops.length≠1∨∃o,f.ops=[o]∧(o.name≠f.name∨(o.name=f.name∧o.sig.iter≠decide (f.kind=2)))):
 Calls Tryz.prog 39 #[v] w λe w'=>e=.returned (.int .i64 42)∧Below w.heap.size w w':=by
 obtain⟨nv,ov,rfl,hnl,h1,h2⟩:=hv
 have HN:=λW=>aN f.name W hnl
 have HD:=λW (hW:Below w.heap.size w W)=>jB f.ag nv W (h1.below hW (nl _))
 obtain⟨p1,c1,rfl,_⟩:=h1.shape
 obtain⟨p2,c2,rfl,_,hm2,hle⟩:=h2.shape
 obtain⟨name,kind,par,ag,ops⟩:=f
 dsimp only at *
 simp only[Bool.and_eq_true,decide_eq_true_eq] at hok
 obtain⟨k1,k2,k3,k4,k5⟩:=hok
 rw[k1] at HN
 rw[k4] at HD
 have hB:=((Below.refl _ w).alloc (nl _) (.cells #[str name,.int .u8 kind,.bool par,.slice p1 ag.length c1,.slice p2 ops.length c2] 58))
 have hg:=heap_alloc_new w (.cells #[str name,.int .u8 kind,.bool par,.slice p1 ag.length c1,.slice p2 ops.length c2] 58)
 have bx:=(bL hg).1
 have g2:¬(kind:Int)<1:=by omega
 have b2:decide ((kind:Int)<1)=false:=decide_eq_false g2
 have g3:¬(3:Int)<(kind:Int):=by omega
 have b3:decide ((3:Int)<(kind:Int))=false:=decide_eq_false g3
 have g5:ag=[]∨(0<ag.length∧par=true):=by
  cases ag with
  | nil=>exact .inl rfl
  | cons a l=>exact .inr ⟨by simp,by simpa using k5⟩
 clear h1 k1 k2 k3 k4 k5
 unfold maxLen at hm2
 rcases g5 with rfl|⟨g5,rfl⟩
 all_goals
  try simp only[List.length_nil] at hB hg bx HD ⊢
  go_enter Tryz.func39,Tryz.ntmps39;go_upto_region 3 with(first
   | (go_at_call 87;refine(HN _).mono ?_;clear HN;rintro e w1 ⟨rfl,ay⟩;have hg:=ah hg ay;have bx:=(bL hg).1;have KA:=hB.trans (af ay hB.size))
   | (go_at_call 80;refine(HD _ KA).mono ?_;clear HD;rintro e w2 ⟨rfl,aA⟩;have hg:=ah hg aA;have bx:=(bL hg).1;have hBb:=KA.trans (af aA KA.size)))
  obtain⟨m0,m1,m2,m3,m4⟩:=bx;have Ce:¬((kind:Int)=3):=by omega
  rcases hx with hx|⟨o,ho,hx|⟨hx1,hx2⟩⟩
  · have hl1 : ¬ ((ops.length : Int) = 1) := by omega
    refine dw (D:=Any) (w:=w2) 30 [(1,vP w.heap.size 0)] [vP w.heap.size 1,.eq (.int .u8 kind),vY,vY,vP w.heap.size 4,.eq (.slice p2 ops.length c2),vI ops.length,vY,vY,vK,vK,vK,vK,vK,vK,vK,vK,vY,vY,vK,vK,vK,vK,vK,vK,vK,vK,vK,vK,vY,vY] (aW [(⟨w.heap.size,1,none⟩,.int .u8 kind),(⟨w.heap.size,4,none⟩,.slice p2 ops.length c2)]) (by kernel_rfl) rfl (λ_ _ h hb=>h.below hb) (by(iterate 2 refine cM (by assumption) ?_);exact gD) ⟨rfl,trivial⟩ ?_ ?_
    · iterate 31
       refine And.intro ?_ ?_
       · first
         | exact bV (by kernel_rfl) rfl
         | exact mT rfl rfl (by kernel_rfl)
         | exact dS rfl (by kernel_rfl) (by kernel_rfl) rfl rfl
         | exact fK rfl (by kernel_rfl) rfl rfl (λw=>by simp[go_sem])
         | exact fZ rfl (by kernel_rfl) rfl rfl rfl (λw=>by simp[go_sem])
         | exact fq rfl (by kernel_rfl) rfl rfl (λw hS=>by simp[go_sem,(hS.get 0 rfl),(hS.get 1 rfl)])
         | exact dA rfl (by kernel_rfl) rfl rfl rfl (λw=>by simp[go_sem,Ce,hl1])
      exact trivial
    · intro aE wE jv eu _
      simp only[pq,pz,pw];go_wp2_with fail;go_ret;exact⟨rfl,hBb.trans (af eu hBb.size)⟩
  · have h0 : ops[0]? = some o := by rw [ho]; rfl
    obtain⟨b2,o2,av,sv,rfl,_,_,_,_,d0,d1,_⟩:=h2.at h0;rw[Nat.zero_mul,Nat.add_zero] at d0 d1;have d0:=Below.keep hBb d0;have hl1:ops.length=1:=by rw[ho];rfl
    refine dw (D:=Any) (w:=w2) 30 [(1,vP w.heap.size 0)] [vP w.heap.size 1,.eq (.int .u8 kind),vY,vY,vP w.heap.size 4,vL b2 o2 ops.length c2,vI ops.length,vN,vN,vP w.heap.size 4,vL b2 o2 ops.length c2,vP b2 o2,vP b2 o2,vT o.name,vP w.heap.size 0,vT name,vY,vY,vY,vK,vK,vK,vK,vK,vK,vK,vK,vK,vK,vY,vY] (aW [(⟨w.heap.size,0,none⟩,str name),(⟨w.heap.size,1,none⟩,.int .u8 kind),(⟨w.heap.size,4,none⟩,.slice (some ⟨b2,o2,none⟩) ops.length c2),(⟨b2,o2,none⟩,str o.name)]) (by kernel_rfl) rfl (λ_ _ h hb=>h.below hb) (by(iterate 4 refine cM (by assumption) ?_);exact gD) ⟨rfl,trivial⟩ ?_ ?_
    · iterate 31
       refine And.intro ?_ ?_
       · first
         | exact bV (by kernel_rfl) rfl
         | exact mT rfl rfl (by kernel_rfl)
         | exact dS rfl (by kernel_rfl) (by kernel_rfl) rfl rfl
         | exact fK rfl (by kernel_rfl) rfl rfl (λw=>by simp[go_sem])
         | exact fZ rfl (by kernel_rfl) rfl rfl rfl (λw=>by simp[go_sem,hl1])
         | exact fq rfl (by kernel_rfl) rfl rfl (λw hS=>by simp[go_sem,(hS.get 0 rfl),(hS.get 1 rfl),(hS.get 2 rfl),(hS.get 3 rfl)])
         | exact dA rfl (by kernel_rfl) rfl rfl rfl (λw=>by simp[go_sem,Ce,hl1,hx])
      exact trivial
    · intro aE wE jv eu _
      simp only[pq,pz,pw];go_wp2_with fail;go_ret;exact⟨rfl,hBb.trans (af eu hBb.size)⟩
  · have h0 : ops[0]? = some o := by rw [ho]; rfl
    obtain⟨b2,o2,av,sv,rfl,_,_,_,_,d0,d1,_⟩:=h2.at h0;rw[Nat.zero_mul,Nat.add_zero] at d0 d1;have d0:=Below.keep hBb d0;have d1:=Below.keep hBb d1;have hl1:ops.length=1:=by rw[ho];rfl
    have hk2:=AJ kind;refine dw (D:=Any) (w:=w2) 30 [(1,vP w.heap.size 0)] [vP w.heap.size 1,.eq (.int .u8 kind),vY,vY,vP w.heap.size 4,vL b2 o2 ops.length c2,vI ops.length,vN,vN,vP w.heap.size 4,vL b2 o2 ops.length c2,vP b2 o2,vP b2 o2,vT o.name,vP w.heap.size 0,vT name,vN,vN,vN,vP w.heap.size 4,vL b2 o2 ops.length c2,vP b2 o2,vP b2 (o2+1),vP b2 (o2+1),.eq (.bool o.sig.iter),vP w.heap.size 1,.eq (.int .u8 kind),.eq (.bool (decide (kind=2))),vY,vY,vY] (aW [(⟨w.heap.size,0,none⟩,str name),(⟨w.heap.size,1,none⟩,.int .u8 kind),(⟨w.heap.size,4,none⟩,.slice (some ⟨b2,o2,none⟩) ops.length c2),(⟨b2,o2,none⟩,str o.name),(⟨b2,o2+1,none⟩,.bool o.sig.iter)]) (by kernel_rfl) rfl (λ_ _ h hb=>h.below hb) (by(iterate 5 refine cM (by assumption) ?_);exact gD) ⟨rfl,trivial⟩ ?_ ?_
    · iterate 31
       refine And.intro ?_ ?_
       · first
         | exact bV (by kernel_rfl) rfl
         | exact mT rfl rfl (by kernel_rfl)
         | exact dS rfl (by kernel_rfl) (by kernel_rfl) rfl rfl
         | exact fK rfl (by kernel_rfl) rfl rfl (λw=>by simp[go_sem])
         | exact fZ rfl (by kernel_rfl) rfl rfl rfl (λw=>by simp[go_sem,hl1])
         | exact fq rfl (by kernel_rfl) rfl rfl (λw hS=>by simp[go_sem,(hS.get 0 rfl),(hS.get 1 rfl),(hS.get 2 rfl),(hS.get 3 rfl),(hS.get 4 rfl)])
         | exact dA rfl (by kernel_rfl) rfl rfl rfl (λw=>by simp[go_sem,Ce,hl1,hx1,hx2,hk2])
      exact trivial
    · intro aE wE jv eu _
      simp only[pq,pz,pw];go_wp2_with fail;go_ret;exact⟨rfl,hBb.trans (af eu hBb.size)⟩
theorem Ep {par:Bool} {l:List aG} {i k:Nat} {x y:aG} (hx:l[i]? =some x) (hy:l[k]? =some y) (hk:k<i) (h:y.name=x.name):fR par ((l.take i).map (·.name)) (l.drop i)=false:=by
 rw[bp hx]
 refine Bd ?_
 have:x.name∈(l.take i).map (·.name):=List.mem_map.2 ⟨y,List.mem_of_getElem? (i:=k) (by rw[List.getElem?_take_of_lt hk];exact hy),h⟩
 unfold hasB
 simpa using this
theorem Er {l:List aG} {i:Nat} {x:aG} (h:∀y∈l.take i,y.name≠x.name):hasB ((l.take i).map (·.name)) x.name=false:=by
 unfold hasB
 rw[List.contains_eq_any_beq,List.any_eq_false]
 intro z hz e
 obtain⟨y,hy,rfl⟩:=List.mem_map.1 hz
 have:x.name=y.name:=by simpa using e
 exact h y hy this.symm
set_option maxRecDepth 8000 in
theorem Jr {D : Nat → Prop} (v : Value) (f : aB) (w : World) (hv : fE D w v f) (hok : (isName f.name && (decide (1 ≤ f.kind) && (decide (f.kind ≤ 3) && (bh f.ag && (f.par || f.ag.isEmpty))))) = true)
 (hk:f.kind=3∨(f.kind≠3∧∃o,f.ops=[o]∧o.name=f.name∧o.sig.iter=decide (f.kind=2))):
 Calls Tryz.prog 39 #[v] w λe w'=>e=.returned (.int .i64 (if(decide (1≤f.ops.length)&&decide (f.ops.length≤20))=true then(if fR f.par [] f.ops=true then 0 else 42) else 42:Nat))∧Below w.heap.size w w':=by
 obtain⟨nv,ov,rfl,hnl,h1,h2⟩:=hv
 have HN:=λW=>aN f.name W hnl
 have HD:=λW (hW:Below w.heap.size w W)=>jB f.ag nv W (h1.below hW (nl _))
 obtain⟨p1,c1,rfl,_⟩:=h1.shape
 obtain⟨p2,c2,rfl,_,hm2,hle⟩:=h2.shape
 obtain⟨name,kind,par,ag,ops⟩:=f
 dsimp only at *
 simp only[Bool.and_eq_true,decide_eq_true_eq] at hok
 obtain⟨k1,k2,k3,k4,k5⟩:=hok
 rw[k1] at HN
 rw[k4] at HD
 have hB:=((Below.refl _ w).alloc (nl _) (.cells #[str name,.int .u8 kind,.bool par,.slice p1 ag.length c1,.slice p2 ops.length c2] 58))
 have hg:=heap_alloc_new w (.cells #[str name,.int .u8 kind,.bool par,.slice p1 ag.length c1,.slice p2 ops.length c2] 58)
 have bx:=(bL hg).1
 have g2:¬(kind:Int)<1:=by omega
 have b2:decide ((kind:Int)<1)=false:=decide_eq_false g2
 have g3:¬(3:Int)<(kind:Int):=by omega
 have b3:decide ((3:Int)<(kind:Int))=false:=decide_eq_false g3
 have g5:ag=[]∨(0<ag.length∧par=true):=by
  cases ag with
  | nil=>exact .inl rfl
  | cons a l=>exact .inr ⟨by simp,by simpa using k5⟩
 clear h1 k1 k2 k3 k4 k5
 unfold maxLen at hm2
 have Sc:=h2.fresh
 obtain⟨jJ,H9⟩:∃z:Bool,z=par:=⟨_,rfl⟩
 obtain⟨RS,hRS⟩:∃RS:Nat,RS=(if(decide (1≤ops.length)&&decide (ops.length≤20))=true then(if fR par [] ops=true then 0 else 42) else 42):=⟨_,rfl⟩
 rw[←hRS]
 have LG:=Lib.hid (show RS=(if(decide (1≤ops.length)&&decide (ops.length≤20))=true then(if fR jJ [] ops=true then 0 else 42) else 42) by rw[H9];exact hRS)
 replace H9:=Lib.hid H9
 clear hRS
 rcases g5 with rfl|⟨g5,rfl⟩
 all_goals
  try simp only[List.length_nil] at hB hg bx HD ⊢
  go_enter Tryz.func39,Tryz.ntmps39;go_upto_region 3 with(first
   | (go_at_call 87;refine(HN _).mono ?_;clear HN;rintro e w1 ⟨rfl,ay⟩;have hg:=ah hg ay;have bx:=(bL hg).1;have KA:=hB.trans (af ay hB.size))
   | (go_at_call 80;refine(HD _ KA).mono ?_;clear HD;rintro e w2 ⟨rfl,aA⟩;have hg:=ah hg aA;have bx:=(bL hg).1;have hBb:=KA.trans (af aA KA.size)))
  obtain⟨m0,m1,m2,m3,m4⟩:=bx
  go_cut [66] from 36 to 66 (λs wx=>s=.bool false∧Below w2.heap.size w2 wx)
  case first =>
   rcases hk with hk|⟨hk,o,ho,hx1,hx2⟩
   · have Ce : (kind : Int) = 3 := by omega
     refine EH (D:=Any) (w:=w2) (d:=some 66) 30 [(1,vP w.heap.size 0)] [vP w.heap.size 1,.eq (.int .u8 kind),vN,vN,vK,vK,vK,vK,vK,vK,vK,vK,vK,vK,vK,vK,vK,vK,vK,vK,vK,vK,vK,vK,vK,vK,vK,vK,vK,vK,vN] (aW [(⟨w.heap.size,1,none⟩,.int .u8 kind)]) (by kernel_rfl) rfl rfl (λ_ _ h hb=>h.below hb) (by(iterate 1 refine cM (by assumption) ?_);exact gD) ⟨rfl,trivial⟩ ?_ ?_
     · iterate 31
        refine And.intro ?_ ?_
        · first
          | exact bV (by kernel_rfl) rfl
          | exact mT rfl rfl (by kernel_rfl)
          | exact dS rfl (by kernel_rfl) (by kernel_rfl) rfl rfl
          | exact fK rfl (by kernel_rfl) rfl rfl (λw=>by simp[go_sem])
          | exact fZ rfl (by kernel_rfl) rfl rfl rfl (λw=>by simp[go_sem])
          | exact fq rfl (by kernel_rfl) rfl rfl (λw hS=>by simp[go_sem,(hS.get 0 rfl)])
          | exact dA rfl (by kernel_rfl) rfl rfl rfl (λw=>by simp[go_sem,Ce])
       exact trivial
     · intro aE wE jv eu _
       simp only[pq,pz,pw];go_wp2_with fail
       go_meet
       exact⟨rfl,eu⟩
   · have Ce : ¬ ((kind : Int) = 3) := by omega
     have h0:ops[0]? =some o:=by rw[ho];rfl
     obtain⟨b2,o2,av,sv,rfl,_,_,_,_,d0,d1,_⟩:=h2.at h0;rw[Nat.zero_mul,Nat.add_zero] at d0 d1;have d0:=Below.keep hBb d0;have d1:=Below.keep hBb d1;have hl1:ops.length=1:=by rw[ho];rfl
     have hk2:=AJ kind;refine EH (D:=Any) (w:=w2) (d:=some 66) 30 [(1,vP w.heap.size 0)] [vP w.heap.size 1,.eq (.int .u8 kind),vY,vY,vP w.heap.size 4,vL b2 o2 ops.length c2,vI ops.length,vN,vN,vP w.heap.size 4,vL b2 o2 ops.length c2,vP b2 o2,vP b2 o2,vT o.name,vP w.heap.size 0,vT name,vN,vN,vN,vP w.heap.size 4,vL b2 o2 ops.length c2,vP b2 o2,vP b2 (o2+1),vP b2 (o2+1),.eq (.bool o.sig.iter),vP w.heap.size 1,.eq (.int .u8 kind),.eq (.bool (decide (kind=2))),vN,vN,vN] (aW [(⟨w.heap.size,0,none⟩,str name),(⟨w.heap.size,1,none⟩,.int .u8 kind),(⟨w.heap.size,4,none⟩,.slice (some ⟨b2,o2,none⟩) ops.length c2),(⟨b2,o2,none⟩,str o.name),(⟨b2,o2+1,none⟩,.bool o.sig.iter)]) (by kernel_rfl) rfl rfl (λ_ _ h hb=>h.below hb) (by(iterate 5 refine cM (by assumption) ?_);exact gD) ⟨rfl,trivial⟩ ?_ ?_
     · iterate 31
        refine And.intro ?_ ?_
        · first
          | exact bV (by kernel_rfl) rfl
          | exact mT rfl rfl (by kernel_rfl)
          | exact dS rfl (by kernel_rfl) (by kernel_rfl) rfl rfl
          | exact fK rfl (by kernel_rfl) rfl rfl (λw=>by simp[go_sem])
          | exact fZ rfl (by kernel_rfl) rfl rfl rfl (λw=>by simp[go_sem,hl1])
          | exact fq rfl (by kernel_rfl) rfl rfl (λw hS=>by simp[go_sem,(hS.get 0 rfl),(hS.get 1 rfl),(hS.get 2 rfl),(hS.get 3 rfl),(hS.get 4 rfl)])
          | exact dA rfl (by kernel_rfl) rfl rfl rfl (λw=>by simp[go_sem,Ce,hl1,hx1,hx2,hk2])
       exact trivial
     · intro aE wE jv eu _
       simp only[pq,pz,pw];go_wp2_with fail
       go_meet
       exact⟨rfl,eu⟩
  case rest =>
   obtain⟨rfl,eu⟩:=hcut;clear hk;have KB:=hBb.trans (af eu hBb.size);have n0:=Below.keep eu m0;have n2:wc.cell? ⟨w.heap.size,2,none⟩=some (.bool jJ):=by rw[H9.out];exact Below.keep eu m2
   have n4:=Below.keep eu m4;clear eu ay aA hBb KA m0 m1 m2 m3 m4 hg
   by_cases k6:1≤ops.length
   case neg=>
    have g6:(ops.length:Int)<1:=by omega
    have HX:=Lib.hid (show RS=42 by rw[LG.out];simp[k6]);clear k6;go_wp2_with fail;go_ret;exact⟨by rw[HX.out];rfl,KB⟩
   by_cases k7:ops.length≤20
   case neg=>
    have g7:(20:Int)<(ops.length:Int):=by omega
    have g6:¬(ops.length:Int)<1:=by omega
    have HX:=Lib.hid (show RS=42 by rw[LG.out];simp[k7]);go_wp2_with fail;go_ret;exact⟨by rw[HX.out];rfl,KB⟩
   have g7:¬(20:Int)<(ops.length:Int):=by omega
   have g6:¬(ops.length:Int)<1:=by omega
   have b6:decide ((ops.length:Int)<1)=false:=decide_eq_false g6;have SY:=Lib.hid (show fR jJ [] ops=true→RS=0 by intro h;rw[LG.out,h];simp[k6,k7]);have MM:=Lib.hid (show fR jJ [] ops=false→RS=42 by intro h;rw[LG.out,h];simp);have HP:=Lib.hid (show fR jJ [] ops=fR jJ ((ops.take 0).map (·.name)) (ops.drop 0) from rfl);clear k6;go_wp2_with fail;go_loopw [3] (λa wx=>∃i:Nat,i≤ops.length∧a=.int .i64 i∧Below w.heap.size w wx∧Hid (fR jJ [] ops=fR jJ ((ops.take i).map (·.name)) (ops.drop i))∧wx.cell? ⟨w.heap.size,4,none⟩=some (.slice p2 ops.length c2)∧wx.cell? ⟨w.heap.size,2,none⟩=some (.bool jJ)) (λa _=>ops.length - (intOf a).toNat)
   case atStart=>exact⟨0,Nat.zero_le _,by go_num,KB,HP,n4,n2⟩
   case round =>
    clear KB n0 n2 n4 HP;obtain⟨i,hi,rfl,hb,hE,n4,n2⟩:=hrel
    by_cases hlt:i<ops.length
    case neg=>
     have HX:=Lib.hid (SY.out (by rw[hE.out,List.drop_eq_nil_of_le (by omega)];rfl));clear hE;go_wp2_with fail;go_ret;exact⟨by rw[HX.out];rfl,hb⟩
    case pos =>
     obtain⟨x,hkx⟩:∃x,ops[i]? =some x:=⟨_,List.getElem?_eq_getElem hlt⟩
     have oN:=Sc.below hb (nl _);obtain⟨b1,o1,av,sv,rfl,_,⟨hxl,kC⟩,dy,cQ,d0,d1,d2,d3,d4⟩:=oN.at hkx;have mP:aT Any wr (.agg #[.bool x.sig.iter,av,str x.sig.res,sv]) x.sig:=⟨_,_,rfl,kC,dy.mono λ_ _=>trivial,cQ.mono λ_ _=>trivial⟩;have hd:=hE.out;rw[bp hkx] at hd;clear hE dy cQ;rcases hn:isName x.name with _|_
     · have HX := Lib.hid (MM.out (hd.trans (uK hn)))
       clear hd hkx;go_upto_region 10 with fail;refine dw (D:=Any) (w:=wr) 19 [(1,vP w.heap.size 0),(3,vI i)] [vP w.heap.size 4,vL b1 o1 ops.length c2,vI i,vP b1 (o1+i * 5),vP b1 (o1+i * 5),vT x.name,vN,vY,vY,vK,vK,vK,vK,vK,vK,vK,vK,vK,vK,vY] (aW [(⟨w.heap.size,4,none⟩,.slice (some ⟨b1,o1,none⟩) ops.length c2),(⟨b1,o1+i * 5,none⟩,str x.name)]) (by kernel_rfl) rfl (λ_ _ h hb=>h.below hb) (by(iterate 2 refine cM (by assumption) ?_);exact gD) ⟨rfl,rfl,trivial⟩ ?_ ?_
       · iterate 20
          refine And.intro ?_ ?_
          · first
            | exact bV (by kernel_rfl) rfl
            | exact mT rfl rfl (by kernel_rfl)
            | exact dS rfl (by kernel_rfl) (by kernel_rfl) rfl rfl
            | exact fK rfl (by kernel_rfl) rfl rfl (λw=>by simp[go_sem])
            | exact fZ rfl (by kernel_rfl) rfl rfl rfl (λw=>by simp[go_sem,hlt])
            | exact fq rfl (by kernel_rfl) rfl rfl (λw hS=>by simp[go_sem,(hS.get 0 rfl),(hS.get 1 rfl)])
            | exact dA rfl (by kernel_rfl) rfl rfl rfl (λw=>by simp[go_sem])
            | exact eP (s1:=.eq (str x.name)) rfl (enters_of Tryz.func87 (by kernel_rfl) rfl) (by kernel_rfl) rfl (by kernel_rfl) (λv wx hS h1=>by rw[show v=str x.name from h1];exact(aN x.name wx hxl).mono (by rintro e w' ⟨rfl,hb⟩;exact⟨_,rfl,(show Value.bool (isName x.name)=.bool false by rw[hn]),hb⟩))
         exact trivial
       · intro aE wc jv eu _
         simp only[pq,pz,pw];go_wp2_with fail;go_ret;exact⟨by rw[HX.out];rfl,hb.trans (af eu hb.size)⟩
     · rcases xx : ek x.sig jJ with _ | _
       · have HX := Lib.hid (MM.out (hd.trans (uL xx)))
         clear hd hkx;go_upto_region 10 with fail;refine dw (D:=Any) (w:=wr) 19 [(1,vP w.heap.size 0),(3,vI i)] [vP w.heap.size 4,vL b1 o1 ops.length c2,vI i,vP b1 (o1+i * 5),vP b1 (o1+i * 5),vT x.name,vY,vN,vN,vP w.heap.size 4,vL b1 o1 ops.length c2,vI i,vP b1 (o1+i * 5),vP b1 (o1+i * 5+1),.eq (.agg #[.bool x.sig.iter,av,str x.sig.res,sv]),vP w.heap.size 2,.eq (.bool jJ),vN,vY,vY] (λw'=>aW [(⟨w.heap.size,4,none⟩,.slice (some ⟨b1,o1,none⟩) ops.length c2),(⟨b1,o1+i * 5,none⟩,str x.name),(⟨w.heap.size,2,none⟩,.bool jJ),(⟨b1,o1+i * 5+1,none⟩,.bool x.sig.iter),(⟨b1,o1+i * 5+2,none⟩,av),(⟨b1,o1+i * 5+3,none⟩,str x.sig.res),(⟨b1,o1+i * 5+4,none⟩,sv)] w'∧aT Any w' (.agg #[.bool x.sig.iter,av,str x.sig.res,sv]) x.sig) (by kernel_rfl) rfl (λ_ _ h hb=>⟨h.1.below hb,aT.below h.2 hb (nl _)⟩) ⟨(by(iterate 7 refine cM (by assumption) ?_);exact gD),aT.below mP ((Below.refl _ wr).drew) (nl _)⟩ ⟨rfl,rfl,trivial⟩ ?_ ?_
         · iterate 20
            refine And.intro ?_ ?_
            · first
              | exact bV (by kernel_rfl) rfl
              | exact mT rfl rfl (by kernel_rfl)
              | exact dS rfl (by kernel_rfl) (by kernel_rfl) rfl rfl
              | exact fK rfl (by kernel_rfl) rfl rfl (λw=>by simp[go_sem])
              | exact fZ rfl (by kernel_rfl) rfl rfl rfl (λw=>by simp[go_sem,hlt])
              | exact fq rfl (by kernel_rfl) rfl rfl (λw hS=>by simp[go_sem,(hS.1.get 0 rfl),(hS.1.get 1 rfl),(hS.1.get 2 rfl),(hS.1.get 3 rfl),(hS.1.get 4 rfl),(hS.1.get 5 rfl),(hS.1.get 6 rfl)])
              | exact dA rfl (by kernel_rfl) rfl rfl rfl (λw=>by simp[go_sem])
              | exact eP (s1:=.eq (str x.name)) rfl (enters_of Tryz.func87 (by kernel_rfl) rfl) (by kernel_rfl) rfl (by kernel_rfl) (λv wx hS h1=>by rw[show v=str x.name from h1];exact(aN x.name wx hxl).mono (by rintro e w' ⟨rfl,hb⟩;exact⟨_,rfl,(show Value.bool (isName x.name)=.bool true by rw[hn]),hb⟩))
              | exact eS (s1:=.eq (.agg #[.bool x.sig.iter,av,str x.sig.res,sv])) (s2:=.eq (.bool jJ)) rfl (enters_of Tryz.func90 (by kernel_rfl) rfl) (by kernel_rfl) rfl (by kernel_rfl) (by kernel_rfl) (λv v2 wx hS h1 h2=>by rw[show v=.agg #[.bool x.sig.iter,av,str x.sig.res,sv] from h1,show v2=.bool jJ from h2];exact(iH _ x.sig jJ wx hS.2).mono (by rintro e w' ⟨rfl,hb⟩;exact⟨_,rfl,(show Value.bool (ek x.sig jJ)=.bool _ by rw[xx]),hb⟩))
           exact trivial
         · intro aE wc jv eu _
           simp only[pq,pz,pw];go_wp2_with fail;go_ret;exact⟨by rw[HX.out];rfl,hb.trans (af eu hb.size)⟩
       · have GP := Lib.hid (fun h => hd.trans (uM (par := jJ) (acc := (ops.take i).map (·.name)) (o := x) (l := ops.drop (i + 1)) h hn xx))
         have O7:=Lib.hid (λk y (hy:ops[k]? =some y) hk h=>MM.out ((hd.trans (by rw[←bp hkx])).trans (Ep (par:=jJ) hkx hy hk h)));have Pb:=Lib.hid (qf hkx);have Ki:=Lib.hid (λh=>Er (l:=ops) (i:=i) (x:=x) h);clear hd hkx;go_upto_region 10 with fail;refine dw (D:=Any) (w:=wr) 19 [(1,vP w.heap.size 0),(3,vI i)] [vP w.heap.size 4,vL b1 o1 ops.length c2,vI i,vP b1 (o1+i * 5),vP b1 (o1+i * 5),vT x.name,vY,vN,vN,vP w.heap.size 4,vL b1 o1 ops.length c2,vI i,vP b1 (o1+i * 5),vP b1 (o1+i * 5+1),.eq (.agg #[.bool x.sig.iter,av,str x.sig.res,sv]),vP w.heap.size 2,.eq (.bool jJ),vY,vN,vN] (λw'=>aW [(⟨w.heap.size,4,none⟩,.slice (some ⟨b1,o1,none⟩) ops.length c2),(⟨b1,o1+i * 5,none⟩,str x.name),(⟨w.heap.size,2,none⟩,.bool jJ),(⟨b1,o1+i * 5+1,none⟩,.bool x.sig.iter),(⟨b1,o1+i * 5+2,none⟩,av),(⟨b1,o1+i * 5+3,none⟩,str x.sig.res),(⟨b1,o1+i * 5+4,none⟩,sv)] w'∧aT Any w' (.agg #[.bool x.sig.iter,av,str x.sig.res,sv]) x.sig) (by kernel_rfl) rfl (λ_ _ h hb=>⟨h.1.below hb,aT.below h.2 hb (nl _)⟩) ⟨(by(iterate 7 refine cM (by assumption) ?_);exact gD),aT.below mP ((Below.refl _ wr).drew) (nl _)⟩ ⟨rfl,rfl,trivial⟩ ?_ ?_
         · iterate 20
            refine And.intro ?_ ?_
            · first
              | exact bV (by kernel_rfl) rfl
              | exact mT rfl rfl (by kernel_rfl)
              | exact dS rfl (by kernel_rfl) (by kernel_rfl) rfl rfl
              | exact fK rfl (by kernel_rfl) rfl rfl (λw=>by simp[go_sem])
              | exact fZ rfl (by kernel_rfl) rfl rfl rfl (λw=>by simp[go_sem,hlt])
              | exact fq rfl (by kernel_rfl) rfl rfl (λw hS=>by simp[go_sem,(hS.1.get 0 rfl),(hS.1.get 1 rfl),(hS.1.get 2 rfl),(hS.1.get 3 rfl),(hS.1.get 4 rfl),(hS.1.get 5 rfl),(hS.1.get 6 rfl)])
              | exact dA rfl (by kernel_rfl) rfl rfl rfl (λw=>by simp[go_sem])
              | exact eP (s1:=.eq (str x.name)) rfl (enters_of Tryz.func87 (by kernel_rfl) rfl) (by kernel_rfl) rfl (by kernel_rfl) (λv wx hS h1=>by rw[show v=str x.name from h1];exact(aN x.name wx hxl).mono (by rintro e w' ⟨rfl,hb⟩;exact⟨_,rfl,(show Value.bool (isName x.name)=.bool true by rw[hn]),hb⟩))
              | exact eS (s1:=.eq (.agg #[.bool x.sig.iter,av,str x.sig.res,sv])) (s2:=.eq (.bool jJ)) rfl (enters_of Tryz.func90 (by kernel_rfl) rfl) (by kernel_rfl) rfl (by kernel_rfl) (by kernel_rfl) (λv v2 wx hS h1 h2=>by rw[show v=.agg #[.bool x.sig.iter,av,str x.sig.res,sv] from h1,show v2=.bool jJ from h2];exact(iH _ x.sig jJ wx hS.2).mono (by rintro e w' ⟨rfl,hb⟩;exact⟨_,rfl,(show Value.bool (ek x.sig jJ)=.bool _ by rw[xx]),hb⟩))
           exact trivial
         · intro aE wc jv eu _
           simp only[pq,pz,pw];have hbb:=hb.trans (af eu hb.size);have e4:=Below.keep eu n4;have e2:=Below.keep eu n2;have f0:=Below.keep eu d0;clear eu n4 n2 hb d0 d1 d2 d3 d4 mP oN;go_wp2_with fail;go_loopw [4] (λa wx=>∃k:Nat,k≤i∧a=.int .i64 k∧Below w.heap.size w wx∧Hid (∀y∈ops.take k,y.name≠x.name)∧wx.cell? ⟨w.heap.size,4,none⟩=some (.slice (some ⟨b1,o1,none⟩) ops.length c2)∧wx.cell? ⟨w.heap.size,2,none⟩=some (.bool jJ)∧wx.cell? ⟨b1,o1+i * 5,none⟩=some (str x.name)) (λa _=>i - (intOf a).toNat)
           case atStart=>exact⟨0,Nat.zero_le _,by go_num,hbb,(λy hy=>by simp at hy),e4,e2,f0⟩
           case round =>
            clear hbb e4 e2 f0;obtain⟨k,hk,rfl,hb,hA,n4,n2,d0⟩:=hrel
            by_cases hki:k<i
            case neg=>
             obtain rfl:k=i:=by omega
             have HX:=GP.out (Ki.out hA.out);rw[Pb.out] at HX;have HX:=Lib.hid HX;clear hA;go_wp2_with fail;exact⟨⟨k+1,hlt,by go_num,hb,HX,n4,n2⟩,by simp only[intOf];omega⟩
            case pos=>
             obtain⟨y,gM⟩:∃y,ops[k]? =some y:=⟨_,List.getElem?_eq_getElem (by omega)⟩
             obtain⟨b3,o3,_,_,e3,_,_,_,_,qG,_⟩:=(Sc.below hb (nl _)).at gM;simp only[Option.some.injEq,Addr.mk.injEq,and_true] at e3;obtain⟨rfl,rfl⟩:=e3;have Q5:k<ops.length:=by omega
             rcases heq:(y.name==x.name) with _|_
             · have Tx:Hid (∀z∈ops.take (k+1),z.name≠x.name):=by
                intro z hz;rw[List.take_add_one,gM] at hz;rcases List.mem_append.1 hz with h|h
                · exact hA.out z h
                · simp at h
                  rw[h]
                  simpa using heq
               clear hA gM;go_upto_region 15 with fail
               go_region
               go_wp2_with fail;exact⟨⟨k+1,hki,by go_num,hb.drew,Tx,n4,n2,d0⟩,by simp only[intOf];omega⟩
             · have HX:=Lib.hid (O7.out k y gM hki (by simpa using heq))
               clear hA gM;go_upto_region 15 with fail
               go_region
               go_wp2_with fail;go_ret;exact⟨by rw[HX.out];rfl,hb.drew⟩
theorem Bn {D : Nat → Prop} (v : Value) (f : aB) (w : World) (hv : fE D w v f) :
 Calls Tryz.prog 39 #[v] w λe w'=>e=.returned (.int .i64 (jS f))∧Below w.heap.size w w':=by
 rcases hok:(isName f.name&&(decide (1≤f.kind)&&(decide (f.kind≤3)&&(bh f.ag&&(f.par||f.ag.isEmpty))))) with _|_
 · rw[He hok]
   exact Ds v f w hv hok
 · have NU : ∀ (hk : f.kind = 3 ∨ (f.kind ≠ 3 ∧ ∃ o, f.ops = [o] ∧ o.name = f.name ∧ o.sig.iter = decide (f.kind = 2))) (hl : 1 ≤ f.ops.length → jH f = true), Calls Tryz.prog 39 #[v] w fun e w' => e = .returned (.int .i64 (jS f)) ∧ Below w.heap.size w w' := by
    intro hk hl;have h:=Jr v f w hv hok hk;rcases hb:(decide (1≤f.ops.length)&&decide (f.ops.length≤20)) with _|_
    · rw[wS hb]
      rw[hb] at h;exact h
    · rw[hb] at h
      have h1:1≤f.ops.length:=by simp at hb;exact hb.1
      rcases ho:fR f.par [] f.ops with _|_
      · rw[nU (by rw[ho];rfl)]
        rw[ho] at h;exact h
      · rw[Hf hok hb (by rw[ho,hl h1];rfl)]
        rw[ho] at h;exact h
   by_cases h1:1≤f.ops.length
   · rcases uC f h1 with⟨hk,hl⟩|⟨hk,hl,hn⟩|⟨hk,o,ho,⟨hx,hn⟩|⟨hx,hx2,hn⟩|⟨hx,hx2,hl⟩⟩
     · exact NU (.inl hk) λ_=>hl
     · rw[nU (by rw[hn];simp)]
       exact ox v f w hv hok hk (.inl hl)
     · rw[nU (by rw[hn];simp)]
       exact ox v f w hv hok hk (.inr ⟨o,ho,.inl hx⟩)
     · rw[nU (by rw[hn];simp)]
       exact ox v f w hv hok hk (.inr ⟨o,ho,.inr ⟨hx,hx2⟩⟩)
     · exact NU (.inr ⟨hk,o,ho,hx,hx2⟩) λ_=>hl
   · by_cases hk:f.kind=3
     · exact NU (.inl hk) λh=>absurd h h1
     · rw[wS (by simp[h1])]
       exact ox v f w hv hok hk (.inl (by omega))
end Go.Proofs.YtakgjcfkdemipaaGreatDoor
namespace Go.Proofs.YtakgjcfkdemipaaGreatDoor
open Go.RowKit
theorem mz:∀{L:List cD},(∀x∈L,x.args.length≤6)→(L.flatMap aI).length≤7 * L.length
 | [],_=>by simp
 | x::L,h=>by
  have h1:=mz (L:=L) λy hy=>h y (List.mem_cons_of_mem _ hy)
  have h2:=h x (List.mem_cons_self ..);have h3:(aI x).length≤7:=by unfold aI;rw[List.length_append];split<;>simp<;>omega
  rw[List.flatMap_cons,List.length_append,List.length_cons];omega
set_option maxRecDepth 8000 in
theorem Bl (l : List aB) : MJ l := by
 intro D v w hv
 obtain⟨p,c,rfl,_,hm,hle⟩:=hv.shape
 unfold maxLen at hm
 clear hle
 go_enter Tryz.func41,Tryz.ntmps41
 go_wp2_with fail
 go_loopw [4] (λy wx=>∃i:Nat,i≤l.length∧y=.int .i64 i∧Below w.heap.size w wx∧Hid (dm l 0 none=dm (l.drop i) i (iX l i))) (λy _=>l.length - (intOf y).toNat)
 case atStart=>exact⟨0,Nat.zero_le _,by go_num,Below.refl _ _,rfl⟩
 case round =>
  obtain⟨i,hi,rfl,hb,hA⟩:=hrel
  by_cases hlt:i<l.length
  case neg => as_aux_lemma =>
   have HX:=Lib.hid (show dm l 0 none=none by rw[hA.out,List.drop_eq_nil_of_le (by omega)];rfl);clear hA;obtain⟨Q6,PY,_,_⟩:=iD l 0 none HX.out;have O5:=Lib.hid (show ja l=(fL l l 0).getD (0,0) by unfold ja;rw[HX.out];rfl);have oN:=hv.below hb (nl _);clear HX;go_wp2_with fail;go_loopw [6] (λy wx=>∃i:Nat,i≤l.length∧y=.int .i64 i∧Below w.heap.size w wx∧Hid (fL l l 0=fL l (l.drop i) i)) (λy _=>l.length - (intOf y).toNat)
   case atStart=>exact⟨0,Nat.zero_le _,by go_num,hb,rfl⟩
   case round =>
    clear hb oN;obtain⟨i,hi,rfl,hb,D8⟩:=hrel
    by_cases hlt:i<l.length
    case neg=>as_aux_lemma=>
     have HZ:=Lib.hid (show ja l=(0,0) by rw[O5.out,D8.out,List.drop_eq_nil_of_le (by omega)];rfl);clear D8;go_wp2_with fail;go_ret2;rw[HZ.out];exact⟨rfl,hb⟩
    case pos => as_aux_lemma =>
     obtain⟨f,hkx⟩:∃f,l[i]? =some f:=⟨_,List.getElem?_eq_getElem hlt⟩
     have vS:=List.mem_of_getElem? hkx;have hil:=hlt;have oN:=hv.below hb (nl _);obtain⟨b1,o1,nv,ov,rfl,_,hfl,hN,hO,c0,c1,c2,c3,c4⟩:=oN.at hkx;obtain⟨p1,z1,rfl,_⟩:=hN.shape;obtain⟨p2,z2,rfl,_⟩:=hO.shape;rw[bp hkx] at D8;have jb:=ec (PY f vS);have hnl:=(dr jb.2.2.2.1).1;have hol:=jb.2.2.2.2.2.2.1;have fW:qm ⟨l,f.ag,f.par⟩:=⟨PY,jb.2.2.2.1⟩;have hnx:∀x∈f.ag,x.sig.args.length≤6:=λo ho=>((dr jb.2.2.2.1).2 o ho).1
     have Sx:∀x∈f.ops,x.sig.args.length≤6:=λo ho=>(eC (jb.2.2.2.2.2.2.2.1 o ho).2).1
     have Zo:∀u∈(f.ag.map (·.sig)).flatMap aI++(f.ops.map (·.sig)).flatMap aI,u.length≤maxLen:=by
      intro u hu;rcases List.mem_append.1 hu with hu|hu<;>obtain⟨s,hs,hu⟩:=List.mem_flatMap.1 hu<;>obtain⟨o,ho,rfl⟩:=List.mem_map.1 hs
      · have h9:=jb.2.2.2.1
        rw[jd,Bool.and_eq_true,List.all_eq_true] at h9;exact(qP ((eC (h9.1 o ho)).2.2.2.2 u hu).1).1
      · exact(qP ((eC (jb.2.2.2.2.2.2.2.1 o ho).2).2.2.2.2 u hu).1).1
     have Mh:Hid ((mJ f).flatMap aI=(f.ag.map (·.sig)).flatMap aI++(f.ops.map (·.sig)).flatMap aI):=by
      show _=_
      unfold mJ;rw[List.flatMap_append]
     obtain⟨W2,Nf⟩:∃x,x=wr:=⟨_,rfl⟩
     subst Nf;clear hkx jb c0 c1 oN;go_wp2_with fail;go_loopw [7,8] (λa y wx=>∃k:Nat,k≤f.ag.length∧y=.int .i64 k∧wx.ownsRow W2.heap.size 9 1 a (((f.ag.take k).map (·.sig)).flatMap aI).length (aD (((f.ag.take k).map (·.sig)).flatMap aI))∧Below W2.heap.size W2 wx) (λ_ y _=>f.ag.length - (intOf y).toNat)
     case atStart=>exact⟨0,Nat.zero_le _,by go_num,World.ownsRow_nil _ _ _ _,Below.refl _ _⟩
     case round =>
      obtain⟨k,hk,rfl,hown,jl⟩:=hrel;obtain⟨pv,cv,rfl⟩:=aS hown;have Td:=Below.keep jl c3
      by_cases hlt:k<f.ag.length
      case neg => as_aux_lemma =>
       obtain rfl:k=f.ag.length:=by omega
       simp only[List.take_length] at hown ⊢;have r9:=hown;have ud:=jl;clear hown jl;go_wp2_with fail;clear Td;go_loopw [7,9] (λa y wx=>∃k:Nat,k≤f.ops.length∧y=.int .i64 k∧wx.ownsRow W2.heap.size 9 1 a ((f.ag.map (·.sig)).flatMap aI++((f.ops.take k).map (·.sig)).flatMap aI).length (aD ((f.ag.map (·.sig)).flatMap aI++((f.ops.take k).map (·.sig)).flatMap aI))∧Below W2.heap.size W2 wx) (λ_ y _=>f.ops.length - (intOf y).toNat)
       case atStart=>exact⟨0,Nat.zero_le _,by go_num,by simpa using r9,ud⟩
       case round =>
        clear r9 ud;obtain⟨k,hk,rfl,hown,jl⟩:=hrel;obtain⟨pv,cv,rfl⟩:=aS hown;have XP:=Below.keep jl c4
        by_cases hlt:k<f.ops.length
        case neg => as_aux_lemma =>
         obtain rfl:k=f.ops.length:=by omega
         simp only[List.take_length] at hown ⊢;have ud:=jl;generalize (f.ag.map (·.sig)).flatMap aI++(f.ops.map (·.sig)).flatMap aI=LS at *;have nW:SS (λ_=>True) wr (.slice pv LS.length cv) LS:=SS.bG hown Zo (λ_ _=>trivial);clear hown jl;go_wp2_with fail;clear XP;go_loopw [10] (λy wx=>∃k:Nat,k≤LS.length∧y=.int .i64 k∧SS (λ_=>True) wx (.slice pv LS.length cv) LS∧Below W2.heap.size W2 wx∧Hid (dV (LS.map (dx ⟨l,f.ag,f.par⟩))=dV ((LS.drop k).map (dx ⟨l,f.ag,f.par⟩)))) (λy _=>LS.length - (intOf y).toNat)
         case atStart=>exact⟨0,Nat.zero_le _,by go_num,nW,ud,rfl⟩
         case round =>
          clear nW ud;obtain⟨k,hk,rfl,nW,jl,hF⟩:=hrel
          by_cases hlt5:k<LS.length
          case neg=>as_aux_lemma=>
           have h0:dV (LS.map (dx ⟨l,f.ag,f.par⟩))=0:=by rw[hF.out,List.drop_eq_nil_of_le (by omega)];rfl
           have HZ:=Lib.hid (show fL l l 0=fL l (l.drop (i+1)) (i+1) by rw[D8.out,BP (by rw[Mh.out];exact h0)]);clear hF h0;go_wp2_with fail;exact⟨⟨i+1,by omega,by go_num,hb.trans (af jl hb.size),HZ⟩,by simp only[intOf];omega⟩
          case pos => as_aux_lemma =>
           obtain⟨u,yN⟩:∃u,LS[k]? =some u:=⟨_,List.getElem?_eq_getElem hlt5⟩
           have wq:=nW.le u (List.mem_of_getElem? yN);obtain⟨b2,o2,rfl,_,pc⟩:=nW.at yN;have hd:=hF.out;rw[bp yN,List.map_cons] at hd;clear hF yN;have Nh:=hb.trans (af jl hb.size);have YT:=hv.below Nh (nl _);have P8:=hN.below jl (nl _);have XO:=Below.keep jl c2;have Td:=Below.keep jl c3;have vc5:=Below.keep (Below.refl _ wr).drew XO;have vc6:=Below.keep (Below.refl _ wr).drew Td;have vca:=Below.keep (Below.refl _ wr).drew pc;clear c2 c3 c4;have vc8:LS.length≤9223372036854775807:=by
            obtain⟨_,_,_,_,h,_⟩:=nW.shape;unfold maxLen at h;omega
           obtain⟨GK,OJ⟩:∃g,dx ⟨l,f.ag,f.par⟩ u=g:=⟨_,rfl⟩
           rw[OJ] at hd;have OJ:=OJ;go_upto_region 26 with fail;refine dw (D:=Any) (w:=wr) 16 [(0,vL b1 o1 l.length c),(6,vI i),(7,vL b2 o2 LS.length cv),(10,vI k)] [vL b1 o1 l.length c,vL b1 o1 l.length c,vI i,vP b1 (o1+i * 5),vP b1 (o1+i * 5+3),.eq (.slice p1 f.ag.length z1),vL b1 o1 l.length c,vI i,vP b1 (o1+i * 5),vP b1 (o1+i * 5+2),.eq (.bool f.par),vL b2 o2 LS.length cv,vI k,vP b2 (o2+k),vT u,vI GK,vI GK] (λw'=>aW [(⟨b1,o1+i * 5+3,none⟩,.slice p1 f.ag.length z1),(⟨b1,o1+i * 5+2,none⟩,.bool f.par),(⟨b2,o2+k,none⟩,str u)] w'∧aZ D w' (.slice (some ⟨b1,o1,none⟩) l.length c) l∧aJ D w' (.slice p1 f.ag.length z1) f.ag) (by kernel_rfl) rfl (λ_ _ h hb=>⟨h.1.below hb,h.2.1.below hb (nl _),h.2.2.below hb (nl _)⟩) ⟨(by(iterate 3 refine cM (by assumption) ?_);exact gD),YT.below (Below.refl _ wr).drew (nl _),P8.below (Below.refl _ wr).drew (nl _)⟩ ⟨rfl,rfl,rfl,rfl,trivial⟩ ?_ ?_
           · iterate 17
              refine And.intro ?_ ?_
              · first
                | exact bV (by kernel_rfl) rfl
                | exact mT rfl rfl (by kernel_rfl)
                | exact dS rfl (by kernel_rfl) (by kernel_rfl) rfl rfl
                | exact fK rfl (by kernel_rfl) rfl rfl (λw=>by simp[go_sem])
                | exact fZ rfl (by kernel_rfl) rfl rfl rfl (λw=>by simp[go_sem,hil,hlt5])
                | exact fq rfl (by kernel_rfl) rfl rfl (λw hS=>by simp[go_sem,(hS.1.get 0 rfl),(hS.1.get 1 rfl),(hS.1.get 2 rfl)])
                | exact ED (s1:=.eq (.slice (some ⟨b1,o1,none⟩) l.length c)) (s2:=.eq (.slice p1 f.ag.length z1)) (s3:=.eq (.bool f.par)) (s4:=.eq (str u)) rfl (enters_of Tryz.func68 (by kernel_rfl) rfl) (by kernel_rfl) rfl (by kernel_rfl) (by kernel_rfl) (by kernel_rfl) (by kernel_rfl) (λv v2 v3 v4 wx hS h1 h2 h3 h4=>by rw[show v=_ from h1,show v2=_ from h2,show v3=_ from h3,show v4=_ from h4];exact(rK ⟨l,f.ag,f.par⟩ fW _ _ u wx hS.2.1 hS.2.2 wq).mono (by rintro e w' ⟨rfl,hb⟩;exact⟨_,rfl,(show Value.int .i64 (dx ⟨l,f.ag,f.par⟩ u:Nat)=.int .i64 (GK:Nat) by rw[OJ]),hb⟩))
                | exact dA rfl (by kernel_rfl) rfl rfl rfl (λw=>by simp[go_sem])
             exact trivial
           · intro aE wE jv eu _
             simp only[pq,pz,pw]
             by_cases h0:GK=0
             · as_aux_lemma=>
               subst h0;rw[gj rfl] at hd;have HZ:=Lib.hid hd;clear hd OJ;go_wp2_with fail;exact⟨⟨k+1,hlt5,by go_num,nW.below eu (nl _),jl.trans (af eu jl.size),HZ⟩,by simp only[intOf];omega⟩
             · as_aux_lemma=>
               obtain⟨g1,g2⟩:=bC h0;rw[eH h0] at hd;have HZ:=Lib.hid (show ja l=(i,GK) by rw[O5.out,D8.out,yu (by rw[Mh.out,hd];exact h0),Mh.out,hd];rfl);clear hd h0 OJ;go_wp2_with fail;go_ret2;rw[HZ.out];exact⟨rfl,Nh.trans (af eu Nh.size)⟩
        case pos=>as_aux_lemma=>
         obtain⟨x,hx⟩:∃x,f.ops[k]? =some x:=⟨_,List.getElem?_eq_getElem hlt⟩
         obtain⟨b2,o2,av,sv,kj,KD,⟨Az,kC⟩,dy,cQ,d0,d1,d2,d3,d4⟩:=(hO.below jl (nl _)).at hx;subst kj;have hxl:=Sx x (List.mem_of_getElem? hx);have LI:=qc _ x.sig wr ⟨_,_,rfl,kC,dy,cQ⟩ (by omega);obtain⟨pa,ca,rfl,_⟩:=dy.shape;obtain⟨ps,cs,rfl,_⟩:=cQ.shape;have pG:=Lib.hid (show((f.ag.map (·.sig)).flatMap aI++((f.ops.take k).map (·.sig)).flatMap aI)++aI x.sig=(f.ag.map (·.sig)).flatMap aI++((f.ops.take (k+1)).map (·.sig)).flatMap aI by rw[List.take_add_one,hx];simp);have hlen:((f.ag.map (·.sig)).flatMap aI++((f.ops.take k).map (·.sig)).flatMap aI).length≤300:=by
          have h1:=mz (L:=f.ag.map (·.sig)) (by intro y hy;obtain⟨o,ho,rfl⟩:=List.mem_map.1 hy;exact hnx o ho);have h2:=mz (L:=(f.ops.take k).map (·.sig)) (by intro y hy;obtain⟨o,ho,rfl⟩:=List.mem_map.1 hy;exact Sx o (List.mem_of_mem_take ho));rw[List.length_map] at h1 h2;rw[List.length_take] at h2;rw[List.length_append];omega
         have htl:(aI x.sig).length≤300:=by unfold aI;rw[List.length_append];split<;>simp<;>omega
         generalize ((f.ag.map (·.sig)).flatMap aI++((f.ops.take k).map (·.sig)).flatMap aI)=LS at *;generalize aI x.sig=TX at *;clear hx;go_wp2_with (first
          | (at_builtin;refine gQ _ rfl _ _ rfl W2.heap.size (.slice pv LS.length cv) LS rfl nC (.slice pt TX.length ct) TX rfl Qk (by omega) CJ.size ?_;intro v' w5 dJ hgr n5)
          | (go_at_call 93;refine LI.mono ?_;clear LI;rintro e w3 ⟨tv,rfl,_,Qk,aK⟩;obtain⟨pt,ct,rfl,_⟩:=Qk.shape;have nC:=az hown aK (nl _);have CJ:=jl.trans (af aK jl.size)))
         have iq:=Below.grown CJ hgr CJ.size (λk e=>(nC.lt k e).1);exact⟨⟨k+1,hlt,by go_num,pG.out▸dJ,iq⟩,by simp only[intOf];omega⟩
      case pos=>as_aux_lemma=>
       obtain⟨x,hx⟩:∃x,f.ag[k]? =some x:=⟨_,List.getElem?_eq_getElem hlt⟩
       obtain⟨b2,o2,av,sv,kj,KD,⟨Az,kC⟩,dy,cQ,d0,d1,d2,d3,d4⟩:=(hN.below jl (nl _)).at hx;subst kj;have hxl:=hnx x (List.mem_of_getElem? hx);have LI:=qc _ x.sig wr ⟨_,_,rfl,kC,dy,cQ⟩ (by omega);obtain⟨pa,ca,rfl,_⟩:=dy.shape;obtain⟨ps,cs,rfl,_⟩:=cQ.shape;have pG:=Lib.hid (show((f.ag.take k).map (·.sig)).flatMap aI++aI x.sig=((f.ag.take (k+1)).map (·.sig)).flatMap aI by rw[List.take_add_one,hx];simp);have hlen:(((f.ag.take k).map (·.sig)).flatMap aI).length≤300:=by
        have h2:=mz (L:=(f.ag.take k).map (·.sig)) (by intro y hy;obtain⟨o,ho,rfl⟩:=List.mem_map.1 hy;exact hnx o (List.mem_of_mem_take ho));rw[List.length_map,List.length_take] at h2;omega
       have htl:(aI x.sig).length≤300:=by unfold aI;rw[List.length_append];split<;>simp<;>omega
       generalize (((f.ag.take k).map (·.sig)).flatMap aI)=LS at *;generalize aI x.sig=TX at *;clear hx;go_wp2_with (first
        | (at_builtin;refine gQ _ rfl _ _ rfl W2.heap.size (.slice pv LS.length cv) LS rfl nC (.slice pt TX.length ct) TX rfl Qk (by omega) CJ.size ?_;intro v' w5 dJ hgr n5)
        | (go_at_call 93;refine LI.mono ?_;clear LI;rintro e w3 ⟨tv,rfl,_,Qk,aK⟩;obtain⟨pt,ct,rfl,_⟩:=Qk.shape;have nC:=az hown aK (nl _);have CJ:=jl.trans (af aK jl.size)))
       have iq:=Below.grown CJ hgr CJ.size (λk e=>(nC.lt k e).1);exact⟨⟨k+1,hlt,by go_num,pG.out▸dJ,iq⟩,by simp only[intOf];omega⟩
  case pos => as_aux_lemma =>
   obtain⟨f,hkx⟩:∃f,l[i]? =some f:=⟨_,List.getElem?_eq_getElem hlt⟩
   have oN:=hv.below hb (nl _);obtain⟨b1,o1,nv,ov,rfl,_,hfl,hN,hO,c0,c1,c2,c3,c4⟩:=oN.at hkx;have hd:=hA.out;rw[bp hkx] at hd;clear hA;have HC:=Bn _ f wr ⟨nv,ov,rfl,hfl,hN,hO⟩;obtain⟨p1,z1,rfl,_⟩:=hN.shape;obtain⟨p2,z2,rfl,_⟩:=hO.shape
   by_cases h20:20≤i
   · have HX:=Lib.hid (kT (hd.trans (tH h20)))
     have g0:(20:Int)≤(i:Int):=by omega
     clear hd hkx;go_wp2_with fail;go_ret2;rw[HX.out];exact⟨rfl,hb⟩
   · have g0 : ¬(20 : Int) ≤ (i : Int) := by omega
     rcases nY:eU f with _|_
     · rw[kW nY] at HC
       have HX:=Lib.hid (kT (hd.trans (tF h20 nY)));clear hd hkx nY;go_wp2_with (go_at_call 39;refine HC.mono ?_;clear HC;rintro e w1 ⟨rfl,ay⟩);go_ret2;rw[HX.out];exact⟨rfl,hb.trans (af ay hb.size)⟩
     · rw [q8 nY] at HC
       cases i with
       | zero=>
        have HX:=Lib.hid (show dm l 0 none=dm (l.drop 1) 1 (iX l 1) by rw[hd,nQ h20 nY (by rfl)];simp[iX,hkx]);simp only[Nat.zero_mul,Nat.add_zero] at c0 c1 c2 c3 c4;clear hd hkx nY;go_upto_region 9 with(go_at_call 39;refine HC.mono ?_;clear HC;rintro e w1 ⟨rfl,ay⟩);go_quiet (fail);go_wp2_with fail;exact⟨⟨1,by omega,by go_num,zQ (hb.trans (af ay hb.size)) _,HX⟩,by simp only[intOf];omega⟩
       | succ j=>
        have hj:j<l.length:=by omega
        obtain⟨y,gM⟩:∃y,l[j]? =some y:=⟨_,List.getElem?_eq_getElem hj⟩
        obtain⟨b2,o2,Vl,Vm,e2,_,_,_,_,d0,_⟩:=oN.at gM;injection e2 with e2;injection e2 with e2 e3;subst e2 e3;rcases hl:Op.bytesLess y.name f.name with _|_
        · have HX:=Lib.hid (kT (hd.trans (by rw[show iX l (j+1)=some y.name by rw[iX,gM];rfl];exact qo h20 nY hl)))
          clear hd hkx gM nY;go_upto_region 9 with(go_at_call 39;refine HC.mono ?_;clear HC;rintro e w1 ⟨rfl,ay⟩;have Yb:=Below.keep ay d0;have XN:=Below.keep ay c0);go_quiet (fail);go_wp2_with fail;go_ret2;rw[HX.out];exact⟨rfl,zQ (hb.trans (af ay hb.size)) _⟩
        · have HX:=Lib.hid (show dm l 0 none=dm (l.drop (j+2)) (j+2) (iX l (j+2)) by rw[hd,nQ h20 nY (by rw[show iX l (j+1)=some y.name by rw[iX,gM];rfl];simp[hl])];simp[iX,hkx])
          clear hd hkx gM nY;go_upto_region 9 with(go_at_call 39;refine HC.mono ?_;clear HC;rintro e w1 ⟨rfl,ay⟩;have Yb:=Below.keep ay d0;have XN:=Below.keep ay c0);go_quiet (fail);go_wp2_with fail;exact⟨⟨j+2,by omega,by go_num,zQ (hb.trans (af ay hb.size)) _,HX⟩,by simp only[intOf];omega⟩
end Go.Proofs.YtakgjcfkdemipaaGreatDoor
