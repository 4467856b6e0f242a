/-
  Lemmas for the statement: the law FaceTypes answers true. Conditions: bounds of lengths; the variable strings.asciiSpace.
-/
import Derived.Test.YtakgjcfkdemipaaGreatDoorZG30
import Derived.Test.YtakgjcfkdemipaaGreatDoorZGn
import Derived.Test.YtakgjcfkdemipaaGreatDoorZT4
import Derived.Test.YtakgjcfkdemipaaGreatDoorZT5
set_option maxHeartbeats 25600000
namespace Go.Proofs.YtakgjcfkdemipaaGreatDoor
open Go Go.RowKit
theorem vc6 {l:List aB} (h:qq l=true):∀f∈l,f.ag.length≤100000:=λf hf=>by
 rw[Ku,Bool.and_eq_true,List.all_eq_true] at h
 have h1:=h.1 f hf
 unfold jT r8 ir at h1
 simp only[Bool.and_eq_true,decide_eq_true_eq] at h1
 omega
theorem vb4 {s:cD} (h:vam s=true):∀u∈aI s,u.length≤14∧iz u≤2:=by
 unfold vam at h
 rw[Bool.and_eq_true,List.all_eq_true] at h
 have key:∀u,va8 u 14 2=true→u.length≤14∧iz u≤2:=λu hu=>by
  unfold va8 at hu;simp only[Bool.and_eq_true,decide_eq_true_eq] at hu;exact⟨hu.1.1,hu.2⟩
 intro u hu
 unfold aI at hu
 rcases List.mem_append.1 hu with hu|hu
 · exact key u (h.1 u hu)
 · split at hu
   · cases hu
   · rename_i hr
     obtain rfl:=List.mem_singleton.1 hu;rw[decide_eq_false hr,Bool.false_or] at h;exact key _ h.2
theorem vbs {l:List aB} {ag:List aG} (h:va5 l ag=true):vc3 l∧∀f∈l,∀o∈f.ops,∀u∈aI o.sig,u.length≤14∧iz u≤2:=by
 unfold va5 at h
 rw[Bool.and_eq_true,List.all_eq_true,List.all_eq_true] at h
 refine⟨λf hf n hn=>?_,λf hf o ho=>?_⟩
 · have:=h.2 f hf
   unfold vaa at this;rw[Bool.and_eq_true,List.all_eq_true] at this;exact vb4 (this.1 n hn)
 · have:=h.2 f hf
   unfold vaa at this;rw[Bool.and_eq_true,List.all_eq_true,List.all_eq_true] at this;exact vb4 (this.2 o ho)
theorem vc0 {l:List aB} {ag:List aG} (h:vao l ag=true):∀n∈ag,∀u∈aI n.sig,oJ l ag true u=0:=by
 unfold vao at h
 rw[List.all_eq_true] at h
 intro n hn u hu
 have h1:=h n hn
 unfold vb1 at h1
 rw[Bool.and_eq_true,List.all_eq_true] at h1
 unfold aI at hu
 rcases List.mem_append.1 hu with hu|hu
 · exact of_decide_eq_true (h1.1 u hu)
 · split at hu
   · cases hu
   · rename_i hr
     obtain rfl:=List.mem_singleton.1 hu;rw[decide_eq_false hr,Bool.false_or] at h1;exact of_decide_eq_true h1.2
theorem vct {l:List aB} {ag:List aG} {t:List UInt8} (h:(nG l ag t).2≠0):(nG l ag t).1=[]:=by
 unfold nG at h ⊢
 split
 · rfl
 · rename_i h1
   rw[if_neg h1] at h;unfold Jb at h ⊢;split
   · rfl
   · rename_i h2;rw[if_neg h2] at h;exact absurd rfl h
set_option maxRecDepth 8000 in
theorem vc2 (l : List aB) (ag : List aG) (t : List UInt8) (lv nv : Value) (w : World) (hT : fN w) (hl : aZ Any w lv l) (hn : aJ Any w nv ag) (htl : t.length ≤ maxLen) :
 Calls Tryz.prog 6 #[lv,nv,str t] w λe w'=>e=.returned (.bool true)∧Below w.heap.size w w':=by
 obtain⟨lp,lc,rfl,_⟩:=hl.shape
 obtain⟨np,nc,rfl,_,hnm,_⟩:=hn.shape
 unfold maxLen at hnm
 have hA:=Below.refl w.heap.size w
 have HT:=Lib.hid (λW (hW:Below w.heap.size w W)=>hT.below hW (nl _))
 have HS:=λW hW=>Gg W (HT.out W hW)
 have HF:=λW (hW:Below w.heap.size w W)=>I5 l _ W (hl.below hW (nl _))
 have H1:=λW (hW:Below w.heap.size w W)=>sr ag _ W (hn.below hW (nl _))
 have HM:=λW=>vaw t 30 3 30 3 rfl rfl W htl
 have HL:=λW (hW:Below w.heap.size w W)=>vbx l ag _ _ W (hl.below hW (nl _)) (hn.below hW (nl _))
 have vd0:=λhfn hne W (hW:Below w.heap.size w W)=>vc9 l ag _ _ W (HT.out W hW) (hl.below hW (nl _)) (hn.below hW (nl _)) hfn hne
 rcases q1:qq l with _|_
 · rw[q1] at HF
   clear H1 HM HL vd0 q1 hl hn hnm;go_enter Tryz.func6,Tryz.ntmps6;go_wp2_with (first
    | (go_at_call 18;refine(HS w1 B1).mono ?_;rintro e w99 ⟨rfl,vb0⟩)
    | (go_at_call 15;refine(HF w hA).mono ?_;clear HF;rintro e w1 ⟨rfl,ay⟩;have B1:=hA.trans ay))
   go_ret;exact⟨rfl,B1.trans (af vb0 B1.size)⟩
 rw[q1] at HF
 rcases q2:ir ag with _|_
 · rw[q2] at H1
   clear HM HL vd0 q1 q2 hl hn hnm;go_enter Tryz.func6,Tryz.ntmps6;go_wp2_with (first
    | (go_at_call 18;refine(HS w2 B2).mono ?_;rintro e w99 ⟨rfl,vb0⟩)
    | (go_at_call 16;refine(H1 w1 B1).mono ?_;clear H1;rintro e w2 ⟨rfl,aA⟩;have B2:=B1.trans (af aA B1.size))
    | (go_at_call 15;refine(HF w hA).mono ?_;clear HF;rintro e w1 ⟨rfl,ay⟩;have B1:=hA.trans ay))
   go_ret;exact⟨rfl,B2.trans (af vb0 B2.size)⟩
 rw[q2] at H1
 rcases q3:va8 t 30 3 with _|_
 · rw[q3] at HM
   clear HL vd0 q1 q2 q3 hl hn hnm;go_enter Tryz.func6,Tryz.ntmps6;go_wp2_with (first
    | (go_at_call 18;refine(HS w3 B3).mono ?_;rintro e w99 ⟨rfl,vb0⟩)
    | (go_at_call 31;refine(HM w2).mono ?_;clear HM;rintro e w3 ⟨rfl,aK⟩;have B3:=B2.trans (af aK B2.size))
    | (go_at_call 16;refine(H1 w1 B1).mono ?_;clear H1;rintro e w2 ⟨rfl,aA⟩;have B2:=B1.trans (af aA B1.size))
    | (go_at_call 15;refine(HF w hA).mono ?_;clear HF;rintro e w1 ⟨rfl,ay⟩;have B1:=hA.trans ay))
   go_ret;exact⟨rfl,B3.trans (af vb0 B3.size)⟩
 rw[q3] at HM
 have hfn:=vc6 q1
 have hne:ag.length≤6:=by unfold ir at q2;simp only[Bool.and_eq_true,decide_eq_true_eq] at q2;exact q2.2
 have vcm:t.length≤30∧iz t≤3:=by unfold va8 at q3;simp only[Bool.and_eq_true,decide_eq_true_eq] at q3;exact⟨q3.1.1,q3.2⟩
 have HC:=vd0 hfn (by omega)
 clear vd0
 rcases q4:va5 l ag with _|_
 · rw[q4] at HL
   clear HC q1 q2 q3 q4 hl hn hnm hfn hne vcm;go_enter Tryz.func6,Tryz.ntmps6;go_wp2_with (first
    | (go_at_call 18;refine(HS w4 B4).mono ?_;rintro e w99 ⟨rfl,vb0⟩)
    | (go_at_call 32;refine(HL w3 B3).mono ?_;clear HL;rintro e w4 ⟨rfl,hb4⟩;have B4:=B3.trans (af hb4 B3.size))
    | (go_at_call 31;refine(HM w2).mono ?_;clear HM;rintro e w3 ⟨rfl,aK⟩;have B3:=B2.trans (af aK B2.size))
    | (go_at_call 16;refine(H1 w1 B1).mono ?_;clear H1;rintro e w2 ⟨rfl,aA⟩;have B2:=B1.trans (af aA B1.size))
    | (go_at_call 15;refine(HF w hA).mono ?_;clear HF;rintro e w1 ⟨rfl,ay⟩;have B1:=hA.trans ay))
   go_ret;exact⟨rfl,B4.trans (af vb0 B4.size)⟩
 rw[q4] at HL
 rcases q5:vao l ag with _|_
 · rw[q5] at HC
   clear q1 q2 q3 q4 q5 hl hn hnm hfn hne vcm;go_enter Tryz.func6,Tryz.ntmps6;go_wp2_with (first
    | (go_at_call 18;refine(HS w5 B5).mono ?_;rintro e w99 ⟨rfl,vb0⟩)
    | (go_at_call 33;refine(HC w4 B4).mono ?_;clear HC;rintro e w5 ⟨rfl,cW⟩;have B5:=B4.trans (af cW B4.size))
    | (go_at_call 32;refine(HL w3 B3).mono ?_;clear HL;rintro e w4 ⟨rfl,hb4⟩;have B4:=B3.trans (af hb4 B3.size))
    | (go_at_call 31;refine(HM w2).mono ?_;clear HM;rintro e w3 ⟨rfl,aK⟩;have B3:=B2.trans (af aK B2.size))
    | (go_at_call 16;refine(H1 w1 B1).mono ?_;clear H1;rintro e w2 ⟨rfl,aA⟩;have B2:=B1.trans (af aA B1.size))
    | (go_at_call 15;refine(HF w hA).mono ?_;clear HF;rintro e w1 ⟨rfl,ay⟩;have B1:=hA.trans ay))
   go_ret;exact⟨rfl,B5.trans (af vb0 B5.size)⟩
 rw[q5] at HC
 obtain⟨hS1,kA⟩:=vbs q4
 have hsc:=vc0 q5
 have vcg:=λh=>vcj (l:=l) (ag:=ag) (t:=t) hS1 kA hsc vcm.1 vcm.2 h
 have vcl:=λh=>vct (l:=l) (ag:=ag) (t:=t) h
 have ver:=λW (hW:Below w.heap.size w W)=>FJ l _ ag _ t W (HT.out W hW) (hl.below hW (nl _)) (hn.below hW (nl _)) hfn (by omega) htl
 have ves:=λu (hu:u.length≤maxLen) par W (hW:Below w.heap.size w W)=>rq l _ ag _ par u W (HT.out W hW) (hl.below hW (nl _)) (hn.below hW (nl _)) hfn (by omega) hu
 have vet:=λn W (hW:Below w.heap.size w W)=>Bc l _ ag _ t n W (HT.out W hW) (hl.below hW (nl _)) (hn.below hW (nl _)) hfn (by omega) htl
 have hpk:dX ag t=(eW t||decide (0<ag.length)):=by unfold dX;rw[Bool.or_comm]
 rw[hpk] at vcg
 clear q1 q2 q3 q4 q5 hS1 kA hsc vcm hpk hl hn hfn
 rcases hY:nG l ag t with⟨L,vfd⟩
 rw[hY] at ver vcg vcl
 dsimp only at ver vcg vcl
 clear hY
 by_cases h0:vfd=0
 case neg=>
  obtain rfl:=vcl h0;obtain⟨g1,g2⟩:=bC h0;clear vcg vcl ves vet h0 hne hnm;go_enter Tryz.func6,Tryz.ntmps6;go_wp2_with (first
   | (go_at_call 18;refine(HS w6 B6).mono ?_;rintro e w99 ⟨rfl,vb0⟩)
   | (go_at_call 21;refine(ver _ B5).mono ?_;clear ver;rintro e w6 ⟨u6,rfl,vew,jw⟩;obtain⟨q6,s6,rfl⟩:=vew.shape;have B6:=B5.trans (af jw B5.size))
   | (go_at_call 33;refine(HC w4 B4).mono ?_;clear HC;rintro e w5 ⟨rfl,cW⟩;have B5:=B4.trans (af cW B4.size))
   | (go_at_call 32;refine(HL w3 B3).mono ?_;clear HL;rintro e w4 ⟨rfl,hb4⟩;have B4:=B3.trans (af hb4 B3.size))
   | (go_at_call 31;refine(HM w2).mono ?_;clear HM;rintro e w3 ⟨rfl,aK⟩;have B3:=B2.trans (af aK B2.size))
   | (go_at_call 16;refine(H1 w1 B1).mono ?_;clear H1;rintro e w2 ⟨rfl,aA⟩;have B2:=B1.trans (af aA B1.size))
   | (go_at_call 15;refine(HF w hA).mono ?_;clear HF;rintro e w1 ⟨rfl,ay⟩;have B1:=hA.trans ay))
  go_ret;exact⟨by simp,B6.trans (af vb0 B6.size)⟩
 case pos =>
  subst h0;obtain⟨vd2,hall⟩:=vcg rfl;obtain⟨PB,YK⟩:∃PB,PB=(eW t||decide (0<ag.length)):=⟨_,rfl⟩
  rw[←YK] at hall;have vd7:=Lib.hid vd2;have vd6:=Lib.hid hall;have vda:=λW=>rL t htl W
  generalize eW t=vey at *;have vdj:=Lib.hid YK;clear vcg vcl vd2 hall YK;go_enter Tryz.func6,Tryz.ntmps6;go_upto_region 7 with(first
   | (go_at_call 34;refine(vda w6).mono ?_;rintro e w7 ⟨rfl,qw⟩;have B7:=B6.trans (af qw B6.size);have vex:=vew.uN.below qw (nl _))
   | (go_at_call 21;refine(ver _ B5).mono ?_;clear ver;rintro e w6 ⟨u6,rfl,vew,jw⟩;obtain⟨q6,s6,rfl⟩:=vew.shape;have B6:=B5.trans (af jw B5.size))
   | (go_at_call 33;refine(HC w4 B4).mono ?_;clear HC;rintro e w5 ⟨rfl,cW⟩;have B5:=B4.trans (af cW B4.size))
   | (go_at_call 32;refine(HL w3 B3).mono ?_;clear HL;rintro e w4 ⟨rfl,hb4⟩;have B4:=B3.trans (af hb4 B3.size))
   | (go_at_call 31;refine(HM w2).mono ?_;clear HM;rintro e w3 ⟨rfl,aK⟩;have B3:=B2.trans (af aK B2.size))
   | (go_at_call 16;refine(H1 w1 B1).mono ?_;clear H1;rintro e w2 ⟨rfl,aA⟩;have B2:=B1.trans (af aA B1.size))
   | (go_at_call 15;refine(HF w hA).mono ?_;clear HF;rintro e w1 ⟨rfl,ay⟩;have B1:=hA.trans ay))
  obtain⟨_,_,_,_,vdv,_⟩:=vex.shape;unfold maxLen at vdv;clear ay aA aK hb4 cW jw qw B1 B2 B3 B4 B5 B6 vew
  go_cut [11] from 63 to 68 (λs wx=>s=.bool PB∧wx=w7)
  case first=>
   have YK:=vdj.out
   by_cases hn0:0<ag.length
   · have gn:(0:Int)<(ag.length:Int):=by omega
     cases vey
     all_goals
      rw[decide_eq_true hn0] at YK;subst YK;go_wp2_with fail
      go_meet
      exact⟨rfl,rfl⟩
   · have gn:¬(0:Int)<(ag.length:Int):=by omega
     cases vey
     all_goals
      rw[decide_eq_false hn0] at YK;subst YK;go_wp2_with fail
      go_meet
      exact⟨rfl,rfl⟩
  case rest =>
   obtain⟨rfl,rfl⟩:=hcut;clear vdj hne;go_wp2_with fail
   go_loopg [12] L.length (λg ve6 wr=>∃i:Nat,i≤L.length∧g=L.length - i∧ve6=.int .i64 i∧Below wc.heap.size wc wr)
   case atStart=>exact⟨0,Nat.zero_le _,rfl,by go_num,Below.refl _ _⟩
   case round =>
    obtain⟨i,hi,rfl,rfl,hB⟩:=hrel;have vem:=B7.trans (af hB B7.size)
    by_cases hlt:i<L.length
    case neg=>
     clear ves vet;go_wp2_with (go_at_call 18;refine(HS _ vem).mono ?_;rintro e w99 ⟨rfl,vb0⟩);go_ret;exact⟨rfl,vem.trans (af vb0 vem.size)⟩
    case pos =>
     obtain⟨x,hx⟩:∃x,L[i]? =some x:=⟨_,List.getElem?_eq_getElem hlt⟩
     obtain⟨hgd,hop⟩:=vd6.out x (List.mem_of_getElem? hx);have veu:=λW hW=>vet x.name W hW
     rw[hop] at veu;dsimp only at veu;have vd1:=vex.below hB (nl _);obtain⟨b1,o1,av,sv,rfl,_,hxl,dy,cQ,uR,kK,mR,qG,sN⟩:=vd1.at hx;obtain⟨pa,ca,rfl,_,vdx,hal⟩:=dy.shape;obtain⟨ps,cs,rfl,_⟩:=cQ.shape;unfold maxLen at vdx;have GM:=Lib.hid hgd;have SM:=Lib.hid hal;have vdk:=Lib.hid hxl;clear hgd hop hal hxl;go_upto_region 11 with fail
     go_cut [90] from 69 to 144 (λs wx=>s=.bool false∧Below wr.heap.size wr wx)
     case first =>
      clear veu ves vet GM SM dy cQ
      by_cases h0:i=0
      · subst h0
        clear vd1;refine EH (D:=Any) (d:=some 90) 15 [(12,vI ((0:Nat):Int))] [vI ((0:Nat):Int),vN,vN,vK,vK,vK,vK,vK,vK,vK,vK,vK,vK,vK,vK,vN] (aW []) (by kernel_rfl) rfl rfl (λ_ _ h hb=>h.below hb) gD ⟨rfl,trivial⟩ ?_ ?_
        · iterate 16
           refine And.intro ?_ ?_
           · first
             | exact bV (by kernel_rfl) rfl
             | exact mT rfl rfl (by kernel_rfl)
             | exact dA rfl (by kernel_rfl) rfl rfl rfl (λw=>by simp[go_sem])
          exact trivial
        · intro aE wE jv eu _
          simp only[pq,pz,pw];go_wp2_with fail
          go_meet
          exact⟨rfl,eu⟩
      · obtain⟨j,hj⟩:∃j,i=j+1:=⟨i - 1,by omega⟩
        obtain⟨y,gM⟩:∃y,L[j]? =some y:=⟨_,List.getElem?_eq_getElem (by omega)⟩
        obtain⟨b2,o2,_,_,e2,_,_,_,_,vek,_⟩:=vd1.at gM;simp only[Option.some.injEq,Addr.mk.injEq,and_true] at e2;obtain⟨rfl,rfl⟩:=e2;have hj0:0<i:=by omega
        have hj1:(i:Int) - 1=(j:Int):=by omega
        have hjl:j<L.length:=by omega
        have OW:IntKind.i64.wrap (j:Int)=(j:Int):=by
         simp[IntKind.wrap,IntKind.bits,IntKind.signed];omega
        have hless:Op.bytesLess y.name x.name=true:=by
         have h1:=List.pairwise_iff_getElem.1 vd7.out j i hjl hlt (by omega);rw[(List.getElem?_eq_some_iff.1 gM).2,(List.getElem?_eq_some_iff.1 hx).2] at h1;exact h1
        clear vd1 gM hx h0 hj;refine EH (D:=Any) (d:=some 90) 15 [(7,vL b1 o1 L.length s6),(12,vI i)] [vI i,vY,vY,vL b1 o1 L.length s6,vI i,vI j,vP b1 (o1+j * 5),vP b1 (o1+j * 5),vT y.name,vL b1 o1 L.length s6,vI i,vP b1 (o1+i * 5),vP b1 (o1+i * 5),vT x.name,vN,vN] (aW [(⟨b1,o1+j * 5,none⟩,str y.name),(⟨b1,o1+i * 5,none⟩,str x.name)]) (by kernel_rfl) rfl rfl (λ_ _ h hb=>h.below hb) (by(iterate 2 refine cM (by assumption) ?_);exact gD) ⟨rfl,rfl,trivial⟩ ?_ ?_
        · iterate 16
           refine And.intro ?_ ?_
           · first
             | exact bV (by kernel_rfl) rfl
             | exact mT rfl rfl (by kernel_rfl)
             | exact fK rfl (by kernel_rfl) rfl rfl (λw=>by simp[go_sem])
             | exact fZ rfl (by kernel_rfl) rfl rfl rfl (λw=>by simp[go_sem,hlt,hjl])
             | exact fq rfl (by kernel_rfl) rfl rfl (λw hS=>by simp[go_sem,(hS.get 0 rfl),(hS.get 1 rfl)])
             | exact dA rfl (by kernel_rfl) rfl rfl rfl (λw=>by simp[go_sem,hj0,hj1,OW,hless])
          exact trivial
        · intro aE wE jv eu _
          simp only[pq,pz,pw];go_wp2_with fail
          go_meet
          exact⟨rfl,eu⟩
     case rest =>
      obtain⟨rfl,hcut⟩:=hcut;have k0:=Below.keep hcut uR;have k1:=Below.keep hcut kK;have k2:=Below.keep hcut mR;have k3:=Below.keep hcut qG;have k4:=Below.keep hcut sN;have vep:=vem.trans (af hcut vem.size);have vdh:=hB.trans (af hcut hB.size);have jE:=(Below.refl _ wc).alloc (nl _) (.cells #[.bool x.sig.iter,.slice pa x.sig.args.length ca,str x.sig.res,.slice ps x.sig.sigs.length cs] 36);have hg1:=heap_alloc_new wc (.cells #[.bool x.sig.iter,.slice pa x.sig.args.length ca,str x.sig.res,.slice ps x.sig.sigs.length cs] 36);have vf5:=(dy.below hcut (nl _)).below jE (nl _);have vf1:=(cQ.below hcut (nl _)).below jE (nl _);have z0:=Below.keep jE k0;have ven:=vep.alloc vep.size (.cells #[.bool x.sig.iter,.slice pa x.sig.args.length ca,str x.sig.res,.slice ps x.sig.sigs.length cs] 36);have vd8:=vdh.alloc vdh.size (.cells #[.bool x.sig.iter,.slice pa x.sig.args.length ca,str x.sig.res,.slice ps x.sig.sigs.length cs] 36);go_wp2_with fail;clear k0 k1 k2 k3 k4 uR kK mR qG sN dy cQ vd1;obtain⟨W0,Ss⟩:∃z,z=wc.alloc (.cells #[.bool x.sig.iter,.slice pa x.sig.args.length ca,str x.sig.res,.slice ps x.sig.sigs.length cs] 36):=⟨_,rfl⟩
      rw[←Ss] at jE hg1 vf5 vf1 z0 ven vd8 ⊢;clear Ss jE
      go_loopg [14] x.sig.args.length (λg vdt wx=>∃k:Nat,k≤x.sig.args.length∧g=x.sig.args.length - k∧vdt=.int .i64 k∧Below W0.heap.size W0 wx)
      case atStart=>exact⟨0,Nat.zero_le _,rfl,by go_num,Below.refl _ _⟩
      case round =>
       obtain⟨k,hk,rfl,rfl,dg⟩:=hrel;have hg3:=ah hg1 dg;have bx:=aU hg3;have veo:=ven.trans (af dg ven.size);have vf6:=vf5.below dg (nl _);have z3:=Below.keep dg z0
       by_cases hlk:k<x.sig.args.length
       case pos=>
        obtain⟨u,hu⟩:∃u,x.sig.args[k]? =some u:=⟨_,List.getElem?_eq_getElem hlk⟩
        obtain⟨b2,o2,rfl,_,hct⟩:=vf6.at hu;have HC:=ves u (SM.out u (List.mem_of_getElem? hu)) PB wr veo;rw[GM.out u (by unfold aI;exact List.mem_append_left _ (List.mem_of_getElem? hu))] at HC;clear hu veu ves vet;go_wp2_with (go_at_call 19;refine HC.mono ?_;clear HC;rintro e w8 ⟨rfl,xh⟩)
        go_roundg (x.sig.args.length - (k+1))
        case rel=>exact⟨k+1,hlk,rfl,by go_num,dg.trans (af xh dg.size)⟩
        case measure=>omega
       case neg=>
        have vf3:=vf1.below dg (nl _);have vdg:=vd8.trans (af dg vd8.size);go_upto_region 19 with fail
        go_cut [124] from 69 to 144 (λs wx=>s=.bool false∧Below wr.heap.size wr wx)
        case first=>
         clear veu vet
         by_cases hr:x.sig.res=[]
         · have e1:x.sig.res.isEmpty=true:=by rw[hr];rfl
           have e2:(x.sig.res==[])=true:=by rw[hr];rfl
           clear hr ves;go_wp2_with fail
           go_meet
           exact⟨rfl,Below.refl _ _⟩
         · have e1:x.sig.res.isEmpty=false:=by simpa using hr
           have e2:(x.sig.res==[])=false:=by simpa using hr
           have HC:=ves x.sig.res vdk.out.2 PB wr veo;rw[GM.out x.sig.res (by unfold aI;rw[if_neg hr];simp)] at HC;clear hr ves;go_wp2_with (go_at_call 19;refine HC.mono ?_;clear HC;rintro e w8 ⟨rfl,xh⟩)
           go_meet
           exact⟨rfl,xh⟩
        case rest=>
         obtain⟨rfl,hcut⟩:=hcut;have veq:=veo.trans (af hcut veo.size);have vd9:=vdg.trans (af hcut vdg.size);have vdo:=ah hg3 hcut;have vfa:=aU vdo;have vfn:=Below.keep hcut z3;have vf9:aT Any wc (.agg #[.bool x.sig.iter,.slice pa x.sig.args.length ca,str x.sig.res,.slice ps x.sig.sigs.length cs]) x.sig:=⟨_,_,rfl,vdk.out.2,vf6.below hcut (nl _),vf3.below hcut (nl _)⟩;have O2:=Lib.hid ((oy x.sig x.sig).2 rfl);clear ves vet bx z3 vf6 vf3 vf5 vf1 hg1 hg3 z0;go_wp2_with (first
          | (go_at_call 26;refine(nK x.sig x.sig _ _ _ vf7 vf8).mono ?_;rintro e Cg ⟨he,Ij⟩;rw[O2.out] at he;subst he)
          | (go_at_call 23;refine(veu _ veq).mono ?_;clear veu;rintro e w8 ⟨u,rfl,⟨ve9,vel,rfl,ve5,vds,vdr⟩,xh⟩;obtain⟨vfg,c8,rfl,_⟩:=vds.shape;obtain⟨vfk,d8,rfl,_⟩:=vdr.shape;have vev:=(Below.refl _ w8).alloc (nl _) (.cells #[.bool x.sig.iter,.slice vfg x.sig.args.length c8,str x.sig.res,.slice vfk x.sig.sigs.length d8] 36);have vfl:=aU (heap_alloc_new w8 (.cells #[.bool x.sig.iter,.slice vfg x.sig.args.length c8,str x.sig.res,.slice vfk x.sig.sigs.length d8] 36));have vfm:=aU (aH (.cells #[.bool x.sig.iter,.slice vfg x.sig.args.length c8,str x.sig.res,.slice vfk x.sig.sigs.length d8] 36) (ah vdo xh));have vf7:=aT.below ⟨_,_,rfl,ve5,vds,vdr⟩ vev (nl _);have vf8:=(vf9.below xh (nl _)).below vev (nl _);have B8:=(vd9.trans (af xh vd9.size)).alloc (Nat.le_trans vd9.size xh.size) (.cells #[.bool x.sig.iter,.slice vfg x.sig.args.length c8,str x.sig.res,.slice vfk x.sig.sigs.length d8] 36)))
         go_roundg (L.length - (i+1))
         case rel=>exact⟨i+1,hlt,rfl,by go_num,B8.trans (af Ij B8.size)⟩
         case measure=>omega
end Go.Proofs.YtakgjcfkdemipaaGreatDoor
