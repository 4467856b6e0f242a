/-
  Lemmas for the statement: the closure with which the program reads a type (kind.read$3): a type with an argument. No condition.
-/
import Derived.Deep.RegionHeld2
import Derived.Test.YtemjidmkolfgnaaGreatDoorSBn
import Derived.Test.YtemjidmkolfgnaaGreatDoorSB2
set_option maxHeartbeats 6400000
namespace Go.Proofs.YtemjidmkolfgnaaGreatDoor
open Go.RowKit
theorem leave {S:World→Prop} {Y:Act→World→Prop} {K:Act→World→Prop} {G:Prop} (_:Shut (∀a w,S w→(S w→Y a w)→K a w)) (hG:G) (a:Act) (w:World) (_:Hid False→K a w):G:=hG
theorem BG (s:List UInt8) (CH:s.length≤1000) (hp:dR s) (h0:bU (s.take (ah s))=0) (hkk:aS (s.take (ah s))=0) (hn:isName (s.take (ah s))=true) (hb:∀r,s.drop (ah s)≠91::r):ei s:=by
 have hm:s.length≤maxLen:=by unfold maxLen;omega
 intro R Nd X rb w ht he hs
 have HP:Hid (∀e w',aD w rb s e w'↔((∃v,e=.returned (.agg #[.int .u8 (7:Nat),str (s.take (ah s)),v])∧ff w' (λb=>w.heap.size≤b) .nil v)∧Rest w' rb (s.drop (ah s))∧Kept rb w w')):=by
  intro e w';unfold aD;rw[oC hp h0 hkk hn hb]
 have hpre:=dy hp
 have HK:=zh (jq s)
 have mz:=zh (fD (s.take (ah s)))
 have hk0:((wk (s.take (ah s)):Int) != 0)=false:=by rw[HK.out,h0];rfl
 have DG:=eE s
 have Gm:(s.take (ah s)).length≤maxLen:=by simp;omega
 have qf:=dU hb
 have hk1:((wk (s.take (ah s)++[91]):Int)==0)=true:=by rw[mz.out,hkk];rfl
 clear h0 hp hkk hb
 have h1:=St.start ht he hs
 have a1:=h1.env.r
 go_enter Tryz.func234,Tryz.ntmps234
 go_wp2_with fail
 generalize w.alloc (.cells #[.int .u8 0,.string ⟨#[]⟩,.slice none 0 0] 282)=W1 at *
 refine(bM s [63,116] rb _ h1.rest.cell hpre).mono ?_
 rintro e w1 ⟨rfl,rfl⟩
 go_wp2_with fail
 refine(dh s rb _ hm h1.rest).mono ?_
 rintro e w2 ⟨rfl,hr2,jP⟩
 have h2:=h1.next jP hr2
 have b1:=h2.env.r
 have b2:=h2.env.need
 go_wp2_with (first|(go_at_call 237;refine(iC _ _).mono ?_;rintro e w0 ⟨rfl,rfl⟩)|(go_at_call 235;refine(bM _ [91] rb _ h2.rest.cell qf).mono ?_;rintro e w0 ⟨rfl,rfl⟩))
 go_region_held3 (λW=>W.cell? ⟨Nd,0,none⟩=some (.func (.func 233) #[] #[])) (first|exact h2.drew.env.need|exact(h2.drew.quiet cK).env.need)
  (first |(go_at_call 59;refine(bp _ _ h2.drew.tab Gm).mono ?_;rintro e w3 ⟨rfl,cK⟩)|(go_at_call 233;refine(cZ _).mono ?_;rintro e w0 ⟨rfl,rfl⟩))
 have h3:=h2.drew.quiet cK
 have b3:=λo=>(h3.alloc o).env.need
 go_wp2_with (go_at_call 233;refine(cZ _).mono ?_;rintro e w0 ⟨rfl,rfl⟩)
 go_quiet ((go_at_call 233;exact Calls.quiet_of_same ((cZ _).mono λ_ _ h=>⟨h.1,h.2.symm⟩)))
 have c0:=λo=>(h3.alloc o).rN.1.1
 have c1:=λo=>(h3.alloc o).rN.1.2.1
 have c2:=λo=>(h3.alloc o).rN.1.2.2
 have f0:=λo=>(h3.alloc o).rN.2.1
 have f1:=λo=>(h3.alloc o).rN.2.2.1
 have f2:=λo=>(h3.alloc o).rN.2.2.2
 go_wp2_with fail
 refine bodyPost_ret (v:=.agg #[.int .u8 7,str (s.take (ah s)),.slice none 0 0]) (by simp[results,Tryz.results234,go_sem,c0,c1,c2]) rfl ?_
 rw[HP.out]
 obtain⟨g1,g2⟩:=((h3.alloc _).drewN nq).done (.int .u8 7) (str (s.take (ah s))) (.slice none 0 0)
 exact⟨⟨_,rfl,ff.nil _ _⟩,g1,g2⟩
theorem qy (s:List UInt8) (CH:s.length≤1000) (hp:dR s) (h0:bU (s.take (ah s))=0) (hkk:aS (s.take (ah s))=0) (hn:isName (s.take (ah s))=false):ei s:=by
 have hnone:=zc hp h0 hkk hn
 have hm:s.length≤maxLen:=by unfold maxLen;omega
 intro R Nd X rb w ht he hs
 have HP:Hid (∀e w',aD w rb s e w'↔(e=.panicked cS∧Kept rb w w')):=by
  intro e w';unfold aD;rw[hnone]
 have hpre:=dy hp
 have HK:=zh (jq s)
 have mz:=zh (fD (s.take (ah s)))
 have hk0:((wk (s.take (ah s)):Int) != 0)=false:=by rw[HK.out,h0];rfl
 have DG:=eE s
 have Gm:(s.take (ah s)).length≤maxLen:=by simp;omega
 have hk1:((wk (s.take (ah s)++[91]):Int)==0)=true:=by rw[mz.out,hkk];rfl
 by_cases hbr:∃s2,s.drop (ah s)=91::s2
 · obtain⟨s2,hb⟩:=hbr
   clear h0 hp hkk hnone;have h1:=St.start ht he hs;have a1:=h1.env.r;go_enter Tryz.func234,Tryz.ntmps234;go_wp2_with fail;generalize w.alloc (.cells #[.int .u8 0,.string ⟨#[]⟩,.slice none 0 0] 282)=W1 at *;refine(bM s [63,116] rb _ h1.rest.cell hpre).mono ?_;rintro e w1 ⟨rfl,rfl⟩;go_wp2_with fail;refine(dh s rb _ hm h1.rest).mono ?_;rintro e w2 ⟨rfl,hr2,jP⟩;have h2:=h1.next jP hr2
   have b1:=h2.env.r;have b2:=h2.env.need;rw[hb] at h2;go_wp2_with (first|(go_at_call 237;refine(iC _ _).mono ?_;rintro e w0 ⟨rfl,rfl⟩)|(go_at_call 235;refine(cT [91] s2 rb _ h2.rest).mono ?_;rintro e w3 ⟨rfl,hr3,vW⟩;have h3:=h2.next vW hr3;have b3:=h3.env.need))
   go_region_held2 (λW=>W.cell? ⟨Nd,0,none⟩=some (.func (.func 233) #[] #[])) (first|exact h3.drew.env.need|exact(h3.drew.quiet hb4).env.need|exact hfalse.out.elim)
    (first |(go_at_call 59;refine(bp _ _ h3.drew.tab Gm).mono ?_;rintro e w4 ⟨rfl,hb4⟩)|(go_at_call 233;refine(dY _).mono ?_;rintro e w0 ⟨rfl,rfl⟩;refine leave (by assumption) (show _∧_ from⟨rfl,(HP.out _ _).2 ⟨rfl,(h3.drew.quiet hb4).kept⟩⟩) {tmps:= #[],defers:=[] } w4 (λhfalse=>?_)))
   all_goals exact hfalse.out.elim
 · have qf:=dU (s:=s.drop (ah s)) (c:=91) (λr e=>hbr ⟨r,e⟩)
   clear h0 hp hkk hnone hbr;have h1:=St.start ht he hs;have a1:=h1.env.r;go_enter Tryz.func234,Tryz.ntmps234;go_wp2_with fail;generalize w.alloc (.cells #[.int .u8 0,.string ⟨#[]⟩,.slice none 0 0] 282)=W1 at *;refine(bM s [63,116] rb _ h1.rest.cell hpre).mono ?_;rintro e w1 ⟨rfl,rfl⟩;go_wp2_with fail;refine(dh s rb _ hm h1.rest).mono ?_;rintro e w2 ⟨rfl,hr2,jP⟩;have h2:=h1.next jP hr2
   have b1:=h2.env.r;have b2:=h2.env.need;go_wp2_with (first|(go_at_call 237;refine(iC _ _).mono ?_;rintro e w0 ⟨rfl,rfl⟩)|(go_at_call 235;refine(bM _ [91] rb _ h2.rest.cell qf).mono ?_;rintro e w0 ⟨rfl,rfl⟩))
   go_region_held2 (λW=>W.cell? ⟨Nd,0,none⟩=some (.func (.func 233) #[] #[])) (first|exact h2.drew.env.need|exact(h2.drew.quiet hb4).env.need|exact hfalse.out.elim)
    (first |(go_at_call 59;refine(bp _ _ h2.drew.tab Gm).mono ?_;rintro e w4 ⟨rfl,hb4⟩)|(go_at_call 233;refine(dY _).mono ?_;rintro e w0 ⟨rfl,rfl⟩;refine leave (by assumption) (show _∧_ from⟨rfl,(HP.out _ _).2 ⟨rfl,(h2.drew.quiet hb4).kept⟩⟩) {tmps:= #[],defers:=[] } w4 (λhfalse=>?_)))
   all_goals exact hfalse.out.elim
theorem oQ (s:List UInt8) (CH:s.length≤1000) (hp:dR s) (h0:bU (s.take (ah s))=0) (hk:aS (s.take (ah s))≠0) (hb:∀r,s.drop (ah s)≠91::r):ei s:=by
 have hkk:aS (s.take (ah s))=4∨aS (s.take (ah s))=5∨aS (s.take (ah s))=6:=by
  rcases oy (w:=s.take (ah s)) with⟨k1,k2⟩|⟨k1,k2⟩|⟨k1,k2⟩|⟨k1,k2⟩<;>omega
 have hnone:aI s=none:=by
  rcases hkk with h|h|h
  · exact rL hp h0 h hb
  · exact lp hp h0 (.inl h) hb
  · exact lp hp h0 (.inr h) hb
 have hm:s.length≤maxLen:=by unfold maxLen;omega
 intro R Nd X rb w ht he hs
 have HP:Hid (∀e w',aD w rb s e w'↔(e=.panicked cS∧Kept rb w w')):=by
  intro e w';unfold aD;rw[hnone]
 have hpre:=dy hp
 have HK:=zh (jq s)
 have mz:=zh (fD (s.take (ah s)))
 have hk0:((wk (s.take (ah s)):Int) != 0)=false:=by rw[HK.out,h0];rfl
 have DG:=eE s
 have Gm:(s.take (ah s)).length≤maxLen:=by simp;omega
 have qf:=dU hb
 rcases hkk with hkk|hkk|hkk
 · have hk1:((wk (s.take (ah s)++[91]):Int)==0)=false:=by rw[mz.out,hkk];rfl
   have NY:((wk (s.take (ah s)++[91]):Int)==7)=false:=by rw[mz.out,hkk];rfl
   have CG:((wk (s.take (ah s)++[91]):Int)==5)=false:=by rw[mz.out,hkk];rfl
   have oq:((wk (s.take (ah s)++[91]):Int)==6)=false:=by rw[mz.out,hkk];rfl
   clear h0 hp hb hnone hk hkk;have h1:=St.start ht he hs;have a1:=h1.env.r;go_enter Tryz.func234,Tryz.ntmps234;go_wp2_with fail;generalize w.alloc (.cells #[.int .u8 0,.string ⟨#[]⟩,.slice none 0 0] 282)=W1 at *;refine(bM s [63,116] rb _ h1.rest.cell hpre).mono ?_;rintro e w1 ⟨rfl,rfl⟩;go_wp2_with fail;refine(dh s rb _ hm h1.rest).mono ?_;rintro e w2 ⟨rfl,hr2,jP⟩;have h2:=h1.next jP hr2
   have b1:=h2.env.r;have b2:=h2.env.need;have b3:=λo=>(h2.alloc o).env.need
   go_wp2_with (first|(go_at_call 237;refine(iC _ _).mono ?_;rintro e w0 ⟨rfl,rfl⟩)|(go_at_call 235;refine(bM _ [91] rb _ h2.rest.cell qf).mono ?_;rintro e w0 ⟨rfl,rfl⟩)|(go_at_call 233;refine(dY _).mono ?_;rintro e w0 ⟨rfl,rfl⟩));exact⟨rfl,(HP.out _ _).2 ⟨rfl,(h2.alloc _).kept⟩⟩
 · have hk1:((wk (s.take (ah s)++[91]):Int)==0)=false:=by rw[mz.out,hkk];rfl
   have NY:((wk (s.take (ah s)++[91]):Int)==7)=false:=by rw[mz.out,hkk];rfl
   have CG:((wk (s.take (ah s)++[91]):Int)==5)=true:=by rw[mz.out,hkk];rfl
   have oq:((wk (s.take (ah s)++[91]):Int)==6)=false:=by rw[mz.out,hkk];rfl
   clear h0 hp hb hnone hk hkk;have h1:=St.start ht he hs;have a1:=h1.env.r;go_enter Tryz.func234,Tryz.ntmps234;go_wp2_with fail;generalize w.alloc (.cells #[.int .u8 0,.string ⟨#[]⟩,.slice none 0 0] 282)=W1 at *;refine(bM s [63,116] rb _ h1.rest.cell hpre).mono ?_;rintro e w1 ⟨rfl,rfl⟩;go_wp2_with fail;refine(dh s rb _ hm h1.rest).mono ?_;rintro e w2 ⟨rfl,hr2,jP⟩;have h2:=h1.next jP hr2
   have b1:=h2.env.r;have b2:=h2.env.need;have b3:=λo=>(h2.alloc o).env.need
   go_wp2_with (first|(go_at_call 237;refine(iC _ _).mono ?_;rintro e w0 ⟨rfl,rfl⟩)|(go_at_call 235;refine(bM _ [91] rb _ h2.rest.cell qf).mono ?_;rintro e w0 ⟨rfl,rfl⟩)|(go_at_call 233;refine(dY _).mono ?_;rintro e w0 ⟨rfl,rfl⟩));exact⟨rfl,(HP.out _ _).2 ⟨rfl,(h2.alloc _).kept⟩⟩
 · have hk1:((wk (s.take (ah s)++[91]):Int)==0)=false:=by rw[mz.out,hkk];rfl
   have NY:((wk (s.take (ah s)++[91]):Int)==7)=false:=by rw[mz.out,hkk];rfl
   have CG:((wk (s.take (ah s)++[91]):Int)==5)=false:=by rw[mz.out,hkk];rfl
   have oq:((wk (s.take (ah s)++[91]):Int)==6)=true:=by rw[mz.out,hkk];rfl
   clear h0 hp hb hnone hk hkk;have h1:=St.start ht he hs;have a1:=h1.env.r;go_enter Tryz.func234,Tryz.ntmps234;go_wp2_with fail;generalize w.alloc (.cells #[.int .u8 0,.string ⟨#[]⟩,.slice none 0 0] 282)=W1 at *;refine(bM s [63,116] rb _ h1.rest.cell hpre).mono ?_;rintro e w1 ⟨rfl,rfl⟩;go_wp2_with fail;refine(dh s rb _ hm h1.rest).mono ?_;rintro e w2 ⟨rfl,hr2,jP⟩;have h2:=h1.next jP hr2
   have b1:=h2.env.r;have b2:=h2.env.need;have b3:=λo=>(h2.alloc o).env.need
   go_wp2_with (first|(go_at_call 237;refine(iC _ _).mono ?_;rintro e w0 ⟨rfl,rfl⟩)|(go_at_call 235;refine(bM _ [91] rb _ h2.rest.cell qf).mono ?_;rintro e w0 ⟨rfl,rfl⟩)|(go_at_call 233;refine(dY _).mono ?_;rintro e w0 ⟨rfl,rfl⟩));exact⟨rfl,(HP.out _ _).2 ⟨rfl,(h2.alloc _).kept⟩⟩
theorem rK (s s2 : List UInt8) (CH : s.length ≤ 1000) (hp : dR s) (h0 : bU (s.take (ah s)) = 0) (hkk : aS (s.take (ah s)) = 0) (hn : isName (s.take (ah s)) = true) (hb : s.drop (ah s) = 91 :: s2) (ih : ei s2) : ei s := by
 have hm:s.length≤maxLen:=by unfold maxLen;omega
 intro R Nd X rb w ht he hs
 have hE:=je hp h0 (.inr ⟨hkk,hn⟩) hb
 have hpre:=dy hp
 have HK:=zh (jq s)
 have mz:=zh (fD (s.take (ah s)))
 have hk0:((wk (s.take (ah s)):Int) != 0)=false:=by rw[HK.out,h0];rfl
 have DG:=eE s
 have Gm:(s.take (ah s)).length≤maxLen:=by simp;omega
 have hk1:((wk (s.take (ah s)++[91]):Int)==0)=true:=by rw[mz.out,hkk];rfl
 have kV:(if aS (s.take (ah s))=4 then 4 else 7)=7:=by rw[hkk];rfl
 rw[kV] at hE
 have HB:=zh hb
 have HE:=zh hE
 clear hE
 clear h0 hp hkk kV
 have h1:=St.start ht he hs
 have a1:=h1.env.r
 go_enter Tryz.func234,Tryz.ntmps234
 go_wp2_with fail
 generalize w.alloc (.cells #[.int .u8 0,.string ⟨#[]⟩,.slice none 0 0] 282)=W1 at *
 refine(bM s [63,116] rb _ h1.rest.cell hpre).mono ?_
 rintro e w1 ⟨rfl,rfl⟩
 go_wp2_with fail
 refine(dh s rb _ hm h1.rest).mono ?_
 rintro e w2 ⟨rfl,hr2,jP⟩
 have h2:=h1.next jP hr2
 have b1:=h2.env.r
 have b2:=h2.env.need
 rw[hb] at h2
 go_wp2_with (first|(go_at_call 237;refine(iC _ _).mono ?_;rintro e w0 ⟨rfl,rfl⟩)|(go_at_call 235;refine(cT [91] s2 rb _ h2.rest).mono ?_;rintro e w3 ⟨rfl,hr3,vW⟩;have h3:=h2.next vW hr3;have b3:=h3.env.need))
 go_region_held3 (λW=>W.cell? ⟨Nd,0,none⟩=some (.func (.func 233) #[] #[])) (first|exact h3.drew.env.need|exact(h3.drew.quiet hb4).env.need)
  (first |(go_at_call 59;refine(bp _ _ h3.drew.tab Gm).mono ?_;rintro e w4 ⟨rfl,hb4⟩)|(go_at_call 233;refine(cZ _).mono ?_;rintro e w0 ⟨rfl,rfl⟩))
 have h4:=h3.drew.quiet hb4
 have b4:=λo=>(h4.alloc o).env.need
 have b5:=λo=>(h4.alloc o).env.next
 go_wp2_with (go_at_call 233;refine(cZ _).mono ?_;rintro e w0 ⟨rfl,rfl⟩)
 have hx:=heap_alloc_new w4 (.cells #[.int .u8 7,.string ⟨(s.take (ah s)).toArray⟩,.slice none 0 0] 282)
 have h5:=h4.alloc (.cells #[.int .u8 7,.string ⟨(s.take (ah s)).toArray⟩,.slice none 0 0] 282)
 have fc:=h4.size
 have lQ:w4.heap.size≠rb:=by have:=h4.lt;omega
 generalize rC:w4.alloc (.cells #[.int .u8 7,.string ⟨(s.take (ah s)).toArray⟩,.slice none 0 0] 282)=W5 at *
 have eV:w4.heap.size<W5.heap.size:=(Array.getElem?_eq_some_iff.1 hx).1
 clear rC
 rcases hq:aI s2 with _|⟨t,r⟩
 · have hnone:aI s=none:=by rw[HE.out,hq]
   have ih5:=ih R Nd X rb W5 h5.tab h5.env h5.rest;refine ih5.mono ?_;intro e w6 hpost;unfold aD at hpost;rw[hq] at hpost;obtain⟨rfl,oq⟩:=hpost;exact⟨rfl,by unfold aD;rw[hnone];exact⟨rfl,h5.kept.trans oq⟩⟩
 · have ih5 := ih R Nd X rb W5 h5.tab h5.env h5.rest
   have HQ:=zh hq;refine ih5.mono ?_;intro e w6 hpost;unfold aD at hpost;rw[hq] at hpost;obtain⟨⟨v,rfl,hv⟩,KE,oq⟩:=hpost;clear hq ih5 ih;have h6:=h5.next oq KE
   have Gn:=oq.heap hx lQ;have d2:=λo=>(af ((Kept.alloc rb w6 o).heap Gn lQ) 2).trans rfl
   have Oq:=λo=>au ((Kept.alloc rb w6 o).heap Gn lQ) 2
   go_wp2_with fail;have hG:=heap_alloc_new w6 (.cells #[.string ⟨#[]⟩,.int .u8 t.k,.string ⟨t.n.toArray⟩,v] 321);have OY:w6.heap.size<(w6.alloc (.cells #[.string ⟨#[]⟩,.int .u8 t.k,.string ⟨t.n.toArray⟩,v] 321)).heap.size:=by simp
   have Fx:=hv.below (B:=w6.heap.size) ((zb w6).alloc zr (.cells #[.string ⟨#[]⟩,.int .u8 t.k,.string ⟨t.n.toArray⟩,v] 321)) zr;have Bq:=(Kept.alloc rb w6 (.cells #[.string ⟨#[]⟩,.int .u8 t.k,.string ⟨t.n.toArray⟩,v] 321)).heap Gn lQ;have h7:=(h6.alloc (.cells #[.string ⟨#[]⟩,.int .u8 t.k,.string ⟨t.n.toArray⟩,v] 321)).set (B:=w4.heap.size) fc 2 (.slice (some ⟨w6.heap.size,0,none⟩) 1 1);have D8:=oq.size;generalize PA:w6.alloc (.cells #[.string ⟨#[]⟩,.int .u8 t.k,.string ⟨t.n.toArray⟩,v] 321)=W7 at *;clear PA;have Ij:=cC Bq 2 (.slice (some ⟨w6.heap.size,0,none⟩) 1 1);have OV:(W7.setCell ⟨w4.heap.size,2,none⟩ (.slice (some ⟨w6.heap.size,0,none⟩) 1 1)).heap[w6.heap.size]? =_:=(Below.heap_setCell _ _ _ _ (by simp;omega)).trans hG;have Qy:ff (W7.setCell ⟨w4.heap.size,2,none⟩ (.slice (some ⟨w6.heap.size,0,none⟩) 1 1)) (λb=>W5.heap.size≤b) t.sub v:=Fx.kept λb hb _=>Below.heap_setCell _ _ _ _ (by simp;omega)
   simp only[List.setIfInBounds_toArray,List.set_cons_zero,List.set_cons_succ] at Ij;generalize W7.setCell ⟨w4.heap.size,2,none⟩ (.slice (some ⟨w6.heap.size,0,none⟩) 1 1)=W8 at *;clear Bq hG Fx Gn hx d2 Oq b3 b5 b4
   by_cases hr:∃r',r=93::r'
   · obtain⟨r',rfl⟩:=hr
     have HP:Hid (aI s=some (⟨7,s.take (ah s),.one t⟩,r')):=by show _=_;rw[HE.out,HQ.out];rfl
     have g1:=h7.drew.env.need
     go_region_held3 (λW=>W.cell? ⟨Nd,0,none⟩=some (.func (.func 233) #[] #[])∧W.cell? ⟨R,0,none⟩=some (.pointer (some ⟨rb,0,none⟩))) (first|exact⟨h7.drew.env.need,h7.drew.env.r⟩|exact⟨h9.env.need,h9.env.r⟩)
      (first |(go_at_call 235;refine(cT [93] r' rb _ h7.drew.rest).mono ?_;rintro e w9 ⟨rfl,yA,kV⟩;have h9:=h7.drew.next kV yA)|(go_at_call 233;refine(cZ _).mono ?_;rintro e w0 ⟨rfl,rfl⟩))
     have h9:=h7.drew.next kV yA
     have Ee:=kV.heap (w:=W8.drew) Ij lQ;have OW:=kV.heap (w:=W8.drew) OV (by have:=h7.lt;omega);have Ii:ff w9 (λb=>W5.heap.size≤b) t.sub v:=(Qy.kept (w:=W8) (w':=W8.drew) (λ_ _ _=>rfl)).kept (w:=W8.drew) (w':=w9) λb hb hlt=>kV.block b hlt (by have:=h7.lt;intro e;injection e with e;omega)
     have x0:=(af Ee 0).trans rfl;have x1:=(af Ee 1).trans rfl;have x2:=(af Ee 2).trans rfl;obtain⟨⟨c0,c1,c2⟩,f0,f1,f2⟩:=h9.rN;go_wp2_with fail;refine bodyPost_ret (v:=.agg #[.int .u8 7,str (s.take (ah s)),.slice (some ⟨w6.heap.size,0,none⟩) 1 1]) (by simp[results,Tryz.results234,go_sem,c0,c1,c2]) rfl ?_;unfold aD;rw[HP.out];obtain⟨q1,q2⟩:=h9.done (.int .u8 7) (str (s.take (ah s))) (.slice (some ⟨w6.heap.size,0,none⟩) 1 1);refine⟨⟨_,rfl,?_⟩,q1,q2⟩;refine ff.GU ⟨_,uI (n:=1) OW rfl (by decide),?_,kL.single (Ii.mono λb hb _=>?_)⟩ (D:=λb=>w.heap.size<b) ?_ _ _ _ |>.mono (λb hb _=>Nat.le_of_lt hb)
     · intro b hb
       have hb:some w6.heap.size=some b:=hb;injection hb with hb;show w.heap.size<b;omega
     · have hb:W5.heap.size≤b:=hb
       show w.heap.size<b;omega
     · intro b hb;exact Nat.ne_of_gt hb
   · have DZ:=dU (s:=r) (c:=93) (λr' e=>hr ⟨r',e⟩)
     have hnone:aI s=none:=by
      rw[HE.out,HQ.out];rcases r with _|⟨c,r⟩
      · rfl
      · split
        · rename_i h;simp only[Option.some.injEq,Prod.mk.injEq,List.cons.injEq] at h;exact absurd ⟨_,by rw[h.2.1]⟩ hr
        · rfl
     have HP:Hid (∀e w',aD w rb s e w'↔(e=.panicked cS∧Kept rb w w')):=by
      intro e w';unfold aD;rw[hnone]
     clear hnone hr
     go_region_held2 (λW=>W.cell? ⟨Nd,0,none⟩=some (.func (.func 233) #[] #[])∧W.cell? ⟨R,0,none⟩=some (.pointer (some ⟨rb,0,none⟩))) (first|exact⟨h7.drew.env.need,h7.drew.env.r⟩|exact hfalse.out.elim)
      (first |(go_at_call 235;refine(bM r [93] rb _ h7.drew.rest.cell DZ).mono ?_;rintro e w9 ⟨rfl,rfl⟩)|(go_at_call 233;refine(dY _).mono ?_;rintro e w0 ⟨rfl,rfl⟩;refine leave (by assumption) (show _∧_ from⟨rfl,(HP.out _ _).2 ⟨rfl,h7.drew.kept⟩⟩) {tmps:= #[],defers:=[] } W8.drew (λhfalse=>?_)))
     all_goals exact hfalse.out.elim
theorem uF (s s2 : List UInt8) (CH : s.length ≤ 1000) (hp : dR s) (h0 : bU (s.take (ah s)) = 0) (hkk : aS (s.take (ah s)) = 4) (hb : s.drop (ah s) = 91 :: s2) (ih : ei s2) : ei s := by
 have hm:s.length≤maxLen:=by unfold maxLen;omega
 intro R Nd X rb w ht he hs
 have hE:=je hp h0 (.inl hkk) hb
 have hpre:=dy hp
 have HK:=zh (jq s)
 have mz:=zh (fD (s.take (ah s)))
 have hk0:((wk (s.take (ah s)):Int) != 0)=false:=by rw[HK.out,h0];rfl
 have DG:=eE s
 have Gm:(s.take (ah s)).length≤maxLen:=by simp;omega
 have hk1:((wk (s.take (ah s)++[91]):Int)==0)=false:=by rw[mz.out,hkk];rfl
 have NY:((wk (s.take (ah s)++[91]):Int)==7)=false:=by rw[mz.out,hkk];rfl
 have CG:((wk (s.take (ah s)++[91]):Int)==5)=false:=by rw[mz.out,hkk];rfl
 have oq:((wk (s.take (ah s)++[91]):Int)==6)=false:=by rw[mz.out,hkk];rfl
 have kV:(if aS (s.take (ah s))=4 then 4 else 7)=wk (s.take (ah s)++[91]):=by rw[mz.out,hkk];rfl
 rw[kV] at hE
 have HB:=zh hb
 have HE:=zh hE
 clear hE
 clear h0 hp hkk kV
 have h1:=St.start ht he hs
 have a1:=h1.env.r
 go_enter Tryz.func234,Tryz.ntmps234
 go_wp2_with fail
 generalize w.alloc (.cells #[.int .u8 0,.string ⟨#[]⟩,.slice none 0 0] 282)=W1 at *
 refine(bM s [63,116] rb _ h1.rest.cell hpre).mono ?_
 rintro e w1 ⟨rfl,rfl⟩
 go_wp2_with fail
 refine(dh s rb _ hm h1.rest).mono ?_
 rintro e w2 ⟨rfl,hr2,jP⟩
 have h2:=h1.next jP hr2
 have b1:=h2.env.r
 have b2:=h2.env.need
 rw[hb] at h2
 go_wp2_with (first|(go_at_call 237;refine(iC _ _).mono ?_;rintro e w0 ⟨rfl,rfl⟩)|(go_at_call 235;refine(cT [91] s2 rb _ h2.rest).mono ?_;rintro e w3 ⟨rfl,hr3,vW⟩;have h3:=h2.next vW hr3;have b3:=λo=>(h3.alloc o).env.need;have b5:=λo=>(h3.alloc o).env.next)|(go_at_call 233;refine(cZ _).mono ?_;rintro e w0 ⟨rfl,rfl⟩))
 have h4:=h3
 have hx:=heap_alloc_new w3 (.cells #[.int .u8 (wk (s.take (ah s)++[91])),.string ⟨(s.take (ah s)).toArray⟩,.slice none 0 0] 282)
 have h5:=h4.alloc (.cells #[.int .u8 (wk (s.take (ah s)++[91])),.string ⟨(s.take (ah s)).toArray⟩,.slice none 0 0] 282)
 have fc:=h4.size
 have lQ:w3.heap.size≠rb:=by have:=h4.lt;omega
 generalize rC:w3.alloc (.cells #[.int .u8 (wk (s.take (ah s)++[91])),.string ⟨(s.take (ah s)).toArray⟩,.slice none 0 0] 282)=W5 at *
 have eV:w3.heap.size<W5.heap.size:=(Array.getElem?_eq_some_iff.1 hx).1
 clear rC
 rcases hq:aI s2 with _|⟨t,r⟩
 · have hnone:aI s=none:=by rw[HE.out,hq]
   have ih5:=ih R Nd X rb W5 h5.tab h5.env h5.rest;refine ih5.mono ?_;intro e w6 hpost;unfold aD at hpost;rw[hq] at hpost;obtain⟨rfl,oq⟩:=hpost;exact⟨rfl,by unfold aD;rw[hnone];exact⟨rfl,h5.kept.trans oq⟩⟩
 · have ih5 := ih R Nd X rb W5 h5.tab h5.env h5.rest
   have HQ:=zh hq;refine ih5.mono ?_;intro e w6 hpost;unfold aD at hpost;rw[hq] at hpost;obtain⟨⟨v,rfl,hv⟩,KE,oq⟩:=hpost;clear hq ih5 ih;have h6:=h5.next oq KE
   have Gn:=oq.heap hx lQ;have d2:=λo=>(af ((Kept.alloc rb w6 o).heap Gn lQ) 2).trans rfl
   have Oq:=λo=>au ((Kept.alloc rb w6 o).heap Gn lQ) 2
   go_wp2_with fail;have hG:=heap_alloc_new w6 (.cells #[.string ⟨#[]⟩,.int .u8 t.k,.string ⟨t.n.toArray⟩,v] 321);have OY:w6.heap.size<(w6.alloc (.cells #[.string ⟨#[]⟩,.int .u8 t.k,.string ⟨t.n.toArray⟩,v] 321)).heap.size:=by simp
   have Fx:=hv.below (B:=w6.heap.size) ((zb w6).alloc zr (.cells #[.string ⟨#[]⟩,.int .u8 t.k,.string ⟨t.n.toArray⟩,v] 321)) zr;have Bq:=(Kept.alloc rb w6 (.cells #[.string ⟨#[]⟩,.int .u8 t.k,.string ⟨t.n.toArray⟩,v] 321)).heap Gn lQ;have h7:=(h6.alloc (.cells #[.string ⟨#[]⟩,.int .u8 t.k,.string ⟨t.n.toArray⟩,v] 321)).set (B:=w3.heap.size) fc 2 (.slice (some ⟨w6.heap.size,0,none⟩) 1 1);have D8:=oq.size;generalize PA:w6.alloc (.cells #[.string ⟨#[]⟩,.int .u8 t.k,.string ⟨t.n.toArray⟩,v] 321)=W7 at *;clear PA;have Ij:=cC Bq 2 (.slice (some ⟨w6.heap.size,0,none⟩) 1 1);have OV:(W7.setCell ⟨w3.heap.size,2,none⟩ (.slice (some ⟨w6.heap.size,0,none⟩) 1 1)).heap[w6.heap.size]? =_:=(Below.heap_setCell _ _ _ _ (by simp;omega)).trans hG;have Qy:ff (W7.setCell ⟨w3.heap.size,2,none⟩ (.slice (some ⟨w6.heap.size,0,none⟩) 1 1)) (λb=>W5.heap.size≤b) t.sub v:=Fx.kept λb hb _=>Below.heap_setCell _ _ _ _ (by simp;omega)
   simp only[List.setIfInBounds_toArray,List.set_cons_zero,List.set_cons_succ] at Ij;generalize W7.setCell ⟨w3.heap.size,2,none⟩ (.slice (some ⟨w6.heap.size,0,none⟩) 1 1)=W8 at *;clear Bq hG Fx Gn hx d2 Oq b3 b5
   by_cases hr:∃r',r=93::r'
   · obtain⟨r',rfl⟩:=hr
     have HP:Hid (aI s=some (⟨(wk (s.take (ah s)++[91])),s.take (ah s),.one t⟩,r')):=by show _=_;rw[HE.out,HQ.out];rfl
     have g1:=h7.drew.env.need
     go_region_held3 (λW=>W.cell? ⟨Nd,0,none⟩=some (.func (.func 233) #[] #[])∧W.cell? ⟨R,0,none⟩=some (.pointer (some ⟨rb,0,none⟩))) (first|exact⟨h7.drew.env.need,h7.drew.env.r⟩|exact⟨h9.env.need,h9.env.r⟩)
      (first |(go_at_call 235;refine(cT [93] r' rb _ h7.drew.rest).mono ?_;rintro e w9 ⟨rfl,yA,kV⟩;have h9:=h7.drew.next kV yA)|(go_at_call 233;refine(cZ _).mono ?_;rintro e w0 ⟨rfl,rfl⟩))
     have h9:=h7.drew.next kV yA
     have Ee:=kV.heap (w:=W8.drew) Ij lQ;have OW:=kV.heap (w:=W8.drew) OV (by have:=h7.lt;omega);have Ii:ff w9 (λb=>W5.heap.size≤b) t.sub v:=(Qy.kept (w:=W8) (w':=W8.drew) (λ_ _ _=>rfl)).kept (w:=W8.drew) (w':=w9) λb hb hlt=>kV.block b hlt (by have:=h7.lt;intro e;injection e with e;omega)
     have x0:=(af Ee 0).trans rfl;have x1:=(af Ee 1).trans rfl;have x2:=(af Ee 2).trans rfl;obtain⟨⟨c0,c1,c2⟩,f0,f1,f2⟩:=h9.rN;go_wp2_with fail;refine bodyPost_ret (v:=.agg #[.int .u8 (wk (s.take (ah s)++[91])),str (s.take (ah s)),.slice (some ⟨w6.heap.size,0,none⟩) 1 1]) (by simp[results,Tryz.results234,go_sem,c0,c1,c2]) rfl ?_;unfold aD;rw[HP.out];obtain⟨q1,q2⟩:=h9.done (.int .u8 (wk (s.take (ah s)++[91]))) (str (s.take (ah s))) (.slice (some ⟨w6.heap.size,0,none⟩) 1 1);refine⟨⟨_,rfl,?_⟩,q1,q2⟩;refine ff.GU ⟨_,uI (n:=1) OW rfl (by decide),?_,kL.single (Ii.mono λb hb _=>?_)⟩ (D:=λb=>w.heap.size<b) ?_ _ _ _ |>.mono (λb hb _=>Nat.le_of_lt hb)
     · intro b hb
       have hb:some w6.heap.size=some b:=hb;injection hb with hb;show w.heap.size<b;omega
     · have hb:W5.heap.size≤b:=hb
       show w.heap.size<b;omega
     · intro b hb;exact Nat.ne_of_gt hb
   · have DZ:=dU (s:=r) (c:=93) (λr' e=>hr ⟨r',e⟩)
     have hnone:aI s=none:=by
      rw[HE.out,HQ.out];rcases r with _|⟨c,r⟩
      · rfl
      · split
        · rename_i h;simp only[Option.some.injEq,Prod.mk.injEq,List.cons.injEq] at h;exact absurd ⟨_,by rw[h.2.1]⟩ hr
        · rfl
     have HP:Hid (∀e w',aD w rb s e w'↔(e=.panicked cS∧Kept rb w w')):=by
      intro e w';unfold aD;rw[hnone]
     clear hnone hr
     go_region_held2 (λW=>W.cell? ⟨Nd,0,none⟩=some (.func (.func 233) #[] #[])∧W.cell? ⟨R,0,none⟩=some (.pointer (some ⟨rb,0,none⟩))) (first|exact⟨h7.drew.env.need,h7.drew.env.r⟩|exact hfalse.out.elim)
      (first |(go_at_call 235;refine(bM r [93] rb _ h7.drew.rest.cell DZ).mono ?_;rintro e w9 ⟨rfl,rfl⟩)|(go_at_call 233;refine(dY _).mono ?_;rintro e w0 ⟨rfl,rfl⟩;refine leave (by assumption) (show _∧_ from⟨rfl,(HP.out _ _).2 ⟨rfl,h7.drew.kept⟩⟩) {tmps:= #[],defers:=[] } W8.drew (λhfalse=>?_)))
     all_goals exact hfalse.out.elim
end Go.Proofs.YtemjidmkolfgnaaGreatDoor
