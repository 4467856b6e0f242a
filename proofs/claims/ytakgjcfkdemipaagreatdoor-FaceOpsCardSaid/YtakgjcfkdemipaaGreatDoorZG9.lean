/-
  Lemmas for the statement: the closure with which the program reads a type (kind.read$3): records and oneofs. The closure with which the program reads a type (kind.read$3): every text of at most 1000 bytes. Contract: kind.read. No condition.
-/
import Derived.Test.YtakgjcfkdemipaaGreatDoorZGn
import Derived.Test.YtakgjcfkdemipaaGreatDoorZG7
set_option maxHeartbeats 12800000
namespace Go.Proofs.YtakgjcfkdemipaaGreatDoor
open Go.RowKit
set_option maxRecDepth 4000 in
theorem A9 (s s2 : List UInt8) (Kf : s.length ≤ 1000) (hp : eA s) (h0 : di (s.take (aj s)) = 0) (hkk : bD (s.take (aj s)) = 5 ∨ bD (s.take (aj s)) = 6) (hb : s.drop (aj s) = 91 :: s2) (ih : ∀ u : List UInt8, u.length < s.length → gT u) : gT s := by
 have hm:s.length≤maxLen:=by unfold maxLen;omega
 intro R Nd X rb w ht he hs
 have hE:=pX hp h0 hkk hb
 have hpre:=gp hp
 have HK:=Lib.hid (mA s)
 have ql:=Lib.hid (ji (s.take (aj s)))
 have hk0:((wk (s.take (aj s)):Int) != 0)=false:=by rw[HK.out,h0];rfl
 have uf:=cL s
 have oO:(s.take (aj s)).length≤maxLen:=by simp;omega
 have hk1:((wk (s.take (aj s)++[91]):Int)==0)=false:=by rw[ql.out];rcases hkk with h|h<;>rw[h]<;>rfl
 have kS:((wk (s.take (aj s)++[91]):Int)==7)=false:=by rw[ql.out];rcases hkk with h|h<;>rw[h]<;>rfl
 have UD:(((wk (s.take (aj s)++[91]):Int)==5)=true∧((wk (s.take (aj s)++[91]):Int)==6)=false)∨(((wk (s.take (aj s)++[91]):Int)==5)=false∧((wk (s.take (aj s)++[91]):Int)==6)=true):=by rw[ql.out];rcases hkk with h|h<;>rw[h]<;>simp
 have oL:bD (s.take (aj s))=wk (s.take (aj s)++[91]):=ql.out.symm
 rw[oL] at hE
 have HB:=Lib.hid hb
 have HE:=Lib.hid hE
 clear hE
 clear h0 hp hkk oL
 rcases UD with⟨Ny,oK⟩|⟨Ny,oK⟩
 all_goals
  have Wu:s2.length<s.length:=by
   have:=congrArg List.length hb;simp at this;omega
  have h1:=St.start ht he hs;have a1:=h1.env.r;go_enter Tryz.func252,Tryz.ntmps252;go_wp2_with fail;generalize w.alloc (.cells #[.int .u8 0,.string ⟨#[]⟩,.slice none 0 0] 174)=W1 at *;refine(er s [63,116] rb _ h1.rest.cell hpre).mono ?_;rintro e w1 ⟨rfl,rfl⟩;go_wp2_with fail;refine(fU s rb _ hm h1.rest).mono ?_;rintro e w2 ⟨rfl,hr2,nA⟩;have h2:=h1.next nA hr2
  have b1:=h2.env.r;have b2:=h2.env.need;rw[hb] at h2;go_wp2_with (first|(go_at_call 255;refine(kR _ _).mono ?_;rintro e w0 ⟨rfl,rfl⟩)|(go_at_call 253;refine(fC [91] s2 rb _ h2.rest).mono ?_;rintro e w3 ⟨rfl,hr3,Ar⟩;have h3:=h2.next Ar hr3;have b3:=λo=>(h3.alloc o).env.need;have b4:=λo=>(h3.alloc o).env.r;have b5:=λo=>(h3.alloc o).env.next)|(go_at_call 251;refine(fH _).mono ?_;rintro e w0 ⟨rfl,rfl⟩));have hx:=heap_alloc_new w3 (.cells #[.int .u8 (wk (s.take (aj s)++[91])),.string ⟨(s.take (aj s)).toArray⟩,.slice none 0 0] 174);have h5:=h3.alloc (.cells #[.int .u8 (wk (s.take (aj s)++[91])),.string ⟨(s.take (aj s)).toArray⟩,.slice none 0 0] 174);have bJ:=h3.size;have bW:w3.heap.size≠rb:=by have:=h3.lt;omega
  generalize Mj:w3.alloc (.cells #[.int .u8 (wk (s.take (aj s)++[91])),.string ⟨(s.take (aj s)).toArray⟩,.slice none 0 0] 174)=W5 at *;have L0:Lp w R Nd X rb w3.heap.size (wk (s.take (aj s)++[91])) (s.take (aj s)) s2 W5 .nil s2:=
   Lp.start h5 bJ hx
  clear hx h5 b3 b4 b5 Mj;generalize w3.heap.size=B1 at *;clear h3 hr3 Ar
  go_loopg [9] s2.length (λn _ wr=>∃dn u,n=u.length∧Lp w R Nd X rb B1 (wk (s.take (aj s)++[91])) (s.take (aj s)) s2 wr dn u)
  case atStart=>exact⟨_,_,rfl,L0⟩
  case round =>
   clear L0;obtain⟨dn,u,rfl,L⟩:=hrel;obtain⟨st,lo,len,⟨v,hrow,hv⟩,eq⟩:=id L;obtain⟨p,c,rfl,hsh⟩:=hv.Pt.shape;have d1:=st.env.r;have wq:u.length≤maxLen:=by omega
   have hdl:dn.len≤1000:=by omega
   go_upto_region 21 with(go_at_call 254;refine(fU u rb _ wq st.rest).mono ?_;rintro e w6 ⟨rfl,O0,oK⟩);have h6:=st.next oK O0
   have hX:=heap_alloc_new w6 (.cells #[.string ⟨(u.take (aj u)).toArray⟩,.int .u8 0,.string ⟨#[]⟩,.slice none 0 0] 192);have h7:=h6.alloc (.cells #[.string ⟨(u.take (aj u)).toArray⟩,.int .u8 0,.string ⟨#[]⟩,.slice none 0 0] 192);have Ni:w.heap.size<w6.heap.size:=h6.size;have Nj:w6.heap.size≠rb:=by have:=h6.lt;omega
   have tX:B1≠rb:=by have:=h6.lt;omega
   have Tz:B1<w6.heap.size:=by have:=(Array.getElem?_eq_some_iff.1 (oK.heap hrow tX)).1;omega
   have k7:=oK.trans (Kept.alloc rb w6 (.cells #[.string ⟨(u.take (aj u)).toArray⟩,.int .u8 0,.string ⟨#[]⟩,.slice none 0 0] 192));have qA:=k7.heap hrow tX;have Kg:=(hv.mono (D':=λb=>B1<b∧b≠w6.heap.size) λb hb hlt=>⟨hb,by have:=oK.size;omega⟩).kept (w':=w6.alloc (.cells #[.string ⟨(u.take (aj u)).toArray⟩,.int .u8 0,.string ⟨#[]⟩,.slice none 0 0] 192)) λb hb hlt=>k7.block b hlt (λe=>by have hb:B1<b:=hb.1;have:=st.lt;injection e with e;omega)
   generalize w6.alloc (.cells #[.string ⟨(u.take (aj u)).toArray⟩,.int .u8 0,.string ⟨#[]⟩,.slice none 0 0] 192)=W7 at *;generalize w6.heap.size=Bx at *;have Rh:∀b,(Value.slice p dn.len c).ownBlock=some b→b<W7.heap.size:=by
    obtain⟨_,a1,_,_⟩:=Kg;exact λb e=>aV a1 e
   obtain⟨p',c',hpc,hsh⟩:=Kg.Pt.shape;injection hpc with e1 _ e3;subst e1 e3;have hwn:(u.take (aj u)).length≤maxLen:=by simp;omega
   clear k7 hv hrow d1 O0 oK h6;have q1:=h7.drew.env.need;have q2:=h7.drew.env.r;have q3:=(ak (w:=W7.drew) hX 0).trans rfl;have q4:=(ak (w:=W7.drew) qA 2).trans rfl;have S7:∀W',Kept rb W7.drew W'→(λW:World=>W.cell? ⟨Nd,0,none⟩=some (.func (.func 251) #[] #[])∧W.cell? ⟨R,0,none⟩=some (.pointer (some ⟨rb,0,none⟩))∧W.cell? ⟨Bx,0,none⟩=some (str (u.take (aj u)))∧W.cell? ⟨B1,2,none⟩=some (.slice p dn.len c)) W':=λW' k=>⟨k.cell q1 h7.tP.nn,k.cell q2 h7.tP.nr,k.cell q3 Nj,k.cell q4 tX⟩
   clear q1 q2 q3 q4
   by_cases hn:isName (u.take (aj u))=true
   case neg=>
    have hn:isName (u.take (aj u))=false:=by simpa using hn
    have hnone:aY s=none:=by rw[HE.out,L.qF (ye λe=>by rw[e.1] at hn;exact Bool.noConfusion hn)]
    have HP:Hid (∀e w',bl w rb s e w'↔(e=.panicked fA∧Kept rb w w')):=by
     intro e w';unfold bl;rw[hnone]
    clear hnone L eq;refine wp_region_held_drew (S:=(λW:World=>W.cell? ⟨Nd,0,none⟩=some (.func (.func 251) #[] #[])∧W.cell? ⟨R,0,none⟩=some (.pointer (some ⟨rb,0,none⟩))∧W.cell? ⟨Bx,0,none⟩=some (str (u.take (aj u)))∧W.cell? ⟨B1,2,none⟩=some (.slice p dn.len c))) (by kernel_rfl) ?_ (λef=>?_)
    · exact S7 _ (Kept.refl _ _)
    refine aO 0 66 (v:=?_) ?_ ?_;rotate_left
    · intro w aP
      try dsimp only at aP
      go_simp;try with_reducible rfl
    try simp only[pz,pw]
    refine aO 1 67 (v:=?_) ?_ ?_;rotate_left
    · intro w aP
      try dsimp only at aP
      go_simp;try with_reducible rfl
    try simp only[pz,pw]
    refine aO 2 68 (v:=?_) ?_ ?_;rotate_left
    · intro w aP
      try dsimp only at aP
      go_simp;try with_reducible rfl
    try simp only[pz,pw]
    refine wpAnyH_ready (rs:=[3]) (by kernel_rfl) (by simp) ?_;refine AllReadyH.cons rfl (λK hK=>?_) AllReadyH.nil;go_simp;go_wp2_with (go_at_call 88;refine(dM _ _ h7.drew.tab hwn).mono ?_;rw[hn];rintro e w8 ⟨rfl,xh⟩;have k8:=Kept.fQ (b:=rb) xh (nl _));refine hK.out _ _ ?_ (λef=>?_)
    · exact S7 _ k8
    clear hK K;try simp only[pz,pw]
    refine aO 4 70 (v:=?_) ?_ ?_;rotate_left
    · intro w aP
      try dsimp only at aP
      go_simp;try with_reducible rfl
    try simp only[pz,pw]
    refine cm 5 71 ?_;try simp only[pz,pw]
    refine cm 6 72 ?_;try simp only[pz,pw]
    refine cm 7 73 ?_;try simp only[pz,pw]
    refine cm 8 74 ?_;try simp only[pz,pw]
    refine aO 9 75 (v:=?_) ?_ ?_;rotate_left
    · intro w aP
      try dsimp only at aP
      go_simp;try with_reducible rfl
    try simp only[pz,pw]
    refine aO 10 76 (v:=?_) ?_ ?_;rotate_left
    · intro w aP
      try dsimp only at aP
      go_simp;try with_reducible rfl
    try simp only[pz,pw]
    refine cm 11 77 ?_;try simp only[pz,pw]
    refine cm 12 78 ?_;try simp only[pz,pw]
    refine cm 13 79 ?_;try simp only[pz,pw]
    refine cm 14 80 ?_;try simp only[pz,pw]
    refine cm 15 81 ?_;try simp only[pz,pw]
    refine cm 16 82 ?_;try simp only[pz,pw]
    refine cm 17 83 ?_;try simp only[pz,pw]
    refine cm 18 84 ?_;try simp only[pz,pw]
    refine cm 19 85 ?_;try simp only[pz,pw]
    refine cm 20 86 ?_;try simp only[pz,pw]
    refine cm 21 87 ?_;try simp only[pz,pw]
    refine cm 22 88 ?_;try simp only[pz,pw]
    refine cm 23 89 ?_;try simp only[pz,pw]
    refine cm 24 90 ?_;try simp only[pz,pw]
    refine cm 25 91 ?_;try simp only[pz,pw]
    refine cm 26 92 ?_;try simp only[pz,pw]
    refine cm 27 93 ?_;try simp only[pz,pw]
    refine cm 28 94 ?_;try simp only[pz,pw]
    refine aO 29 95 (v:=?_) ?_ ?_;rotate_left
    · intro w aP
      try dsimp only at aP
      go_simp;try with_reducible rfl
    try simp only[pz,pw]
    refine wpAnyH_ready (rs:=[30]) (by kernel_rfl) (by simp) ?_;refine AllReadyH.cons rfl (λK hK=>?_) AllReadyH.nil;go_simp;go_wp2_with (go_at_call 251;refine(gN _).mono ?_;rintro e w0 ⟨rfl,rfl⟩;exact⟨rfl,(HP.out _ _).2 ⟨rfl,h7.drew.kept.trans k8⟩⟩)
   case pos =>
    by_cases hc:∃u2,u.drop (aj u)=58::u2
    case neg=>
     have Rm:=gJ (λu2 e=>hc ⟨u2,e⟩);have hnone:aY s=none:=by rw[HE.out,L.qF (l6 λu2 e=>hc ⟨u2,e⟩)]
     have HP:Hid (∀e w',bl w rb s e w'↔(e=.panicked fA∧Kept rb w w')):=by
      intro e w';unfold bl;rw[hnone]
     clear hnone L eq hc;refine wp_region_held_drew (S:=(λW:World=>W.cell? ⟨Nd,0,none⟩=some (.func (.func 251) #[] #[])∧W.cell? ⟨R,0,none⟩=some (.pointer (some ⟨rb,0,none⟩))∧W.cell? ⟨Bx,0,none⟩=some (str (u.take (aj u)))∧W.cell? ⟨B1,2,none⟩=some (.slice p dn.len c))) (by kernel_rfl) ?_ (λef=>?_)
     · exact S7 _ (Kept.refl _ _)
     refine aO 0 66 (v:=?_) ?_ ?_;rotate_left
     · intro w aP
       try dsimp only at aP
       go_simp;try with_reducible rfl
     try simp only[pz,pw]
     refine aO 1 67 (v:=?_) ?_ ?_;rotate_left
     · intro w aP
       try dsimp only at aP
       go_simp;try with_reducible rfl
     try simp only[pz,pw]
     refine aO 2 68 (v:=?_) ?_ ?_;rotate_left
     · intro w aP
       try dsimp only at aP
       go_simp;try with_reducible rfl
     try simp only[pz,pw]
     refine wpAnyH_ready (rs:=[3]) (by kernel_rfl) (by simp) ?_;refine AllReadyH.cons rfl (λK hK=>?_) AllReadyH.nil;go_simp;go_wp2_with (go_at_call 88;refine(dM _ _ h7.drew.tab hwn).mono ?_;rw[hn];rintro e w8 ⟨rfl,xh⟩;have k8:=Kept.fQ (b:=rb) xh (nl _));refine hK.out _ _ ?_ (λef=>?_)
     · exact S7 _ k8
     clear hK K;try simp only[pz,pw]
     refine aO 4 70 (v:=?_) ?_ ?_;rotate_left
     · intro w aP
       try dsimp only at aP
       go_simp;try with_reducible rfl
     try simp only[pz,pw]
     refine aO 5 71 (v:=?_) ?_ ?_;rotate_left
     · intro w aP
       try dsimp only at aP
       go_simp;try with_reducible rfl
     try simp only[pz,pw]
     refine aO 6 72 (v:=?_) ?_ ?_;rotate_left
     · intro w aP
       try dsimp only at aP
       go_simp;try with_reducible rfl
     try simp only[pz,pw]
     refine aO 7 73 (v:=?_) ?_ ?_;rotate_left
     · intro w aP
       try dsimp only at aP
       go_simp;try with_reducible rfl
     try simp only[pz,pw]
     refine wpAnyH_ready (rs:=[8]) (by kernel_rfl) (by simp) ?_;refine AllReadyH.cons rfl (λK hK=>?_) AllReadyH.nil;go_simp;go_wp2_with (go_at_call 253;refine(er _ [58] rb _ (h7.drew.rest.below xh (nl _)).cell Rm).mono ?_;rintro e w0 ⟨rfl,rfl⟩);refine hK.out _ _ ?_ (λef=>?_)
     · exact S7 _ k8
     clear hK K;try simp only[pz,pw]
     refine aO 9 75 (v:=?_) ?_ ?_;rotate_left
     · intro w aP
       try dsimp only at aP
       go_simp;try with_reducible rfl
     try simp only[pz,pw]
     refine aO 10 76 (v:=?_) ?_ ?_;rotate_left
     · intro w aP
       try dsimp only at aP
       go_simp;try with_reducible rfl
     try simp only[pz,pw]
     refine cm 11 77 ?_;try simp only[pz,pw]
     refine cm 12 78 ?_;try simp only[pz,pw]
     refine cm 13 79 ?_;try simp only[pz,pw]
     refine cm 14 80 ?_;try simp only[pz,pw]
     refine cm 15 81 ?_;try simp only[pz,pw]
     refine cm 16 82 ?_;try simp only[pz,pw]
     refine cm 17 83 ?_;try simp only[pz,pw]
     refine cm 18 84 ?_;try simp only[pz,pw]
     refine cm 19 85 ?_;try simp only[pz,pw]
     refine cm 20 86 ?_;try simp only[pz,pw]
     refine cm 21 87 ?_;try simp only[pz,pw]
     refine cm 22 88 ?_;try simp only[pz,pw]
     refine cm 23 89 ?_;try simp only[pz,pw]
     refine cm 24 90 ?_;try simp only[pz,pw]
     refine cm 25 91 ?_;try simp only[pz,pw]
     refine cm 26 92 ?_;try simp only[pz,pw]
     refine cm 27 93 ?_;try simp only[pz,pw]
     refine cm 28 94 ?_;try simp only[pz,pw]
     refine aO 29 95 (v:=?_) ?_ ?_;rotate_left
     · intro w aP
       try dsimp only at aP
       go_simp;try with_reducible rfl
     try simp only[pz,pw]
     refine wpAnyH_ready (rs:=[30]) (by kernel_rfl) (by simp) ?_;refine AllReadyH.cons rfl (λK hK=>?_) AllReadyH.nil;go_simp;go_wp2_with (go_at_call 251;refine(gN _).mono ?_;rintro e w0 ⟨rfl,rfl⟩;exact⟨rfl,(HP.out _ _).2 ⟨rfl,h7.drew.kept.trans k8⟩⟩)
    case pos =>
     obtain⟨u2,hc⟩:=hc;have mF:u2.length<u.length:=by
      have:=congrArg List.length hc;simp at this;omega
     rw[hc] at h7
     by_cases ho:dn.len=0∨Op.bytesLess dn.last (u.take (aj u))=true
     case neg=>
      have hnone:aY s=none:=by rw[HE.out,L.qF (ye λe=>ho e.2)]
      have hne:dn.len≠0:=λe=>ho (.inl e)
      have hlt:Op.bytesLess dn.last (u.take (aj u))=false:=by
       rcases GC:Op.bytesLess dn.last (u.take (aj u)) with _|_
       · rfl
       · exact absurd (.inr GC) ho
      obtain⟨g,rfl,Nt,hg2,hg3,hg4⟩:=hsh hne;have hg1:B1<g:=Nt.1;have UT:=h7.lt;have Kc:((dn.len:Int)==0)=false:=jK hne;have hwr:=yz hne hdl;have Ke:dn.len - 1<dn.len:=Nat.sub_lt (Nat.pos_of_ne_zero hne) Nat.one_pos;have Nu:g≠rb:=by omega
      have S8:∀W',Kept rb W7.drew W'→(λW:World=>W.cell? ⟨Nd,0,none⟩=some (.func (.func 251) #[] #[])∧W.cell? ⟨R,0,none⟩=some (.pointer (some ⟨rb,0,none⟩))∧W.cell? ⟨Bx,0,none⟩=some (str (u.take (aj u)))∧W.cell? ⟨B1,2,none⟩=some (.slice (some ⟨g,0,none⟩) dn.len c)∧W.cell? ⟨g,(dn.len - 1) * 4,none⟩=some (str dn.last)) W':=λW' k=>⟨(S7 W' k).1,(S7 W' k).2.1,(S7 W' k).2.2.1,(S7 W' k).2.2.2,k.cell (w:=W7.drew) hg4 Nu⟩
      have HP:Hid (∀e w',bl w rb s e w'↔(e=.panicked fA∧Kept rb w w')):=by
       intro e w';unfold bl;rw[hnone]
      clear hnone L eq ho hc S7 hsh;refine wp_region_held_drew (S:=(λW:World=>W.cell? ⟨Nd,0,none⟩=some (.func (.func 251) #[] #[])∧W.cell? ⟨R,0,none⟩=some (.pointer (some ⟨rb,0,none⟩))∧W.cell? ⟨Bx,0,none⟩=some (str (u.take (aj u)))∧W.cell? ⟨B1,2,none⟩=some (.slice (some ⟨g,0,none⟩) dn.len c)∧W.cell? ⟨g,(dn.len - 1) * 4,none⟩=some (str dn.last))) (by kernel_rfl) ?_ (λef=>?_)
      · exact S8 _ (Kept.refl _ _)
      refine aO 0 66 (v:=?_) ?_ ?_;rotate_left
      · intro w aP
        try dsimp only at aP
        go_simp;try with_reducible rfl
      try simp only[pz,pw]
      refine aO 1 67 (v:=?_) ?_ ?_;rotate_left
      · intro w aP
        try dsimp only at aP
        go_simp;try with_reducible rfl
      try simp only[pz,pw]
      refine aO 2 68 (v:=?_) ?_ ?_;rotate_left
      · intro w aP
        try dsimp only at aP
        go_simp;try with_reducible rfl
      try simp only[pz,pw]
      refine wpAnyH_ready (rs:=[3]) (by kernel_rfl) (by simp) ?_;refine AllReadyH.cons rfl (λK hK=>?_) AllReadyH.nil;go_simp;go_wp2_with (go_at_call 88;refine(dM _ _ h7.drew.tab hwn).mono ?_;rw[hn];rintro e w8 ⟨rfl,xh⟩;have k8:=Kept.fQ (b:=rb) xh (nl _));refine hK.out _ _ ?_ (λef=>?_)
      · exact S8 _ k8
      clear hK K;try simp only[pz,pw]
      refine aO 4 70 (v:=?_) ?_ ?_;rotate_left
      · intro w aP
        try dsimp only at aP
        go_simp;try with_reducible rfl
      try simp only[pz,pw]
      refine aO 5 71 (v:=?_) ?_ ?_;rotate_left
      · intro w aP
        try dsimp only at aP
        go_simp;try with_reducible rfl
      try simp only[pz,pw]
      refine aO 6 72 (v:=?_) ?_ ?_;rotate_left
      · intro w aP
        try dsimp only at aP
        go_simp;try with_reducible rfl
      try simp only[pz,pw]
      refine aO 7 73 (v:=?_) ?_ ?_;rotate_left
      · intro w aP
        try dsimp only at aP
        go_simp;try with_reducible rfl
      try simp only[pz,pw]
      refine wpAnyH_ready (rs:=[8]) (by kernel_rfl) (by simp) ?_;refine AllReadyH.cons rfl (λK hK=>?_) AllReadyH.nil;go_simp;go_wp2_with (go_at_call 253;refine(fC [58] u2 rb _ (h7.drew.rest.below xh (nl _))).mono ?_;rintro e w9 ⟨rfl,GF,oL⟩;have k9:=k8.trans oL);refine hK.out _ _ ?_ (λef=>?_)
      · exact S8 _ k9
      clear hK K;try simp only[pz,pw]
      refine aO 9 75 (v:=?_) ?_ ?_;rotate_left
      · intro w aP
        try dsimp only at aP
        go_simp;try with_reducible rfl
      try simp only[pz,pw]
      refine aO 10 76 (v:=?_) ?_ ?_;rotate_left
      · intro w aP
        try dsimp only at aP
        go_simp;try with_reducible rfl
      try simp only[pz,pw]
      refine aO 11 77 (v:=?_) ?_ ?_;rotate_left
      · intro w aP
        try dsimp only at aP
        go_simp;try with_reducible rfl
      try simp only[pz,pw]
      refine aO 12 78 (v:=?_) ?_ ?_;rotate_left
      · intro w aP
        try dsimp only at aP
        go_simp;try with_reducible rfl
      try simp only[pz,pw]
      refine aO 13 79 (v:=?_) ?_ ?_;rotate_left
      · intro w aP
        try dsimp only at aP
        go_simp;try with_reducible rfl
      try simp only[pz,pw]
      refine aO 14 80 (v:=?_) ?_ ?_;rotate_left
      · intro w aP
        try dsimp only at aP
        go_simp;try with_reducible rfl
      try simp only[pz,pw]
      refine aO 15 81 (v:=?_) ?_ ?_;rotate_left
      · intro w aP
        try dsimp only at aP
        go_simp;try with_reducible rfl
      try simp only[pz,pw]
      refine aO 16 82 (v:=?_) ?_ ?_;rotate_left
      · intro w aP
        try dsimp only at aP
        go_simp;try with_reducible rfl
      try simp only[pz,pw]
      refine aO 17 83 (v:=?_) ?_ ?_;rotate_left
      · intro w aP
        try dsimp only at aP
        go_simp;try with_reducible rfl
      try simp only[pz,pw]
      refine aO 18 84 (v:=?_) ?_ ?_;rotate_left
      · intro w aP
        try dsimp only at aP
        go_simp;try with_reducible rfl
      try simp only[pz,pw]
      refine aO 19 85 (v:=?_) ?_ ?_;rotate_left
      · intro w aP
        try dsimp only at aP
        go_simp;try with_reducible rfl
      try simp only[pz,pw]
      refine aO 20 86 (v:=?_) ?_ ?_;rotate_left
      · intro w aP
        try dsimp only at aP
        go_simp;try with_reducible rfl
      try simp only[pz,pw]
      refine aO 21 87 (v:=?_) ?_ ?_;rotate_left
      · intro w aP
        try dsimp only at aP
        go_simp;try with_reducible rfl
      try simp only[pz,pw]
      refine aO 22 88 (v:=?_) ?_ ?_;rotate_left
      · intro w aP
        try dsimp only at aP
        go_simp;try with_reducible rfl
      try simp only[pz,pw]
      refine aO 23 89 (v:=?_) ?_ ?_;rotate_left
      · intro w aP
        try dsimp only at aP
        go_simp;try with_reducible rfl
      try simp only[pz,pw]
      refine aO 24 90 (v:=?_) ?_ ?_;rotate_left
      · intro w aP
        try dsimp only at aP
        go_simp;try with_reducible rfl
      try simp only[pz,pw]
      refine aO 25 91 (v:=?_) ?_ ?_;rotate_left
      · intro w aP
        try dsimp only at aP
        go_simp;try with_reducible rfl
      try simp only[pz,pw]
      refine aO 26 92 (v:=?_) ?_ ?_;rotate_left
      · intro w aP
        try dsimp only at aP
        go_simp;try with_reducible rfl
      try simp only[pz,pw]
      refine aO 27 93 (v:=?_) ?_ ?_;rotate_left
      · intro w aP
        try dsimp only at aP
        go_simp;try with_reducible rfl
      try simp only[pz,pw]
      refine aO 28 94 (v:=?_) ?_ ?_;rotate_left
      · intro w aP
        try dsimp only at aP
        go_simp;try with_reducible rfl
      try simp only[pz,pw]
      refine aO 29 95 (v:=?_) ?_ ?_;rotate_left
      · intro w aP
        try dsimp only at aP
        go_simp;try with_reducible rfl
      try simp only[pz,pw]
      refine wpAnyH_ready (rs:=[30]) (by kernel_rfl) (by simp) ?_;refine AllReadyH.cons rfl (λK hK=>?_) AllReadyH.nil;go_simp;go_wp2_with (go_at_call 251;refine(gN _).mono ?_;rintro e w0 ⟨rfl,rfl⟩;exact⟨rfl,(HP.out _ _).2 ⟨rfl,h7.drew.kept.trans k9⟩⟩)
     case pos =>
      have Ki:=Lib.hid (show pO dn (u.take (aj u)) from⟨hn,ho⟩)
      go_cut [] from 61 to 110 (λwx=>Kept rb W7 wx∧Rest wx rb u2)
      case first=>
       by_cases hz:dn.len=0
       case pos=>
        have Kc:=IP hz;clear hsh ho L eq Ki hc;refine wp_region_held_drew (S:=(λW:World=>W.cell? ⟨Nd,0,none⟩=some (.func (.func 251) #[] #[])∧W.cell? ⟨R,0,none⟩=some (.pointer (some ⟨rb,0,none⟩))∧W.cell? ⟨Bx,0,none⟩=some (str (u.take (aj u)))∧W.cell? ⟨B1,2,none⟩=some (.slice p dn.len c))) (by kernel_rfl) ?_ (λef=>?_)
        · exact S7 _ (Kept.refl _ _)
        refine aO 0 66 (v:=?_) ?_ ?_;rotate_left
        · intro w aP
          try dsimp only at aP
          go_simp;try with_reducible rfl
        try simp only[pz,pw]
        refine aO 1 67 (v:=?_) ?_ ?_;rotate_left
        · intro w aP
          try dsimp only at aP
          go_simp;try with_reducible rfl
        try simp only[pz,pw]
        refine aO 2 68 (v:=?_) ?_ ?_;rotate_left
        · intro w aP
          try dsimp only at aP
          go_simp;try with_reducible rfl
        try simp only[pz,pw]
        refine wpAnyH_ready (rs:=[3]) (by kernel_rfl) (by simp) ?_;refine AllReadyH.cons rfl (λK hK=>?_) AllReadyH.nil;go_simp;go_wp2_with (go_at_call 88;refine(dM _ _ h7.drew.tab hwn).mono ?_;rw[hn];rintro e w8 ⟨rfl,xh⟩;have k8:=Kept.fQ (b:=rb) xh (nl _));refine hK.out _ _ ?_ (λef=>?_)
        · exact S7 _ k8
        clear hK K;try simp only[pz,pw]
        refine aO 4 70 (v:=?_) ?_ ?_;rotate_left
        · intro w aP
          try dsimp only at aP
          go_simp;try with_reducible rfl
        try simp only[pz,pw]
        refine aO 5 71 (v:=?_) ?_ ?_;rotate_left
        · intro w aP
          try dsimp only at aP
          go_simp;try with_reducible rfl
        try simp only[pz,pw]
        refine aO 6 72 (v:=?_) ?_ ?_;rotate_left
        · intro w aP
          try dsimp only at aP
          go_simp;try with_reducible rfl
        try simp only[pz,pw]
        refine aO 7 73 (v:=?_) ?_ ?_;rotate_left
        · intro w aP
          try dsimp only at aP
          go_simp;try with_reducible rfl
        try simp only[pz,pw]
        refine wpAnyH_ready (rs:=[8]) (by kernel_rfl) (by simp) ?_;refine AllReadyH.cons rfl (λK hK=>?_) AllReadyH.nil;go_simp;go_wp2_with (go_at_call 253;refine(fC [58] u2 rb _ (h7.drew.rest.below xh (nl _))).mono ?_;rintro e w9 ⟨rfl,GF,oL⟩;have k9:=k8.trans oL);refine hK.out _ _ ?_ (λef=>?_)
        · exact S7 _ k9
        clear hK K;try simp only[pz,pw]
        refine aO 9 75 (v:=?_) ?_ ?_;rotate_left
        · intro w aP
          try dsimp only at aP
          go_simp;try with_reducible rfl
        try simp only[pz,pw]
        refine aO 10 76 (v:=?_) ?_ ?_;rotate_left
        · intro w aP
          try dsimp only at aP
          go_simp;try with_reducible rfl
        try simp only[pz,pw]
        refine aO 11 77 (v:=?_) ?_ ?_;rotate_left
        · intro w aP
          try dsimp only at aP
          go_simp;try with_reducible rfl
        try simp only[pz,pw]
        refine aO 12 78 (v:=?_) ?_ ?_;rotate_left
        · intro w aP
          try dsimp only at aP
          go_simp;try with_reducible rfl
        try simp only[pz,pw]
        refine aO 13 79 (v:=?_) ?_ ?_;rotate_left
        · intro w aP
          try dsimp only at aP
          go_simp;try with_reducible rfl
        try simp only[pz,pw]
        refine aO 14 80 (v:=?_) ?_ ?_;rotate_left
        · intro w aP
          try dsimp only at aP
          go_simp;try with_reducible rfl
        try simp only[pz,pw]
        refine aO 15 81 (v:=?_) ?_ ?_;rotate_left
        · intro w aP
          try dsimp only at aP
          go_simp;try with_reducible rfl
        try simp only[pz,pw]
        refine cm 16 82 ?_;try simp only[pz,pw]
        refine cm 17 83 ?_;try simp only[pz,pw]
        refine cm 18 84 ?_;try simp only[pz,pw]
        refine cm 19 85 ?_;try simp only[pz,pw]
        refine cm 20 86 ?_;try simp only[pz,pw]
        refine cm 21 87 ?_;try simp only[pz,pw]
        refine cm 22 88 ?_;try simp only[pz,pw]
        refine cm 23 89 ?_;try simp only[pz,pw]
        refine cm 24 90 ?_;try simp only[pz,pw]
        refine cm 25 91 ?_;try simp only[pz,pw]
        refine cm 26 92 ?_;try simp only[pz,pw]
        refine cm 27 93 ?_;try simp only[pz,pw]
        refine aO 28 94 (v:=?_) ?_ ?_;rotate_left
        · intro w aP
          try dsimp only at aP
          go_simp;try with_reducible rfl
        try simp only[pz,pw]
        refine aO 29 95 (v:=?_) ?_ ?_;rotate_left
        · intro w aP
          try dsimp only at aP
          go_simp;try with_reducible rfl
        try simp only[pz,pw]
        refine wpAnyH_ready (rs:=[30]) (by kernel_rfl) (by simp) ?_;refine AllReadyH.cons rfl (λK hK=>?_) AllReadyH.nil;go_simp;go_wp2_with (go_at_call 251;refine(fH _).mono ?_;rintro e w0 ⟨rfl,rfl⟩);refine hK.out _ _ ?_ (λef=>?_)
        · exact S7 _ k9
        clear hK K;try simp only[pz,pw]
        refine wpAnyH_done (by kernel_rfl) ?_ _;go_wp2_with fail
        go_meet
        case rel=>exact⟨(Kept.refl _ _).drew.trans k9,GF⟩
       case neg=>
        have hlt:Op.bytesLess dn.last (u.take (aj u))=true:=by
         rcases ho with ho|ho
         · exact absurd ho hz
         · exact ho
        obtain⟨g,rfl,Nt,hg2,hg3,hg4⟩:=hsh hz;have hg1:B1<g:=Nt.1;have UT:=h7.lt;have Kc:=jK hz;have hwr:=yz hz hdl;have Ke:dn.len - 1<dn.len:=Nat.sub_lt (Nat.pos_of_ne_zero hz) Nat.one_pos;have Nu:g≠rb:=by omega
        have S8:∀W',Kept rb W7.drew W'→(λW:World=>W.cell? ⟨Nd,0,none⟩=some (.func (.func 251) #[] #[])∧W.cell? ⟨R,0,none⟩=some (.pointer (some ⟨rb,0,none⟩))∧W.cell? ⟨Bx,0,none⟩=some (str (u.take (aj u)))∧W.cell? ⟨B1,2,none⟩=some (.slice (some ⟨g,0,none⟩) dn.len c)∧W.cell? ⟨g,(dn.len - 1) * 4,none⟩=some (str dn.last)) W':=λW' k=>⟨(S7 W' k).1,(S7 W' k).2.1,(S7 W' k).2.2.1,(S7 W' k).2.2.2,k.cell (w:=W7.drew) hg4 Nu⟩
        clear ho S7 hsh L eq Ki hc;refine wp_region_held_drew (S:=(λW:World=>W.cell? ⟨Nd,0,none⟩=some (.func (.func 251) #[] #[])∧W.cell? ⟨R,0,none⟩=some (.pointer (some ⟨rb,0,none⟩))∧W.cell? ⟨Bx,0,none⟩=some (str (u.take (aj u)))∧W.cell? ⟨B1,2,none⟩=some (.slice (some ⟨g,0,none⟩) dn.len c)∧W.cell? ⟨g,(dn.len - 1) * 4,none⟩=some (str dn.last))) (by kernel_rfl) ?_ (λef=>?_)
        · exact S8 _ (Kept.refl _ _)
        refine aO 0 66 (v:=?_) ?_ ?_;rotate_left
        · intro w aP
          try dsimp only at aP
          go_simp;try with_reducible rfl
        try simp only[pz,pw]
        refine aO 1 67 (v:=?_) ?_ ?_;rotate_left
        · intro w aP
          try dsimp only at aP
          go_simp;try with_reducible rfl
        try simp only[pz,pw]
        refine aO 2 68 (v:=?_) ?_ ?_;rotate_left
        · intro w aP
          try dsimp only at aP
          go_simp;try with_reducible rfl
        try simp only[pz,pw]
        refine wpAnyH_ready (rs:=[3]) (by kernel_rfl) (by simp) ?_;refine AllReadyH.cons rfl (λK hK=>?_) AllReadyH.nil;go_simp;go_wp2_with (go_at_call 88;refine(dM _ _ h7.drew.tab hwn).mono ?_;rw[hn];rintro e w8 ⟨rfl,xh⟩;have k8:=Kept.fQ (b:=rb) xh (nl _));refine hK.out _ _ ?_ (λef=>?_)
        · exact S8 _ k8
        clear hK K;try simp only[pz,pw]
        refine aO 4 70 (v:=?_) ?_ ?_;rotate_left
        · intro w aP
          try dsimp only at aP
          go_simp;try with_reducible rfl
        try simp only[pz,pw]
        refine aO 5 71 (v:=?_) ?_ ?_;rotate_left
        · intro w aP
          try dsimp only at aP
          go_simp;try with_reducible rfl
        try simp only[pz,pw]
        refine aO 6 72 (v:=?_) ?_ ?_;rotate_left
        · intro w aP
          try dsimp only at aP
          go_simp;try with_reducible rfl
        try simp only[pz,pw]
        refine aO 7 73 (v:=?_) ?_ ?_;rotate_left
        · intro w aP
          try dsimp only at aP
          go_simp;try with_reducible rfl
        try simp only[pz,pw]
        refine wpAnyH_ready (rs:=[8]) (by kernel_rfl) (by simp) ?_;refine AllReadyH.cons rfl (λK hK=>?_) AllReadyH.nil;go_simp;go_wp2_with (go_at_call 253;refine(fC [58] u2 rb _ (h7.drew.rest.below xh (nl _))).mono ?_;rintro e w9 ⟨rfl,GF,oL⟩;have k9:=k8.trans oL);refine hK.out _ _ ?_ (λef=>?_)
        · exact S8 _ k9
        clear hK K;try simp only[pz,pw]
        refine aO 9 75 (v:=?_) ?_ ?_;rotate_left
        · intro w aP
          try dsimp only at aP
          go_simp;try with_reducible rfl
        try simp only[pz,pw]
        refine aO 10 76 (v:=?_) ?_ ?_;rotate_left
        · intro w aP
          try dsimp only at aP
          go_simp;try with_reducible rfl
        try simp only[pz,pw]
        refine aO 11 77 (v:=?_) ?_ ?_;rotate_left
        · intro w aP
          try dsimp only at aP
          go_simp;try with_reducible rfl
        try simp only[pz,pw]
        refine aO 12 78 (v:=?_) ?_ ?_;rotate_left
        · intro w aP
          try dsimp only at aP
          go_simp;try with_reducible rfl
        try simp only[pz,pw]
        refine aO 13 79 (v:=?_) ?_ ?_;rotate_left
        · intro w aP
          try dsimp only at aP
          go_simp;try with_reducible rfl
        try simp only[pz,pw]
        refine aO 14 80 (v:=?_) ?_ ?_;rotate_left
        · intro w aP
          try dsimp only at aP
          go_simp;try with_reducible rfl
        try simp only[pz,pw]
        refine aO 15 81 (v:=?_) ?_ ?_;rotate_left
        · intro w aP
          try dsimp only at aP
          go_simp;try with_reducible rfl
        try simp only[pz,pw]
        refine aO 16 82 (v:=?_) ?_ ?_;rotate_left
        · intro w aP
          try dsimp only at aP
          go_simp;try with_reducible rfl
        try simp only[pz,pw]
        refine aO 17 83 (v:=?_) ?_ ?_;rotate_left
        · intro w aP
          try dsimp only at aP
          go_simp;try with_reducible rfl
        try simp only[pz,pw]
        refine aO 18 84 (v:=?_) ?_ ?_;rotate_left
        · intro w aP
          try dsimp only at aP
          go_simp;try with_reducible rfl
        try simp only[pz,pw]
        refine aO 19 85 (v:=?_) ?_ ?_;rotate_left
        · intro w aP
          try dsimp only at aP
          go_simp;try with_reducible rfl
        try simp only[pz,pw]
        refine aO 20 86 (v:=?_) ?_ ?_;rotate_left
        · intro w aP
          try dsimp only at aP
          go_simp;try with_reducible rfl
        try simp only[pz,pw]
        refine aO 21 87 (v:=?_) ?_ ?_;rotate_left
        · intro w aP
          try dsimp only at aP
          go_simp;try with_reducible rfl
        try simp only[pz,pw]
        refine aO 22 88 (v:=?_) ?_ ?_;rotate_left
        · intro w aP
          try dsimp only at aP
          go_simp;try with_reducible rfl
        try simp only[pz,pw]
        refine aO 23 89 (v:=?_) ?_ ?_;rotate_left
        · intro w aP
          try dsimp only at aP
          go_simp;try with_reducible rfl
        try simp only[pz,pw]
        refine aO 24 90 (v:=?_) ?_ ?_;rotate_left
        · intro w aP
          try dsimp only at aP
          go_simp;try with_reducible rfl
        try simp only[pz,pw]
        refine aO 25 91 (v:=?_) ?_ ?_;rotate_left
        · intro w aP
          try dsimp only at aP
          go_simp;try with_reducible rfl
        try simp only[pz,pw]
        refine aO 26 92 (v:=?_) ?_ ?_;rotate_left
        · intro w aP
          try dsimp only at aP
          go_simp;try with_reducible rfl
        try simp only[pz,pw]
        refine aO 27 93 (v:=?_) ?_ ?_;rotate_left
        · intro w aP
          try dsimp only at aP
          go_simp;try with_reducible rfl
        try simp only[pz,pw]
        refine aO 28 94 (v:=?_) ?_ ?_;rotate_left
        · intro w aP
          try dsimp only at aP
          go_simp;try with_reducible rfl
        try simp only[pz,pw]
        refine aO 29 95 (v:=?_) ?_ ?_;rotate_left
        · intro w aP
          try dsimp only at aP
          go_simp;try with_reducible rfl
        try simp only[pz,pw]
        refine wpAnyH_ready (rs:=[30]) (by kernel_rfl) (by simp) ?_;refine AllReadyH.cons rfl (λK hK=>?_) AllReadyH.nil;go_simp;go_wp2_with (go_at_call 251;refine(fH _).mono ?_;rintro e w0 ⟨rfl,rfl⟩);refine hK.out _ _ ?_ (λef=>?_)
        · exact S8 _ k9
        clear hK K;try simp only[pz,pw]
        refine wpAnyH_done (by kernel_rfl) ?_ _;go_wp2_with fail
        go_meet
        case rel=>exact⟨(Kept.refl _ _).drew.trans k9,GF⟩
      case rest =>
       obtain⟨kx,rx⟩:=hcut;have h9:=h7.next kx rx
       have Wk:=kx.heap hX Nj;have Mq:=kx.heap qA tX;have Mv:=Kg.kept (w':=wc) λb hb hlt=>kx.block b hlt (λe=>by have hb:B1<b:=hb.1;have:=h7.lt;injection e with e;omega)
       have e9:=h9.env.next
       have LH:=Lib.hid L;clear L eq S7 hsh qA Kg;go_wp2_with fail;rcases hq:aY u2 with _|⟨t,r⟩
       · have hnone:aY s=none:=by rw[HE.out,LH.out.qF (by rw[vo Ki.out hc,hq])]
         refine(ih u2 (by omega) R Nd X rb wc h9.tab h9.env h9.rest).mono ?_;intro e Cg hpost;unfold bl at hpost;rw[hq] at hpost;obtain⟨rfl,CL⟩:=hpost;exact⟨rfl,by unfold bl;rw[hnone];exact⟨rfl,h9.kept.trans CL⟩⟩
       · have HQ := Lib.hid hq
         have HC:=Lib.hid hc;refine(ih u2 (by omega) R Nd X rb wc h9.tab h9.env h9.rest).mono ?_;intro e Cg hpost;unfold bl at hpost;rw[hq] at hpost;obtain⟨⟨vt,rfl,Va⟩,Rn,CL⟩:=hpost;clear hq hc;have h10:=h9.next CL Rn
         have wg:=CL.heap Wk Nj;have CM:=CL.heap Mq tX;have RB:=Mv.kept (w':=Cg) λb hb hlt=>CL.block b hlt (λe=>by have hb:B1<b:=hb.1;have:=h7.lt;injection e with e;omega)
         have f1:=aC wg 1;have f2:=aC wg 2;have f3:=aC wg 3;have c0:=(ak wg 0).trans rfl;have c1:=(ak wg 1).trans rfl;have c2:=(ak wg 2).trans rfl;have c3:=(ak wg 3).trans rfl;obtain⟨pt,ct,rfl,_⟩:=Va.shape;have g2:=(ak CM 2).trans rfl;clear Wk Mq Mv e9;have Ui:=(Array.getElem?_eq_some_iff.1 wg).1;have YB:=kx.size;have YA:=(Array.getElem?_eq_some_iff.1 hX).1;have YU:=h7.lt;go_upto_region 23 with fail;have OT:(((Cg.setCell ⟨Bx,1,none⟩ (.int .u8 t.k)).setCell ⟨Bx,2,none⟩ (str t.n)).setCell ⟨Bx,3,none⟩ (.slice pt t.sub.len ct)).heap[Bx]? =some (.cells #[str (u.take (aj u)),.int .u8 t.k,str t.n,.slice pt t.sub.len ct] 192 (0,0)):=ep (ep (ep wg 1 (.int .u8 t.k)) 2 (str t.n)) 3 (.slice pt t.sub.len ct);have fO:∀b,b≠Bx→(((Cg.setCell ⟨Bx,1,none⟩ (.int .u8 t.k)).setCell ⟨Bx,2,none⟩ (str t.n)).setCell ⟨Bx,3,none⟩ (.slice pt t.sub.len ct)).heap[b]? =Cg.heap[b]? :=λb hb=>by rw[Below.heap_setCell _ _ _ _ hb,Below.heap_setCell _ _ _ _ hb,Below.heap_setCell _ _ _ _ hb]
         have Iy:=(fO B1 (Nat.ne_of_lt Tz)).trans CM;have ZE:=RB.kept (w':=((Cg.setCell ⟨Bx,1,none⟩ (.int .u8 t.k)).setCell ⟨Bx,2,none⟩ (str t.n)).setCell ⟨Bx,3,none⟩ (.slice pt t.sub.len ct)) λb hb _=>fO b hb.2
         have RE:=Va.kept (w':=((Cg.setCell ⟨Bx,1,none⟩ (.int .u8 t.k)).setCell ⟨Bx,2,none⟩ (str t.n)).setCell ⟨Bx,3,none⟩ (.slice pt t.sub.len ct)) λb hb _=>fO b (by have hb:wc.heap.size≤b:=hb;omega)
         have hB:=((h10.set Ni 1 (.int .u8 t.k)).set Ni 2 (str t.n)).set Ni 3 (.slice pt t.sub.len ct);obtain⟨sc,kB,yO,Wz⟩:=ZE;obtain⟨i0,hi,hz0,hz1,hz2⟩:=info_parts AD;have Wv:=LH.out.len;have CN:(dn.len+1) * 64≤140737488355328:=by omega
         have UJ:dn.len+1≤maxLen:=by unfold maxLen;omega
         clear fO RB Va h10 wg CM f1 f2 f3 c0 c1 c2 c3 g2 Rn CL;generalize ((Cg.setCell ⟨Bx,1,none⟩ (.int .u8 t.k)).setCell ⟨Bx,2,none⟩ (str t.n)).setCell ⟨Bx,3,none⟩ (.slice pt t.sub.len ct)=WB at *;have c0:=(ak OT 0).trans rfl;have c1:=(ak OT 1).trans rfl;have c2:=(ak OT 2).trans rfl;have c3:=(ak OT 3).trans rfl;have g2:=(ak Iy 2).trans rfl;have hG:=heap_alloc_new WB (.cells #[str (u.take (aj u)),.int .u8 t.k,str t.n,.slice pt t.sub.len ct] 192);have VZ:=(zc (n:=1) (cs:=[str (u.take (aj u)),.int .u8 t.k,str t.n,.slice pt t.sub.len ct]) hG rfl (by decide)).cells (g:=WB.heap.size) rfl;have HG:=Lib.hid VZ;clear hG VZ;go_wp2_with (at_builtin;refine aL (WB.alloc (.cells #[str (u.take (aj u)),.int .u8 t.k,str t.n,.slice pt t.sub.len ct] 192)) rfl _ _ 172 rfl 0 192 i0 _ 4 64 oA hi hz0 hz1 hz2 rfl (by decide) _ _ _ rfl (kB.alloc _) ⟨WB.heap.size,0,none⟩ 1 1 [str (u.take (aj u)),.int .u8 t.k,str t.n,.slice pt t.sub.len ct] rfl rfl HG.out ?a2 (by decide) UJ CN (Nat.zero_le _) ?a3)
         case a2=>exact⟨rfl,rfl,rfl,rfl⟩
         case a3 =>
          intro v' SL KU KO Rc;obtain⟨MF,c11,rfl⟩:=aS KU;have Wl:=(Array.getElem?_eq_some_iff.1 OT).1;have Rx:(WB.alloc (.cells #[str (u.take (aj u)),.int .u8 t.k,str t.n,.slice pt t.sub.len ct] 192)).heap.size=WB.heap.size+1:=by simp
          have kP:=(Below.refl WB.heap.size WB).alloc (nl _) (.cells #[str (u.take (aj u)),.int .u8 t.k,str t.n,.slice pt t.sub.len ct] 192);have hA:=hB.alloc (.cells #[str (u.take (aj u)),.int .u8 t.k,str t.n,.slice pt t.sub.len ct] 192);have Mr:=(kP.block B1 (by omega)).trans Iy;have RD:=(RE.kept (w':=WB.alloc (.cells #[str (u.take (aj u)),.int .u8 t.k,str t.n,.slice pt t.sub.len ct] 192)) λb _ hlt=>kP.block b hlt).mono (D':=λb=>(B1<b∧b≠Bx)∧(Value.slice p dn.len c).ownBlock≠some b) λb hb _=>by
           have hb:wc.heap.size≤b:=hb;refine⟨⟨by omega,by omega⟩,λe=>?_⟩;have:=Rh b e;omega
          have Re:=Wz.kept (w':=WB.alloc (.cells #[str (u.take (aj u)),.int .u8 t.k,str t.n,.slice pt t.sub.len ct] 192)) λb _ hlt=>kP.block b hlt
          have RC:=(Ch.grow yO Re RD ⟨by omega,by omega⟩ KU KO (by rw[Rx];exact Rc)).mono (D':=λb=>B1<b) λb hb _=>hb.1
          have h11:=hA.grown KO λb e=>by have:=yO b e;have hl:=LH.out.lo;omega
          have yP:=(KO.block B1 (by omega) (λe=>by have:=yO B1 e.symm;omega)).trans Mr;generalize hL:dn.len+1=L at *;clear hA Mr RD Re KU KO Rc kP hB OT Iy RE kB yO Wz c0 c1 c2 c3 g2 HG;have g2:=(ak yP 2).trans rfl;have f2:=aC yP 2;go_upto_region 24 with fail;have Iz:(SL.setCell ⟨B1,2,none⟩ (.slice MF L c11)).heap[B1]? =some (.cells #[.int .u8 (wk (s.take (aj s)++[91])),str (s.take (aj s)),.slice MF L c11] 174 (0,0)):=ep yP 2 (.slice MF L c11);have hS:=h11.set LH.out.lo 2 (.slice MF L c11);have O3:=RC.kept (w':=SL.setCell ⟨B1,2,none⟩ (.slice MF L c11)) λb hb _=>Below.heap_setCell _ _ _ _ (Nat.ne_of_gt hb)
          clear h11 RC yP g2 f2;generalize SL.setCell ⟨B1,2,none⟩ (.slice MF L c11)=WS at *;have d1:=hS.env.r
          by_cases hr:∃r2,r=44::r2
          case pos=>
           obtain⟨r2,rfl⟩:=hr;have hr2:=iF HQ.out;simp only[List.length_cons] at hr2;have Aw:=hS.rest;go_wp2_with (go_at_call 253;refine(fC [44] r2 rb _ Aw).mono ?_;rintro e w12 ⟨rfl,UQ,Nw⟩)
           go_roundg r2.length
           case measure=>omega
           case rel=>
            refine⟨dn.snoc (u.take (aj u)) t,r2,rfl,hS.next Nw UQ,LH.out.lo,by rw[Fo.uy];omega,⟨_,Nw.heap Iz tX,?_⟩,Lib.hid (LH.out.step_eq Ki.out HC.out HQ.out)⟩;exact O3.kept λb hb hlt=>Nw.block b hlt (λe=>by have hb:B1<b:=hb;have:=hS.lt;have:=LH.out.lo;injection e with e;omega)
          case neg =>
           have Iv:=gJ (s:=r) (c:=44) (λr' e=>hr ⟨r',e⟩);have ML:=Lib.hid (LH.out.MU Ki.out HC.out HQ.out (λr' e=>hr ⟨r',e⟩));have e1:=hS.env.need;have e2:=(ak Iz 2).trans rfl;clear hr;have hS1:=hS.drew.env.need;have kA:=hS.drew.env.r;have SS:∀W',Kept rb WS.drew W'→(λW:World=>W.cell? ⟨Nd,0,none⟩=some (.func (.func 251) #[] #[])∧W.cell? ⟨R,0,none⟩=some (.pointer (some ⟨rb,0,none⟩))) W':=λW' k=>⟨k.cell hS1 hS.tP.nn,k.cell kA hS.tP.nr⟩
           clear hS1 kA
           by_cases hle:L≤6
           case pos =>
            have hnd:Calls Tryz.prog 251 #[.bool (decide ((L:Int)≤6))] WS λe w'=>e=.returned (.tuple #[])∧WS=w':=by
             rw[decide_eq_true (show(L:Int)≤6 by omega)];exact fH _
            by_cases h93:∃r',r=93::r'
            case pos=>
             obtain⟨r',rfl⟩:=h93;have HP:Hid (aY s=some (⟨wk (s.take (aj s)++[91]),s.take (aj s),dn.snoc (u.take (aj u)) t⟩,r')):=by
              show _=_
              rw[HE.out,ML.out];simp only[Fo.uy,hL,if_pos hle]
             clear hle hL;go_wp2_with (first|(go_at_call 253;refine(er _ [44] rb _ hS.rest.cell Iv).mono ?_;rintro e w0 ⟨rfl,rfl⟩)|(go_at_call 251;refine hnd.mono ?_;rintro e w0 ⟨rfl,rfl⟩));refine wp_region_held_drew (S:=(λW:World=>W.cell? ⟨Nd,0,none⟩=some (.func (.func 251) #[] #[])∧W.cell? ⟨R,0,none⟩=some (.pointer (some ⟨rb,0,none⟩)))) (by kernel_rfl) ?_ (λef=>?_)
             · exact SS _ (Kept.refl _ _)
             refine aO 0 117 (v:=?_) ?_ ?_;rotate_left
             · intro w aP
               try dsimp only at aP
               go_simp;try with_reducible rfl
             try simp only[pz,pw]
             refine aO 1 118 (v:=?_) ?_ ?_;rotate_left
             · intro w aP
               try dsimp only at aP
               go_simp;try with_reducible rfl
             try simp only[pz,pw]
             refine aO 2 119 (v:=?_) ?_ ?_;rotate_left
             · intro w aP
               try dsimp only at aP
               go_simp;try with_reducible rfl
             try simp only[pz,pw]
             refine aO 3 120 (v:=?_) ?_ ?_;rotate_left
             · intro w aP
               try dsimp only at aP
               go_simp;try with_reducible rfl
             try simp only[pz,pw]
             refine aO 4 121 (v:=?_) ?_ ?_;rotate_left
             · intro w aP
               try dsimp only at aP
               go_simp;try with_reducible rfl
             try simp only[pz,pw]
             refine aO 5 122 (v:=?_) ?_ ?_;rotate_left
             · intro w aP
               try dsimp only at aP
               go_simp;try with_reducible rfl
             try simp only[pz,pw]
             refine aO 6 123 (v:=?_) ?_ ?_;rotate_left
             · intro w aP
               try dsimp only at aP
               go_simp;try with_reducible rfl
             try simp only[pz,pw]
             refine wpAnyH_ready (rs:=[7]) (by kernel_rfl) (by simp) ?_;refine AllReadyH.cons rfl (λK hK=>?_) AllReadyH.nil;go_simp;go_wp2_with (go_at_call 253;refine(fC [93] r' rb _ hS.drew.rest).mono ?_;rintro e w9 ⟨rfl,GF,oL⟩);refine hK.out _ _ ?_ (λef=>?_)
             · exact SS _ oL
             clear hK K;try simp only[pz,pw]
             refine aO 8 125 (v:=?_) ?_ ?_;rotate_left
             · intro w aP
               try dsimp only at aP
               go_simp;try with_reducible rfl
             try simp only[pz,pw]
             refine wpAnyH_ready (rs:=[9]) (by kernel_rfl) (by simp) ?_;refine AllReadyH.cons rfl (λK hK=>?_) AllReadyH.nil;go_simp;go_wp2_with (go_at_call 251;refine(fH _).mono ?_;rintro e w0 ⟨rfl,rfl⟩);refine hK.out _ _ ?_ (λef=>?_)
             · exact SS _ oL
             clear hK K;try simp only[pz,pw]
             refine wpAnyH_done (by kernel_rfl) ?_ _;have h9:=hS.drew.next oL GF
             have IF:=oL.heap (w:=WS.drew) Iz tX;have Mv:=(O3.kept (w:=WS) (w':=WS.drew) (λ_ _ _=>rfl)).kept (w:=WS.drew) (w':=w9) λb hb hlt=>oL.block b hlt (λe=>by have hb:B1<b:=hb;have:=hS.lt;have:=LH.out.lo;injection e with e;omega)
             have x0:=(ak IF 0).trans rfl;have x1:=(ak IF 1).trans rfl;have x2:=(ak IF 2).trans rfl;obtain⟨⟨y0,y1,y2⟩,z0,z1,z2⟩:=h9.wH;clear SS hnd e1 e2 d1;go_wp2_with fail;refine bodyPost_ret (v:=.agg #[.int .u8 (wk (s.take (aj s)++[91])),str (s.take (aj s)),.slice MF L c11]) (by simp[results,Tryz.results252,go_sem,y0,y1,y2]) rfl ?_;unfold bl;rw[HP.out];obtain⟨q1,q2⟩:=h9.done (.int .u8 (wk (s.take (aj s)++[91]))) (str (s.take (aj s))) (.slice MF L c11);have hlo:=LH.out.lo;refine⟨⟨_,rfl,((Mv.Pt.mono (D':=λb=>w.heap.size<b) λb hb _=>by have hb:B1<b:=hb;show w.heap.size<b;omega).BD (λb hb=>Nat.ne_of_gt hb) _ _ _).mono λb hb _=>Nat.le_of_lt hb⟩,q1,q2⟩
            case neg=>
             have Rk:=gJ (s:=r) (c:=93) (λr' e=>h93 ⟨r',e⟩);have hnone:aY s=none:=by
              rw[HE.out,ML.out];rcases r with _|⟨x,r⟩
              · rfl
              · split
                · rename_i h;simp only[Option.some.injEq,Prod.mk.injEq,List.cons.injEq] at h;exact absurd ⟨_,by rw[h.2.1]⟩ h93
                · rfl
             have HP:Hid (∀e w',bl w rb s e w'↔(e=.panicked fA∧Kept rb w w')):=by
              intro e w';unfold bl;rw[hnone]
             clear hnone h93 hle hL;go_wp2_with (first|(go_at_call 253;refine(er _ [44] rb _ hS.rest.cell Iv).mono ?_;rintro e w0 ⟨rfl,rfl⟩)|(go_at_call 251;refine hnd.mono ?_;rintro e w0 ⟨rfl,rfl⟩));refine wp_region_held_drew (S:=(λW:World=>W.cell? ⟨Nd,0,none⟩=some (.func (.func 251) #[] #[])∧W.cell? ⟨R,0,none⟩=some (.pointer (some ⟨rb,0,none⟩)))) (by kernel_rfl) ?_ (λef=>?_)
             · exact SS _ (Kept.refl _ _)
             refine aO 0 117 (v:=?_) ?_ ?_;rotate_left
             · intro w aP
               try dsimp only at aP
               go_simp;try with_reducible rfl
             try simp only[pz,pw]
             refine aO 1 118 (v:=?_) ?_ ?_;rotate_left
             · intro w aP
               try dsimp only at aP
               go_simp;try with_reducible rfl
             try simp only[pz,pw]
             refine aO 2 119 (v:=?_) ?_ ?_;rotate_left
             · intro w aP
               try dsimp only at aP
               go_simp;try with_reducible rfl
             try simp only[pz,pw]
             refine aO 3 120 (v:=?_) ?_ ?_;rotate_left
             · intro w aP
               try dsimp only at aP
               go_simp;try with_reducible rfl
             try simp only[pz,pw]
             refine aO 4 121 (v:=?_) ?_ ?_;rotate_left
             · intro w aP
               try dsimp only at aP
               go_simp;try with_reducible rfl
             try simp only[pz,pw]
             refine aO 5 122 (v:=?_) ?_ ?_;rotate_left
             · intro w aP
               try dsimp only at aP
               go_simp;try with_reducible rfl
             try simp only[pz,pw]
             refine aO 6 123 (v:=?_) ?_ ?_;rotate_left
             · intro w aP
               try dsimp only at aP
               go_simp;try with_reducible rfl
             try simp only[pz,pw]
             refine wpAnyH_ready (rs:=[7]) (by kernel_rfl) (by simp) ?_;refine AllReadyH.cons rfl (λK hK=>?_) AllReadyH.nil;go_simp;go_wp2_with (go_at_call 253;refine(er _ [93] rb _ hS.drew.rest.cell Rk).mono ?_;rintro e w0 ⟨rfl,rfl⟩);refine hK.out _ _ ?_ (λef=>?_)
             · exact SS _ (Kept.refl _ _)
             clear hK K;try simp only[pz,pw]
             refine aO 8 125 (v:=?_) ?_ ?_;rotate_left
             · intro w aP
               try dsimp only at aP
               go_simp;try with_reducible rfl
             try simp only[pz,pw]
             refine wpAnyH_ready (rs:=[9]) (by kernel_rfl) (by simp) ?_;refine AllReadyH.cons rfl (λK hK=>?_) AllReadyH.nil;go_simp;go_wp2_with (go_at_call 251;refine(gN _).mono ?_;rintro e w0 ⟨rfl,rfl⟩;exact⟨rfl,(HP.out _ _).2 ⟨rfl,hS.drew.kept⟩⟩)
           case neg=>
            have hnd:Calls Tryz.prog 251 #[.bool (decide ((L:Int)≤6))] WS λe w'=>e=.panicked fA∧WS=w':=by
             rw[decide_eq_false (show ¬(L:Int)≤6 by omega)];exact gN _
            have hnone:aY s=none:=by
             rw[HE.out,ML.out];rcases r with _|⟨x,r⟩
             · rfl
             · split
               · rename_i h;simp only[Option.some.injEq,Prod.mk.injEq,List.cons.injEq] at h;rw[←h.1,Fo.uy,hL,if_neg hle]
               · rfl
            have HP:Hid (∀e w',bl w rb s e w'↔(e=.panicked fA∧Kept rb w w')):=by
             intro e w';unfold bl;rw[hnone]
            clear hnone hle hL;go_wp2_with (first|(go_at_call 253;refine(er _ [44] rb _ hS.rest.cell Iv).mono ?_;rintro e w0 ⟨rfl,rfl⟩)|(go_at_call 251;refine hnd.mono ?_;rintro e w0 ⟨rfl,rfl⟩));exact⟨rfl,(HP.out _ _).2 ⟨rfl,hS.kept⟩⟩
end Go.Proofs.YtakgjcfkdemipaaGreatDoor
namespace Go.Proofs.YtakgjcfkdemipaaGreatDoor
open Go.RowKit
theorem I8 : ∀ (n : Nat) (s : List UInt8), s.length ≤ n → s.length ≤ 1000 → gT s := by
 intro n
 induction n with
 | zero=>
  intro s hs hm;have hnil:s=[]:=by cases s with
   | nil=>rfl
   | cons=>simp at hs
  subst hnil;exact uI [] hm (λr e=>by cases e) rfl rfl rfl
 | succ n ihn =>
  intro s hs hm;have ih:∀u:List UInt8,u.length<s.length→gT u:=λu hu=>ihn u (by omega) (by omega)
  by_cases hp:eA s
  · by_cases h0:di (s.take (aj s))=0
    · by_cases hb:∃s2,s.drop (aj s)=91::s2
      · obtain⟨s2,hb⟩:=hb
        have hl:s2.length<s.length:=by
         have:=congrArg List.length hb;simp at this;omega
        rcases eV (w:=s.take (aj s)) with⟨k1,_⟩|⟨k1,_⟩|⟨k1,_⟩|⟨k1,_⟩
        all_goals first
         | exact y5 s s2 hm hp h0 k1 hb (ih s2 hl)
         | exact A9 s s2 hm hp h0 (.inl k1) hb ih
         | exact A9 s s2 hm hp h0 (.inr k1) hb ih
         | (rcases hn:isName (s.take (aj s)) with _|_
            · exact uI s hm hp h0 k1 hn
            · exact wB s s2 hm hp h0 k1 hn hb (ih s2 hl))
      · have hb':∀r,s.drop (aj s)≠91::r:=λr e=>hb ⟨r,e⟩
        by_cases hk:bD (s.take (aj s))=0
        · rcases hn:isName (s.take (aj s)) with _|_
          · exact uI s hm hp h0 hk hn
          · exact FA s hm hp h0 hk hn hb'
        · exact sM s hm hp h0 hk hb'
    · exact FB s (by unfold maxLen;omega) hp h0
  · have:∃r,s=63::116::r:=Classical.byContradiction λh=>hp λr e=>h ⟨r,e⟩
    obtain⟨r,rfl⟩:=this;exact C9 r
theorem En (s:List UInt8) (hm:s.length≤1000):gT s:=I8 s.length s (nl _) hm
end Go.Proofs.YtakgjcfkdemipaaGreatDoor
namespace Go.Proofs.YtakgjcfkdemipaaGreatDoor
open Go.RowKit
section
variable {P:Program} {ops:Array Oper} {Q:Exit→Act→World→Prop} {md:Region.Mode} {S:World→Prop}
theorem kM {i:Nat} {oi:Oper} {d:Option Nat} {v:Value} {fuel:Nat} {listed:Array Bool} {a:Act} {w:World} (hi:ops[i]? =some oi) (hd:oi.dst=d)
 (hs:Region.noSelect ops=true) (hf:Region.free md ops listed i=true) (hr:(Region.ready md ops listed).contains i=true)
 (hQ:∀c a w,Q (.panic c) (a.put d v) w→Q (.panic c) a w) (hS:S w) (hw:Region.wanted oi (yielded ops a.tmps)=true) (hy:∀w,S w→(execOp a.eval oi).run P w=.ok (.value v) w)
 (h:wpAnyH P md ops Q S fuel (listed.setIfInBounds i true) (a.put d v) w):wpAnyH P md ops Q S (fuel+1) listed a w:=by
 subst hd
 exact wpAnyH_take hi hs hf hr hQ (.inl ⟨hw,hy⟩) hS h
theorem AV {fn:Func} {t t':Array Value} {R:Ending→World→Prop} (he:results fn t=results fn t'):∀(ds:List Deferred) (u:FrameMode) (w:World),Leaves P fn t R ds u w→Leaves P fn t' R ds u w:=by
 intro ds
 induction ds with
 | nil=>
  intro u w h;cases u with
  | returning=>unfold Leaves at h ⊢;rw[←he];exact h
  | panicking=>exact h
  | run=>exact h
 | cons d ds ih=>
  intro u w h;obtain⟨h1,fv,cap,f,args,h2,h3,h4⟩:=h;refine⟨h1,fv,cap,f,args,h2,h3,h4.mono ?_⟩;intro e u' w' hp;cases e with
  | returned=>exact ih _ _ hp
  | panicked=>exact ih _ _ hp
  | outgrown=>exact hp
theorem eF {R:Ending→World→Prop} {K:Act→World→Prop} (v:Value) (d:Nat) (hd:4≤d):∀c (a:Act) w,Exit.then K (bodyPostD Tryz.prog Tryz.f211 R) (.panic c) (a.put (some d) v) w→Exit.then K (bodyPostD Tryz.prog Tryz.f211 R) (.panic c) a w:=by
 intro c a w h
 refine AV ?_ _ _ _ h
 have h2:(a.tmps.setIfInBounds d v)[2]? =a.tmps[2]? :=Array.getElem?_setIfInBounds_ne (by omega)
 have h3:(a.tmps.setIfInBounds d v)[3]? =a.tmps[3]? :=Array.getElem?_setIfInBounds_ne (by omega)
 simp[results,Tryz.results211,Act.put,Array.getD_eq_getD_getElem?,h2,h3]
end
def gX (w:World) (s:List UInt8) (e:Ending) (w':World):Prop:=
 (match aY s with
  | some (t,[])=>∃v,e=.returned (.tuple #[.agg #[.int .u8 t.k,str t.n,v],.bool true])∧eX w' (λb=>w.heap.size≤b) t.sub v
  | _=>e=.returned (.tuple #[.agg #[.int .u8 0,str [],.slice none 0 0],.bool false]))∧Below w.heap.size w w'
def K6 (w:World) (s:List UInt8):World:=
 (((((w.alloc (.cells #[.int .u8 0,.string ⟨#[]⟩,.slice none 0 0] 174)).alloc (.cells #[.bool false] 4)).alloc (.cells #[.func (.func 251) #[] #[]] 252)).alloc (.cells #[str s] 257)).alloc (.cells #[.pointer (some ⟨w.heap.size+1+1+1,0,none⟩)] 253)).alloc
  (.cells #[.func (.func 252) #[] #[.pointer (some ⟨w.heap.size+1+1+1+1,0,none⟩),.pointer (some ⟨w.heap.size+1+1,0,none⟩),.pointer (some ⟨w.heap.size+1+1+1+1+1,0,none⟩)]] 258)
theorem dh {w:World} {k:Nat} {o':Obj} (o:Obj) (h:w.heap[k]? =some o'):(w.alloc o).heap[k]? =some o':=
 (((Below.refl w.heap.size w).alloc (nl _) o).block k (Array.getElem?_eq_some_iff.1 h).1).trans h
theorem nX {w:World} {n:Nat} (hn:w.heap.size=n) (cs:Array Value) (t:TypeId):(w.alloc (.cells cs t)).heap[n]? =some (.cells cs t (0,0)):=hn▸heap_alloc_new w _
theorem fN.lt {w:World} (h:fN w):1<w.heap.size:=by
 unfold fN Lib.TabIs World.var? at h
 rw[Hq] at h
 simp only[Option.bind_some] at h
 rcases hk:w.heap[1]? with _|o
 · rw[hk] at h;simp at h
 · exact(Array.getElem?_eq_some_iff.1 hk).1
structure S5 (w:World) (s:List UInt8) (W:World):Prop where
 env:Env W (w.heap.size+1+1+1+1) (w.heap.size+1+1) (w.heap.size+1+1+1+1+1) (w.heap.size+1+1+1)
 rest:Rest W (w.heap.size+1+1+1) s
 tab:fN W
 oD:Below w.heap.size w W
 res:W.heap[w.heap.size]? =some (.cells #[.int .u8 0,.string ⟨#[]⟩,.slice none 0 0] 174 (0,0))
 ok:W.heap[w.heap.size+1]? =some (.cells #[.bool false] 4 (0,0))
 size:W.heap.size=w.heap.size+1+1+1+1+1+1
theorem k6 (w:World) (s:List UInt8) (ht:fN w):S5 w s (K6 w s):=by
 have hl:=ht.lt
 have hb:Below w.heap.size w (K6 w s):=by
  unfold K6;exact((((((Below.refl _ w).alloc (nl _) _).alloc (by simp) _).alloc (by simp;omega) _).alloc (by simp;omega) _).alloc (by simp;omega) _).alloc (by simp;omega) _
 have hsz:(K6 w s).heap.size=w.heap.size+1+1+1+1+1+1:=by simp[K6]
 have htab:=ht.kept (b:=w.heap.size) (Kept.fQ hb (nl _)) (by omega)
 have e1:=nX (w:=w) rfl #[.int .u8 0,.string ⟨#[]⟩,.slice none 0 0] 174
 unfold K6 at hb hsz htab ⊢
 generalize w.alloc (.cells #[.int .u8 0,.string ⟨#[]⟩,.slice none 0 0] 174)=w1 at *
 have z1:w1.heap.size=w.heap.size+1:=by simp at hsz;omega
 have e2:=nX z1 #[.bool false] 4
 replace e1:=dh (.cells #[.bool false] 4) e1
 generalize w1.alloc (.cells #[.bool false] 4)=w2 at *
 have z2:w2.heap.size=w.heap.size+1+1:=by simp at hsz;omega
 have e3:=nX z2 #[.func (.func 251) #[] #[]] 252
 replace e1:=dh (.cells #[.func (.func 251) #[] #[]] 252) e1
 replace e2:=dh (.cells #[.func (.func 251) #[] #[]] 252) e2
 generalize w2.alloc (.cells #[.func (.func 251) #[] #[]] 252)=w3 at *
 have z3:w3.heap.size=w.heap.size+1+1+1:=by simp at hsz;omega
 have e4:=nX z3 #[str s] 257
 replace e1:=dh (.cells #[str s] 257) e1
 replace e2:=dh (.cells #[str s] 257) e2
 replace e3:=dh (.cells #[str s] 257) e3
 generalize w3.alloc (.cells #[str s] 257)=w4 at *
 have z4:w4.heap.size=w.heap.size+1+1+1+1:=by simp at hsz;omega
 have e5:=nX z4 #[.pointer (some ⟨w.heap.size+1+1+1,0,none⟩)] 253
 replace e1:=dh (.cells #[.pointer (some ⟨w.heap.size+1+1+1,0,none⟩)] 253) e1
 replace e2:=dh (.cells #[.pointer (some ⟨w.heap.size+1+1+1,0,none⟩)] 253) e2
 replace e3:=dh (.cells #[.pointer (some ⟨w.heap.size+1+1+1,0,none⟩)] 253) e3
 replace e4:=dh (.cells #[.pointer (some ⟨w.heap.size+1+1+1,0,none⟩)] 253) e4
 generalize w4.alloc (.cells #[.pointer (some ⟨w.heap.size+1+1+1,0,none⟩)] 253)=w5 at *
 have z5:w5.heap.size=w.heap.size+1+1+1+1+1:=by simp at hsz;omega
 have e6:=nX z5 #[.func (.func 252) #[] #[.pointer (some ⟨w.heap.size+1+1+1+1,0,none⟩),.pointer (some ⟨w.heap.size+1+1,0,none⟩),.pointer (some ⟨w.heap.size+1+1+1+1+1,0,none⟩)]] 258
 replace e1:=dh (.cells #[.func (.func 252) #[] #[.pointer (some ⟨w.heap.size+1+1+1+1,0,none⟩),.pointer (some ⟨w.heap.size+1+1,0,none⟩),.pointer (some ⟨w.heap.size+1+1+1+1+1,0,none⟩)]] 258) e1
 replace e2:=dh (.cells #[.func (.func 252) #[] #[.pointer (some ⟨w.heap.size+1+1+1+1,0,none⟩),.pointer (some ⟨w.heap.size+1+1,0,none⟩),.pointer (some ⟨w.heap.size+1+1+1+1+1,0,none⟩)]] 258) e2
 replace e3:=dh (.cells #[.func (.func 252) #[] #[.pointer (some ⟨w.heap.size+1+1+1+1,0,none⟩),.pointer (some ⟨w.heap.size+1+1,0,none⟩),.pointer (some ⟨w.heap.size+1+1+1+1+1,0,none⟩)]] 258) e3
 replace e4:=dh (.cells #[.func (.func 252) #[] #[.pointer (some ⟨w.heap.size+1+1+1+1,0,none⟩),.pointer (some ⟨w.heap.size+1+1,0,none⟩),.pointer (some ⟨w.heap.size+1+1+1+1+1,0,none⟩)]] 258) e4
 replace e5:=dh (.cells #[.func (.func 252) #[] #[.pointer (some ⟨w.heap.size+1+1+1+1,0,none⟩),.pointer (some ⟨w.heap.size+1+1,0,none⟩),.pointer (some ⟨w.heap.size+1+1+1+1+1,0,none⟩)]] 258) e5
 exact⟨⟨(ak e5 0).trans rfl,(ak e3 0).trans rfl,(ak e6 0).trans rfl,by omega,by omega,by omega,by omega⟩,⟨(ak e4 0).trans rfl,aC e4 0⟩,htab,hb,e1,e2,hsz⟩
theorem rX {w1:World} {pb qb:Nat} {x0 x1 x2 y:Value} {tq:TypeId} (h1:w1.heap[pb]? =some (.cells #[x0,x1,x2] 174 (0,0))) (h2:w1.heap[qb]? =some (.cells #[y] tq (0,0))) (hne:pb≠qb) (o:Obj):
 (((((w1.setCell ⟨pb,0,none⟩ (.int .u8 0)).setCell ⟨pb,1,none⟩ (str [])).setCell ⟨pb,2,none⟩ (.slice none 0 0)).setCell ⟨qb,0,none⟩ (.bool false)).alloc o).heap[pb]? =some (.cells #[.int .u8 0,str [],.slice none 0 0] 174 (0,0))∧
 (((((w1.setCell ⟨pb,0,none⟩ (.int .u8 0)).setCell ⟨pb,1,none⟩ (str [])).setCell ⟨pb,2,none⟩ (.slice none 0 0)).setCell ⟨qb,0,none⟩ (.bool false)).alloc o).heap[qb]? =some (.cells #[.bool false] tq (0,0)):=by
 have a1:=ep (ep (ep h1 0 (.int .u8 0)) 1 (str [])) 2 (.slice none 0 0)
 have b1:(((w1.setCell ⟨pb,0,none⟩ (.int .u8 0)).setCell ⟨pb,1,none⟩ (str [])).setCell ⟨pb,2,none⟩ (.slice none 0 0)).heap[qb]? =some (.cells #[y] tq (0,0)):=by
  rw[Below.heap_setCell _ _ _ _ (Ne.symm hne),Below.heap_setCell _ _ _ _ (Ne.symm hne),Below.heap_setCell _ _ _ _ (Ne.symm hne)];exact h2
 refine⟨dh o ?_,dh o (ep b1 0 (.bool false))⟩
 rw[Below.heap_setCell _ _ _ _ hne]
 exact a1
theorem FU {w1:World} {pb qb:Nat} {x0 x1 x2 y:Value} {tq:TypeId} (h1:w1.heap[pb]? =some (.cells #[x0,x1,x2] 174 (0,0))) (h2:w1.heap[qb]? =some (.cells #[y] tq (0,0))) (hne:pb≠qb) (a b c d:Value):
 ((((w1.setCell ⟨pb,0,none⟩ a).setCell ⟨pb,1,none⟩ b).setCell ⟨pb,2,none⟩ c).setCell ⟨qb,0,none⟩ d).heap[pb]? =some (.cells #[a,b,c] 174 (0,0))∧
 ((((w1.setCell ⟨pb,0,none⟩ a).setCell ⟨pb,1,none⟩ b).setCell ⟨pb,2,none⟩ c).setCell ⟨qb,0,none⟩ d).heap[qb]? =some (.cells #[d] tq (0,0)):=by
 have a1:=ep (ep (ep h1 0 a) 1 b) 2 c
 have b1:(((w1.setCell ⟨pb,0,none⟩ a).setCell ⟨pb,1,none⟩ b).setCell ⟨pb,2,none⟩ c).heap[qb]? =some (.cells #[y] tq (0,0)):=by
  rw[Below.heap_setCell _ _ _ _ (Ne.symm hne),Below.heap_setCell _ _ _ _ (Ne.symm hne),Below.heap_setCell _ _ _ _ (Ne.symm hne)];exact h2
 refine⟨?_,ep b1 0 d⟩
 rw[Below.heap_setCell _ _ _ _ hne]
 exact a1
theorem rW {B:Nat} {w w1:World} (h:Below B w w1) {pb qb:Nat} (hp:B≤pb) (hq:B≤qb) (hB:B≤w1.heap.size) (o:Obj):
 Below B w (((((w1.setCell ⟨pb,0,none⟩ (.int .u8 0)).setCell ⟨pb,1,none⟩ (str [])).setCell ⟨pb,2,none⟩ (.slice none 0 0)).setCell ⟨qb,0,none⟩ (.bool false)).alloc o):=
 ((((h.setCell (p:=⟨pb,0,none⟩) hp _).setCell (p:=⟨pb,1,none⟩) hp _).setCell (p:=⟨pb,2,none⟩) hp _).setCell (p:=⟨qb,0,none⟩) hq _).alloc (by simpa[World.setCell] using hB) _
theorem Kept.toBelow {B rb:Nat} {w w':World} (h:Kept rb w w') (hr:B≤rb) (hB:B≤w.heap.size):Below B w w':=
 (Below.refl B w).grown h hB (by intro b e;injection e with e;omega)
set_option maxRecDepth 4000 in
theorem C2 (s:List UInt8) (hN:gT s) (w:World) (ht:fN w) (hq:aY s=none):Calls Tryz.prog 211 #[str s] w (gX w s):=by
 have Zj:∀(fn:Fn) (first cap:Array Value) (w:World),(Instr.makeFunc fn first cap).run Tryz.prog w=.ok (.func fn first cap) w:=λ_ _ _ _=>rfl
 have HQ:=Lib.hid hq
 clear hq
 go_enter_defers Tryz.func211,Tryz.ntmps211
 go_wp2_with fail
 have F:=k6 w s ht
 unfold K6 at F
 refine(hN (w.heap.size+1+1+1+1) (w.heap.size+1+1) (w.heap.size+1+1+1+1+1) (w.heap.size+1+1+1) _ F.tab F.env F.rest).mono ?_
 intro e w1 hpost
 unfold bl at hpost
 rw[HQ.out] at hpost
 obtain⟨rfl,hk⟩:=hpost
 have h1:=hk.heap F.res (by omega)
 have h2:=hk.heap F.ok (by omega)
 have hb:=F.oD
 have hsz:=F.size
 clear F
 generalize World.alloc _ _=W at *
 refine leaves_cons (f:=250) (args:= #[.pointer (some ⟨w.heap.size,0,none⟩),.pointer (some ⟨w.heap.size+1,0,none⟩)]) (by simp) (by simp[go_sem]) ?_
 refine(tD w.heap.size (w.heap.size+1) _ _ _ _ _ [] _ h1 h2 (by omega)).mono ?_
 rintro e u' w'' ⟨rfl,rfl,rfl⟩
 obtain⟨q1,q2⟩:=rX h1 h2 (by omega) (.cells #[] 250)
 have hB:=rW (hb.trans (hk.toBelow (B:=w.heap.size) (by omega) (by omega))) (pb:=w.heap.size) (qb:=w.heap.size+1) (nl _) (by omega) (by have:=hk.size;omega) (.cells #[] 250)
 generalize World.alloc _ _=WF at *
 have c0:=(ak q1 0).trans rfl
 have c1:=(ak q1 1).trans rfl
 have c2:=(ak q1 2).trans rfl
 have d0:=(ak q2 0).trans rfl
 simp[Leaves,settle,results,Tryz.results211,go_sem,c0,c1,c2,d0]
 unfold gX
 rw[HQ.out]
 exact⟨rfl,hB⟩
set_option maxRecDepth 4000 in
theorem C3 (s r:List UInt8) (t:Tr) (hN:gT s) (w:World) (ht:fN w) (hq:aY s=some (t,r)):Calls Tryz.prog 211 #[str s] w (gX w s):=by
 have Zj:∀(fn:Fn) (first cap:Array Value) (w:World),(Instr.makeFunc fn first cap).run Tryz.prog w=.ok (.func fn first cap) w:=λ_ _ _ _=>rfl
 have HQ:=Lib.hid hq
 clear hq
 go_enter_defers Tryz.func211,Tryz.ntmps211
 go_wp2_with fail
 have F:=k6 w s ht
 unfold K6 at F
 refine(hN (w.heap.size+1+1+1+1) (w.heap.size+1+1) (w.heap.size+1+1+1+1+1) (w.heap.size+1+1+1) _ F.tab F.env F.rest).mono ?_
 intro e w1 hpost
 unfold bl at hpost
 rw[HQ.out] at hpost
 obtain⟨⟨v,rfl,hv⟩,hr,hk⟩:=hpost
 have h1:=hk.heap F.res (by omega)
 have h2:=hk.heap F.ok (by omega)
 have hb:=F.oD
 have hsz:=F.size
 have he:=F.env.kept hk
 clear F
 generalize World.alloc _ _=W at *
 obtain⟨pt,ct,rfl,_⟩:=hv.shape
 have c0:=(ak h1 0).trans rfl
 have c1:=(ak h1 1).trans rfl
 have c2:=(ak h1 2).trans rfl
 have f0:=aC h1 0
 have f1:=aC h1 1
 have f2:=aC h1 2
 go_wp2_with fail
 have Rw:=hk.size
 have hB:=(((hb.trans (hk.toBelow (B:=w.heap.size) (by omega) (by omega))).setCell (p:=⟨w.heap.size,0,none⟩) (nl _) (.int .u8 t.k)).setCell (p:=⟨w.heap.size,1,none⟩) (nl _) (str t.n)).setCell (p:=⟨w.heap.size,2,none⟩) (nl _) (.slice pt t.sub.len ct)
 have fO:∀b,b≠w.heap.size→(((w1.setCell ⟨w.heap.size,0,none⟩ (.int .u8 t.k)).setCell ⟨w.heap.size,1,none⟩ (str t.n)).setCell ⟨w.heap.size,2,none⟩ (.slice pt t.sub.len ct)).heap[b]? =w1.heap[b]? :=λb hb=>by rw[Below.heap_setCell _ _ _ _ hb,Below.heap_setCell _ _ _ _ hb,Below.heap_setCell _ _ _ _ hb]
 have Sa:(((w1.setCell ⟨w.heap.size,0,none⟩ (.int .u8 t.k)).setCell ⟨w.heap.size,1,none⟩ (str t.n)).setCell ⟨w.heap.size,2,none⟩ (.slice pt t.sub.len ct)).heap[w.heap.size]? =some (.cells #[.int .u8 t.k,str t.n,.slice pt t.sub.len ct] 174 (0,0)):=ep (ep (ep h1 0 (.int .u8 t.k)) 1 (str t.n)) 2 (.slice pt t.sub.len ct)
 have Sb:=(fO (w.heap.size+1) (by omega)).trans h2
 have hk2:Kept w.heap.size w1 (((w1.setCell ⟨w.heap.size,0,none⟩ (.int .u8 t.k)).setCell ⟨w.heap.size,1,none⟩ (str t.n)).setCell ⟨w.heap.size,2,none⟩ (.slice pt t.sub.len ct)):=((Kept.setCell _ _ _ _).trans (Kept.setCell _ _ _ _)).trans (Kept.setCell _ _ _ _)
 have O3:=hv.kept (w':=((w1.setCell ⟨w.heap.size,0,none⟩ (.int .u8 t.k)).setCell ⟨w.heap.size,1,none⟩ (str t.n)).setCell ⟨w.heap.size,2,none⟩ (.slice pt t.sub.len ct)) λb hb _=>fO b (by have hb:W.heap.size≤b:=hb;omega)
 replace hr:=((hr.gx (B:=w.heap.size) (by omega) 0 (.int .u8 t.k)).gx (B:=w.heap.size) (by omega) 1 (str t.n)).gx (B:=w.heap.size) (by omega) 2 (.slice pt t.sub.len ct)
 have QY:∀{a:Addr} {u:Value},w1.cell? a=some u→a.block≠w.heap.size→(((w1.setCell ⟨w.heap.size,0,none⟩ (.int .u8 t.k)).setCell ⟨w.heap.size,1,none⟩ (str t.n)).setCell ⟨w.heap.size,2,none⟩ (.slice pt t.sub.len ct)).cell? a=some u:=λh hne=>hk2.cell h hne
 have KM:=QY he.need (by simp;omega)
 have QZ:=QY he.r (by simp;omega)
 have hws:=hk2.size
 clear QY hk2 fO c0 c1 c2 f0 f1 f2 h1 h2 hv he hk hb
 generalize ((w1.setCell ⟨w.heap.size,0,none⟩ (.int .u8 t.k)).setCell ⟨w.heap.size,1,none⟩ (str t.n)).setCell ⟨w.heap.size,2,none⟩ (.slice pt t.sub.len ct)=WS at *
 rcases r with _|⟨c,r'⟩
 · refine wp_region_held_drew (S:=(λW:World=>W.cell? ⟨w.heap.size+1+1,0,none⟩=some (.func (.func 251) #[] #[])∧W.cell? ⟨w.heap.size+1+1+1+1,0,none⟩=some (.pointer (some ⟨w.heap.size+1+1+1,0,none⟩))∧W.cell? ⟨w.heap.size+1+1+1,0,none⟩=some (str []))) (by kernel_rfl) ?_ (λef=>?_)
   · exact⟨KM,QZ,hr.cell⟩
   refine kM (i:=0) (d:=some 15) (v:=?_) rfl (by kernel_rfl) (by kernel_rfl) (by kernel_rfl) (by kernel_rfl) (eF _ _ (by decide)) (by assumption) (by kernel_rfl) ?_ ?_;rotate_left
   · intro w aP
     try dsimp only at aP
     go_simp;try with_reducible rfl
   try simp only[pz,pw]
   refine kM (i:=1) (d:=some 16) (v:=?_) rfl (by kernel_rfl) (by kernel_rfl) (by kernel_rfl) (by kernel_rfl) (eF _ _ (by decide)) (by assumption) (by kernel_rfl) ?_ ?_;rotate_left
   · intro w aP
     try dsimp only at aP
     go_simp;try with_reducible rfl
   try simp only[pz,pw]
   refine kM (i:=2) (d:=some 17) (v:=?_) rfl (by kernel_rfl) (by kernel_rfl) (by kernel_rfl) (by kernel_rfl) (eF _ _ (by decide)) (by assumption) (by kernel_rfl) ?_ ?_;rotate_left
   · intro w aP
     try dsimp only at aP
     go_simp;try with_reducible rfl
   try simp only[pz,pw]
   refine kM (i:=3) (d:=some 18) (v:=?_) rfl (by kernel_rfl) (by kernel_rfl) (by kernel_rfl) (by kernel_rfl) (eF _ _ (by decide)) (by assumption) (by kernel_rfl) ?_ ?_;rotate_left
   · intro w aP
     try dsimp only at aP
     go_simp;try with_reducible rfl
   try simp only[pz,pw]
   refine kM (i:=4) (d:=some 19) (v:=?_) rfl (by kernel_rfl) (by kernel_rfl) (by kernel_rfl) (by kernel_rfl) (eF _ _ (by decide)) (by assumption) (by kernel_rfl) ?_ ?_;rotate_left
   · intro w aP
     try dsimp only at aP
     go_simp;try with_reducible rfl
   try simp only[pz,pw]
   refine kM (i:=5) (d:=some 20) (v:=?_) rfl (by kernel_rfl) (by kernel_rfl) (by kernel_rfl) (by kernel_rfl) (eF _ _ (by decide)) (by assumption) (by kernel_rfl) ?_ ?_;rotate_left
   · intro w aP
     try dsimp only at aP
     go_simp;try with_reducible rfl
   try simp only[pz,pw]
   refine kM (i:=6) (d:=some 21) (v:=?_) rfl (by kernel_rfl) (by kernel_rfl) (by kernel_rfl) (by kernel_rfl) (eF _ _ (by decide)) (by assumption) (by kernel_rfl) ?_ ?_;rotate_left
   · intro w aP
     try dsimp only at aP
     go_simp;try with_reducible rfl
   try simp only[pz,pw]
   refine wpAnyH_ready (rs:=[7]) (by kernel_rfl) (by simp) ?_;refine AllReadyH.cons rfl (λK hK=>?_) AllReadyH.nil;go_simp;go_wp2_with (go_at_call 251;refine(fH _).mono ?_;rintro e w0 ⟨rfl,rfl⟩);refine hK.out _ _ ?_ (λef=>?_)
   · exact⟨KM,QZ,hr.cell⟩
   clear hK K;try simp only[pz,pw]
   refine wpAnyH_done (by kernel_rfl) ?_ _;have J8:WS.drew.heap[w.heap.size]? =some (.cells #[.int .u8 t.k,str t.n,.slice pt t.sub.len ct] 174 (0,0)):=Sa;have OE:WS.drew.heap[w.heap.size+1]? =some (.cells #[.bool false] 4 (0,0)):=Sb;have Se:Below w.heap.size w WS.drew:=⟨hB.os,hB.tape,hB.output,hB.size,hB.block⟩;have ZF:=O3.kept (w:=WS) (w':=WS.drew) (λ_ _ _=>rfl);clear ef Sa Sb hB O3 KM QZ hr;generalize WS.drew=WD at *;have c0:=(ak J8 0).trans rfl;have c1:=(ak J8 1).trans rfl;have c2:=(ak J8 2).trans rfl;have d0:=(ak OE 0).trans rfl;have f0:=aC J8 0;have f1:=aC J8 1;have f2:=aC J8 2;have g0:=aC OE 0;go_wp2_with fail;refine leaves_cons (f:=250) (args:= #[.pointer (some ⟨w.heap.size,0,none⟩),.pointer (some ⟨w.heap.size+1,0,none⟩)]) (by simp) (by simp[go_sem]) ?_;refine(Cs w.heap.size (w.heap.size+1) _).mono ?_;rintro e u' w'' ⟨rfl,rfl,rfl⟩;obtain⟨q1,q2⟩:=FU J8 OE (by omega) (.int .u8 t.k) (.string ⟨t.n.toArray⟩) (.slice pt t.sub.len ct) (.bool true);have hB:=(((Se.setCell (p:=⟨w.heap.size,0,none⟩) (nl _) (.int .u8 t.k)).setCell (p:=⟨w.heap.size,1,none⟩) (nl _) (.string ⟨t.n.toArray⟩)).setCell (p:=⟨w.heap.size,2,none⟩) (nl _) (.slice pt t.sub.len ct)).setCell (p:=⟨w.heap.size+1,0,none⟩) (Nat.le_succ _) (.bool true);have ZG:=ZF.kept (w':=(((WD.setCell ⟨w.heap.size,0,none⟩ (.int .u8 t.k)).setCell ⟨w.heap.size,1,none⟩ (.string ⟨t.n.toArray⟩)).setCell ⟨w.heap.size,2,none⟩ (.slice pt t.sub.len ct)).setCell ⟨w.heap.size+1,0,none⟩ (.bool true)) λb hb _=>by
    have hb:W.heap.size≤b:=hb;rw[Below.heap_setCell _ _ _ _ (by simp;omega),Below.heap_setCell _ _ _ _ (by simp;omega),Below.heap_setCell _ _ _ _ (by simp;omega),Below.heap_setCell _ _ _ _ (by simp;omega)]
   clear c0 c1 c2 d0 f0 f1 f2 g0;generalize World.setCell _ _ _=WF at *;have c0:=(ak q1 0).trans rfl;have c1:=(ak q1 1).trans rfl;have c2:=(ak q1 2).trans rfl;have d0:=(ak q2 0).trans rfl;simp[Leaves,settle,results,Tryz.results211,go_sem,c0,c1,c2,d0];unfold gX;rw[HQ.out];exact⟨⟨_,rfl,ZG.mono λb hb _=>by have hb:W.heap.size≤b:=hb;show w.heap.size≤b;omega⟩,hB⟩
 · refine wp_region_held_drew (S:=(λW:World=>W.cell? ⟨w.heap.size+1+1,0,none⟩=some (.func (.func 251) #[] #[])∧W.cell? ⟨w.heap.size+1+1+1+1,0,none⟩=some (.pointer (some ⟨w.heap.size+1+1+1,0,none⟩))∧W.cell? ⟨w.heap.size+1+1+1,0,none⟩=some (str (c::r')))) (by kernel_rfl) ?_ (λef=>?_)
   · exact⟨KM,QZ,hr.cell⟩
   refine kM (i:=0) (d:=some 15) (v:=?_) rfl (by kernel_rfl) (by kernel_rfl) (by kernel_rfl) (by kernel_rfl) (eF _ _ (by decide)) (by assumption) (by kernel_rfl) ?_ ?_;rotate_left
   · intro w aP
     try dsimp only at aP
     go_simp;try with_reducible rfl
   try simp only[pz,pw]
   refine kM (i:=1) (d:=some 16) (v:=?_) rfl (by kernel_rfl) (by kernel_rfl) (by kernel_rfl) (by kernel_rfl) (eF _ _ (by decide)) (by assumption) (by kernel_rfl) ?_ ?_;rotate_left
   · intro w aP
     try dsimp only at aP
     go_simp;try with_reducible rfl
   try simp only[pz,pw]
   refine kM (i:=2) (d:=some 17) (v:=?_) rfl (by kernel_rfl) (by kernel_rfl) (by kernel_rfl) (by kernel_rfl) (eF _ _ (by decide)) (by assumption) (by kernel_rfl) ?_ ?_;rotate_left
   · intro w aP
     try dsimp only at aP
     go_simp;try with_reducible rfl
   try simp only[pz,pw]
   refine kM (i:=3) (d:=some 18) (v:=?_) rfl (by kernel_rfl) (by kernel_rfl) (by kernel_rfl) (by kernel_rfl) (eF _ _ (by decide)) (by assumption) (by kernel_rfl) ?_ ?_;rotate_left
   · intro w aP
     try dsimp only at aP
     go_simp;try with_reducible rfl
   try simp only[pz,pw]
   refine kM (i:=4) (d:=some 19) (v:=?_) rfl (by kernel_rfl) (by kernel_rfl) (by kernel_rfl) (by kernel_rfl) (eF _ _ (by decide)) (by assumption) (by kernel_rfl) ?_ ?_;rotate_left
   · intro w aP
     try dsimp only at aP
     go_simp;try with_reducible rfl
   try simp only[pz,pw]
   refine kM (i:=5) (d:=some 20) (v:=?_) rfl (by kernel_rfl) (by kernel_rfl) (by kernel_rfl) (by kernel_rfl) (eF _ _ (by decide)) (by assumption) (by kernel_rfl) ?_ ?_;rotate_left
   · intro w aP
     try dsimp only at aP
     go_simp;try with_reducible rfl
   try simp only[pz,pw]
   refine kM (i:=6) (d:=some 21) (v:=?_) rfl (by kernel_rfl) (by kernel_rfl) (by kernel_rfl) (by kernel_rfl) (eF _ _ (by decide)) (by assumption) (by kernel_rfl) ?_ ?_;rotate_left
   · intro w aP
     try dsimp only at aP
     go_simp;try with_reducible rfl
   try simp only[pz,pw]
   refine wpAnyH_ready (rs:=[7]) (by kernel_rfl) (by simp) ?_;refine AllReadyH.cons rfl (λK hK=>?_) AllReadyH.nil;go_simp;go_wp2_with (go_at_call 251;refine(gN _).mono ?_;rintro e w0 ⟨rfl,rfl⟩);have J8:WS.drew.heap[w.heap.size]? =some (.cells #[.int .u8 t.k,str t.n,.slice pt t.sub.len ct] 174 (0,0)):=Sa;have OE:WS.drew.heap[w.heap.size+1]? =some (.cells #[.bool false] 4 (0,0)):=Sb;have Se:Below w.heap.size w WS.drew:=⟨hB.os,hB.tape,hB.output,hB.size,hB.block⟩;clear ef hK Sa Sb hB O3 KM QZ hr;generalize WS.drew=WD at *;refine leaves_cons (f:=250) (args:= #[.pointer (some ⟨w.heap.size,0,none⟩),.pointer (some ⟨w.heap.size+1,0,none⟩)]) (by simp) (by simp[go_sem]) ?_;refine(tD w.heap.size (w.heap.size+1) _ _ _ _ _ [] _ J8 OE (by omega)).mono ?_;rintro e u' w'' ⟨rfl,rfl,rfl⟩;obtain⟨q1,q2⟩:=rX J8 OE (by omega) (.cells #[] 250);have hB:=rW Se (pb:=w.heap.size) (qb:=w.heap.size+1) (nl _) (by omega) Se.size (.cells #[] 250);generalize World.alloc _ _=WF at *;have c0:=(ak q1 0).trans rfl;have c1:=(ak q1 1).trans rfl;have c2:=(ak q1 2).trans rfl;have d0:=(ak q2 0).trans rfl;simp[Leaves,settle,results,Tryz.results211,go_sem,c0,c1,c2,d0];unfold gX;rw[HQ.out];exact⟨rfl,hB⟩
theorem xH (s:List UInt8) (hm:s.length≤1000) (w:World) (ht:fN w):Calls Tryz.prog 211 #[str s] w (gX w s):=by
 rcases hq:aY s with _|⟨t,r⟩
 · exact C2 s (En s hm) w ht hq
 · exact C3 s r t (En s hm) w ht hq
end Go.Proofs.YtakgjcfkdemipaaGreatDoor
namespace Go.Proofs.YtakgjcfkdemipaaGreatDoor
open Go.RowKit
def aq (s:List UInt8):Nat×Tr:=
 if 100<s.length then(2,⟨0,[],.nil⟩) else
 match aY s with
 | some (t,[])=>if 6<t.level then(2,⟨0,[],.nil⟩) else(0,t)
 | _=>(4,⟨0,[],.nil⟩)
def cH (w:World) (s:List UInt8) (e:Ending) (w':World):Prop:=
 ∃v,e=.returned (.tuple #[.agg #[.int .u8 (aq s).2.k,str (aq s).2.n,v],.int .i64 (aq s).1])∧eX w' (λb=>w.heap.size≤b) (aq s).2.sub v∧Below w.heap.size w w'
set_option maxRecDepth 4000 in
theorem wu (s:List UInt8) (_hm:s.length≤maxLen) (w:World) (hl:100<s.length):Calls Tryz.prog 157 #[str s] w (cH w s):=by
 have HE:=Lib.hid (show aq s=(2,⟨0,[],.nil⟩) by unfold aq;rw[if_pos hl])
 go_enter Tryz.func157,Tryz.ntmps157
 go_wp2_with fail
 refine bodyPost_ret (v:=.tuple #[.agg #[.int .u8 0,str [],.slice none 0 0],.int .i64 2]) (by simp[results,Tryz.results157,go_sem]) rfl ?_
 unfold cH
 rw[HE.out]
 exact⟨_,rfl,eX.nil _ _,(Below.refl _ _).alloc (nl _) _⟩
set_option maxRecDepth 4000 in
theorem qD (s:List UInt8) (w:World) (ht:fN w) (hl:¬100<s.length) (hq:∀t,aY s≠some (t,[])):Calls Tryz.prog 157 #[str s] w (cH w s):=by
 have HE:=Lib.hid (show aq s=(4,⟨0,[],.nil⟩) by
  unfold aq;rw[if_neg hl];rcases h:aY s with _|⟨t,_|⟨c,r⟩⟩
  · rfl
  · exact absurd h (hq t)
  · rfl)
 have HR:=Lib.hid (show ∀W e w',gX W s e w'→e=.returned (.tuple #[.agg #[.int .u8 0,str [],.slice none 0 0],.bool false])∧Below W.heap.size W w' by
  intro W e w' h;unfold gX at h;rcases hp:aY s with _|⟨t,_|⟨c,r⟩⟩
  · rw[hp] at h;exact h
  · exact absurd hp (hq t)
  · rw[hp] at h;exact h)
 have kP:=(Below.refl w.heap.size w).alloc (nl _) (.cells #[.int .u8 0,.string ⟨#[]⟩,.slice none 0 0] 174)
 clear hq
 go_enter Tryz.func157,Tryz.ntmps157
 go_wp2_with (go_at_call 211;refine(xH s (by omega) _ (ht.kept (b:=w.heap.size) (Kept.fQ kP (nl _)) (by have:=ht.lt;omega))).mono ?_;intro e w1 hp;obtain⟨rfl,ay⟩:=HR.out _ _ _ hp;clear hp;have r1:=λo=>dh o ((ay.block w.heap.size (by simp)).trans (heap_alloc_new w (.cells #[.int .u8 0,.string ⟨#[]⟩,.slice none 0 0] 174)));have c0:=λo=>(ak (r1 o) 0).trans rfl;have c1:=λo=>(ak (r1 o) 1).trans rfl;have c2:=λo=>(ak (r1 o) 2).trans rfl;have f0:=λo=>aC (r1 o) 0;have f1:=λo=>aC (r1 o) 1;have f2:=λo=>aC (r1 o) 2;clear r1)
 refine bodyPost_ret (v:=.tuple #[.agg #[.int .u8 0,str [],.slice none 0 0],.int .i64 4]) (by simp[results,Tryz.results157,go_sem,c0,c1,c2]) rfl ?_
 unfold cH
 rw[HE.out]
 have aA:=(kP.trans (af ay (by simp))).alloc (by have:=ay.size;simp at this;omega) (.cells #[.int .u8 0,.string ⟨#[]⟩,.slice none 0 0] 174)
 exact⟨_,rfl,eX.nil _ _,((aA.setCell (p:=⟨w.heap.size,0,none⟩) (nl _) _).setCell (p:=⟨w.heap.size,1,none⟩) (nl _) _).setCell (p:=⟨w.heap.size,2,none⟩) (nl _) _⟩
set_option maxRecDepth 4000 in
theorem wA (s:List UInt8) (t:Tr) (w:World) (ht:fN w) (hl:¬100<s.length) (hq:aY s=some (t,[])):Calls Tryz.prog 157 #[str s] w (cH w s):=by
 have HE:=Lib.hid (show aq s=if 6<t.level then(2,⟨0,[],.nil⟩) else(0,t) by unfold aq;rw[if_neg hl,hq])
 have HR:=Lib.hid (show ∀W e w',gX W s e w'→(∃v,e=.returned (.tuple #[.agg #[.int .u8 t.k,str t.n,v],.bool true])∧eX w' (λb=>W.heap.size≤b) t.sub v)∧Below W.heap.size W w' by
  intro W e w' h;unfold gX at h;rw[hq] at h;exact h)
 have NA:t.sub.level≤100:=by
  have h:=tU (s.length+1) none s (.one t) [] (by rw[jf (by omega),hq];rfl);simp[Fo.one,Fo.level] at h;omega
 have kP:=(Below.refl w.heap.size w).alloc (nl _) (.cells #[.int .u8 0,.string ⟨#[]⟩,.slice none 0 0] 174)
 clear hq
 by_cases h6:6<t.level
 all_goals have h6':((6:Int)<(t.sub.level:Int)+1)=(6<t.level):=by unfold Tr.level;apply propext;omega
 all_goals go_enter Tryz.func157,Tryz.ntmps157
 all_goals go_wp2_with (first|(go_at_call 211;refine(xH s (by omega) _ (ht.kept (b:=w.heap.size) (Kept.fQ kP (nl _)) (by have:=ht.lt;omega))).mono ?_;intro e w1 hp;obtain⟨⟨v,rfl,hv⟩,ay⟩:=HR.out _ _ _ hp;clear hp;obtain⟨pt,ct,rfl,_⟩:=hv.shape;have r1:=λo=>dh o ((ay.block w.heap.size (by simp)).trans (heap_alloc_new w (.cells #[.int .u8 0,.string ⟨#[]⟩,.slice none 0 0] 174))))|(go_at_call 212;refine(rH 100 t.sub NA (by omega) _ _ _ t.k t.n (hv.below ((Below.refl _ w1).alloc (nl _) _) (nl _))).mono ?_;rintro e w2 ⟨rfl,aA⟩;have r2:=(aA.block w.heap.size (by have:=ay.size;simp at this ⊢;omega)).trans (r1 _);have c0:=(ak r2 0).trans rfl;have c1:=(ak r2 1).trans rfl;have c2:=(ak r2 2).trans rfl;have f0:=aC r2 0;have f1:=aC r2 1;have f2:=aC r2 2;have r4:=(aA.block w1.heap.size (by simp)).trans (heap_alloc_new w1 _);have d0:=(ak r4 0).trans rfl;have d1:=(ak r4 1).trans rfl;have d2:=(ak r4 2).trans rfl;clear r1 r2 r4))
 all_goals have hs1:=ay.size
 all_goals simp only[World.size_alloc] at hs1
 all_goals have aK:=((kP.trans (af ay (by simp))).alloc (by omega) (.cells #[.int .u8 t.k,.string ⟨t.n.toArray⟩,.slice pt t.sub.len ct] 174)).trans (af aA (by simp;omega))
 · refine bodyPost_ret (v:=.tuple #[.agg #[.int .u8 0,str [],.slice none 0 0],.int .i64 2]) (by simp[results,Tryz.results157,go_sem,c0,c1,c2]) rfl ?_
   unfold cH;rw[HE.out,if_pos h6];exact⟨_,rfl,eX.nil _ _,((aK.setCell (p:=⟨w.heap.size,0,none⟩) (nl _) _).setCell (p:=⟨w.heap.size,1,none⟩) (nl _) _).setCell (p:=⟨w.heap.size,2,none⟩) (nl _) _⟩
 · refine bodyPost_ret (v:=.tuple #[.agg #[.int .u8 t.k,str t.n,.slice pt t.sub.len ct],.int .i64 0]) (by simp[results,Tryz.results157,go_sem,c0,c1,c2]) rfl ?_
   unfold cH;rw[HE.out,if_neg h6];refine⟨_,rfl,?_,((aK.setCell (p:=⟨w.heap.size,0,none⟩) (nl _) _).setCell (p:=⟨w.heap.size,1,none⟩) (nl _) _).setCell (p:=⟨w.heap.size,2,none⟩) (nl _) _⟩;have KV:=(hv.below (B:=w1.heap.size) ((Below.refl _ w1).alloc (nl _) (.cells #[.int .u8 t.k,.string ⟨t.n.toArray⟩,.slice pt t.sub.len ct] 174)) (nl _)).below aA (nl _);have NQ:=KV.mono (D':=λb=>w.heap.size<b) λb hb _=>by simp only[World.size_alloc] at hb;show w.heap.size<b;omega
   exact(NQ.BD (λb hb=>Nat.ne_of_gt hb) _ _ _).mono λb hb _=>Nat.le_of_lt hb
theorem dW (s:List UInt8) (hm:s.length≤maxLen) (w:World) (ht:fN w):Calls Tryz.prog 157 #[str s] w (cH w s):=by
 by_cases hl:100<s.length
 · exact wu s hm w hl
 · rcases hq:aY s with _|⟨t,_|⟨c,r⟩⟩
   · exact qD s w ht hl (by rw[hq];intro t h;cases h)
   · exact wA s t w ht hl hq
   · exact qD s w ht hl (by rw[hq];intro t h;cases h)
end Go.Proofs.YtakgjcfkdemipaaGreatDoor
