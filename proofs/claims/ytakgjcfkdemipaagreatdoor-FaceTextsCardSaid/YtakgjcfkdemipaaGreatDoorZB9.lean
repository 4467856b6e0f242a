/-
  Lemmas for the statement: contract: kind.read. No condition.
-/
import Derived.Test.YtakgjcfkdemipaaGreatDoorZBn
import Derived.Test.YtakgjcfkdemipaaGreatDoorZB7
set_option maxHeartbeats 12800000
namespace Go.Proofs.YtakgjcfkdemipaaGreatDoor
open Go.RowKit
set_option maxRecDepth 4000 in
theorem xT (s s2 : List UInt8) (G0 : s.length ≤ 1000) (hp : cV s) (h0 : bW (s.take (aj s)) = 0) (hkk : aW (s.take (aj s)) = 5 ∨ aW (s.take (aj s)) = 6) (hb : s.drop (aj s) = 91 :: s2) (ih : ∀ u : List UInt8, u.length < s.length → fH u) : fH s := by
 have hm:s.length≤maxLen:=by unfold maxLen;omega
 intro R Nd X rb w ht he hs
 have hE:=nj hp h0 hkk hb
 have hpre:=eP hp
 have HK:=zh (kF s)
 have nI:=zh (gP (s.take (aj s)))
 have hk0:((wk (s.take (aj s)):Int) != 0)=false:=by rw[HK.out,h0];rfl
 have qP:=bX s
 have qW:(s.take (aj s)).length≤maxLen:=by simp;omega
 have hk1:((wk (s.take (aj s)++[91]):Int)==0)=false:=by rw[nI.out];rcases hkk with h|h<;>rw[h]<;>rfl
 have uX:((wk (s.take (aj s)++[91]):Int)==7)=false:=by rw[nI.out];rcases hkk with h|h<;>rw[h]<;>rfl
 have NS:(((wk (s.take (aj s)++[91]):Int)==5)=true∧((wk (s.take (aj s)++[91]):Int)==6)=false)∨(((wk (s.take (aj s)++[91]):Int)==5)=false∧((wk (s.take (aj s)++[91]):Int)==6)=true):=by rw[nI.out];rcases hkk with h|h<;>rw[h]<;>simp
 have mG:aW (s.take (aj s))=wk (s.take (aj s)++[91]):=nI.out.symm
 rw[mG] at hE
 have HB:=zh hb
 have HE:=zh hE
 clear hE
 clear h0 hp hkk mG
 rcases NS with⟨IE,mF⟩|⟨IE,mF⟩
 all_goals
  have PF:s2.length<s.length:=by
   have:=congrArg List.length hb;simp at this;omega
  have h1:=St.start ht he hs;have a1:=h1.env.r;go_enter Tryz.func252,Tryz.ntmps252;go_wp2_with fail;generalize w.alloc (.cells #[.int .u8 0,.string ⟨#[]⟩,.slice none 0 0] 174)=W1 at *;refine(cL s [63,116] rb _ h1.rest.cell hpre).mono ?_;rintro e w1 ⟨rfl,rfl⟩;go_wp2_with fail;refine(eC s rb _ hm h1.rest).mono ?_;rintro e w2 ⟨rfl,hr2,lq⟩;have h2:=h1.next lq hr2
  have b1:=h2.env.r;have b2:=h2.env.need;rw[hb] at h2;go_wp2_with (first|(go_at_call 255;refine(jD _ _).mono ?_;rintro e w0 ⟨rfl,rfl⟩)|(go_at_call 253;refine(dN [91] s2 rb _ h2.rest).mono ?_;rintro e w3 ⟨rfl,hr3,xg⟩;have h3:=h2.next xg hr3;have b3:=λo=>(h3.alloc o).env.need;have b4:=λo=>(h3.alloc o).env.r;have b5:=λo=>(h3.alloc o).env.next)|(go_at_call 251;refine(dS _).mono ?_;rintro e w0 ⟨rfl,rfl⟩));have hx:=heap_alloc_new w3 (.cells #[.int .u8 (wk (s.take (aj s)++[91])),.string ⟨(s.take (aj s)).toArray⟩,.slice none 0 0] 174);have h5:=h3.alloc (.cells #[.int .u8 (wk (s.take (aj s)++[91])),.string ⟨(s.take (aj s)).toArray⟩,.slice none 0 0] 174);have bL:=h3.size;have cD:w3.heap.size≠rb:=by have:=h3.lt;omega
  generalize Ku:w3.alloc (.cells #[.int .u8 (wk (s.take (aj s)++[91])),.string ⟨(s.take (aj s)).toArray⟩,.slice none 0 0] 174)=W5 at *;have L0:Lp w R Nd X rb w3.heap.size (wk (s.take (aj s)++[91])) (s.take (aj s)) s2 W5 .nil s2:=
   Lp.start h5 bL hx
  clear hx h5 b3 b4 b5 Ku;generalize w3.heap.size=B1 at *;clear h3 hr3 xg
  go_loopg [9] s2.length (λn _ wr=>∃dn u,n=u.length∧Lp w R Nd X rb B1 (wk (s.take (aj s)++[91])) (s.take (aj s)) s2 wr dn u)
  case atStart=>exact⟨_,_,rfl,L0⟩
  case round =>
   clear L0;obtain⟨dn,u,rfl,L⟩:=hrel;obtain⟨st,lo,len,⟨v,hrow,hv⟩,eq⟩:=id L;obtain⟨p,c,rfl,hsh⟩:=hv.Kc.shape;have d1:=st.env.r;have Cd:u.length≤maxLen:=by omega
   have hdl:dn.len≤1000:=by omega
   go_upto_region 21 with(go_at_call 254;refine(eC u rb _ Cd st.rest).mono ?_;rintro e w6 ⟨rfl,JS,mF⟩);have h6:=st.next mF JS
   have hX:=heap_alloc_new w6 (.cells #[.string ⟨(u.take (aj u)).toArray⟩,.int .u8 0,.string ⟨#[]⟩,.slice none 0 0] 192);have h7:=h6.alloc (.cells #[.string ⟨(u.take (aj u)).toArray⟩,.int .u8 0,.string ⟨#[]⟩,.slice none 0 0] 192);have Is:w.heap.size<w6.heap.size:=h6.size;have It:w6.heap.size≠rb:=by have:=h6.lt;omega
   have qL:B1≠rb:=by have:=h6.lt;omega
   have M1:B1<w6.heap.size:=by have:=(Array.getElem?_eq_some_iff.1 (mF.heap hrow qL)).1;omega
   have k7:=mF.trans (Kept.alloc rb w6 (.cells #[.string ⟨(u.take (aj u)).toArray⟩,.int .u8 0,.string ⟨#[]⟩,.slice none 0 0] 192));have nN:=k7.heap hrow qL;have Fz:=(hv.mono (D':=λb=>B1<b∧b≠w6.heap.size) λb hb hlt=>⟨hb,by have:=mF.size;omega⟩).kept (w':=w6.alloc (.cells #[.string ⟨(u.take (aj u)).toArray⟩,.int .u8 0,.string ⟨#[]⟩,.slice none 0 0] 192)) λb hb hlt=>k7.block b hlt (λe=>by have hb:B1<b:=hb.1;have:=st.lt;injection e with e;omega)
   generalize w6.alloc (.cells #[.string ⟨(u.take (aj u)).toArray⟩,.int .u8 0,.string ⟨#[]⟩,.slice none 0 0] 192)=W7 at *;generalize w6.heap.size=Bx at *;have KX:∀b,(Value.slice p dn.len c).ownBlock=some b→b<W7.heap.size:=by
    obtain⟨_,a1,_,_⟩:=Fz;exact λb e=>aK a1 e
   obtain⟨p',c',hpc,hsh⟩:=Fz.Kc.shape;injection hpc with e1 _ e3;subst e1 e3;have hwn:(u.take (aj u)).length≤maxLen:=by simp;omega
   clear k7 hv hrow d1 JS mF h6;have q1:=h7.drew.env.need;have q2:=h7.drew.env.r;have q3:=(ak (w:=W7.drew) hX 0).trans rfl;have q4:=(ak (w:=W7.drew) nN 2).trans rfl;have S7:∀W',Kept rb W7.drew W'→(λW:World=>W.cell? ⟨Nd,0,none⟩=some (.func (.func 251) #[] #[])∧W.cell? ⟨R,0,none⟩=some (.pointer (some ⟨rb,0,none⟩))∧W.cell? ⟨Bx,0,none⟩=some (str (u.take (aj u)))∧W.cell? ⟨B1,2,none⟩=some (.slice p dn.len c)) W':=λW' k=>⟨k.cell q1 h7.qF.nn,k.cell q2 h7.qF.nr,k.cell q3 It,k.cell q4 qL⟩
   clear q1 q2 q3 q4
   by_cases hn:isName (u.take (aj u))=true
   case neg=>
    have hn:isName (u.take (aj u))=false:=by simpa using hn
    have hnone:aM s=none:=by rw[HE.out,L.nQ (uy λe=>by rw[e.1] at hn;exact Bool.noConfusion hn)]
    have HP:Hid (∀e w',aO w rb s e w'↔(e=.panicked dL∧Kept rb w w')):=by
     intro e w';unfold aO;rw[hnone]
    clear hnone L eq;refine wp_region_held_drew (S:=(λW:World=>W.cell? ⟨Nd,0,none⟩=some (.func (.func 251) #[] #[])∧W.cell? ⟨R,0,none⟩=some (.pointer (some ⟨rb,0,none⟩))∧W.cell? ⟨Bx,0,none⟩=some (str (u.take (aj u)))∧W.cell? ⟨B1,2,none⟩=some (.slice p dn.len c))) (by kernel_rfl) ?_ (λdg=>?_)
    · exact S7 _ (Kept.refl _ _)
    refine aF 0 66 (v:=?_) ?_ ?_;rotate_left
    · intro w aI
      try dsimp only at aI
      go_simp;try with_reducible rfl
    try simp only[pz,pw]
    refine aF 1 67 (v:=?_) ?_ ?_;rotate_left
    · intro w aI
      try dsimp only at aI
      go_simp;try with_reducible rfl
    try simp only[pz,pw]
    refine aF 2 68 (v:=?_) ?_ ?_;rotate_left
    · intro w aI
      try dsimp only at aI
      go_simp;try with_reducible rfl
    try simp only[pz,pw]
    refine wpAnyH_ready (rs:=[3]) (by kernel_rfl) (by simp) ?_;refine AllReadyH.cons rfl (λK hK=>?_) AllReadyH.nil;go_simp;go_wp2_with (go_at_call 88;refine(cC _ _ h7.drew.tab hwn).mono ?_;rw[hn];rintro e w8 ⟨rfl,tG⟩;have k8:=Kept.ey (b:=rb) tG zr);refine hK.out _ _ ?_ (λdg=>?_)
    · exact S7 _ k8
    clear hK K;try simp only[pz,pw]
    refine aF 4 70 (v:=?_) ?_ ?_;rotate_left
    · intro w aI
      try dsimp only at aI
      go_simp;try with_reducible rfl
    try simp only[pz,pw]
    refine bE 5 71 ?_;try simp only[pz,pw]
    refine bE 6 72 ?_;try simp only[pz,pw]
    refine bE 7 73 ?_;try simp only[pz,pw]
    refine bE 8 74 ?_;try simp only[pz,pw]
    refine aF 9 75 (v:=?_) ?_ ?_;rotate_left
    · intro w aI
      try dsimp only at aI
      go_simp;try with_reducible rfl
    try simp only[pz,pw]
    refine aF 10 76 (v:=?_) ?_ ?_;rotate_left
    · intro w aI
      try dsimp only at aI
      go_simp;try with_reducible rfl
    try simp only[pz,pw]
    refine bE 11 77 ?_;try simp only[pz,pw]
    refine bE 12 78 ?_;try simp only[pz,pw]
    refine bE 13 79 ?_;try simp only[pz,pw]
    refine bE 14 80 ?_;try simp only[pz,pw]
    refine bE 15 81 ?_;try simp only[pz,pw]
    refine bE 16 82 ?_;try simp only[pz,pw]
    refine bE 17 83 ?_;try simp only[pz,pw]
    refine bE 18 84 ?_;try simp only[pz,pw]
    refine bE 19 85 ?_;try simp only[pz,pw]
    refine bE 20 86 ?_;try simp only[pz,pw]
    refine bE 21 87 ?_;try simp only[pz,pw]
    refine bE 22 88 ?_;try simp only[pz,pw]
    refine bE 23 89 ?_;try simp only[pz,pw]
    refine bE 24 90 ?_;try simp only[pz,pw]
    refine bE 25 91 ?_;try simp only[pz,pw]
    refine bE 26 92 ?_;try simp only[pz,pw]
    refine bE 27 93 ?_;try simp only[pz,pw]
    refine bE 28 94 ?_;try simp only[pz,pw]
    refine aF 29 95 (v:=?_) ?_ ?_;rotate_left
    · intro w aI
      try dsimp only at aI
      go_simp;try with_reducible rfl
    try simp only[pz,pw]
    refine wpAnyH_ready (rs:=[30]) (by kernel_rfl) (by simp) ?_;refine AllReadyH.cons rfl (λK hK=>?_) AllReadyH.nil;go_simp;go_wp2_with (go_at_call 251;refine(fF _).mono ?_;rintro e w0 ⟨rfl,rfl⟩;exact⟨rfl,(HP.out _ _).2 ⟨rfl,h7.drew.kept.trans k8⟩⟩)
   case pos =>
    by_cases hc:∃u2,u.drop (aj u)=58::u2
    case neg=>
     have K1:=fB (λu2 e=>hc ⟨u2,e⟩);have hnone:aM s=none:=by rw[HE.out,L.nQ (ku λu2 e=>hc ⟨u2,e⟩)]
     have HP:Hid (∀e w',aO w rb s e w'↔(e=.panicked dL∧Kept rb w w')):=by
      intro e w';unfold aO;rw[hnone]
     clear hnone L eq hc;refine wp_region_held_drew (S:=(λW:World=>W.cell? ⟨Nd,0,none⟩=some (.func (.func 251) #[] #[])∧W.cell? ⟨R,0,none⟩=some (.pointer (some ⟨rb,0,none⟩))∧W.cell? ⟨Bx,0,none⟩=some (str (u.take (aj u)))∧W.cell? ⟨B1,2,none⟩=some (.slice p dn.len c))) (by kernel_rfl) ?_ (λdg=>?_)
     · exact S7 _ (Kept.refl _ _)
     refine aF 0 66 (v:=?_) ?_ ?_;rotate_left
     · intro w aI
       try dsimp only at aI
       go_simp;try with_reducible rfl
     try simp only[pz,pw]
     refine aF 1 67 (v:=?_) ?_ ?_;rotate_left
     · intro w aI
       try dsimp only at aI
       go_simp;try with_reducible rfl
     try simp only[pz,pw]
     refine aF 2 68 (v:=?_) ?_ ?_;rotate_left
     · intro w aI
       try dsimp only at aI
       go_simp;try with_reducible rfl
     try simp only[pz,pw]
     refine wpAnyH_ready (rs:=[3]) (by kernel_rfl) (by simp) ?_;refine AllReadyH.cons rfl (λK hK=>?_) AllReadyH.nil;go_simp;go_wp2_with (go_at_call 88;refine(cC _ _ h7.drew.tab hwn).mono ?_;rw[hn];rintro e w8 ⟨rfl,tG⟩;have k8:=Kept.ey (b:=rb) tG zr);refine hK.out _ _ ?_ (λdg=>?_)
     · exact S7 _ k8
     clear hK K;try simp only[pz,pw]
     refine aF 4 70 (v:=?_) ?_ ?_;rotate_left
     · intro w aI
       try dsimp only at aI
       go_simp;try with_reducible rfl
     try simp only[pz,pw]
     refine aF 5 71 (v:=?_) ?_ ?_;rotate_left
     · intro w aI
       try dsimp only at aI
       go_simp;try with_reducible rfl
     try simp only[pz,pw]
     refine aF 6 72 (v:=?_) ?_ ?_;rotate_left
     · intro w aI
       try dsimp only at aI
       go_simp;try with_reducible rfl
     try simp only[pz,pw]
     refine aF 7 73 (v:=?_) ?_ ?_;rotate_left
     · intro w aI
       try dsimp only at aI
       go_simp;try with_reducible rfl
     try simp only[pz,pw]
     refine wpAnyH_ready (rs:=[8]) (by kernel_rfl) (by simp) ?_;refine AllReadyH.cons rfl (λK hK=>?_) AllReadyH.nil;go_simp;go_wp2_with (go_at_call 253;refine(cL _ [58] rb _ (h7.drew.rest.below tG zr).cell K1).mono ?_;rintro e w0 ⟨rfl,rfl⟩);refine hK.out _ _ ?_ (λdg=>?_)
     · exact S7 _ k8
     clear hK K;try simp only[pz,pw]
     refine aF 9 75 (v:=?_) ?_ ?_;rotate_left
     · intro w aI
       try dsimp only at aI
       go_simp;try with_reducible rfl
     try simp only[pz,pw]
     refine aF 10 76 (v:=?_) ?_ ?_;rotate_left
     · intro w aI
       try dsimp only at aI
       go_simp;try with_reducible rfl
     try simp only[pz,pw]
     refine bE 11 77 ?_;try simp only[pz,pw]
     refine bE 12 78 ?_;try simp only[pz,pw]
     refine bE 13 79 ?_;try simp only[pz,pw]
     refine bE 14 80 ?_;try simp only[pz,pw]
     refine bE 15 81 ?_;try simp only[pz,pw]
     refine bE 16 82 ?_;try simp only[pz,pw]
     refine bE 17 83 ?_;try simp only[pz,pw]
     refine bE 18 84 ?_;try simp only[pz,pw]
     refine bE 19 85 ?_;try simp only[pz,pw]
     refine bE 20 86 ?_;try simp only[pz,pw]
     refine bE 21 87 ?_;try simp only[pz,pw]
     refine bE 22 88 ?_;try simp only[pz,pw]
     refine bE 23 89 ?_;try simp only[pz,pw]
     refine bE 24 90 ?_;try simp only[pz,pw]
     refine bE 25 91 ?_;try simp only[pz,pw]
     refine bE 26 92 ?_;try simp only[pz,pw]
     refine bE 27 93 ?_;try simp only[pz,pw]
     refine bE 28 94 ?_;try simp only[pz,pw]
     refine aF 29 95 (v:=?_) ?_ ?_;rotate_left
     · intro w aI
       try dsimp only at aI
       go_simp;try with_reducible rfl
     try simp only[pz,pw]
     refine wpAnyH_ready (rs:=[30]) (by kernel_rfl) (by simp) ?_;refine AllReadyH.cons rfl (λK hK=>?_) AllReadyH.nil;go_simp;go_wp2_with (go_at_call 251;refine(fF _).mono ?_;rintro e w0 ⟨rfl,rfl⟩;exact⟨rfl,(HP.out _ _).2 ⟨rfl,h7.drew.kept.trans k8⟩⟩)
    case pos =>
     obtain⟨u2,hc⟩:=hc;have hcl:u2.length<u.length:=by
      have:=congrArg List.length hc;simp at this;omega
     rw[hc] at h7
     by_cases ho:dn.len=0∨Op.bytesLess dn.last (u.take (aj u))=true
     case neg=>
      have hnone:aM s=none:=by rw[HE.out,L.nQ (uy λe=>ho e.2)]
      have hne:dn.len≠0:=λe=>ho (.inl e)
      have hlt:Op.bytesLess dn.last (u.take (aj u))=false:=by
       rcases DM:Op.bytesLess dn.last (u.take (aj u)) with _|_
       · rfl
       · exact absurd (.inr DM) ho
      obtain⟨g,rfl,IB,hg2,hg3,hg4⟩:=hsh hne;have hg1:B1<g:=IB.1;have N6:=h7.lt;have Fy:((dn.len:Int)==0)=false:=iB hne;have hwr:=uI hne hdl;have R8:dn.len - 1<dn.len:=Nat.sub_lt (Nat.pos_of_ne_zero hne) Nat.one_pos;have IC:g≠rb:=by omega
      have S8:∀W',Kept rb W7.drew W'→(λW:World=>W.cell? ⟨Nd,0,none⟩=some (.func (.func 251) #[] #[])∧W.cell? ⟨R,0,none⟩=some (.pointer (some ⟨rb,0,none⟩))∧W.cell? ⟨Bx,0,none⟩=some (str (u.take (aj u)))∧W.cell? ⟨B1,2,none⟩=some (.slice (some ⟨g,0,none⟩) dn.len c)∧W.cell? ⟨g,(dn.len - 1) * 4,none⟩=some (str dn.last)) W':=λW' k=>⟨(S7 W' k).1,(S7 W' k).2.1,(S7 W' k).2.2.1,(S7 W' k).2.2.2,k.cell (w:=W7.drew) hg4 IC⟩
      have HP:Hid (∀e w',aO w rb s e w'↔(e=.panicked dL∧Kept rb w w')):=by
       intro e w';unfold aO;rw[hnone]
      clear hnone L eq ho hc S7 hsh;refine wp_region_held_drew (S:=(λW:World=>W.cell? ⟨Nd,0,none⟩=some (.func (.func 251) #[] #[])∧W.cell? ⟨R,0,none⟩=some (.pointer (some ⟨rb,0,none⟩))∧W.cell? ⟨Bx,0,none⟩=some (str (u.take (aj u)))∧W.cell? ⟨B1,2,none⟩=some (.slice (some ⟨g,0,none⟩) dn.len c)∧W.cell? ⟨g,(dn.len - 1) * 4,none⟩=some (str dn.last))) (by kernel_rfl) ?_ (λdg=>?_)
      · exact S8 _ (Kept.refl _ _)
      refine aF 0 66 (v:=?_) ?_ ?_;rotate_left
      · intro w aI
        try dsimp only at aI
        go_simp;try with_reducible rfl
      try simp only[pz,pw]
      refine aF 1 67 (v:=?_) ?_ ?_;rotate_left
      · intro w aI
        try dsimp only at aI
        go_simp;try with_reducible rfl
      try simp only[pz,pw]
      refine aF 2 68 (v:=?_) ?_ ?_;rotate_left
      · intro w aI
        try dsimp only at aI
        go_simp;try with_reducible rfl
      try simp only[pz,pw]
      refine wpAnyH_ready (rs:=[3]) (by kernel_rfl) (by simp) ?_;refine AllReadyH.cons rfl (λK hK=>?_) AllReadyH.nil;go_simp;go_wp2_with (go_at_call 88;refine(cC _ _ h7.drew.tab hwn).mono ?_;rw[hn];rintro e w8 ⟨rfl,tG⟩;have k8:=Kept.ey (b:=rb) tG zr);refine hK.out _ _ ?_ (λdg=>?_)
      · exact S8 _ k8
      clear hK K;try simp only[pz,pw]
      refine aF 4 70 (v:=?_) ?_ ?_;rotate_left
      · intro w aI
        try dsimp only at aI
        go_simp;try with_reducible rfl
      try simp only[pz,pw]
      refine aF 5 71 (v:=?_) ?_ ?_;rotate_left
      · intro w aI
        try dsimp only at aI
        go_simp;try with_reducible rfl
      try simp only[pz,pw]
      refine aF 6 72 (v:=?_) ?_ ?_;rotate_left
      · intro w aI
        try dsimp only at aI
        go_simp;try with_reducible rfl
      try simp only[pz,pw]
      refine aF 7 73 (v:=?_) ?_ ?_;rotate_left
      · intro w aI
        try dsimp only at aI
        go_simp;try with_reducible rfl
      try simp only[pz,pw]
      refine wpAnyH_ready (rs:=[8]) (by kernel_rfl) (by simp) ?_;refine AllReadyH.cons rfl (λK hK=>?_) AllReadyH.nil;go_simp;go_wp2_with (go_at_call 253;refine(dN [58] u2 rb _ (h7.drew.rest.below tG zr)).mono ?_;rintro e w9 ⟨rfl,C6,mG⟩;have k9:=k8.trans mG);refine hK.out _ _ ?_ (λdg=>?_)
      · exact S8 _ k9
      clear hK K;try simp only[pz,pw]
      refine aF 9 75 (v:=?_) ?_ ?_;rotate_left
      · intro w aI
        try dsimp only at aI
        go_simp;try with_reducible rfl
      try simp only[pz,pw]
      refine aF 10 76 (v:=?_) ?_ ?_;rotate_left
      · intro w aI
        try dsimp only at aI
        go_simp;try with_reducible rfl
      try simp only[pz,pw]
      refine aF 11 77 (v:=?_) ?_ ?_;rotate_left
      · intro w aI
        try dsimp only at aI
        go_simp;try with_reducible rfl
      try simp only[pz,pw]
      refine aF 12 78 (v:=?_) ?_ ?_;rotate_left
      · intro w aI
        try dsimp only at aI
        go_simp;try with_reducible rfl
      try simp only[pz,pw]
      refine aF 13 79 (v:=?_) ?_ ?_;rotate_left
      · intro w aI
        try dsimp only at aI
        go_simp;try with_reducible rfl
      try simp only[pz,pw]
      refine aF 14 80 (v:=?_) ?_ ?_;rotate_left
      · intro w aI
        try dsimp only at aI
        go_simp;try with_reducible rfl
      try simp only[pz,pw]
      refine aF 15 81 (v:=?_) ?_ ?_;rotate_left
      · intro w aI
        try dsimp only at aI
        go_simp;try with_reducible rfl
      try simp only[pz,pw]
      refine aF 16 82 (v:=?_) ?_ ?_;rotate_left
      · intro w aI
        try dsimp only at aI
        go_simp;try with_reducible rfl
      try simp only[pz,pw]
      refine aF 17 83 (v:=?_) ?_ ?_;rotate_left
      · intro w aI
        try dsimp only at aI
        go_simp;try with_reducible rfl
      try simp only[pz,pw]
      refine aF 18 84 (v:=?_) ?_ ?_;rotate_left
      · intro w aI
        try dsimp only at aI
        go_simp;try with_reducible rfl
      try simp only[pz,pw]
      refine aF 19 85 (v:=?_) ?_ ?_;rotate_left
      · intro w aI
        try dsimp only at aI
        go_simp;try with_reducible rfl
      try simp only[pz,pw]
      refine aF 20 86 (v:=?_) ?_ ?_;rotate_left
      · intro w aI
        try dsimp only at aI
        go_simp;try with_reducible rfl
      try simp only[pz,pw]
      refine aF 21 87 (v:=?_) ?_ ?_;rotate_left
      · intro w aI
        try dsimp only at aI
        go_simp;try with_reducible rfl
      try simp only[pz,pw]
      refine aF 22 88 (v:=?_) ?_ ?_;rotate_left
      · intro w aI
        try dsimp only at aI
        go_simp;try with_reducible rfl
      try simp only[pz,pw]
      refine aF 23 89 (v:=?_) ?_ ?_;rotate_left
      · intro w aI
        try dsimp only at aI
        go_simp;try with_reducible rfl
      try simp only[pz,pw]
      refine aF 24 90 (v:=?_) ?_ ?_;rotate_left
      · intro w aI
        try dsimp only at aI
        go_simp;try with_reducible rfl
      try simp only[pz,pw]
      refine aF 25 91 (v:=?_) ?_ ?_;rotate_left
      · intro w aI
        try dsimp only at aI
        go_simp;try with_reducible rfl
      try simp only[pz,pw]
      refine aF 26 92 (v:=?_) ?_ ?_;rotate_left
      · intro w aI
        try dsimp only at aI
        go_simp;try with_reducible rfl
      try simp only[pz,pw]
      refine aF 27 93 (v:=?_) ?_ ?_;rotate_left
      · intro w aI
        try dsimp only at aI
        go_simp;try with_reducible rfl
      try simp only[pz,pw]
      refine aF 28 94 (v:=?_) ?_ ?_;rotate_left
      · intro w aI
        try dsimp only at aI
        go_simp;try with_reducible rfl
      try simp only[pz,pw]
      refine aF 29 95 (v:=?_) ?_ ?_;rotate_left
      · intro w aI
        try dsimp only at aI
        go_simp;try with_reducible rfl
      try simp only[pz,pw]
      refine wpAnyH_ready (rs:=[30]) (by kernel_rfl) (by simp) ?_;refine AllReadyH.cons rfl (λK hK=>?_) AllReadyH.nil;go_simp;go_wp2_with (go_at_call 251;refine(fF _).mono ?_;rintro e w0 ⟨rfl,rfl⟩;exact⟨rfl,(HP.out _ _).2 ⟨rfl,h7.drew.kept.trans k9⟩⟩)
     case pos =>
      have Ia:=zh (show mY dn (u.take (aj u)) from⟨hn,ho⟩)
      go_cut [] from 61 to 110 (λwx=>Kept rb W7 wx∧Rest wx rb u2)
      case first=>
       by_cases hz:dn.len=0
       case pos=>
        have Fy:=Ec hz;clear hsh ho L eq Ia hc;refine wp_region_held_drew (S:=(λW:World=>W.cell? ⟨Nd,0,none⟩=some (.func (.func 251) #[] #[])∧W.cell? ⟨R,0,none⟩=some (.pointer (some ⟨rb,0,none⟩))∧W.cell? ⟨Bx,0,none⟩=some (str (u.take (aj u)))∧W.cell? ⟨B1,2,none⟩=some (.slice p dn.len c))) (by kernel_rfl) ?_ (λdg=>?_)
        · exact S7 _ (Kept.refl _ _)
        refine aF 0 66 (v:=?_) ?_ ?_;rotate_left
        · intro w aI
          try dsimp only at aI
          go_simp;try with_reducible rfl
        try simp only[pz,pw]
        refine aF 1 67 (v:=?_) ?_ ?_;rotate_left
        · intro w aI
          try dsimp only at aI
          go_simp;try with_reducible rfl
        try simp only[pz,pw]
        refine aF 2 68 (v:=?_) ?_ ?_;rotate_left
        · intro w aI
          try dsimp only at aI
          go_simp;try with_reducible rfl
        try simp only[pz,pw]
        refine wpAnyH_ready (rs:=[3]) (by kernel_rfl) (by simp) ?_;refine AllReadyH.cons rfl (λK hK=>?_) AllReadyH.nil;go_simp;go_wp2_with (go_at_call 88;refine(cC _ _ h7.drew.tab hwn).mono ?_;rw[hn];rintro e w8 ⟨rfl,tG⟩;have k8:=Kept.ey (b:=rb) tG zr);refine hK.out _ _ ?_ (λdg=>?_)
        · exact S7 _ k8
        clear hK K;try simp only[pz,pw]
        refine aF 4 70 (v:=?_) ?_ ?_;rotate_left
        · intro w aI
          try dsimp only at aI
          go_simp;try with_reducible rfl
        try simp only[pz,pw]
        refine aF 5 71 (v:=?_) ?_ ?_;rotate_left
        · intro w aI
          try dsimp only at aI
          go_simp;try with_reducible rfl
        try simp only[pz,pw]
        refine aF 6 72 (v:=?_) ?_ ?_;rotate_left
        · intro w aI
          try dsimp only at aI
          go_simp;try with_reducible rfl
        try simp only[pz,pw]
        refine aF 7 73 (v:=?_) ?_ ?_;rotate_left
        · intro w aI
          try dsimp only at aI
          go_simp;try with_reducible rfl
        try simp only[pz,pw]
        refine wpAnyH_ready (rs:=[8]) (by kernel_rfl) (by simp) ?_;refine AllReadyH.cons rfl (λK hK=>?_) AllReadyH.nil;go_simp;go_wp2_with (go_at_call 253;refine(dN [58] u2 rb _ (h7.drew.rest.below tG zr)).mono ?_;rintro e w9 ⟨rfl,C6,mG⟩;have k9:=k8.trans mG);refine hK.out _ _ ?_ (λdg=>?_)
        · exact S7 _ k9
        clear hK K;try simp only[pz,pw]
        refine aF 9 75 (v:=?_) ?_ ?_;rotate_left
        · intro w aI
          try dsimp only at aI
          go_simp;try with_reducible rfl
        try simp only[pz,pw]
        refine aF 10 76 (v:=?_) ?_ ?_;rotate_left
        · intro w aI
          try dsimp only at aI
          go_simp;try with_reducible rfl
        try simp only[pz,pw]
        refine aF 11 77 (v:=?_) ?_ ?_;rotate_left
        · intro w aI
          try dsimp only at aI
          go_simp;try with_reducible rfl
        try simp only[pz,pw]
        refine aF 12 78 (v:=?_) ?_ ?_;rotate_left
        · intro w aI
          try dsimp only at aI
          go_simp;try with_reducible rfl
        try simp only[pz,pw]
        refine aF 13 79 (v:=?_) ?_ ?_;rotate_left
        · intro w aI
          try dsimp only at aI
          go_simp;try with_reducible rfl
        try simp only[pz,pw]
        refine aF 14 80 (v:=?_) ?_ ?_;rotate_left
        · intro w aI
          try dsimp only at aI
          go_simp;try with_reducible rfl
        try simp only[pz,pw]
        refine aF 15 81 (v:=?_) ?_ ?_;rotate_left
        · intro w aI
          try dsimp only at aI
          go_simp;try with_reducible rfl
        try simp only[pz,pw]
        refine bE 16 82 ?_;try simp only[pz,pw]
        refine bE 17 83 ?_;try simp only[pz,pw]
        refine bE 18 84 ?_;try simp only[pz,pw]
        refine bE 19 85 ?_;try simp only[pz,pw]
        refine bE 20 86 ?_;try simp only[pz,pw]
        refine bE 21 87 ?_;try simp only[pz,pw]
        refine bE 22 88 ?_;try simp only[pz,pw]
        refine bE 23 89 ?_;try simp only[pz,pw]
        refine bE 24 90 ?_;try simp only[pz,pw]
        refine bE 25 91 ?_;try simp only[pz,pw]
        refine bE 26 92 ?_;try simp only[pz,pw]
        refine bE 27 93 ?_;try simp only[pz,pw]
        refine aF 28 94 (v:=?_) ?_ ?_;rotate_left
        · intro w aI
          try dsimp only at aI
          go_simp;try with_reducible rfl
        try simp only[pz,pw]
        refine aF 29 95 (v:=?_) ?_ ?_;rotate_left
        · intro w aI
          try dsimp only at aI
          go_simp;try with_reducible rfl
        try simp only[pz,pw]
        refine wpAnyH_ready (rs:=[30]) (by kernel_rfl) (by simp) ?_;refine AllReadyH.cons rfl (λK hK=>?_) AllReadyH.nil;go_simp;go_wp2_with (go_at_call 251;refine(dS _).mono ?_;rintro e w0 ⟨rfl,rfl⟩);refine hK.out _ _ ?_ (λdg=>?_)
        · exact S7 _ k9
        clear hK K;try simp only[pz,pw]
        refine wpAnyH_done (by kernel_rfl) ?_ _;go_wp2_with fail
        go_meet
        case rel=>exact⟨(Kept.refl _ _).drew.trans k9,C6⟩
       case neg=>
        have hlt:Op.bytesLess dn.last (u.take (aj u))=true:=by
         rcases ho with ho|ho
         · exact absurd ho hz
         · exact ho
        obtain⟨g,rfl,IB,hg2,hg3,hg4⟩:=hsh hz;have hg1:B1<g:=IB.1;have N6:=h7.lt;have Fy:=iB hz;have hwr:=uI hz hdl;have R8:dn.len - 1<dn.len:=Nat.sub_lt (Nat.pos_of_ne_zero hz) Nat.one_pos;have IC:g≠rb:=by omega
        have S8:∀W',Kept rb W7.drew W'→(λW:World=>W.cell? ⟨Nd,0,none⟩=some (.func (.func 251) #[] #[])∧W.cell? ⟨R,0,none⟩=some (.pointer (some ⟨rb,0,none⟩))∧W.cell? ⟨Bx,0,none⟩=some (str (u.take (aj u)))∧W.cell? ⟨B1,2,none⟩=some (.slice (some ⟨g,0,none⟩) dn.len c)∧W.cell? ⟨g,(dn.len - 1) * 4,none⟩=some (str dn.last)) W':=λW' k=>⟨(S7 W' k).1,(S7 W' k).2.1,(S7 W' k).2.2.1,(S7 W' k).2.2.2,k.cell (w:=W7.drew) hg4 IC⟩
        clear ho S7 hsh L eq Ia hc;refine wp_region_held_drew (S:=(λW:World=>W.cell? ⟨Nd,0,none⟩=some (.func (.func 251) #[] #[])∧W.cell? ⟨R,0,none⟩=some (.pointer (some ⟨rb,0,none⟩))∧W.cell? ⟨Bx,0,none⟩=some (str (u.take (aj u)))∧W.cell? ⟨B1,2,none⟩=some (.slice (some ⟨g,0,none⟩) dn.len c)∧W.cell? ⟨g,(dn.len - 1) * 4,none⟩=some (str dn.last))) (by kernel_rfl) ?_ (λdg=>?_)
        · exact S8 _ (Kept.refl _ _)
        refine aF 0 66 (v:=?_) ?_ ?_;rotate_left
        · intro w aI
          try dsimp only at aI
          go_simp;try with_reducible rfl
        try simp only[pz,pw]
        refine aF 1 67 (v:=?_) ?_ ?_;rotate_left
        · intro w aI
          try dsimp only at aI
          go_simp;try with_reducible rfl
        try simp only[pz,pw]
        refine aF 2 68 (v:=?_) ?_ ?_;rotate_left
        · intro w aI
          try dsimp only at aI
          go_simp;try with_reducible rfl
        try simp only[pz,pw]
        refine wpAnyH_ready (rs:=[3]) (by kernel_rfl) (by simp) ?_;refine AllReadyH.cons rfl (λK hK=>?_) AllReadyH.nil;go_simp;go_wp2_with (go_at_call 88;refine(cC _ _ h7.drew.tab hwn).mono ?_;rw[hn];rintro e w8 ⟨rfl,tG⟩;have k8:=Kept.ey (b:=rb) tG zr);refine hK.out _ _ ?_ (λdg=>?_)
        · exact S8 _ k8
        clear hK K;try simp only[pz,pw]
        refine aF 4 70 (v:=?_) ?_ ?_;rotate_left
        · intro w aI
          try dsimp only at aI
          go_simp;try with_reducible rfl
        try simp only[pz,pw]
        refine aF 5 71 (v:=?_) ?_ ?_;rotate_left
        · intro w aI
          try dsimp only at aI
          go_simp;try with_reducible rfl
        try simp only[pz,pw]
        refine aF 6 72 (v:=?_) ?_ ?_;rotate_left
        · intro w aI
          try dsimp only at aI
          go_simp;try with_reducible rfl
        try simp only[pz,pw]
        refine aF 7 73 (v:=?_) ?_ ?_;rotate_left
        · intro w aI
          try dsimp only at aI
          go_simp;try with_reducible rfl
        try simp only[pz,pw]
        refine wpAnyH_ready (rs:=[8]) (by kernel_rfl) (by simp) ?_;refine AllReadyH.cons rfl (λK hK=>?_) AllReadyH.nil;go_simp;go_wp2_with (go_at_call 253;refine(dN [58] u2 rb _ (h7.drew.rest.below tG zr)).mono ?_;rintro e w9 ⟨rfl,C6,mG⟩;have k9:=k8.trans mG);refine hK.out _ _ ?_ (λdg=>?_)
        · exact S8 _ k9
        clear hK K;try simp only[pz,pw]
        refine aF 9 75 (v:=?_) ?_ ?_;rotate_left
        · intro w aI
          try dsimp only at aI
          go_simp;try with_reducible rfl
        try simp only[pz,pw]
        refine aF 10 76 (v:=?_) ?_ ?_;rotate_left
        · intro w aI
          try dsimp only at aI
          go_simp;try with_reducible rfl
        try simp only[pz,pw]
        refine aF 11 77 (v:=?_) ?_ ?_;rotate_left
        · intro w aI
          try dsimp only at aI
          go_simp;try with_reducible rfl
        try simp only[pz,pw]
        refine aF 12 78 (v:=?_) ?_ ?_;rotate_left
        · intro w aI
          try dsimp only at aI
          go_simp;try with_reducible rfl
        try simp only[pz,pw]
        refine aF 13 79 (v:=?_) ?_ ?_;rotate_left
        · intro w aI
          try dsimp only at aI
          go_simp;try with_reducible rfl
        try simp only[pz,pw]
        refine aF 14 80 (v:=?_) ?_ ?_;rotate_left
        · intro w aI
          try dsimp only at aI
          go_simp;try with_reducible rfl
        try simp only[pz,pw]
        refine aF 15 81 (v:=?_) ?_ ?_;rotate_left
        · intro w aI
          try dsimp only at aI
          go_simp;try with_reducible rfl
        try simp only[pz,pw]
        refine aF 16 82 (v:=?_) ?_ ?_;rotate_left
        · intro w aI
          try dsimp only at aI
          go_simp;try with_reducible rfl
        try simp only[pz,pw]
        refine aF 17 83 (v:=?_) ?_ ?_;rotate_left
        · intro w aI
          try dsimp only at aI
          go_simp;try with_reducible rfl
        try simp only[pz,pw]
        refine aF 18 84 (v:=?_) ?_ ?_;rotate_left
        · intro w aI
          try dsimp only at aI
          go_simp;try with_reducible rfl
        try simp only[pz,pw]
        refine aF 19 85 (v:=?_) ?_ ?_;rotate_left
        · intro w aI
          try dsimp only at aI
          go_simp;try with_reducible rfl
        try simp only[pz,pw]
        refine aF 20 86 (v:=?_) ?_ ?_;rotate_left
        · intro w aI
          try dsimp only at aI
          go_simp;try with_reducible rfl
        try simp only[pz,pw]
        refine aF 21 87 (v:=?_) ?_ ?_;rotate_left
        · intro w aI
          try dsimp only at aI
          go_simp;try with_reducible rfl
        try simp only[pz,pw]
        refine aF 22 88 (v:=?_) ?_ ?_;rotate_left
        · intro w aI
          try dsimp only at aI
          go_simp;try with_reducible rfl
        try simp only[pz,pw]
        refine aF 23 89 (v:=?_) ?_ ?_;rotate_left
        · intro w aI
          try dsimp only at aI
          go_simp;try with_reducible rfl
        try simp only[pz,pw]
        refine aF 24 90 (v:=?_) ?_ ?_;rotate_left
        · intro w aI
          try dsimp only at aI
          go_simp;try with_reducible rfl
        try simp only[pz,pw]
        refine aF 25 91 (v:=?_) ?_ ?_;rotate_left
        · intro w aI
          try dsimp only at aI
          go_simp;try with_reducible rfl
        try simp only[pz,pw]
        refine aF 26 92 (v:=?_) ?_ ?_;rotate_left
        · intro w aI
          try dsimp only at aI
          go_simp;try with_reducible rfl
        try simp only[pz,pw]
        refine aF 27 93 (v:=?_) ?_ ?_;rotate_left
        · intro w aI
          try dsimp only at aI
          go_simp;try with_reducible rfl
        try simp only[pz,pw]
        refine aF 28 94 (v:=?_) ?_ ?_;rotate_left
        · intro w aI
          try dsimp only at aI
          go_simp;try with_reducible rfl
        try simp only[pz,pw]
        refine aF 29 95 (v:=?_) ?_ ?_;rotate_left
        · intro w aI
          try dsimp only at aI
          go_simp;try with_reducible rfl
        try simp only[pz,pw]
        refine wpAnyH_ready (rs:=[30]) (by kernel_rfl) (by simp) ?_;refine AllReadyH.cons rfl (λK hK=>?_) AllReadyH.nil;go_simp;go_wp2_with (go_at_call 251;refine(dS _).mono ?_;rintro e w0 ⟨rfl,rfl⟩);refine hK.out _ _ ?_ (λdg=>?_)
        · exact S8 _ k9
        clear hK K;try simp only[pz,pw]
        refine wpAnyH_done (by kernel_rfl) ?_ _;go_wp2_with fail
        go_meet
        case rel=>exact⟨(Kept.refl _ _).drew.trans k9,C6⟩
      case rest =>
       obtain⟨kx,rx⟩:=hcut;have h9:=h7.next kx rx
       have Pt:=kx.heap hX It;have G4:=kx.heap nN qL;have He:=Fz.kept (w':=wc) λb hb hlt=>kx.block b hlt (λe=>by have hb:B1<b:=hb.1;have:=h7.lt;injection e with e;omega)
       have e9:=h9.env.next
       have LH:=zh L;clear L eq S7 hsh nN Fz;go_wp2_with fail;rcases hq:aM u2 with _|⟨t,r⟩
       · have hnone:aM s=none:=by rw[HE.out,LH.out.nQ (by rw[rS Ia.out hc,hq])]
         refine(ih u2 (by omega) R Nd X rb wc h9.tab h9.env h9.rest).mono ?_;intro e yY hpost;unfold aO at hpost;rw[hq] at hpost;obtain⟨rfl,zy⟩:=hpost;exact⟨rfl,by unfold aO;rw[hnone];exact⟨rfl,h9.kept.trans zy⟩⟩
       · have HQ := zh hq
         have HC:=zh hc;refine(ih u2 (by omega) R Nd X rb wc h9.tab h9.env h9.rest).mono ?_;intro e yY hpost;unfold aO at hpost;rw[hq] at hpost;obtain⟨⟨vt,rfl,Oi⟩,K2,zy⟩:=hpost;clear hq hc;have h10:=h9.next zy K2
         have sA:=zy.heap Pt It;have zA:=zy.heap G4 qL;have Le:=He.kept (w':=yY) λb hb hlt=>zy.block b hlt (λe=>by have hb:B1<b:=hb.1;have:=h7.lt;injection e with e;omega)
         have f1:=az sA 1;have f2:=az sA 2;have f3:=az sA 3;have c0:=(ak sA 0).trans rfl;have c1:=(ak sA 1).trans rfl;have c2:=(ak sA 2).trans rfl;have c3:=(ak sA 3).trans rfl;obtain⟨pt,ct,rfl,_⟩:=Oi.shape;have g2:=(ak zA 2).trans rfl;clear Pt G4 He e9;have Nz:=(Array.getElem?_eq_some_iff.1 sA).1;have Rw:=kx.size;have Rv:=(Array.getElem?_eq_some_iff.1 hX).1;have RQ:=h7.lt;go_upto_region 23 with fail;have JO:(((yY.setCell ⟨Bx,1,none⟩ (.int .u8 t.k)).setCell ⟨Bx,2,none⟩ (str t.n)).setCell ⟨Bx,3,none⟩ (.slice pt t.sub.len ct)).heap[Bx]? =some (.cells #[str (u.take (aj u)),.int .u8 t.k,str t.n,.slice pt t.sub.len ct] 192 (0,0)):=cK (cK (cK sA 1 (.int .u8 t.k)) 2 (str t.n)) 3 (.slice pt t.sub.len ct);have ek:∀b,b≠Bx→(((yY.setCell ⟨Bx,1,none⟩ (.int .u8 t.k)).setCell ⟨Bx,2,none⟩ (str t.n)).setCell ⟨Bx,3,none⟩ (.slice pt t.sub.len ct)).heap[b]? =yY.heap[b]? :=λb hb=>by rw[Below.heap_setCell _ _ _ _ hb,Below.heap_setCell _ _ _ _ hb,Below.heap_setCell _ _ _ _ hb]
         have DY:=(ek B1 (Nat.ne_of_lt M1)).trans zA;have SG:=Le.kept (w':=((yY.setCell ⟨Bx,1,none⟩ (.int .u8 t.k)).setCell ⟨Bx,2,none⟩ (str t.n)).setCell ⟨Bx,3,none⟩ (.slice pt t.sub.len ct)) λb hb _=>ek b hb.2
         have Lh:=Oi.kept (w':=((yY.setCell ⟨Bx,1,none⟩ (.int .u8 t.k)).setCell ⟨Bx,2,none⟩ (str t.n)).setCell ⟨Bx,3,none⟩ (.slice pt t.sub.len ct)) λb hb _=>ek b (by have hb:wc.heap.size≤b:=hb;omega)
         have hB:=((h10.set Is 1 (.int .u8 t.k)).set Is 2 (str t.n)).set Is 3 (.slice pt t.sub.len ct);obtain⟨sc,jW,zz,PN⟩:=SG;obtain⟨i0,hi,hz0,hz1,hz2⟩:=info_parts xy;have PG:=LH.out.len;have zC:(dn.len+1) * 64≤140737488355328:=by omega
         have NZ:dn.len+1≤maxLen:=by unfold maxLen;omega
         clear ek Le Oi h10 sA zA f1 f2 f3 c0 c1 c2 c3 g2 K2 zy;generalize ((yY.setCell ⟨Bx,1,none⟩ (.int .u8 t.k)).setCell ⟨Bx,2,none⟩ (str t.n)).setCell ⟨Bx,3,none⟩ (.slice pt t.sub.len ct)=WB at *;have c0:=(ak JO 0).trans rfl;have c1:=(ak JO 1).trans rfl;have c2:=(ak JO 2).trans rfl;have c3:=(ak JO 3).trans rfl;have g2:=(ak DY 2).trans rfl;have hG:=heap_alloc_new WB (.cells #[str (u.take (aj u)),.int .u8 t.k,str t.n,.slice pt t.sub.len ct] 192);have Pb:=(vA (n:=1) (cs:=[str (u.take (aj u)),.int .u8 t.k,str t.n,.slice pt t.sub.len ct]) hG rfl (by decide)).cells (g:=WB.heap.size) rfl;have HG:=zh Pb;clear hG Pb;go_wp2_with (at_builtin;refine bq (WB.alloc (.cells #[str (u.take (aj u)),.int .u8 t.k,str t.n,.slice pt t.sub.len ct] 192)) rfl _ _ 172 rfl 0 192 i0 _ 4 64 mg hi hz0 hz1 hz2 rfl (by decide) _ _ _ rfl (jW.alloc _) ⟨WB.heap.size,0,none⟩ 1 1 [str (u.take (aj u)),.int .u8 t.k,str t.n,.slice pt t.sub.len ct] rfl rfl HG.out ?a2 (by decide) NZ zC (Nat.zero_le _) ?a3)
         case a2=>exact⟨rfl,rfl,rfl,rfl⟩
         case a3 =>
          intro v' Mp F4 FY KU;obtain⟨Hu,c11,rfl⟩:=bu F4;have Pu:=(Array.getElem?_eq_some_iff.1 JO).1;have Lc:(WB.alloc (.cells #[str (u.take (aj u)),.int .u8 t.k,str t.n,.slice pt t.sub.len ct] 192)).heap.size=WB.heap.size+1:=by simp
          have jx:=(Below.refl WB.heap.size WB).alloc zr (.cells #[str (u.take (aj u)),.int .u8 t.k,str t.n,.slice pt t.sub.len ct] 192);have hA:=hB.alloc (.cells #[str (u.take (aj u)),.int .u8 t.k,str t.n,.slice pt t.sub.len ct] 192);have G5:=(jx.block B1 (by omega)).trans DY;have Lg:=(Lh.kept (w':=WB.alloc (.cells #[str (u.take (aj u)),.int .u8 t.k,str t.n,.slice pt t.sub.len ct] 192)) λb _ hlt=>jx.block b hlt).mono (D':=λb=>(B1<b∧b≠Bx)∧(Value.slice p dn.len c).ownBlock≠some b) λb hb _=>by
           have hb:wc.heap.size≤b:=hb;refine⟨⟨by omega,by omega⟩,λe=>?_⟩;have:=KX b e;omega
          have KV:=PN.kept (w':=WB.alloc (.cells #[str (u.take (aj u)),.int .u8 t.k,str t.n,.slice pt t.sub.len ct] 192)) λb _ hlt=>jx.block b hlt
          have Lf:=(yZ.grow zz KV Lg ⟨by omega,by omega⟩ F4 FY (by rw[Lc];exact KU)).mono (D':=λb=>B1<b) λb hb _=>hb.1
          have h11:=hA.grown FY λb e=>by have:=zz b e;have hl:=LH.out.lo;omega
          have uY:=(FY.block B1 (by omega) (λe=>by have:=zz B1 e.symm;omega)).trans G5;generalize hL:dn.len+1=L at *;clear hA G5 Lg KV F4 FY KU jx hB JO DY Lh jW zz PN c0 c1 c2 c3 g2 HG;have g2:=(ak uY 2).trans rfl;have f2:=az uY 2;go_upto_region 24 with fail;have DZ:(Mp.setCell ⟨B1,2,none⟩ (.slice Hu L c11)).heap[B1]? =some (.cells #[.int .u8 (wk (s.take (aj s)++[91])),str (s.take (aj s)),.slice Hu L c11] 174 (0,0)):=cK uY 2 (.slice Hu L c11);have hS:=h11.set LH.out.lo 2 (.slice Hu L c11);have JU:=Lf.kept (w':=Mp.setCell ⟨B1,2,none⟩ (.slice Hu L c11)) λb hb _=>Below.heap_setCell _ _ _ _ (Nat.ne_of_gt hb)
          clear h11 Lf uY g2 f2;generalize Mp.setCell ⟨B1,2,none⟩ (.slice Hu L c11)=WS at *;have d1:=hS.env.r
          by_cases hr:∃r2,r=44::r2
          case pos=>
           obtain⟨r2,rfl⟩:=hr;have hr2:=gM HQ.out;simp only[List.length_cons] at hr2;have xo:=hS.rest;go_wp2_with (go_at_call 253;refine(dN [44] r2 rb _ xo).mono ?_;rintro e w12 ⟨rfl,N4,ID⟩)
           go_roundg r2.length
           case measure=>omega
           case rel=>
            refine⟨dn.snoc (u.take (aj u)) t,r2,rfl,hS.next ID N4,LH.out.lo,by rw[Fo.ry];omega,⟨_,ID.heap DZ qL,?_⟩,zh (LH.out.step_eq Ia.out HC.out HQ.out)⟩;exact JU.kept λb hb hlt=>ID.block b hlt (λe=>by have hb:B1<b:=hb;have:=hS.lt;have:=LH.out.lo;injection e with e;omega)
          case neg =>
           have DX:=fB (s:=r) (c:=44) (λr' e=>hr ⟨r',e⟩);have H9:=zh (LH.out.Ii Ia.out HC.out HQ.out (λr' e=>hr ⟨r',e⟩));have e1:=hS.env.need;have e2:=(ak DZ 2).trans rfl;clear hr;have hS1:=hS.drew.env.need;have nG:=hS.drew.env.r;have SS:∀W',Kept rb WS.drew W'→(λW:World=>W.cell? ⟨Nd,0,none⟩=some (.func (.func 251) #[] #[])∧W.cell? ⟨R,0,none⟩=some (.pointer (some ⟨rb,0,none⟩))) W':=λW' k=>⟨k.cell hS1 hS.qF.nn,k.cell nG hS.qF.nr⟩
           clear hS1 nG
           by_cases hle:L≤6
           case pos =>
            have hnd:Calls Tryz.prog 251 #[.bool (decide ((L:Int)≤6))] WS λe w'=>e=.returned (.tuple #[])∧WS=w':=by
             rw[decide_eq_true (show(L:Int)≤6 by omega)];exact dS _
            by_cases h93:∃r',r=93::r'
            case pos=>
             obtain⟨r',rfl⟩:=h93;have HP:Hid (aM s=some (⟨wk (s.take (aj s)++[91]),s.take (aj s),dn.snoc (u.take (aj u)) t⟩,r')):=by
              show _=_
              rw[HE.out,H9.out];simp only[Fo.ry,hL,if_pos hle]
             clear hle hL;go_wp2_with (first|(go_at_call 253;refine(cL _ [44] rb _ hS.rest.cell DX).mono ?_;rintro e w0 ⟨rfl,rfl⟩)|(go_at_call 251;refine hnd.mono ?_;rintro e w0 ⟨rfl,rfl⟩));refine wp_region_held_drew (S:=(λW:World=>W.cell? ⟨Nd,0,none⟩=some (.func (.func 251) #[] #[])∧W.cell? ⟨R,0,none⟩=some (.pointer (some ⟨rb,0,none⟩)))) (by kernel_rfl) ?_ (λdg=>?_)
             · exact SS _ (Kept.refl _ _)
             refine aF 0 117 (v:=?_) ?_ ?_;rotate_left
             · intro w aI
               try dsimp only at aI
               go_simp;try with_reducible rfl
             try simp only[pz,pw]
             refine aF 1 118 (v:=?_) ?_ ?_;rotate_left
             · intro w aI
               try dsimp only at aI
               go_simp;try with_reducible rfl
             try simp only[pz,pw]
             refine aF 2 119 (v:=?_) ?_ ?_;rotate_left
             · intro w aI
               try dsimp only at aI
               go_simp;try with_reducible rfl
             try simp only[pz,pw]
             refine aF 3 120 (v:=?_) ?_ ?_;rotate_left
             · intro w aI
               try dsimp only at aI
               go_simp;try with_reducible rfl
             try simp only[pz,pw]
             refine aF 4 121 (v:=?_) ?_ ?_;rotate_left
             · intro w aI
               try dsimp only at aI
               go_simp;try with_reducible rfl
             try simp only[pz,pw]
             refine aF 5 122 (v:=?_) ?_ ?_;rotate_left
             · intro w aI
               try dsimp only at aI
               go_simp;try with_reducible rfl
             try simp only[pz,pw]
             refine aF 6 123 (v:=?_) ?_ ?_;rotate_left
             · intro w aI
               try dsimp only at aI
               go_simp;try with_reducible rfl
             try simp only[pz,pw]
             refine wpAnyH_ready (rs:=[7]) (by kernel_rfl) (by simp) ?_;refine AllReadyH.cons rfl (λK hK=>?_) AllReadyH.nil;go_simp;go_wp2_with (go_at_call 253;refine(dN [93] r' rb _ hS.drew.rest).mono ?_;rintro e w9 ⟨rfl,C6,mG⟩);refine hK.out _ _ ?_ (λdg=>?_)
             · exact SS _ mG
             clear hK K;try simp only[pz,pw]
             refine aF 8 125 (v:=?_) ?_ ?_;rotate_left
             · intro w aI
               try dsimp only at aI
               go_simp;try with_reducible rfl
             try simp only[pz,pw]
             refine wpAnyH_ready (rs:=[9]) (by kernel_rfl) (by simp) ?_;refine AllReadyH.cons rfl (λK hK=>?_) AllReadyH.nil;go_simp;go_wp2_with (go_at_call 251;refine(dS _).mono ?_;rintro e w0 ⟨rfl,rfl⟩);refine hK.out _ _ ?_ (λdg=>?_)
             · exact SS _ mG
             clear hK K;try simp only[pz,pw]
             refine wpAnyH_done (by kernel_rfl) ?_ _;have h9:=hS.drew.next mG C6
             have D6:=mG.heap (w:=WS.drew) DZ qL;have He:=(JU.kept (w:=WS) (w':=WS.drew) (λ_ _ _=>rfl)).kept (w:=WS.drew) (w':=w9) λb hb hlt=>mG.block b hlt (λe=>by have hb:B1<b:=hb;have:=hS.lt;have:=LH.out.lo;injection e with e;omega)
             have x0:=(ak D6 0).trans rfl;have x1:=(ak D6 1).trans rfl;have x2:=(ak D6 2).trans rfl;obtain⟨⟨y0,y1,y2⟩,z0,z1,z2⟩:=h9.sN;clear SS hnd e1 e2 d1;go_wp2_with fail;refine bodyPost_ret (v:=.agg #[.int .u8 (wk (s.take (aj s)++[91])),str (s.take (aj s)),.slice Hu L c11]) (by simp[results,Tryz.results252,go_sem,y0,y1,y2]) rfl ?_;unfold aO;rw[HP.out];obtain⟨q1,q2⟩:=h9.done (.int .u8 (wk (s.take (aj s)++[91]))) (str (s.take (aj s))) (.slice Hu L c11);have hlo:=LH.out.lo;refine⟨⟨_,rfl,((He.Kc.mono (D':=λb=>w.heap.size<b) λb hb _=>by have hb:B1<b:=hb;show w.heap.size<b;omega).yC (λb hb=>Nat.ne_of_gt hb) _ _ _).mono λb hb _=>Nat.le_of_lt hb⟩,q1,q2⟩
            case neg=>
             have K0:=fB (s:=r) (c:=93) (λr' e=>h93 ⟨r',e⟩);have hnone:aM s=none:=by
              rw[HE.out,H9.out];rcases r with _|⟨x,r⟩
              · rfl
              · split
                · rename_i h;simp only[Option.some.injEq,Prod.mk.injEq,List.cons.injEq] at h;exact absurd ⟨_,by rw[h.2.1]⟩ h93
                · rfl
             have HP:Hid (∀e w',aO w rb s e w'↔(e=.panicked dL∧Kept rb w w')):=by
              intro e w';unfold aO;rw[hnone]
             clear hnone h93 hle hL;go_wp2_with (first|(go_at_call 253;refine(cL _ [44] rb _ hS.rest.cell DX).mono ?_;rintro e w0 ⟨rfl,rfl⟩)|(go_at_call 251;refine hnd.mono ?_;rintro e w0 ⟨rfl,rfl⟩));refine wp_region_held_drew (S:=(λW:World=>W.cell? ⟨Nd,0,none⟩=some (.func (.func 251) #[] #[])∧W.cell? ⟨R,0,none⟩=some (.pointer (some ⟨rb,0,none⟩)))) (by kernel_rfl) ?_ (λdg=>?_)
             · exact SS _ (Kept.refl _ _)
             refine aF 0 117 (v:=?_) ?_ ?_;rotate_left
             · intro w aI
               try dsimp only at aI
               go_simp;try with_reducible rfl
             try simp only[pz,pw]
             refine aF 1 118 (v:=?_) ?_ ?_;rotate_left
             · intro w aI
               try dsimp only at aI
               go_simp;try with_reducible rfl
             try simp only[pz,pw]
             refine aF 2 119 (v:=?_) ?_ ?_;rotate_left
             · intro w aI
               try dsimp only at aI
               go_simp;try with_reducible rfl
             try simp only[pz,pw]
             refine aF 3 120 (v:=?_) ?_ ?_;rotate_left
             · intro w aI
               try dsimp only at aI
               go_simp;try with_reducible rfl
             try simp only[pz,pw]
             refine aF 4 121 (v:=?_) ?_ ?_;rotate_left
             · intro w aI
               try dsimp only at aI
               go_simp;try with_reducible rfl
             try simp only[pz,pw]
             refine aF 5 122 (v:=?_) ?_ ?_;rotate_left
             · intro w aI
               try dsimp only at aI
               go_simp;try with_reducible rfl
             try simp only[pz,pw]
             refine aF 6 123 (v:=?_) ?_ ?_;rotate_left
             · intro w aI
               try dsimp only at aI
               go_simp;try with_reducible rfl
             try simp only[pz,pw]
             refine wpAnyH_ready (rs:=[7]) (by kernel_rfl) (by simp) ?_;refine AllReadyH.cons rfl (λK hK=>?_) AllReadyH.nil;go_simp;go_wp2_with (go_at_call 253;refine(cL _ [93] rb _ hS.drew.rest.cell K0).mono ?_;rintro e w0 ⟨rfl,rfl⟩);refine hK.out _ _ ?_ (λdg=>?_)
             · exact SS _ (Kept.refl _ _)
             clear hK K;try simp only[pz,pw]
             refine aF 8 125 (v:=?_) ?_ ?_;rotate_left
             · intro w aI
               try dsimp only at aI
               go_simp;try with_reducible rfl
             try simp only[pz,pw]
             refine wpAnyH_ready (rs:=[9]) (by kernel_rfl) (by simp) ?_;refine AllReadyH.cons rfl (λK hK=>?_) AllReadyH.nil;go_simp;go_wp2_with (go_at_call 251;refine(fF _).mono ?_;rintro e w0 ⟨rfl,rfl⟩;exact⟨rfl,(HP.out _ _).2 ⟨rfl,hS.drew.kept⟩⟩)
           case neg=>
            have hnd:Calls Tryz.prog 251 #[.bool (decide ((L:Int)≤6))] WS λe w'=>e=.panicked dL∧WS=w':=by
             rw[decide_eq_false (show ¬(L:Int)≤6 by omega)];exact fF _
            have hnone:aM s=none:=by
             rw[HE.out,H9.out];rcases r with _|⟨x,r⟩
             · rfl
             · split
               · rename_i h;simp only[Option.some.injEq,Prod.mk.injEq,List.cons.injEq] at h;rw[←h.1,Fo.ry,hL,if_neg hle]
               · rfl
            have HP:Hid (∀e w',aO w rb s e w'↔(e=.panicked dL∧Kept rb w w')):=by
             intro e w';unfold aO;rw[hnone]
            clear hnone hle hL;go_wp2_with (first|(go_at_call 253;refine(cL _ [44] rb _ hS.rest.cell DX).mono ?_;rintro e w0 ⟨rfl,rfl⟩)|(go_at_call 251;refine hnd.mono ?_;rintro e w0 ⟨rfl,rfl⟩));exact⟨rfl,(HP.out _ _).2 ⟨rfl,hS.kept⟩⟩
theorem Eo : ∀ (n : Nat) (s : List UInt8), s.length ≤ n → s.length ≤ 1000 → fH s := by
 intro n
 induction n with
 | zero=>
  intro s hs hm;have hnil:s=[]:=by cases s with
   | nil=>rfl
   | cons=>simp at hs
  subst hnil;exact rG [] hm (λr e=>by cases e) rfl rfl rfl
 | succ n ihn =>
  intro s hs hm;have ih:∀u:List UInt8,u.length<s.length→fH u:=λu hu=>ihn u (by omega) (by omega)
  by_cases hp:cV s
  · by_cases h0:bW (s.take (aj s))=0
    · by_cases hb:∃s2,s.drop (aj s)=91::s2
      · obtain⟨s2,hb⟩:=hb
        have hl:s2.length<s.length:=by
         have:=congrArg List.length hb;simp at this;omega
        rcases dy (w:=s.take (aj s)) with⟨k1,_⟩|⟨k1,_⟩|⟨k1,_⟩|⟨k1,_⟩
        all_goals first
         | exact vv s s2 hm hp h0 k1 hb (ih s2 hl)
         | exact xT s s2 hm hp h0 (.inl k1) hb ih
         | exact xT s s2 hm hp h0 (.inr k1) hb ih
         | (rcases hn:isName (s.take (aj s)) with _|_
            · exact rG s hm hp h0 k1 hn
            · exact sJ s s2 hm hp h0 k1 hn hb (ih s2 hl))
      · have hb':∀r,s.drop (aj s)≠91::r:=λr e=>hb ⟨r,e⟩
        by_cases hk:aW (s.take (aj s))=0
        · rcases hn:isName (s.take (aj s)) with _|_
          · exact rG s hm hp h0 hk hn
          · exact Cr s hm hp h0 hk hn hb'
        · exact pY s hm hp h0 hk hb'
    · exact Cs s (by unfold maxLen;omega) hp h0
  · have:∃r,s=63::116::r:=Classical.byContradiction λh=>hp λr e=>h ⟨r,e⟩
    obtain⟨r,rfl⟩:=this;exact z7 r
theorem Bg (s:List UInt8) (hm:s.length≤1000):fH s:=Eo s.length s zr hm
section
variable {P:Program} {ops:Array Oper} {Q:Exit→Act→World→Prop} {md:Region.Mode} {S:World→Prop}
theorem jt {i:Nat} {oi:Oper} {d:Option Nat} {v:Value} {fuel:Nat} {listed:Array Bool} {a:Act} {w:World} (hi:ops[i]? =some oi) (hd:oi.dst=d)
 (hs:Region.noSelect ops=true) (hf:Region.free md ops listed i=true) (hr:(Region.ready md ops listed).contains i=true)
 (hQ:∀c a w,Q (.panic c) (a.put d v) w→Q (.panic c) a w) (hS:S w) (hw:Region.wanted oi (yielded ops a.tmps)=true) (hy:∀w,S w→(execOp a.eval oi).run P w=.ok (.value v) w)
 (h:wpAnyH P md ops Q S fuel (listed.setIfInBounds i true) (a.put d v) w):wpAnyH P md ops Q S (fuel+1) listed a w:=by
 subst hd
 exact wpAnyH_take hi hs hf hr hQ (.inl ⟨hw,hy⟩) hS h
theorem xJ {fn:Func} {t t':Array Value} {R:Ending→World→Prop} (he:results fn t=results fn t'):∀(ds:List Deferred) (u:FrameMode) (w:World),Leaves P fn t R ds u w→Leaves P fn t' R ds u w:=by
 intro ds
 induction ds with
 | nil=>
  intro u w h;cases u with
  | returning=>unfold Leaves at h ⊢;rw[←he];exact h
  | panicking=>exact h
  | run=>exact h
 | cons d ds ih=>
  intro u w h;obtain⟨h1,fv,cap,f,args,h2,h3,h4⟩:=h;refine⟨h1,fv,cap,f,args,h2,h3,h4.mono ?_⟩;intro e u' w' hp;cases e with
  | returned=>exact ih _ _ hp
  | panicked=>exact ih _ _ hp
  | outgrown=>exact hp
theorem dh {R:Ending→World→Prop} {K:Act→World→Prop} (v:Value) (d:Nat) (hd:4≤d):∀c (a:Act) w,Exit.then K (bodyPostD Tryz.prog Tryz.f211 R) (.panic c) (a.put (some d) v) w→Exit.then K (bodyPostD Tryz.prog Tryz.f211 R) (.panic c) a w:=by
 intro c a w h
 refine xJ ?_ _ _ _ h
 have h2:(a.tmps.setIfInBounds d v)[2]? =a.tmps[2]? :=Array.getElem?_setIfInBounds_ne (by omega)
 have h3:(a.tmps.setIfInBounds d v)[3]? =a.tmps[3]? :=Array.getElem?_setIfInBounds_ne (by omega)
 simp[results,Tryz.results211,Act.put,Array.getD_eq_getD_getElem?,h2,h3]
end
def fL (w:World) (s:List UInt8) (e:Ending) (w':World):Prop:=
 (match aM s with
  | some (t,[])=>∃v,e=.returned (.tuple #[.agg #[.int .u8 t.k,str t.n,v],.bool true])∧dB w' (λb=>w.heap.size≤b) t.sub v
  | _=>e=.returned (.tuple #[.agg #[.int .u8 0,str [],.slice none 0 0],.bool false]))∧Below w.heap.size w w'
def K6 (w:World) (s:List UInt8):World:=
 (((((w.alloc (.cells #[.int .u8 0,.string ⟨#[]⟩,.slice none 0 0] 174)).alloc (.cells #[.bool false] 4)).alloc (.cells #[.func (.func 251) #[] #[]] 252)).alloc (.cells #[str s] 257)).alloc (.cells #[.pointer (some ⟨w.heap.size+1+1+1,0,none⟩)] 253)).alloc
  (.cells #[.func (.func 252) #[] #[.pointer (some ⟨w.heap.size+1+1+1+1,0,none⟩),.pointer (some ⟨w.heap.size+1+1,0,none⟩),.pointer (some ⟨w.heap.size+1+1+1+1+1,0,none⟩)]] 258)
theorem bV {w:World} {k:Nat} {o':Obj} (o:Obj) (h:w.heap[k]? =some o'):(w.alloc o).heap[k]? =some o':=
 (((Below.refl w.heap.size w).alloc zr o).block k (Array.getElem?_eq_some_iff.1 h).1).trans h
theorem lS {w:World} {n:Nat} (hn:w.heap.size=n) (cs:Array Value) (t:TypeId):(w.alloc (.cells cs t)).heap[n]? =some (.cells cs t (0,0)):=hn▸heap_alloc_new w _
theorem dW.lt {w:World} (h:dW w):1<w.heap.size:=by
 unfold dW Lib.TabIs World.var? at h
 rw[Dy] at h
 simp only[Option.bind_some] at h
 rcases hk:w.heap[1]? with _|o
 · rw[hk] at h;simp at h
 · exact(Array.getElem?_eq_some_iff.1 hk).1
structure MC (w:World) (s:List UInt8) (W:World):Prop where
 env:Env W (w.heap.size+1+1+1+1) (w.heap.size+1+1) (w.heap.size+1+1+1+1+1) (w.heap.size+1+1+1)
 rest:Rest W (w.heap.size+1+1+1) s
 tab:dW W
 nD:Below w.heap.size w W
 res:W.heap[w.heap.size]? =some (.cells #[.int .u8 0,.string ⟨#[]⟩,.slice none 0 0] 174 (0,0))
 ok:W.heap[w.heap.size+1]? =some (.cells #[.bool false] 4 (0,0))
 size:W.heap.size=w.heap.size+1+1+1+1+1+1
theorem k6 (w:World) (s:List UInt8) (ht:dW w):MC w s (K6 w s):=by
 have hl:=ht.lt
 have hb:Below w.heap.size w (K6 w s):=by
  unfold K6;exact((((((zb w).alloc zr _).alloc (by simp) _).alloc (by simp;omega) _).alloc (by simp;omega) _).alloc (by simp;omega) _).alloc (by simp;omega) _
 have hsz:(K6 w s).heap.size=w.heap.size+1+1+1+1+1+1:=by simp[K6]
 have htab:=ht.kept (b:=w.heap.size) (Kept.ey hb zr) (by omega)
 have e1:=lS (w:=w) rfl #[.int .u8 0,.string ⟨#[]⟩,.slice none 0 0] 174
 unfold K6 at hb hsz htab ⊢
 generalize w.alloc (.cells #[.int .u8 0,.string ⟨#[]⟩,.slice none 0 0] 174)=w1 at *
 have z1:w1.heap.size=w.heap.size+1:=by simp at hsz;omega
 have e2:=lS z1 #[.bool false] 4
 replace e1:=bV (.cells #[.bool false] 4) e1
 generalize w1.alloc (.cells #[.bool false] 4)=w2 at *
 have z2:w2.heap.size=w.heap.size+1+1:=by simp at hsz;omega
 have e3:=lS z2 #[.func (.func 251) #[] #[]] 252
 replace e1:=bV (.cells #[.func (.func 251) #[] #[]] 252) e1
 replace e2:=bV (.cells #[.func (.func 251) #[] #[]] 252) e2
 generalize w2.alloc (.cells #[.func (.func 251) #[] #[]] 252)=w3 at *
 have z3:w3.heap.size=w.heap.size+1+1+1:=by simp at hsz;omega
 have e4:=lS z3 #[str s] 257
 replace e1:=bV (.cells #[str s] 257) e1
 replace e2:=bV (.cells #[str s] 257) e2
 replace e3:=bV (.cells #[str s] 257) e3
 generalize w3.alloc (.cells #[str s] 257)=w4 at *
 have z4:w4.heap.size=w.heap.size+1+1+1+1:=by simp at hsz;omega
 have e5:=lS z4 #[.pointer (some ⟨w.heap.size+1+1+1,0,none⟩)] 253
 replace e1:=bV (.cells #[.pointer (some ⟨w.heap.size+1+1+1,0,none⟩)] 253) e1
 replace e2:=bV (.cells #[.pointer (some ⟨w.heap.size+1+1+1,0,none⟩)] 253) e2
 replace e3:=bV (.cells #[.pointer (some ⟨w.heap.size+1+1+1,0,none⟩)] 253) e3
 replace e4:=bV (.cells #[.pointer (some ⟨w.heap.size+1+1+1,0,none⟩)] 253) e4
 generalize w4.alloc (.cells #[.pointer (some ⟨w.heap.size+1+1+1,0,none⟩)] 253)=w5 at *
 have z5:w5.heap.size=w.heap.size+1+1+1+1+1:=by simp at hsz;omega
 have e6:=lS z5 #[.func (.func 252) #[] #[.pointer (some ⟨w.heap.size+1+1+1+1,0,none⟩),.pointer (some ⟨w.heap.size+1+1,0,none⟩),.pointer (some ⟨w.heap.size+1+1+1+1+1,0,none⟩)]] 258
 replace e1:=bV (.cells #[.func (.func 252) #[] #[.pointer (some ⟨w.heap.size+1+1+1+1,0,none⟩),.pointer (some ⟨w.heap.size+1+1,0,none⟩),.pointer (some ⟨w.heap.size+1+1+1+1+1,0,none⟩)]] 258) e1
 replace e2:=bV (.cells #[.func (.func 252) #[] #[.pointer (some ⟨w.heap.size+1+1+1+1,0,none⟩),.pointer (some ⟨w.heap.size+1+1,0,none⟩),.pointer (some ⟨w.heap.size+1+1+1+1+1,0,none⟩)]] 258) e2
 replace e3:=bV (.cells #[.func (.func 252) #[] #[.pointer (some ⟨w.heap.size+1+1+1+1,0,none⟩),.pointer (some ⟨w.heap.size+1+1,0,none⟩),.pointer (some ⟨w.heap.size+1+1+1+1+1,0,none⟩)]] 258) e3
 replace e4:=bV (.cells #[.func (.func 252) #[] #[.pointer (some ⟨w.heap.size+1+1+1+1,0,none⟩),.pointer (some ⟨w.heap.size+1+1,0,none⟩),.pointer (some ⟨w.heap.size+1+1+1+1+1,0,none⟩)]] 258) e4
 replace e5:=bV (.cells #[.func (.func 252) #[] #[.pointer (some ⟨w.heap.size+1+1+1+1,0,none⟩),.pointer (some ⟨w.heap.size+1+1,0,none⟩),.pointer (some ⟨w.heap.size+1+1+1+1+1,0,none⟩)]] 258) e5
 exact⟨⟨(ak e5 0).trans rfl,(ak e3 0).trans rfl,(ak e6 0).trans rfl,by omega,by omega,by omega,by omega⟩,⟨(ak e4 0).trans rfl,az e4 0⟩,htab,hb,e1,e2,hsz⟩
theorem oP {w1:World} {pb qb:Nat} {x0 x1 x2 y:Value} {tq:TypeId} (h1:w1.heap[pb]? =some (.cells #[x0,x1,x2] 174 (0,0))) (h2:w1.heap[qb]? =some (.cells #[y] tq (0,0))) (hne:pb≠qb) (o:Obj):
 (((((w1.setCell ⟨pb,0,none⟩ (.int .u8 0)).setCell ⟨pb,1,none⟩ (str [])).setCell ⟨pb,2,none⟩ (.slice none 0 0)).setCell ⟨qb,0,none⟩ (.bool false)).alloc o).heap[pb]? =some (.cells #[.int .u8 0,str [],.slice none 0 0] 174 (0,0))∧
 (((((w1.setCell ⟨pb,0,none⟩ (.int .u8 0)).setCell ⟨pb,1,none⟩ (str [])).setCell ⟨pb,2,none⟩ (.slice none 0 0)).setCell ⟨qb,0,none⟩ (.bool false)).alloc o).heap[qb]? =some (.cells #[.bool false] tq (0,0)):=by
 have a1:=cK (cK (cK h1 0 (.int .u8 0)) 1 (str [])) 2 (.slice none 0 0)
 have b1:(((w1.setCell ⟨pb,0,none⟩ (.int .u8 0)).setCell ⟨pb,1,none⟩ (str [])).setCell ⟨pb,2,none⟩ (.slice none 0 0)).heap[qb]? =some (.cells #[y] tq (0,0)):=by
  rw[Below.heap_setCell _ _ _ _ (Ne.symm hne),Below.heap_setCell _ _ _ _ (Ne.symm hne),Below.heap_setCell _ _ _ _ (Ne.symm hne)];exact h2
 refine⟨bV o ?_,bV o (cK b1 0 (.bool false))⟩
 rw[Below.heap_setCell _ _ _ _ hne]
 exact a1
theorem CE {w1:World} {pb qb:Nat} {x0 x1 x2 y:Value} {tq:TypeId} (h1:w1.heap[pb]? =some (.cells #[x0,x1,x2] 174 (0,0))) (h2:w1.heap[qb]? =some (.cells #[y] tq (0,0))) (hne:pb≠qb) (a b c d:Value):
 ((((w1.setCell ⟨pb,0,none⟩ a).setCell ⟨pb,1,none⟩ b).setCell ⟨pb,2,none⟩ c).setCell ⟨qb,0,none⟩ d).heap[pb]? =some (.cells #[a,b,c] 174 (0,0))∧
 ((((w1.setCell ⟨pb,0,none⟩ a).setCell ⟨pb,1,none⟩ b).setCell ⟨pb,2,none⟩ c).setCell ⟨qb,0,none⟩ d).heap[qb]? =some (.cells #[d] tq (0,0)):=by
 have a1:=cK (cK (cK h1 0 a) 1 b) 2 c
 have b1:(((w1.setCell ⟨pb,0,none⟩ a).setCell ⟨pb,1,none⟩ b).setCell ⟨pb,2,none⟩ c).heap[qb]? =some (.cells #[y] tq (0,0)):=by
  rw[Below.heap_setCell _ _ _ _ (Ne.symm hne),Below.heap_setCell _ _ _ _ (Ne.symm hne),Below.heap_setCell _ _ _ _ (Ne.symm hne)];exact h2
 refine⟨?_,cK b1 0 d⟩
 rw[Below.heap_setCell _ _ _ _ hne]
 exact a1
theorem oO {B:Nat} {w w1:World} (h:Below B w w1) {pb qb:Nat} (hp:B≤pb) (hq:B≤qb) (hB:B≤w1.heap.size) (o:Obj):
 Below B w (((((w1.setCell ⟨pb,0,none⟩ (.int .u8 0)).setCell ⟨pb,1,none⟩ (str [])).setCell ⟨pb,2,none⟩ (.slice none 0 0)).setCell ⟨qb,0,none⟩ (.bool false)).alloc o):=
 ((((h.setCell (p:=⟨pb,0,none⟩) hp _).setCell (p:=⟨pb,1,none⟩) hp _).setCell (p:=⟨pb,2,none⟩) hp _).setCell (p:=⟨qb,0,none⟩) hq _).alloc (by simpa[World.setCell] using hB) _
theorem Kept.toBelow {B rb:Nat} {w w':World} (h:Kept rb w w') (hr:B≤rb) (hB:B≤w.heap.size):Below B w w':=
 (Below.refl B w).grown h hB (by intro b e;injection e with e;omega)
set_option maxRecDepth 4000 in
theorem zS (s:List UInt8) (hN:fH s) (w:World) (ht:dW w) (hq:aM s=none):Calls Tryz.prog 211 #[str s] w (fL w s):=by
 have Sg:∀(fn:Fn) (first cap:Array Value) (w:World),(Instr.makeFunc fn first cap).run Tryz.prog w=.ok (.func fn first cap) w:=λ_ _ _ _=>rfl
 have HQ:=zh hq
 clear hq
 go_enter_defers Tryz.func211,Tryz.ntmps211
 go_wp2_with fail
 have F:=k6 w s ht
 unfold K6 at F
 refine(hN (w.heap.size+1+1+1+1) (w.heap.size+1+1) (w.heap.size+1+1+1+1+1) (w.heap.size+1+1+1) _ F.tab F.env F.rest).mono ?_
 intro e w1 hpost
 unfold aO at hpost
 rw[HQ.out] at hpost
 obtain⟨rfl,hk⟩:=hpost
 have h1:=hk.heap F.res (by omega)
 have h2:=hk.heap F.ok (by omega)
 have hb:=F.nD
 have hsz:=F.size
 clear F
 generalize World.alloc _ _=W at *
 refine leaves_cons (f:=250) (args:= #[.pointer (some ⟨w.heap.size,0,none⟩),.pointer (some ⟨w.heap.size+1,0,none⟩)]) (by simp) (by simp[go_sem]) ?_
 refine(qx w.heap.size (w.heap.size+1) _ _ _ _ _ [] _ h1 h2 (by omega)).mono ?_
 rintro e u' w'' ⟨rfl,rfl,rfl⟩
 obtain⟨q1,q2⟩:=oP h1 h2 (by omega) (.cells #[] 250)
 have hB:=oO (hb.trans (hk.toBelow (B:=w.heap.size) (by omega) (by omega))) (pb:=w.heap.size) (qb:=w.heap.size+1) zr (by omega) (by have:=hk.size;omega) (.cells #[] 250)
 generalize World.alloc _ _=WF at *
 have c0:=(ak q1 0).trans rfl
 have c1:=(ak q1 1).trans rfl
 have c2:=(ak q1 2).trans rfl
 have d0:=(ak q2 0).trans rfl
 simp[Leaves,settle,results,Tryz.results211,go_sem,c0,c1,c2,d0]
 unfold fL
 rw[HQ.out]
 exact⟨rfl,hB⟩
set_option maxRecDepth 4000 in
theorem zT (s r:List UInt8) (t:Tr) (hN:fH s) (w:World) (ht:dW w) (hq:aM s=some (t,r)):Calls Tryz.prog 211 #[str s] w (fL w s):=by
 have Sg:∀(fn:Fn) (first cap:Array Value) (w:World),(Instr.makeFunc fn first cap).run Tryz.prog w=.ok (.func fn first cap) w:=λ_ _ _ _=>rfl
 have HQ:=zh hq
 clear hq
 go_enter_defers Tryz.func211,Tryz.ntmps211
 go_wp2_with fail
 have F:=k6 w s ht
 unfold K6 at F
 refine(hN (w.heap.size+1+1+1+1) (w.heap.size+1+1) (w.heap.size+1+1+1+1+1) (w.heap.size+1+1+1) _ F.tab F.env F.rest).mono ?_
 intro e w1 hpost
 unfold aO at hpost
 rw[HQ.out] at hpost
 obtain⟨⟨v,rfl,hv⟩,hr,hk⟩:=hpost
 have h1:=hk.heap F.res (by omega)
 have h2:=hk.heap F.ok (by omega)
 have hb:=F.nD
 have hsz:=F.size
 have he:=F.env.kept hk
 clear F
 generalize World.alloc _ _=W at *
 obtain⟨pt,ct,rfl,_⟩:=hv.shape
 have c0:=(ak h1 0).trans rfl
 have c1:=(ak h1 1).trans rfl
 have c2:=(ak h1 2).trans rfl
 have f0:=az h1 0
 have f1:=az h1 1
 have f2:=az h1 2
 go_wp2_with fail
 have Lb:=hk.size
 have hB:=(((hb.trans (hk.toBelow (B:=w.heap.size) (by omega) (by omega))).setCell (p:=⟨w.heap.size,0,none⟩) zr (.int .u8 t.k)).setCell (p:=⟨w.heap.size,1,none⟩) zr (str t.n)).setCell (p:=⟨w.heap.size,2,none⟩) zr (.slice pt t.sub.len ct)
 have ek:∀b,b≠w.heap.size→(((w1.setCell ⟨w.heap.size,0,none⟩ (.int .u8 t.k)).setCell ⟨w.heap.size,1,none⟩ (str t.n)).setCell ⟨w.heap.size,2,none⟩ (.slice pt t.sub.len ct)).heap[b]? =w1.heap[b]? :=λb hb=>by rw[Below.heap_setCell _ _ _ _ hb,Below.heap_setCell _ _ _ _ hb,Below.heap_setCell _ _ _ _ hb]
 have L1:(((w1.setCell ⟨w.heap.size,0,none⟩ (.int .u8 t.k)).setCell ⟨w.heap.size,1,none⟩ (str t.n)).setCell ⟨w.heap.size,2,none⟩ (.slice pt t.sub.len ct)).heap[w.heap.size]? =some (.cells #[.int .u8 t.k,str t.n,.slice pt t.sub.len ct] 174 (0,0)):=cK (cK (cK h1 0 (.int .u8 t.k)) 1 (str t.n)) 2 (.slice pt t.sub.len ct)
 have L2:=(ek (w.heap.size+1) (by omega)).trans h2
 have hk2:Kept w.heap.size w1 (((w1.setCell ⟨w.heap.size,0,none⟩ (.int .u8 t.k)).setCell ⟨w.heap.size,1,none⟩ (str t.n)).setCell ⟨w.heap.size,2,none⟩ (.slice pt t.sub.len ct)):=((Kept.setCell _ _ _ _).trans (Kept.setCell _ _ _ _)).trans (Kept.setCell _ _ _ _)
 have JU:=hv.kept (w':=((w1.setCell ⟨w.heap.size,0,none⟩ (.int .u8 t.k)).setCell ⟨w.heap.size,1,none⟩ (str t.n)).setCell ⟨w.heap.size,2,none⟩ (.slice pt t.sub.len ct)) λb hb _=>ek b (by have hb:W.heap.size≤b:=hb;omega)
 replace hr:=((hr.eU (B:=w.heap.size) (by omega) 0 (.int .u8 t.k)).eU (B:=w.heap.size) (by omega) 1 (str t.n)).eU (B:=w.heap.size) (by omega) 2 (.slice pt t.sub.len ct)
 have KJ:∀{a:Addr} {u:Value},w1.cell? a=some u→a.block≠w.heap.size→(((w1.setCell ⟨w.heap.size,0,none⟩ (.int .u8 t.k)).setCell ⟨w.heap.size,1,none⟩ (str t.n)).setCell ⟨w.heap.size,2,none⟩ (.slice pt t.sub.len ct)).cell? a=some u:=λh hne=>hk2.cell h hne
 have FX:=KJ he.need (by simp;omega)
 have KK:=KJ he.r (by simp;omega)
 have Us:=hk2.size
 clear KJ hk2 ek c0 c1 c2 f0 f1 f2 h1 h2 hv he hk hb
 generalize ((w1.setCell ⟨w.heap.size,0,none⟩ (.int .u8 t.k)).setCell ⟨w.heap.size,1,none⟩ (str t.n)).setCell ⟨w.heap.size,2,none⟩ (.slice pt t.sub.len ct)=WS at *
 rcases r with _|⟨c,r'⟩
 · refine wp_region_held_drew (S:=(λW:World=>W.cell? ⟨w.heap.size+1+1,0,none⟩=some (.func (.func 251) #[] #[])∧W.cell? ⟨w.heap.size+1+1+1+1,0,none⟩=some (.pointer (some ⟨w.heap.size+1+1+1,0,none⟩))∧W.cell? ⟨w.heap.size+1+1+1,0,none⟩=some (str []))) (by kernel_rfl) ?_ (λdg=>?_)
   · exact⟨FX,KK,hr.cell⟩
   refine jt (i:=0) (d:=some 15) (v:=?_) rfl (by kernel_rfl) (by kernel_rfl) (by kernel_rfl) (by kernel_rfl) (dh _ _ (by decide)) (by assumption) (by kernel_rfl) ?_ ?_;rotate_left
   · intro w aI
     try dsimp only at aI
     go_simp;try with_reducible rfl
   try simp only[pz,pw]
   refine jt (i:=1) (d:=some 16) (v:=?_) rfl (by kernel_rfl) (by kernel_rfl) (by kernel_rfl) (by kernel_rfl) (dh _ _ (by decide)) (by assumption) (by kernel_rfl) ?_ ?_;rotate_left
   · intro w aI
     try dsimp only at aI
     go_simp;try with_reducible rfl
   try simp only[pz,pw]
   refine jt (i:=2) (d:=some 17) (v:=?_) rfl (by kernel_rfl) (by kernel_rfl) (by kernel_rfl) (by kernel_rfl) (dh _ _ (by decide)) (by assumption) (by kernel_rfl) ?_ ?_;rotate_left
   · intro w aI
     try dsimp only at aI
     go_simp;try with_reducible rfl
   try simp only[pz,pw]
   refine jt (i:=3) (d:=some 18) (v:=?_) rfl (by kernel_rfl) (by kernel_rfl) (by kernel_rfl) (by kernel_rfl) (dh _ _ (by decide)) (by assumption) (by kernel_rfl) ?_ ?_;rotate_left
   · intro w aI
     try dsimp only at aI
     go_simp;try with_reducible rfl
   try simp only[pz,pw]
   refine jt (i:=4) (d:=some 19) (v:=?_) rfl (by kernel_rfl) (by kernel_rfl) (by kernel_rfl) (by kernel_rfl) (dh _ _ (by decide)) (by assumption) (by kernel_rfl) ?_ ?_;rotate_left
   · intro w aI
     try dsimp only at aI
     go_simp;try with_reducible rfl
   try simp only[pz,pw]
   refine jt (i:=5) (d:=some 20) (v:=?_) rfl (by kernel_rfl) (by kernel_rfl) (by kernel_rfl) (by kernel_rfl) (dh _ _ (by decide)) (by assumption) (by kernel_rfl) ?_ ?_;rotate_left
   · intro w aI
     try dsimp only at aI
     go_simp;try with_reducible rfl
   try simp only[pz,pw]
   refine jt (i:=6) (d:=some 21) (v:=?_) rfl (by kernel_rfl) (by kernel_rfl) (by kernel_rfl) (by kernel_rfl) (dh _ _ (by decide)) (by assumption) (by kernel_rfl) ?_ ?_;rotate_left
   · intro w aI
     try dsimp only at aI
     go_simp;try with_reducible rfl
   try simp only[pz,pw]
   refine wpAnyH_ready (rs:=[7]) (by kernel_rfl) (by simp) ?_;refine AllReadyH.cons rfl (λK hK=>?_) AllReadyH.nil;go_simp;go_wp2_with (go_at_call 251;refine(dS _).mono ?_;rintro e w0 ⟨rfl,rfl⟩);refine hK.out _ _ ?_ (λdg=>?_)
   · exact⟨FX,KK,hr.cell⟩
   clear hK K;try simp only[pz,pw]
   refine wpAnyH_done (by kernel_rfl) ?_ _;have Fv:WS.drew.heap[w.heap.size]? =some (.cells #[.int .u8 t.k,str t.n,.slice pt t.sub.len ct] 174 (0,0)):=L1;have JH:WS.drew.heap[w.heap.size+1]? =some (.cells #[.bool false] 4 (0,0)):=L2;have L5:Below w.heap.size w WS.drew:=⟨hB.os,hB.tape,hB.output,hB.size,hB.block⟩;have SH:=JU.kept (w:=WS) (w':=WS.drew) (λ_ _ _=>rfl);clear dg L1 L2 hB JU FX KK hr;generalize WS.drew=WD at *;have c0:=(ak Fv 0).trans rfl;have c1:=(ak Fv 1).trans rfl;have c2:=(ak Fv 2).trans rfl;have d0:=(ak JH 0).trans rfl;have f0:=az Fv 0;have f1:=az Fv 1;have f2:=az Fv 2;have g0:=az JH 0;go_wp2_with fail;refine leaves_cons (f:=250) (args:= #[.pointer (some ⟨w.heap.size,0,none⟩),.pointer (some ⟨w.heap.size+1,0,none⟩)]) (by simp) (by simp[go_sem]) ?_;refine(zl w.heap.size (w.heap.size+1) _).mono ?_;rintro e u' w'' ⟨rfl,rfl,rfl⟩;obtain⟨q1,q2⟩:=CE Fv JH (by omega) (.int .u8 t.k) (.string ⟨t.n.toArray⟩) (.slice pt t.sub.len ct) (.bool true);have hB:=(((L5.setCell (p:=⟨w.heap.size,0,none⟩) zr (.int .u8 t.k)).setCell (p:=⟨w.heap.size,1,none⟩) zr (.string ⟨t.n.toArray⟩)).setCell (p:=⟨w.heap.size,2,none⟩) zr (.slice pt t.sub.len ct)).setCell (p:=⟨w.heap.size+1,0,none⟩) (Nat.le_succ _) (.bool true);have SJ:=SH.kept (w':=(((WD.setCell ⟨w.heap.size,0,none⟩ (.int .u8 t.k)).setCell ⟨w.heap.size,1,none⟩ (.string ⟨t.n.toArray⟩)).setCell ⟨w.heap.size,2,none⟩ (.slice pt t.sub.len ct)).setCell ⟨w.heap.size+1,0,none⟩ (.bool true)) λb hb _=>by
    have hb:W.heap.size≤b:=hb;rw[Below.heap_setCell _ _ _ _ (by simp;omega),Below.heap_setCell _ _ _ _ (by simp;omega),Below.heap_setCell _ _ _ _ (by simp;omega),Below.heap_setCell _ _ _ _ (by simp;omega)]
   clear c0 c1 c2 d0 f0 f1 f2 g0;generalize World.setCell _ _ _=WF at *;have c0:=(ak q1 0).trans rfl;have c1:=(ak q1 1).trans rfl;have c2:=(ak q1 2).trans rfl;have d0:=(ak q2 0).trans rfl;simp[Leaves,settle,results,Tryz.results211,go_sem,c0,c1,c2,d0];unfold fL;rw[HQ.out];exact⟨⟨_,rfl,SJ.mono λb hb _=>by have hb:W.heap.size≤b:=hb;show w.heap.size≤b;omega⟩,hB⟩
 · refine wp_region_held_drew (S:=(λW:World=>W.cell? ⟨w.heap.size+1+1,0,none⟩=some (.func (.func 251) #[] #[])∧W.cell? ⟨w.heap.size+1+1+1+1,0,none⟩=some (.pointer (some ⟨w.heap.size+1+1+1,0,none⟩))∧W.cell? ⟨w.heap.size+1+1+1,0,none⟩=some (str (c::r')))) (by kernel_rfl) ?_ (λdg=>?_)
   · exact⟨FX,KK,hr.cell⟩
   refine jt (i:=0) (d:=some 15) (v:=?_) rfl (by kernel_rfl) (by kernel_rfl) (by kernel_rfl) (by kernel_rfl) (dh _ _ (by decide)) (by assumption) (by kernel_rfl) ?_ ?_;rotate_left
   · intro w aI
     try dsimp only at aI
     go_simp;try with_reducible rfl
   try simp only[pz,pw]
   refine jt (i:=1) (d:=some 16) (v:=?_) rfl (by kernel_rfl) (by kernel_rfl) (by kernel_rfl) (by kernel_rfl) (dh _ _ (by decide)) (by assumption) (by kernel_rfl) ?_ ?_;rotate_left
   · intro w aI
     try dsimp only at aI
     go_simp;try with_reducible rfl
   try simp only[pz,pw]
   refine jt (i:=2) (d:=some 17) (v:=?_) rfl (by kernel_rfl) (by kernel_rfl) (by kernel_rfl) (by kernel_rfl) (dh _ _ (by decide)) (by assumption) (by kernel_rfl) ?_ ?_;rotate_left
   · intro w aI
     try dsimp only at aI
     go_simp;try with_reducible rfl
   try simp only[pz,pw]
   refine jt (i:=3) (d:=some 18) (v:=?_) rfl (by kernel_rfl) (by kernel_rfl) (by kernel_rfl) (by kernel_rfl) (dh _ _ (by decide)) (by assumption) (by kernel_rfl) ?_ ?_;rotate_left
   · intro w aI
     try dsimp only at aI
     go_simp;try with_reducible rfl
   try simp only[pz,pw]
   refine jt (i:=4) (d:=some 19) (v:=?_) rfl (by kernel_rfl) (by kernel_rfl) (by kernel_rfl) (by kernel_rfl) (dh _ _ (by decide)) (by assumption) (by kernel_rfl) ?_ ?_;rotate_left
   · intro w aI
     try dsimp only at aI
     go_simp;try with_reducible rfl
   try simp only[pz,pw]
   refine jt (i:=5) (d:=some 20) (v:=?_) rfl (by kernel_rfl) (by kernel_rfl) (by kernel_rfl) (by kernel_rfl) (dh _ _ (by decide)) (by assumption) (by kernel_rfl) ?_ ?_;rotate_left
   · intro w aI
     try dsimp only at aI
     go_simp;try with_reducible rfl
   try simp only[pz,pw]
   refine jt (i:=6) (d:=some 21) (v:=?_) rfl (by kernel_rfl) (by kernel_rfl) (by kernel_rfl) (by kernel_rfl) (dh _ _ (by decide)) (by assumption) (by kernel_rfl) ?_ ?_;rotate_left
   · intro w aI
     try dsimp only at aI
     go_simp;try with_reducible rfl
   try simp only[pz,pw]
   refine wpAnyH_ready (rs:=[7]) (by kernel_rfl) (by simp) ?_;refine AllReadyH.cons rfl (λK hK=>?_) AllReadyH.nil;go_simp;go_wp2_with (go_at_call 251;refine(fF _).mono ?_;rintro e w0 ⟨rfl,rfl⟩);have Fv:WS.drew.heap[w.heap.size]? =some (.cells #[.int .u8 t.k,str t.n,.slice pt t.sub.len ct] 174 (0,0)):=L1;have JH:WS.drew.heap[w.heap.size+1]? =some (.cells #[.bool false] 4 (0,0)):=L2;have L5:Below w.heap.size w WS.drew:=⟨hB.os,hB.tape,hB.output,hB.size,hB.block⟩;clear dg hK L1 L2 hB JU FX KK hr;generalize WS.drew=WD at *;refine leaves_cons (f:=250) (args:= #[.pointer (some ⟨w.heap.size,0,none⟩),.pointer (some ⟨w.heap.size+1,0,none⟩)]) (by simp) (by simp[go_sem]) ?_;refine(qx w.heap.size (w.heap.size+1) _ _ _ _ _ [] _ Fv JH (by omega)).mono ?_;rintro e u' w'' ⟨rfl,rfl,rfl⟩;obtain⟨q1,q2⟩:=oP Fv JH (by omega) (.cells #[] 250);have hB:=oO L5 (pb:=w.heap.size) (qb:=w.heap.size+1) zr (by omega) L5.size (.cells #[] 250);generalize World.alloc _ _=WF at *;have c0:=(ak q1 0).trans rfl;have c1:=(ak q1 1).trans rfl;have c2:=(ak q1 2).trans rfl;have d0:=(ak q2 0).trans rfl;simp[Leaves,settle,results,Tryz.results211,go_sem,c0,c1,c2,d0];unfold fL;rw[HQ.out];exact⟨rfl,hB⟩
theorem tX (s:List UInt8) (hm:s.length≤1000) (w:World) (ht:dW w):Calls Tryz.prog 211 #[str s] w (fL w s):=by
 rcases hq:aM s with _|⟨t,r⟩
 · exact zS s (Bg s hm) w ht hq
 · exact zT s r t (Bg s hm) w ht hq
def aq (s:List UInt8):Nat×Tr:=
 if 100<s.length then(2,⟨0,[],.nil⟩) else
 match aM s with
 | some (t,[])=>if 6<t.level then(2,⟨0,[],.nil⟩) else(0,t)
 | _=>(4,⟨0,[],.nil⟩)
def bJ (w:World) (s:List UInt8) (e:Ending) (w':World):Prop:=
 ∃v,e=.returned (.tuple #[.agg #[.int .u8 (aq s).2.k,str (aq s).2.n,v],.int .i64 (aq s).1])∧dB w' (λb=>w.heap.size≤b) (aq s).2.sub v∧Below w.heap.size w w'
set_option maxRecDepth 4000 in
theorem sH (s:List UInt8) (_hm:s.length≤maxLen) (w:World) (hl:100<s.length):Calls Tryz.prog 157 #[str s] w (bJ w s):=by
 have HE:=zh (show aq s=(2,⟨0,[],.nil⟩) by unfold aq;rw[if_pos hl])
 go_enter Tryz.func157,Tryz.ntmps157
 go_wp2_with fail
 refine bodyPost_ret (v:=.tuple #[.agg #[.int .u8 0,str [],.slice none 0 0],.int .i64 2]) (by simp[results,Tryz.results157,go_sem]) rfl ?_
 unfold bJ
 rw[HE.out]
 exact⟨_,rfl,dB.nil _ _,(zb _).alloc zr _⟩
set_option maxRecDepth 4000 in
theorem nO (s:List UInt8) (w:World) (ht:dW w) (hl:¬100<s.length) (hq:∀t,aM s≠some (t,[])):Calls Tryz.prog 157 #[str s] w (bJ w s):=by
 have HE:=zh (show aq s=(4,⟨0,[],.nil⟩) by
  unfold aq;rw[if_neg hl];rcases h:aM s with _|⟨t,_|⟨c,r⟩⟩
  · rfl
  · exact absurd h (hq t)
  · rfl)
 have HR:=zh (show ∀W e w',fL W s e w'→e=.returned (.tuple #[.agg #[.int .u8 0,str [],.slice none 0 0],.bool false])∧Below W.heap.size W w' by
  intro W e w' h;unfold fL at h;rcases hp:aM s with _|⟨t,_|⟨c,r⟩⟩
  · rw[hp] at h;exact h
  · exact absurd hp (hq t)
  · rw[hp] at h;exact h)
 have jx:=(Below.refl w.heap.size w).alloc zr (.cells #[.int .u8 0,.string ⟨#[]⟩,.slice none 0 0] 174)
 clear hq
 go_enter Tryz.func157,Tryz.ntmps157
 go_wp2_with (go_at_call 211;refine(tX s (by omega) _ (ht.kept (b:=w.heap.size) (Kept.ey jx zr) (by have:=ht.lt;omega))).mono ?_;intro e w1 hp;obtain⟨rfl,au⟩:=HR.out _ _ _ hp;clear hp;have r1:=λo=>bV o ((au.block w.heap.size (by simp)).trans (heap_alloc_new w (.cells #[.int .u8 0,.string ⟨#[]⟩,.slice none 0 0] 174)));have c0:=λo=>(ak (r1 o) 0).trans rfl;have c1:=λo=>(ak (r1 o) 1).trans rfl;have c2:=λo=>(ak (r1 o) 2).trans rfl;have f0:=λo=>az (r1 o) 0;have f1:=λo=>az (r1 o) 1;have f2:=λo=>az (r1 o) 2;clear r1)
 refine bodyPost_ret (v:=.tuple #[.agg #[.int .u8 0,str [],.slice none 0 0],.int .i64 4]) (by simp[results,Tryz.results157,go_sem,c0,c1,c2]) rfl ?_
 unfold bJ
 rw[HE.out]
 have aC:=(jx.trans (af au (by simp))).alloc (by have:=au.size;simp at this;omega) (.cells #[.int .u8 0,.string ⟨#[]⟩,.slice none 0 0] 174)
 exact⟨_,rfl,dB.nil _ _,((aC.setCell (p:=⟨w.heap.size,0,none⟩) zr _).setCell (p:=⟨w.heap.size,1,none⟩) zr _).setCell (p:=⟨w.heap.size,2,none⟩) zr _⟩
set_option maxRecDepth 4000 in
theorem sI (s:List UInt8) (t:Tr) (w:World) (ht:dW w) (hl:¬100<s.length) (hq:aM s=some (t,[])):Calls Tryz.prog 157 #[str s] w (bJ w s):=by
 have HE:=zh (show aq s=if 6<t.level then(2,⟨0,[],.nil⟩) else(0,t) by unfold aq;rw[if_neg hl,hq])
 have HR:=zh (show ∀W e w',fL W s e w'→(∃v,e=.returned (.tuple #[.agg #[.int .u8 t.k,str t.n,v],.bool true])∧dB w' (λb=>W.heap.size≤b) t.sub v)∧Below W.heap.size W w' by
  intro W e w' h;unfold fL at h;rw[hq] at h;exact h)
 have KP:t.sub.level≤100:=by
  have h:=qI (s.length+1) none s (.one t) [] (by rw[gK (by omega),hq];rfl);simp[Fo.one,Fo.level] at h;omega
 have jx:=(Below.refl w.heap.size w).alloc zr (.cells #[.int .u8 0,.string ⟨#[]⟩,.slice none 0 0] 174)
 clear hq
 by_cases h6:6<t.level
 all_goals have T5:((6:Int)<(t.sub.level:Int)+1)=(6<t.level):=by unfold Tr.level;apply propext;omega
 all_goals go_enter Tryz.func157,Tryz.ntmps157
 all_goals go_wp2_with (first|(go_at_call 211;refine(tX s (by omega) _ (ht.kept (b:=w.heap.size) (Kept.ey jx zr) (by have:=ht.lt;omega))).mono ?_;intro e w1 hp;obtain⟨⟨v,rfl,hv⟩,au⟩:=HR.out _ _ _ hp;clear hp;obtain⟨pt,ct,rfl,_⟩:=hv.shape;have r1:=λo=>bV o ((au.block w.heap.size (by simp)).trans (heap_alloc_new w (.cells #[.int .u8 0,.string ⟨#[]⟩,.slice none 0 0] 174))))|(go_at_call 212;refine(oD 100 t.sub KP (by omega) _ _ _ t.k t.n (hv.below ((zb w1).alloc zr _) zr)).mono ?_;rintro e w2 ⟨rfl,aC⟩;have r2:=(aC.block w.heap.size (by have:=au.size;simp at this ⊢;omega)).trans (r1 _);have c0:=(ak r2 0).trans rfl;have c1:=(ak r2 1).trans rfl;have c2:=(ak r2 2).trans rfl;have f0:=az r2 0;have f1:=az r2 1;have f2:=az r2 2;have r4:=(aC.block w1.heap.size (by simp)).trans (heap_alloc_new w1 _);have d0:=(ak r4 0).trans rfl;have d1:=(ak r4 1).trans rfl;have d2:=(ak r4 2).trans rfl;clear r1 r2 r4))
 all_goals have hs1:=au.size
 all_goals simp only[World.size_alloc] at hs1
 all_goals have aH:=((jx.trans (af au (by simp))).alloc (by omega) (.cells #[.int .u8 t.k,.string ⟨t.n.toArray⟩,.slice pt t.sub.len ct] 174)).trans (af aC (by simp;omega))
 · refine bodyPost_ret (v:=.tuple #[.agg #[.int .u8 0,str [],.slice none 0 0],.int .i64 2]) (by simp[results,Tryz.results157,go_sem,c0,c1,c2]) rfl ?_
   unfold bJ;rw[HE.out,if_pos h6];exact⟨_,rfl,dB.nil _ _,((aH.setCell (p:=⟨w.heap.size,0,none⟩) zr _).setCell (p:=⟨w.heap.size,1,none⟩) zr _).setCell (p:=⟨w.heap.size,2,none⟩) zr _⟩
 · refine bodyPost_ret (v:=.tuple #[.agg #[.int .u8 t.k,str t.n,.slice pt t.sub.len ct],.int .i64 0]) (by simp[results,Tryz.results157,go_sem,c0,c1,c2]) rfl ?_
   unfold bJ;rw[HE.out,if_neg h6];refine⟨_,rfl,?_,((aH.setCell (p:=⟨w.heap.size,0,none⟩) zr _).setCell (p:=⟨w.heap.size,1,none⟩) zr _).setCell (p:=⟨w.heap.size,2,none⟩) zr _⟩;have F5:=(hv.below (B:=w1.heap.size) ((zb w1).alloc zr (.cells #[.int .u8 t.k,.string ⟨t.n.toArray⟩,.slice pt t.sub.len ct] 174)) zr).below aC zr;have IW:=F5.mono (D':=λb=>w.heap.size<b) λb hb _=>by simp only[World.size_alloc] at hb;show w.heap.size<b;omega
   exact(IW.yC (λb hb=>Nat.ne_of_gt hb) _ _ _).mono λb hb _=>Nat.le_of_lt hb
theorem cF (s:List UInt8) (hm:s.length≤maxLen) (w:World) (ht:dW w):Calls Tryz.prog 157 #[str s] w (bJ w s):=by
 by_cases hl:100<s.length
 · exact sH s hm w hl
 · rcases hq:aM s with _|⟨t,_|⟨c,r⟩⟩
   · exact nO s w ht hl (by rw[hq];intro t h;cases h)
   · exact sI s t w ht hl hq
   · exact nO s w ht hl (by rw[hq];intro t h;cases h)
end Go.Proofs.YtakgjcfkdemipaaGreatDoor
