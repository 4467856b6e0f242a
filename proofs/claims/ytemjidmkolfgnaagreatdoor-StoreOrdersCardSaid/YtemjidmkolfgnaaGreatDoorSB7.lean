/-
  Lemmas for the statement: the closure with which the program reads a type (kind.read$3): records and oneofs. No condition.
-/
import Derived.Test.YtemjidmkolfgnaaGreatDoorSBn
import Derived.Test.YtemjidmkolfgnaaGreatDoorSB4
import Derived.Test.YtemjidmkolfgnaaGreatDoorSB6
set_option maxHeartbeats 12800000
namespace Go.Proofs.YtemjidmkolfgnaaGreatDoor
open Go.RowKit
set_option maxRecDepth 4000 in
theorem wZ (s s2 : List UInt8) (CH : s.length ≤ 1000) (hp : dR s) (h0 : bU (s.take (ah s)) = 0) (hkk : aS (s.take (ah s)) = 5 ∨ aS (s.take (ah s)) = 6) (hb : s.drop (ah s) = 91 :: s2) (ih : ∀ u : List UInt8, u.length < s.length → ei u) : ei s := by
 have hm:s.length≤maxLen:=by unfold maxLen;omega
 intro R Nd X rb w ht he hs
 have hE:=qC hp h0 hkk hb
 have hpre:=dy hp
 have HK:=zh (jq s)
 have mz:=zh (fD (s.take (ah s)))
 have hk0:((wk (s.take (ah s)):Int) != 0)=false:=by rw[HK.out,h0];rfl
 have DG:=eE s
 have Gm:(s.take (ah s)).length≤maxLen:=by simp;omega
 have hk1:((wk (s.take (ah s)++[91]):Int)==0)=false:=by rw[mz.out];rcases hkk with h|h<;>rw[h]<;>rfl
 have NY:((wk (s.take (ah s)++[91]):Int)==7)=false:=by rw[mz.out];rcases hkk with h|h<;>rw[h]<;>rfl
 have PY:(((wk (s.take (ah s)++[91]):Int)==5)=true∧((wk (s.take (ah s)++[91]):Int)==6)=false)∨(((wk (s.take (ah s)++[91]):Int)==5)=false∧((wk (s.take (ah s)++[91]):Int)==6)=true):=by rw[mz.out];rcases hkk with h|h<;>rw[h]<;>simp
 have kV:aS (s.take (ah s))=wk (s.take (ah s)++[91]):=mz.out.symm
 rw[kV] at hE
 have HB:=zh hb
 have HE:=zh hE
 clear hE
 clear h0 hp hkk kV
 rcases PY with⟨CG,oq⟩|⟨CG,oq⟩
 all_goals
  have sB:s2.length<s.length:=by
   have:=congrArg List.length hb;simp at this;omega
  have h1:=St.start ht he hs;have a1:=h1.env.r;go_enter Tryz.func234,Tryz.ntmps234;go_wp2_with fail;generalize w.alloc (.cells #[.int .u8 0,.string ⟨#[]⟩,.slice none 0 0] 282)=W1 at *;refine(bM s [63,116] rb _ h1.rest.cell hpre).mono ?_;rintro e w1 ⟨rfl,rfl⟩;go_wp2_with fail;refine(dh s rb _ hm h1.rest).mono ?_;rintro e w2 ⟨rfl,hr2,jP⟩;have h2:=h1.next jP hr2
  have b1:=h2.env.r;have b2:=h2.env.need;rw[hb] at h2;go_wp2_with (first|(go_at_call 237;refine(iC _ _).mono ?_;rintro e w0 ⟨rfl,rfl⟩)|(go_at_call 235;refine(cT [91] s2 rb _ h2.rest).mono ?_;rintro e w3 ⟨rfl,hr3,vW⟩;have h3:=h2.next vW hr3;have b3:=λo=>(h3.alloc o).env.need;have b4:=λo=>(h3.alloc o).env.r;have b5:=λo=>(h3.alloc o).env.next)|(go_at_call 233;refine(cZ _).mono ?_;rintro e w0 ⟨rfl,rfl⟩));have hx:=heap_alloc_new w3 (.cells #[.int .u8 (wk (s.take (ah s)++[91])),.string ⟨(s.take (ah s)).toArray⟩,.slice none 0 0] 282);have h5:=h3.alloc (.cells #[.int .u8 (wk (s.take (ah s)++[91])),.string ⟨(s.take (ah s)).toArray⟩,.slice none 0 0] 282);have fc:=h3.size;have lQ:w3.heap.size≠rb:=by have:=h3.lt;omega
  generalize rC:w3.alloc (.cells #[.int .u8 (wk (s.take (ah s)++[91])),.string ⟨(s.take (ah s)).toArray⟩,.slice none 0 0] 282)=W5 at *;have L0:Lp w R Nd X rb w3.heap.size (wk (s.take (ah s)++[91])) (s.take (ah s)) s2 W5 .nil s2:=
   Lp.start h5 fc hx
  clear hx h5 b3 b4 b5 rC;generalize w3.heap.size=B1 at *;clear h3 hr3 vW
  go_loopg [9] s2.length (λn _ wr=>∃dn u,n=u.length∧Lp w R Nd X rb B1 (wk (s.take (ah s)++[91])) (s.take (ah s)) s2 wr dn u)
  case atStart=>exact⟨_,_,rfl,L0⟩
  case round =>
   clear L0;obtain⟨dn,u,rfl,L⟩:=hrel;obtain⟨st,lo,len,⟨v,hrow,hv⟩,eq⟩:=id L;obtain⟨p,c,rfl,hsh⟩:=hv.Ov.shape;have d1:=st.env.r;have CJ:u.length≤maxLen:=by omega
   have hdl:dn.len≤1000:=by omega
   go_upto_region 21 with(go_at_call 236;refine(dh u rb _ CJ st.rest).mono ?_;rintro e w6 ⟨rfl,KE,oq⟩);have h6:=st.next oq KE
   have hX:=heap_alloc_new w6 (.cells #[.string ⟨(u.take (ah u)).toArray⟩,.int .u8 0,.string ⟨#[]⟩,.slice none 0 0] 321);have h7:=h6.alloc (.cells #[.string ⟨(u.take (ah u)).toArray⟩,.int .u8 0,.string ⟨#[]⟩,.slice none 0 0] 321);have Jl:w.heap.size<w6.heap.size:=h6.size;have Jm:w6.heap.size≠rb:=by have:=h6.lt;omega
   have pU:B1≠rb:=by have:=h6.lt;omega
   have OH:B1<w6.heap.size:=by have:=(Array.getElem?_eq_some_iff.1 (oq.heap hrow pU)).1;omega
   have k7:=oq.trans (Kept.alloc rb w6 (.cells #[.string ⟨(u.take (ah u)).toArray⟩,.int .u8 0,.string ⟨#[]⟩,.slice none 0 0] 321));have D5:=k7.heap hrow pU;have Fx:=(hv.mono (D':=λb=>B1<b∧b≠w6.heap.size) λb hb hlt=>⟨hb,by have:=oq.size;omega⟩).kept (w':=w6.alloc (.cells #[.string ⟨(u.take (ah u)).toArray⟩,.int .u8 0,.string ⟨#[]⟩,.slice none 0 0] 321)) λb hb hlt=>k7.block b hlt (λe=>by have hb:B1<b:=hb.1;have:=st.lt;injection e with e;omega)
   generalize w6.alloc (.cells #[.string ⟨(u.take (ah u)).toArray⟩,.int .u8 0,.string ⟨#[]⟩,.slice none 0 0] 321)=W7 at *;generalize w6.heap.size=Bx at *;have MB:∀b,(Value.slice p dn.len c).ownBlock=some b→b<W7.heap.size:=by
    obtain⟨_,a1,_,_⟩:=Fx;exact λb e=>aW a1 e
   obtain⟨p',c',hpc,hsh⟩:=Fx.Ov.shape;injection hpc with e1 _ e3;subst e1 e3;have hwn:(u.take (ah u)).length≤maxLen:=by simp;omega
   clear k7 hv hrow d1 KE oq h6;have q1:=h7.drew.env.need;have q2:=h7.drew.env.r;have q3:=(af (w:=W7.drew) hX 0).trans rfl;have q4:=(af (w:=W7.drew) D5 2).trans rfl;have S7:∀W',Kept rb W7.drew W'→(λW:World=>W.cell? ⟨Nd,0,none⟩=some (.func (.func 233) #[] #[])∧W.cell? ⟨R,0,none⟩=some (.pointer (some ⟨rb,0,none⟩))∧W.cell? ⟨Bx,0,none⟩=some (str (u.take (ah u)))∧W.cell? ⟨B1,2,none⟩=some (.slice p dn.len c)) W':=λW' k=>⟨k.cell q1 h7.pS.nn,k.cell q2 h7.pS.nr,k.cell q3 Jm,k.cell q4 pU⟩
   clear q1 q2 q3 q4
   by_cases hn:isName (u.take (ah u))=true
   case neg=>
    have hn:isName (u.take (ah u))=false:=by simpa using hn
    have hnone:aI s=none:=by rw[HE.out,L.mI (sZ λe=>by rw[e.1] at hn;exact Bool.noConfusion hn)]
    have HP:Hid (∀e w',aD w rb s e w'↔(e=.panicked cS∧Kept rb w w')):=by
     intro e w';unfold aD;rw[hnone]
    clear hnone L eq;refine wp_region_held_drew (S:=(λW:World=>W.cell? ⟨Nd,0,none⟩=some (.func (.func 233) #[] #[])∧W.cell? ⟨R,0,none⟩=some (.pointer (some ⟨rb,0,none⟩))∧W.cell? ⟨Bx,0,none⟩=some (str (u.take (ah u)))∧W.cell? ⟨B1,2,none⟩=some (.slice p dn.len c))) (by kernel_rfl) ?_ (λdA=>?_)
    · exact S7 _ (Kept.refl _ _)
    refine ay 0 66 (v:=?_) ?_ ?_;rotate_left
    · intro w aF
      try dsimp only at aF
      go_simp;try with_reducible rfl
    try simp only[pz,pw]
    refine ay 1 67 (v:=?_) ?_ ?_;rotate_left
    · intro w aF
      try dsimp only at aF
      go_simp;try with_reducible rfl
    try simp only[pz,pw]
    refine ay 2 68 (v:=?_) ?_ ?_;rotate_left
    · intro w aF
      try dsimp only at aF
      go_simp;try with_reducible rfl
    try simp only[pz,pw]
    refine wpAnyH_ready (rs:=[3]) (by kernel_rfl) (by simp) ?_;refine AllReadyH.cons rfl (λK hK=>?_) AllReadyH.nil;go_simp;go_wp2_with (go_at_call 59;refine(bp _ _ h7.drew.tab hwn).mono ?_;rw[hn];rintro e w8 ⟨rfl,xQ⟩;have k8:=Kept.ai (b:=rb) xQ zr);refine hK.out _ _ ?_ (λdA=>?_)
    · exact S7 _ k8
    clear hK K;try simp only[pz,pw]
    refine ay 4 70 (v:=?_) ?_ ?_;rotate_left
    · intro w aF
      try dsimp only at aF
      go_simp;try with_reducible rfl
    try simp only[pz,pw]
    refine aX 5 71 ?_;try simp only[pz,pw]
    refine aX 6 72 ?_;try simp only[pz,pw]
    refine aX 7 73 ?_;try simp only[pz,pw]
    refine aX 8 74 ?_;try simp only[pz,pw]
    refine ay 9 75 (v:=?_) ?_ ?_;rotate_left
    · intro w aF
      try dsimp only at aF
      go_simp;try with_reducible rfl
    try simp only[pz,pw]
    refine ay 10 76 (v:=?_) ?_ ?_;rotate_left
    · intro w aF
      try dsimp only at aF
      go_simp;try with_reducible rfl
    try simp only[pz,pw]
    refine aX 11 77 ?_;try simp only[pz,pw]
    refine aX 12 78 ?_;try simp only[pz,pw]
    refine aX 13 79 ?_;try simp only[pz,pw]
    refine aX 14 80 ?_;try simp only[pz,pw]
    refine aX 15 81 ?_;try simp only[pz,pw]
    refine aX 16 82 ?_;try simp only[pz,pw]
    refine aX 17 83 ?_;try simp only[pz,pw]
    refine aX 18 84 ?_;try simp only[pz,pw]
    refine aX 19 85 ?_;try simp only[pz,pw]
    refine aX 20 86 ?_;try simp only[pz,pw]
    refine aX 21 87 ?_;try simp only[pz,pw]
    refine aX 22 88 ?_;try simp only[pz,pw]
    refine aX 23 89 ?_;try simp only[pz,pw]
    refine aX 24 90 ?_;try simp only[pz,pw]
    refine aX 25 91 ?_;try simp only[pz,pw]
    refine aX 26 92 ?_;try simp only[pz,pw]
    refine aX 27 93 ?_;try simp only[pz,pw]
    refine aX 28 94 ?_;try simp only[pz,pw]
    refine ay 29 95 (v:=?_) ?_ ?_;rotate_left
    · intro w aF
      try dsimp only at aF
      go_simp;try with_reducible rfl
    try simp only[pz,pw]
    refine wpAnyH_ready (rs:=[30]) (by kernel_rfl) (by simp) ?_;refine AllReadyH.cons rfl (λK hK=>?_) AllReadyH.nil;go_simp;go_wp2_with (go_at_call 233;refine(dY _).mono ?_;rintro e w0 ⟨rfl,rfl⟩;exact⟨rfl,(HP.out _ _).2 ⟨rfl,h7.drew.kept.trans k8⟩⟩)
   case pos =>
    by_cases hc:∃u2,u.drop (ah u)=58::u2
    case neg=>
     have MD:=dU (λu2 e=>hc ⟨u2,e⟩);have hnone:aI s=none:=by rw[HE.out,L.mI (uJ λu2 e=>hc ⟨u2,e⟩)]
     have HP:Hid (∀e w',aD w rb s e w'↔(e=.panicked cS∧Kept rb w w')):=by
      intro e w';unfold aD;rw[hnone]
     clear hnone L eq hc;refine wp_region_held_drew (S:=(λW:World=>W.cell? ⟨Nd,0,none⟩=some (.func (.func 233) #[] #[])∧W.cell? ⟨R,0,none⟩=some (.pointer (some ⟨rb,0,none⟩))∧W.cell? ⟨Bx,0,none⟩=some (str (u.take (ah u)))∧W.cell? ⟨B1,2,none⟩=some (.slice p dn.len c))) (by kernel_rfl) ?_ (λdA=>?_)
     · exact S7 _ (Kept.refl _ _)
     refine ay 0 66 (v:=?_) ?_ ?_;rotate_left
     · intro w aF
       try dsimp only at aF
       go_simp;try with_reducible rfl
     try simp only[pz,pw]
     refine ay 1 67 (v:=?_) ?_ ?_;rotate_left
     · intro w aF
       try dsimp only at aF
       go_simp;try with_reducible rfl
     try simp only[pz,pw]
     refine ay 2 68 (v:=?_) ?_ ?_;rotate_left
     · intro w aF
       try dsimp only at aF
       go_simp;try with_reducible rfl
     try simp only[pz,pw]
     refine wpAnyH_ready (rs:=[3]) (by kernel_rfl) (by simp) ?_;refine AllReadyH.cons rfl (λK hK=>?_) AllReadyH.nil;go_simp;go_wp2_with (go_at_call 59;refine(bp _ _ h7.drew.tab hwn).mono ?_;rw[hn];rintro e w8 ⟨rfl,xQ⟩;have k8:=Kept.ai (b:=rb) xQ zr);refine hK.out _ _ ?_ (λdA=>?_)
     · exact S7 _ k8
     clear hK K;try simp only[pz,pw]
     refine ay 4 70 (v:=?_) ?_ ?_;rotate_left
     · intro w aF
       try dsimp only at aF
       go_simp;try with_reducible rfl
     try simp only[pz,pw]
     refine ay 5 71 (v:=?_) ?_ ?_;rotate_left
     · intro w aF
       try dsimp only at aF
       go_simp;try with_reducible rfl
     try simp only[pz,pw]
     refine ay 6 72 (v:=?_) ?_ ?_;rotate_left
     · intro w aF
       try dsimp only at aF
       go_simp;try with_reducible rfl
     try simp only[pz,pw]
     refine ay 7 73 (v:=?_) ?_ ?_;rotate_left
     · intro w aF
       try dsimp only at aF
       go_simp;try with_reducible rfl
     try simp only[pz,pw]
     refine wpAnyH_ready (rs:=[8]) (by kernel_rfl) (by simp) ?_;refine AllReadyH.cons rfl (λK hK=>?_) AllReadyH.nil;go_simp;go_wp2_with (go_at_call 235;refine(bM _ [58] rb _ (h7.drew.rest.below xQ zr).cell MD).mono ?_;rintro e w0 ⟨rfl,rfl⟩);refine hK.out _ _ ?_ (λdA=>?_)
     · exact S7 _ k8
     clear hK K;try simp only[pz,pw]
     refine ay 9 75 (v:=?_) ?_ ?_;rotate_left
     · intro w aF
       try dsimp only at aF
       go_simp;try with_reducible rfl
     try simp only[pz,pw]
     refine ay 10 76 (v:=?_) ?_ ?_;rotate_left
     · intro w aF
       try dsimp only at aF
       go_simp;try with_reducible rfl
     try simp only[pz,pw]
     refine aX 11 77 ?_;try simp only[pz,pw]
     refine aX 12 78 ?_;try simp only[pz,pw]
     refine aX 13 79 ?_;try simp only[pz,pw]
     refine aX 14 80 ?_;try simp only[pz,pw]
     refine aX 15 81 ?_;try simp only[pz,pw]
     refine aX 16 82 ?_;try simp only[pz,pw]
     refine aX 17 83 ?_;try simp only[pz,pw]
     refine aX 18 84 ?_;try simp only[pz,pw]
     refine aX 19 85 ?_;try simp only[pz,pw]
     refine aX 20 86 ?_;try simp only[pz,pw]
     refine aX 21 87 ?_;try simp only[pz,pw]
     refine aX 22 88 ?_;try simp only[pz,pw]
     refine aX 23 89 ?_;try simp only[pz,pw]
     refine aX 24 90 ?_;try simp only[pz,pw]
     refine aX 25 91 ?_;try simp only[pz,pw]
     refine aX 26 92 ?_;try simp only[pz,pw]
     refine aX 27 93 ?_;try simp only[pz,pw]
     refine aX 28 94 ?_;try simp only[pz,pw]
     refine ay 29 95 (v:=?_) ?_ ?_;rotate_left
     · intro w aF
       try dsimp only at aF
       go_simp;try with_reducible rfl
     try simp only[pz,pw]
     refine wpAnyH_ready (rs:=[30]) (by kernel_rfl) (by simp) ?_;refine AllReadyH.cons rfl (λK hK=>?_) AllReadyH.nil;go_simp;go_wp2_with (go_at_call 233;refine(dY _).mono ?_;rintro e w0 ⟨rfl,rfl⟩;exact⟨rfl,(HP.out _ _).2 ⟨rfl,h7.drew.kept.trans k8⟩⟩)
    case pos =>
     obtain⟨u2,hc⟩:=hc;have hcl:u2.length<u.length:=by
      have:=congrArg List.length hc;simp at this;omega
     rw[hc] at h7
     by_cases ho:dn.len=0∨Op.bytesLess dn.last (u.take (ah u))=true
     case neg=>
      have hnone:aI s=none:=by rw[HE.out,L.mI (sZ λe=>ho e.2)]
      have hne:dn.len≠0:=λe=>ho (.inl e)
      have hlt:Op.bytesLess dn.last (u.take (ah u))=false:=by
       rcases xS:Op.bytesLess dn.last (u.take (ah u)) with _|_
       · rfl
       · exact absurd (.inr xS) ho
      obtain⟨g,rfl,Ju,hg2,hg3,hg4⟩:=hsh hne;have hg1:B1<g:=Ju.1;have Qi:=h7.lt;have yt:((dn.len:Int)==0)=false:=mE hne;have hwr:=tE hne hdl;have Sf:dn.len - 1<dn.len:=Nat.sub_lt (Nat.pos_of_ne_zero hne) Nat.one_pos;have Jv:g≠rb:=by omega
      have S8:∀W',Kept rb W7.drew W'→(λW:World=>W.cell? ⟨Nd,0,none⟩=some (.func (.func 233) #[] #[])∧W.cell? ⟨R,0,none⟩=some (.pointer (some ⟨rb,0,none⟩))∧W.cell? ⟨Bx,0,none⟩=some (str (u.take (ah u)))∧W.cell? ⟨B1,2,none⟩=some (.slice (some ⟨g,0,none⟩) dn.len c)∧W.cell? ⟨g,(dn.len - 1) * 4,none⟩=some (str dn.last)) W':=λW' k=>⟨(S7 W' k).1,(S7 W' k).2.1,(S7 W' k).2.2.1,(S7 W' k).2.2.2,k.cell (w:=W7.drew) hg4 Jv⟩
      have HP:Hid (∀e w',aD w rb s e w'↔(e=.panicked cS∧Kept rb w w')):=by
       intro e w';unfold aD;rw[hnone]
      clear hnone L eq ho hc S7 hsh;refine wp_region_held_drew (S:=(λW:World=>W.cell? ⟨Nd,0,none⟩=some (.func (.func 233) #[] #[])∧W.cell? ⟨R,0,none⟩=some (.pointer (some ⟨rb,0,none⟩))∧W.cell? ⟨Bx,0,none⟩=some (str (u.take (ah u)))∧W.cell? ⟨B1,2,none⟩=some (.slice (some ⟨g,0,none⟩) dn.len c)∧W.cell? ⟨g,(dn.len - 1) * 4,none⟩=some (str dn.last))) (by kernel_rfl) ?_ (λdA=>?_)
      · exact S8 _ (Kept.refl _ _)
      refine ay 0 66 (v:=?_) ?_ ?_;rotate_left
      · intro w aF
        try dsimp only at aF
        go_simp;try with_reducible rfl
      try simp only[pz,pw]
      refine ay 1 67 (v:=?_) ?_ ?_;rotate_left
      · intro w aF
        try dsimp only at aF
        go_simp;try with_reducible rfl
      try simp only[pz,pw]
      refine ay 2 68 (v:=?_) ?_ ?_;rotate_left
      · intro w aF
        try dsimp only at aF
        go_simp;try with_reducible rfl
      try simp only[pz,pw]
      refine wpAnyH_ready (rs:=[3]) (by kernel_rfl) (by simp) ?_;refine AllReadyH.cons rfl (λK hK=>?_) AllReadyH.nil;go_simp;go_wp2_with (go_at_call 59;refine(bp _ _ h7.drew.tab hwn).mono ?_;rw[hn];rintro e w8 ⟨rfl,xQ⟩;have k8:=Kept.ai (b:=rb) xQ zr);refine hK.out _ _ ?_ (λdA=>?_)
      · exact S8 _ k8
      clear hK K;try simp only[pz,pw]
      refine ay 4 70 (v:=?_) ?_ ?_;rotate_left
      · intro w aF
        try dsimp only at aF
        go_simp;try with_reducible rfl
      try simp only[pz,pw]
      refine ay 5 71 (v:=?_) ?_ ?_;rotate_left
      · intro w aF
        try dsimp only at aF
        go_simp;try with_reducible rfl
      try simp only[pz,pw]
      refine ay 6 72 (v:=?_) ?_ ?_;rotate_left
      · intro w aF
        try dsimp only at aF
        go_simp;try with_reducible rfl
      try simp only[pz,pw]
      refine ay 7 73 (v:=?_) ?_ ?_;rotate_left
      · intro w aF
        try dsimp only at aF
        go_simp;try with_reducible rfl
      try simp only[pz,pw]
      refine wpAnyH_ready (rs:=[8]) (by kernel_rfl) (by simp) ?_;refine AllReadyH.cons rfl (λK hK=>?_) AllReadyH.nil;go_simp;go_wp2_with (go_at_call 235;refine(cT [58] u2 rb _ (h7.drew.rest.below xQ zr)).mono ?_;rintro e w9 ⟨rfl,yA,kV⟩;have k9:=k8.trans kV);refine hK.out _ _ ?_ (λdA=>?_)
      · exact S8 _ k9
      clear hK K;try simp only[pz,pw]
      refine ay 9 75 (v:=?_) ?_ ?_;rotate_left
      · intro w aF
        try dsimp only at aF
        go_simp;try with_reducible rfl
      try simp only[pz,pw]
      refine ay 10 76 (v:=?_) ?_ ?_;rotate_left
      · intro w aF
        try dsimp only at aF
        go_simp;try with_reducible rfl
      try simp only[pz,pw]
      refine ay 11 77 (v:=?_) ?_ ?_;rotate_left
      · intro w aF
        try dsimp only at aF
        go_simp;try with_reducible rfl
      try simp only[pz,pw]
      refine ay 12 78 (v:=?_) ?_ ?_;rotate_left
      · intro w aF
        try dsimp only at aF
        go_simp;try with_reducible rfl
      try simp only[pz,pw]
      refine ay 13 79 (v:=?_) ?_ ?_;rotate_left
      · intro w aF
        try dsimp only at aF
        go_simp;try with_reducible rfl
      try simp only[pz,pw]
      refine ay 14 80 (v:=?_) ?_ ?_;rotate_left
      · intro w aF
        try dsimp only at aF
        go_simp;try with_reducible rfl
      try simp only[pz,pw]
      refine ay 15 81 (v:=?_) ?_ ?_;rotate_left
      · intro w aF
        try dsimp only at aF
        go_simp;try with_reducible rfl
      try simp only[pz,pw]
      refine ay 16 82 (v:=?_) ?_ ?_;rotate_left
      · intro w aF
        try dsimp only at aF
        go_simp;try with_reducible rfl
      try simp only[pz,pw]
      refine ay 17 83 (v:=?_) ?_ ?_;rotate_left
      · intro w aF
        try dsimp only at aF
        go_simp;try with_reducible rfl
      try simp only[pz,pw]
      refine ay 18 84 (v:=?_) ?_ ?_;rotate_left
      · intro w aF
        try dsimp only at aF
        go_simp;try with_reducible rfl
      try simp only[pz,pw]
      refine ay 19 85 (v:=?_) ?_ ?_;rotate_left
      · intro w aF
        try dsimp only at aF
        go_simp;try with_reducible rfl
      try simp only[pz,pw]
      refine ay 20 86 (v:=?_) ?_ ?_;rotate_left
      · intro w aF
        try dsimp only at aF
        go_simp;try with_reducible rfl
      try simp only[pz,pw]
      refine ay 21 87 (v:=?_) ?_ ?_;rotate_left
      · intro w aF
        try dsimp only at aF
        go_simp;try with_reducible rfl
      try simp only[pz,pw]
      refine ay 22 88 (v:=?_) ?_ ?_;rotate_left
      · intro w aF
        try dsimp only at aF
        go_simp;try with_reducible rfl
      try simp only[pz,pw]
      refine ay 23 89 (v:=?_) ?_ ?_;rotate_left
      · intro w aF
        try dsimp only at aF
        go_simp;try with_reducible rfl
      try simp only[pz,pw]
      refine ay 24 90 (v:=?_) ?_ ?_;rotate_left
      · intro w aF
        try dsimp only at aF
        go_simp;try with_reducible rfl
      try simp only[pz,pw]
      refine ay 25 91 (v:=?_) ?_ ?_;rotate_left
      · intro w aF
        try dsimp only at aF
        go_simp;try with_reducible rfl
      try simp only[pz,pw]
      refine ay 26 92 (v:=?_) ?_ ?_;rotate_left
      · intro w aF
        try dsimp only at aF
        go_simp;try with_reducible rfl
      try simp only[pz,pw]
      refine ay 27 93 (v:=?_) ?_ ?_;rotate_left
      · intro w aF
        try dsimp only at aF
        go_simp;try with_reducible rfl
      try simp only[pz,pw]
      refine ay 28 94 (v:=?_) ?_ ?_;rotate_left
      · intro w aF
        try dsimp only at aF
        go_simp;try with_reducible rfl
      try simp only[pz,pw]
      refine ay 29 95 (v:=?_) ?_ ?_;rotate_left
      · intro w aF
        try dsimp only at aF
        go_simp;try with_reducible rfl
      try simp only[pz,pw]
      refine wpAnyH_ready (rs:=[30]) (by kernel_rfl) (by simp) ?_;refine AllReadyH.cons rfl (λK hK=>?_) AllReadyH.nil;go_simp;go_wp2_with (go_at_call 233;refine(dY _).mono ?_;rintro e w0 ⟨rfl,rfl⟩;exact⟨rfl,(HP.out _ _).2 ⟨rfl,h7.drew.kept.trans k9⟩⟩)
     case pos =>
      have KR:=zh (show lU dn (u.take (ah u)) from⟨hn,ho⟩)
      go_cut [] from 61 to 110 (λwx=>Kept rb W7 wx∧Rest wx rb u2)
      case first=>
       by_cases hz:dn.len=0
       case pos=>
        have yt:=Em hz;clear hsh ho L eq KR hc;refine wp_region_held_drew (S:=(λW:World=>W.cell? ⟨Nd,0,none⟩=some (.func (.func 233) #[] #[])∧W.cell? ⟨R,0,none⟩=some (.pointer (some ⟨rb,0,none⟩))∧W.cell? ⟨Bx,0,none⟩=some (str (u.take (ah u)))∧W.cell? ⟨B1,2,none⟩=some (.slice p dn.len c))) (by kernel_rfl) ?_ (λdA=>?_)
        · exact S7 _ (Kept.refl _ _)
        refine ay 0 66 (v:=?_) ?_ ?_;rotate_left
        · intro w aF
          try dsimp only at aF
          go_simp;try with_reducible rfl
        try simp only[pz,pw]
        refine ay 1 67 (v:=?_) ?_ ?_;rotate_left
        · intro w aF
          try dsimp only at aF
          go_simp;try with_reducible rfl
        try simp only[pz,pw]
        refine ay 2 68 (v:=?_) ?_ ?_;rotate_left
        · intro w aF
          try dsimp only at aF
          go_simp;try with_reducible rfl
        try simp only[pz,pw]
        refine wpAnyH_ready (rs:=[3]) (by kernel_rfl) (by simp) ?_;refine AllReadyH.cons rfl (λK hK=>?_) AllReadyH.nil;go_simp;go_wp2_with (go_at_call 59;refine(bp _ _ h7.drew.tab hwn).mono ?_;rw[hn];rintro e w8 ⟨rfl,xQ⟩;have k8:=Kept.ai (b:=rb) xQ zr);refine hK.out _ _ ?_ (λdA=>?_)
        · exact S7 _ k8
        clear hK K;try simp only[pz,pw]
        refine ay 4 70 (v:=?_) ?_ ?_;rotate_left
        · intro w aF
          try dsimp only at aF
          go_simp;try with_reducible rfl
        try simp only[pz,pw]
        refine ay 5 71 (v:=?_) ?_ ?_;rotate_left
        · intro w aF
          try dsimp only at aF
          go_simp;try with_reducible rfl
        try simp only[pz,pw]
        refine ay 6 72 (v:=?_) ?_ ?_;rotate_left
        · intro w aF
          try dsimp only at aF
          go_simp;try with_reducible rfl
        try simp only[pz,pw]
        refine ay 7 73 (v:=?_) ?_ ?_;rotate_left
        · intro w aF
          try dsimp only at aF
          go_simp;try with_reducible rfl
        try simp only[pz,pw]
        refine wpAnyH_ready (rs:=[8]) (by kernel_rfl) (by simp) ?_;refine AllReadyH.cons rfl (λK hK=>?_) AllReadyH.nil;go_simp;go_wp2_with (go_at_call 235;refine(cT [58] u2 rb _ (h7.drew.rest.below xQ zr)).mono ?_;rintro e w9 ⟨rfl,yA,kV⟩;have k9:=k8.trans kV);refine hK.out _ _ ?_ (λdA=>?_)
        · exact S7 _ k9
        clear hK K;try simp only[pz,pw]
        refine ay 9 75 (v:=?_) ?_ ?_;rotate_left
        · intro w aF
          try dsimp only at aF
          go_simp;try with_reducible rfl
        try simp only[pz,pw]
        refine ay 10 76 (v:=?_) ?_ ?_;rotate_left
        · intro w aF
          try dsimp only at aF
          go_simp;try with_reducible rfl
        try simp only[pz,pw]
        refine ay 11 77 (v:=?_) ?_ ?_;rotate_left
        · intro w aF
          try dsimp only at aF
          go_simp;try with_reducible rfl
        try simp only[pz,pw]
        refine ay 12 78 (v:=?_) ?_ ?_;rotate_left
        · intro w aF
          try dsimp only at aF
          go_simp;try with_reducible rfl
        try simp only[pz,pw]
        refine ay 13 79 (v:=?_) ?_ ?_;rotate_left
        · intro w aF
          try dsimp only at aF
          go_simp;try with_reducible rfl
        try simp only[pz,pw]
        refine ay 14 80 (v:=?_) ?_ ?_;rotate_left
        · intro w aF
          try dsimp only at aF
          go_simp;try with_reducible rfl
        try simp only[pz,pw]
        refine ay 15 81 (v:=?_) ?_ ?_;rotate_left
        · intro w aF
          try dsimp only at aF
          go_simp;try with_reducible rfl
        try simp only[pz,pw]
        refine aX 16 82 ?_;try simp only[pz,pw]
        refine aX 17 83 ?_;try simp only[pz,pw]
        refine aX 18 84 ?_;try simp only[pz,pw]
        refine aX 19 85 ?_;try simp only[pz,pw]
        refine aX 20 86 ?_;try simp only[pz,pw]
        refine aX 21 87 ?_;try simp only[pz,pw]
        refine aX 22 88 ?_;try simp only[pz,pw]
        refine aX 23 89 ?_;try simp only[pz,pw]
        refine aX 24 90 ?_;try simp only[pz,pw]
        refine aX 25 91 ?_;try simp only[pz,pw]
        refine aX 26 92 ?_;try simp only[pz,pw]
        refine aX 27 93 ?_;try simp only[pz,pw]
        refine ay 28 94 (v:=?_) ?_ ?_;rotate_left
        · intro w aF
          try dsimp only at aF
          go_simp;try with_reducible rfl
        try simp only[pz,pw]
        refine ay 29 95 (v:=?_) ?_ ?_;rotate_left
        · intro w aF
          try dsimp only at aF
          go_simp;try with_reducible rfl
        try simp only[pz,pw]
        refine wpAnyH_ready (rs:=[30]) (by kernel_rfl) (by simp) ?_;refine AllReadyH.cons rfl (λK hK=>?_) AllReadyH.nil;go_simp;go_wp2_with (go_at_call 233;refine(cZ _).mono ?_;rintro e w0 ⟨rfl,rfl⟩);refine hK.out _ _ ?_ (λdA=>?_)
        · exact S7 _ k9
        clear hK K;try simp only[pz,pw]
        refine wpAnyH_done (by kernel_rfl) ?_ _;go_wp2_with fail
        go_meet
        case rel=>exact⟨(Kept.refl _ _).drew.trans k9,yA⟩
       case neg=>
        have hlt:Op.bytesLess dn.last (u.take (ah u))=true:=by
         rcases ho with ho|ho
         · exact absurd ho hz
         · exact ho
        obtain⟨g,rfl,Ju,hg2,hg3,hg4⟩:=hsh hz;have hg1:B1<g:=Ju.1;have Qi:=h7.lt;have yt:=mE hz;have hwr:=tE hz hdl;have Sf:dn.len - 1<dn.len:=Nat.sub_lt (Nat.pos_of_ne_zero hz) Nat.one_pos;have Jv:g≠rb:=by omega
        have S8:∀W',Kept rb W7.drew W'→(λW:World=>W.cell? ⟨Nd,0,none⟩=some (.func (.func 233) #[] #[])∧W.cell? ⟨R,0,none⟩=some (.pointer (some ⟨rb,0,none⟩))∧W.cell? ⟨Bx,0,none⟩=some (str (u.take (ah u)))∧W.cell? ⟨B1,2,none⟩=some (.slice (some ⟨g,0,none⟩) dn.len c)∧W.cell? ⟨g,(dn.len - 1) * 4,none⟩=some (str dn.last)) W':=λW' k=>⟨(S7 W' k).1,(S7 W' k).2.1,(S7 W' k).2.2.1,(S7 W' k).2.2.2,k.cell (w:=W7.drew) hg4 Jv⟩
        clear ho S7 hsh L eq KR hc;refine wp_region_held_drew (S:=(λW:World=>W.cell? ⟨Nd,0,none⟩=some (.func (.func 233) #[] #[])∧W.cell? ⟨R,0,none⟩=some (.pointer (some ⟨rb,0,none⟩))∧W.cell? ⟨Bx,0,none⟩=some (str (u.take (ah u)))∧W.cell? ⟨B1,2,none⟩=some (.slice (some ⟨g,0,none⟩) dn.len c)∧W.cell? ⟨g,(dn.len - 1) * 4,none⟩=some (str dn.last))) (by kernel_rfl) ?_ (λdA=>?_)
        · exact S8 _ (Kept.refl _ _)
        refine ay 0 66 (v:=?_) ?_ ?_;rotate_left
        · intro w aF
          try dsimp only at aF
          go_simp;try with_reducible rfl
        try simp only[pz,pw]
        refine ay 1 67 (v:=?_) ?_ ?_;rotate_left
        · intro w aF
          try dsimp only at aF
          go_simp;try with_reducible rfl
        try simp only[pz,pw]
        refine ay 2 68 (v:=?_) ?_ ?_;rotate_left
        · intro w aF
          try dsimp only at aF
          go_simp;try with_reducible rfl
        try simp only[pz,pw]
        refine wpAnyH_ready (rs:=[3]) (by kernel_rfl) (by simp) ?_;refine AllReadyH.cons rfl (λK hK=>?_) AllReadyH.nil;go_simp;go_wp2_with (go_at_call 59;refine(bp _ _ h7.drew.tab hwn).mono ?_;rw[hn];rintro e w8 ⟨rfl,xQ⟩;have k8:=Kept.ai (b:=rb) xQ zr);refine hK.out _ _ ?_ (λdA=>?_)
        · exact S8 _ k8
        clear hK K;try simp only[pz,pw]
        refine ay 4 70 (v:=?_) ?_ ?_;rotate_left
        · intro w aF
          try dsimp only at aF
          go_simp;try with_reducible rfl
        try simp only[pz,pw]
        refine ay 5 71 (v:=?_) ?_ ?_;rotate_left
        · intro w aF
          try dsimp only at aF
          go_simp;try with_reducible rfl
        try simp only[pz,pw]
        refine ay 6 72 (v:=?_) ?_ ?_;rotate_left
        · intro w aF
          try dsimp only at aF
          go_simp;try with_reducible rfl
        try simp only[pz,pw]
        refine ay 7 73 (v:=?_) ?_ ?_;rotate_left
        · intro w aF
          try dsimp only at aF
          go_simp;try with_reducible rfl
        try simp only[pz,pw]
        refine wpAnyH_ready (rs:=[8]) (by kernel_rfl) (by simp) ?_;refine AllReadyH.cons rfl (λK hK=>?_) AllReadyH.nil;go_simp;go_wp2_with (go_at_call 235;refine(cT [58] u2 rb _ (h7.drew.rest.below xQ zr)).mono ?_;rintro e w9 ⟨rfl,yA,kV⟩;have k9:=k8.trans kV);refine hK.out _ _ ?_ (λdA=>?_)
        · exact S8 _ k9
        clear hK K;try simp only[pz,pw]
        refine ay 9 75 (v:=?_) ?_ ?_;rotate_left
        · intro w aF
          try dsimp only at aF
          go_simp;try with_reducible rfl
        try simp only[pz,pw]
        refine ay 10 76 (v:=?_) ?_ ?_;rotate_left
        · intro w aF
          try dsimp only at aF
          go_simp;try with_reducible rfl
        try simp only[pz,pw]
        refine ay 11 77 (v:=?_) ?_ ?_;rotate_left
        · intro w aF
          try dsimp only at aF
          go_simp;try with_reducible rfl
        try simp only[pz,pw]
        refine ay 12 78 (v:=?_) ?_ ?_;rotate_left
        · intro w aF
          try dsimp only at aF
          go_simp;try with_reducible rfl
        try simp only[pz,pw]
        refine ay 13 79 (v:=?_) ?_ ?_;rotate_left
        · intro w aF
          try dsimp only at aF
          go_simp;try with_reducible rfl
        try simp only[pz,pw]
        refine ay 14 80 (v:=?_) ?_ ?_;rotate_left
        · intro w aF
          try dsimp only at aF
          go_simp;try with_reducible rfl
        try simp only[pz,pw]
        refine ay 15 81 (v:=?_) ?_ ?_;rotate_left
        · intro w aF
          try dsimp only at aF
          go_simp;try with_reducible rfl
        try simp only[pz,pw]
        refine ay 16 82 (v:=?_) ?_ ?_;rotate_left
        · intro w aF
          try dsimp only at aF
          go_simp;try with_reducible rfl
        try simp only[pz,pw]
        refine ay 17 83 (v:=?_) ?_ ?_;rotate_left
        · intro w aF
          try dsimp only at aF
          go_simp;try with_reducible rfl
        try simp only[pz,pw]
        refine ay 18 84 (v:=?_) ?_ ?_;rotate_left
        · intro w aF
          try dsimp only at aF
          go_simp;try with_reducible rfl
        try simp only[pz,pw]
        refine ay 19 85 (v:=?_) ?_ ?_;rotate_left
        · intro w aF
          try dsimp only at aF
          go_simp;try with_reducible rfl
        try simp only[pz,pw]
        refine ay 20 86 (v:=?_) ?_ ?_;rotate_left
        · intro w aF
          try dsimp only at aF
          go_simp;try with_reducible rfl
        try simp only[pz,pw]
        refine ay 21 87 (v:=?_) ?_ ?_;rotate_left
        · intro w aF
          try dsimp only at aF
          go_simp;try with_reducible rfl
        try simp only[pz,pw]
        refine ay 22 88 (v:=?_) ?_ ?_;rotate_left
        · intro w aF
          try dsimp only at aF
          go_simp;try with_reducible rfl
        try simp only[pz,pw]
        refine ay 23 89 (v:=?_) ?_ ?_;rotate_left
        · intro w aF
          try dsimp only at aF
          go_simp;try with_reducible rfl
        try simp only[pz,pw]
        refine ay 24 90 (v:=?_) ?_ ?_;rotate_left
        · intro w aF
          try dsimp only at aF
          go_simp;try with_reducible rfl
        try simp only[pz,pw]
        refine ay 25 91 (v:=?_) ?_ ?_;rotate_left
        · intro w aF
          try dsimp only at aF
          go_simp;try with_reducible rfl
        try simp only[pz,pw]
        refine ay 26 92 (v:=?_) ?_ ?_;rotate_left
        · intro w aF
          try dsimp only at aF
          go_simp;try with_reducible rfl
        try simp only[pz,pw]
        refine ay 27 93 (v:=?_) ?_ ?_;rotate_left
        · intro w aF
          try dsimp only at aF
          go_simp;try with_reducible rfl
        try simp only[pz,pw]
        refine ay 28 94 (v:=?_) ?_ ?_;rotate_left
        · intro w aF
          try dsimp only at aF
          go_simp;try with_reducible rfl
        try simp only[pz,pw]
        refine ay 29 95 (v:=?_) ?_ ?_;rotate_left
        · intro w aF
          try dsimp only at aF
          go_simp;try with_reducible rfl
        try simp only[pz,pw]
        refine wpAnyH_ready (rs:=[30]) (by kernel_rfl) (by simp) ?_;refine AllReadyH.cons rfl (λK hK=>?_) AllReadyH.nil;go_simp;go_wp2_with (go_at_call 233;refine(cZ _).mono ?_;rintro e w0 ⟨rfl,rfl⟩);refine hK.out _ _ ?_ (λdA=>?_)
        · exact S8 _ k9
        clear hK K;try simp only[pz,pw]
        refine wpAnyH_done (by kernel_rfl) ?_ _;go_wp2_with fail
        go_meet
        case rel=>exact⟨(Kept.refl _ _).drew.trans k9,yA⟩
      case rest =>
       obtain⟨kx,rx⟩:=hcut;have h9:=h7.next kx rx
       have R1:=kx.heap hX Jm;have Ic:=kx.heap D5 pU;have Ii:=Fx.kept (w':=wc) λb hb hlt=>kx.block b hlt (λe=>by have hb:B1<b:=hb.1;have:=h7.lt;injection e with e;omega)
       have e9:=h9.env.next
       have LH:=zh L;clear L eq S7 hsh D5 Fx;go_wp2_with fail;rcases hq:aI u2 with _|⟨t,r⟩
       · have hnone:aI s=none:=by rw[HE.out,LH.out.mI (by rw[qJ KR.out hc,hq])]
         refine(ih u2 (by omega) R Nd X rb wc h9.tab h9.env h9.rest).mono ?_;intro e CL hpost;unfold aD at hpost;rw[hq] at hpost;obtain⟨rfl,yx⟩:=hpost;exact⟨rfl,by unfold aD;rw[hnone];exact⟨rfl,h9.kept.trans yx⟩⟩
       · have HQ := zh hq
         have HC:=zh hc;refine(ih u2 (by omega) R Nd X rb wc h9.tab h9.env h9.rest).mono ?_;intro e CL hpost;unfold aD at hpost;rw[hq] at hpost;obtain⟨⟨vt,rfl,QA⟩,MG,yx⟩:=hpost;clear hq hc;have h10:=h9.next yx MG
         have rD:=yx.heap R1 Jm;have yD:=yx.heap Ic pU;have Gk:=Ii.kept (w':=CL) λb hb hlt=>yx.block b hlt (λe=>by have hb:B1<b:=hb.1;have:=h7.lt;injection e with e;omega)
         have f1:=au rD 1;have f2:=au rD 2;have f3:=au rD 3;have c0:=(af rD 0).trans rfl;have c1:=(af rD 1).trans rfl;have c2:=(af rD 2).trans rfl;have c3:=(af rD 3).trans rfl;obtain⟨pt,ct,rfl,_⟩:=QA.shape;have g2:=(af yD 2).trans rfl;clear R1 Ic Ii e9;have PB:=(Array.getElem?_eq_some_iff.1 rD).1;have TE:=kx.size;have TC:=(Array.getElem?_eq_some_iff.1 hX).1;have Um:=h7.lt;go_upto_region 23 with fail;have Kq:(((CL.setCell ⟨Bx,1,none⟩ (.int .u8 t.k)).setCell ⟨Bx,2,none⟩ (str t.n)).setCell ⟨Bx,3,none⟩ (.slice pt t.sub.len ct)).heap[Bx]? =some (.cells #[str (u.take (ah u)),.int .u8 t.k,str t.n,.slice pt t.sub.len ct] 321 (0,0)):=cC (cC (cC rD 1 (.int .u8 t.k)) 2 (str t.n)) 3 (.slice pt t.sub.len ct);have dL:∀b,b≠Bx→(((CL.setCell ⟨Bx,1,none⟩ (.int .u8 t.k)).setCell ⟨Bx,2,none⟩ (str t.n)).setCell ⟨Bx,3,none⟩ (.slice pt t.sub.len ct)).heap[b]? =CL.heap[b]? :=λb hb=>by rw[Below.heap_setCell _ _ _ _ hb,Below.heap_setCell _ _ _ _ hb,Below.heap_setCell _ _ _ _ hb]
         have D6:=(dL B1 (Nat.ne_of_lt OH)).trans yD;have U3:=Gk.kept (w':=((CL.setCell ⟨Bx,1,none⟩ (.int .u8 t.k)).setCell ⟨Bx,2,none⟩ (str t.n)).setCell ⟨Bx,3,none⟩ (.slice pt t.sub.len ct)) λb hb _=>dL b hb.2
         have MV:=QA.kept (w':=((CL.setCell ⟨Bx,1,none⟩ (.int .u8 t.k)).setCell ⟨Bx,2,none⟩ (str t.n)).setCell ⟨Bx,3,none⟩ (.slice pt t.sub.len ct)) λb hb _=>dL b (by have hb:wc.heap.size≤b:=hb;omega)
         have hB:=((h10.set Jl 1 (.int .u8 t.k)).set Jl 2 (str t.n)).set Jl 3 (.slice pt t.sub.len ct);obtain⟨sc,wg,KB,Sk⟩:=U3;obtain⟨i0,hi,hz0,hz1,hz2⟩:=info_parts Ek;have Sh:=LH.out.len;have MN:(dn.len+1) * 64≤140737488355328:=by omega
         have Qa:dn.len+1≤maxLen:=by unfold maxLen;omega
         clear dL Gk QA h10 rD yD f1 f2 f3 c0 c1 c2 c3 g2 MG yx;generalize ((CL.setCell ⟨Bx,1,none⟩ (.int .u8 t.k)).setCell ⟨Bx,2,none⟩ (str t.n)).setCell ⟨Bx,3,none⟩ (.slice pt t.sub.len ct)=WB at *;have c0:=(af Kq 0).trans rfl;have c1:=(af Kq 1).trans rfl;have c2:=(af Kq 2).trans rfl;have c3:=(af Kq 3).trans rfl;have g2:=(af D6 2).trans rfl;have hG:=heap_alloc_new WB (.cells #[str (u.take (ah u)),.int .u8 t.k,str t.n,.slice pt t.sub.len ct] 321);have Rr:=(uI (n:=1) (cs:=[str (u.take (ah u)),.int .u8 t.k,str t.n,.slice pt t.sub.len ct]) hG rfl (by decide)).cells (g:=WB.heap.size) rfl;have HG:=zh Rr;clear hG Rr;go_wp2_with (at_builtin;refine gK (WB.alloc (.cells #[str (u.take (ah u)),.int .u8 t.k,str t.n,.slice pt t.sub.len ct] 321)) rfl _ _ 280 rfl 0 321 i0 _ 4 64 Cd hi hz0 hz1 hz2 rfl (by decide) _ _ _ rfl (wg.alloc _) ⟨WB.heap.size,0,none⟩ 1 1 [str (u.take (ah u)),.int .u8 t.k,str t.n,.slice pt t.sub.len ct] rfl rfl HG.out ?a2 (by decide) Qa MN (Nat.zero_le _) ?a3)
         case a2=>exact⟨rfl,rfl,rfl,rfl⟩
         case a3 =>
          intro v' Od Qv Gh Mz;obtain⟨Is,c11,rfl⟩:=aJ Qv;have R3:=(Array.getElem?_eq_some_iff.1 Kq).1;have MM:(WB.alloc (.cells #[str (u.take (ah u)),.int .u8 t.k,str t.n,.slice pt t.sub.len ct] 321)).heap.size=WB.heap.size+1:=by simp
          have mD:=(Below.refl WB.heap.size WB).alloc zr (.cells #[str (u.take (ah u)),.int .u8 t.k,str t.n,.slice pt t.sub.len ct] 321);have hA:=hB.alloc (.cells #[str (u.take (ah u)),.int .u8 t.k,str t.n,.slice pt t.sub.len ct] 321);have Ie:=(mD.block B1 (by omega)).trans D6;have MU:=(MV.kept (w':=WB.alloc (.cells #[str (u.take (ah u)),.int .u8 t.k,str t.n,.slice pt t.sub.len ct] 321)) λb _ hlt=>mD.block b hlt).mono (D':=λb=>(B1<b∧b≠Bx)∧(Value.slice p dn.len c).ownBlock≠some b) λb hb _=>by
           have hb:wc.heap.size≤b:=hb;refine⟨⟨by omega,by omega⟩,λe=>?_⟩;have:=MB b e;omega
          have MA:=Sk.kept (w':=WB.alloc (.cells #[str (u.take (ah u)),.int .u8 t.k,str t.n,.slice pt t.sub.len ct] 321)) λb _ hlt=>mD.block b hlt
          have Gl:=(xW.grow KB MA MU ⟨by omega,by omega⟩ Qv Gh (by rw[MM];exact Mz)).mono (D':=λb=>B1<b) λb hb _=>hb.1
          have h11:=hA.grown Gh λb e=>by have:=KB b e;have hl:=LH.out.lo;omega
          have ug:=(Gh.block B1 (by omega) (λe=>by have:=KB B1 e.symm;omega)).trans Ie;generalize hL:dn.len+1=L at *;clear hA Ie MU MA Qv Gh Mz mD hB Kq D6 MV wg KB Sk c0 c1 c2 c3 g2 HG;have g2:=(af ug 2).trans rfl;have f2:=au ug 2;go_upto_region 24 with fail;have D7:(Od.setCell ⟨B1,2,none⟩ (.slice Is L c11)).heap[B1]? =some (.cells #[.int .u8 (wk (s.take (ah s)++[91])),str (s.take (ah s)),.slice Is L c11] 282 (0,0)):=cC ug 2 (.slice Is L c11);have hS:=h11.set LH.out.lo 2 (.slice Is L c11);have KH:=Gl.kept (w':=Od.setCell ⟨B1,2,none⟩ (.slice Is L c11)) λb hb _=>Below.heap_setCell _ _ _ _ (Nat.ne_of_gt hb)
          clear h11 Gl ug g2 f2;generalize Od.setCell ⟨B1,2,none⟩ (.slice Is L c11)=WS at *;have d1:=hS.env.r
          by_cases hr:∃r2,r=44::r2
          case pos=>
           obtain⟨r2,rfl⟩:=hr;have hr2:=sS HQ.out;simp only[List.length_cons] at hr2;have Ad:=hS.rest;go_wp2_with (go_at_call 235;refine(cT [44] r2 rb _ Ad).mono ?_;rintro e w12 ⟨rfl,Qh,JB⟩)
           go_roundg r2.length
           case measure=>omega
           case rel=>
            refine⟨dn.snoc (u.take (ah u)) t,r2,rfl,hS.next JB Qh,LH.out.lo,by rw[Fo.qt];omega,⟨_,JB.heap D7 pU,?_⟩,zh (LH.out.step_eq KR.out HC.out HQ.out)⟩;exact KH.kept λb hb hlt=>JB.block b hlt (λe=>by have hb:B1<b:=hb;have:=hS.lt;have:=LH.out.lo;injection e with e;omega)
          case neg =>
           have D2:=dU (s:=r) (c:=44) (λr' e=>hr ⟨r',e⟩);have IE:=zh (LH.out.I3 KR.out HC.out HQ.out (λr' e=>hr ⟨r',e⟩));have e1:=hS.env.need;have e2:=(af D7 2).trans rfl;clear hr;have hS1:=hS.drew.env.need;have jO:=hS.drew.env.r;have SS:∀W',Kept rb WS.drew W'→(λW:World=>W.cell? ⟨Nd,0,none⟩=some (.func (.func 233) #[] #[])∧W.cell? ⟨R,0,none⟩=some (.pointer (some ⟨rb,0,none⟩))) W':=λW' k=>⟨k.cell hS1 hS.pS.nn,k.cell jO hS.pS.nr⟩
           clear hS1 jO
           by_cases hle:L≤6
           case pos =>
            have hnd:Calls Tryz.prog 233 #[.bool (decide ((L:Int)≤6))] WS λe w'=>e=.returned (.tuple #[])∧WS=w':=by
             rw[decide_eq_true (show(L:Int)≤6 by omega)];exact cZ _
            by_cases h93:∃r',r=93::r'
            case pos=>
             obtain⟨r',rfl⟩:=h93;have HP:Hid (aI s=some (⟨wk (s.take (ah s)++[91]),s.take (ah s),dn.snoc (u.take (ah u)) t⟩,r')):=by
              show _=_
              rw[HE.out,IE.out];simp only[Fo.qt,hL,if_pos hle]
             clear hle hL;go_wp2_with (first|(go_at_call 235;refine(bM _ [44] rb _ hS.rest.cell D2).mono ?_;rintro e w0 ⟨rfl,rfl⟩)|(go_at_call 233;refine hnd.mono ?_;rintro e w0 ⟨rfl,rfl⟩));refine wp_region_held_drew (S:=(λW:World=>W.cell? ⟨Nd,0,none⟩=some (.func (.func 233) #[] #[])∧W.cell? ⟨R,0,none⟩=some (.pointer (some ⟨rb,0,none⟩)))) (by kernel_rfl) ?_ (λdA=>?_)
             · exact SS _ (Kept.refl _ _)
             refine ay 0 117 (v:=?_) ?_ ?_;rotate_left
             · intro w aF
               try dsimp only at aF
               go_simp;try with_reducible rfl
             try simp only[pz,pw]
             refine ay 1 118 (v:=?_) ?_ ?_;rotate_left
             · intro w aF
               try dsimp only at aF
               go_simp;try with_reducible rfl
             try simp only[pz,pw]
             refine ay 2 119 (v:=?_) ?_ ?_;rotate_left
             · intro w aF
               try dsimp only at aF
               go_simp;try with_reducible rfl
             try simp only[pz,pw]
             refine ay 3 120 (v:=?_) ?_ ?_;rotate_left
             · intro w aF
               try dsimp only at aF
               go_simp;try with_reducible rfl
             try simp only[pz,pw]
             refine ay 4 121 (v:=?_) ?_ ?_;rotate_left
             · intro w aF
               try dsimp only at aF
               go_simp;try with_reducible rfl
             try simp only[pz,pw]
             refine ay 5 122 (v:=?_) ?_ ?_;rotate_left
             · intro w aF
               try dsimp only at aF
               go_simp;try with_reducible rfl
             try simp only[pz,pw]
             refine ay 6 123 (v:=?_) ?_ ?_;rotate_left
             · intro w aF
               try dsimp only at aF
               go_simp;try with_reducible rfl
             try simp only[pz,pw]
             refine wpAnyH_ready (rs:=[7]) (by kernel_rfl) (by simp) ?_;refine AllReadyH.cons rfl (λK hK=>?_) AllReadyH.nil;go_simp;go_wp2_with (go_at_call 235;refine(cT [93] r' rb _ hS.drew.rest).mono ?_;rintro e w9 ⟨rfl,yA,kV⟩);refine hK.out _ _ ?_ (λdA=>?_)
             · exact SS _ kV
             clear hK K;try simp only[pz,pw]
             refine ay 8 125 (v:=?_) ?_ ?_;rotate_left
             · intro w aF
               try dsimp only at aF
               go_simp;try with_reducible rfl
             try simp only[pz,pw]
             refine wpAnyH_ready (rs:=[9]) (by kernel_rfl) (by simp) ?_;refine AllReadyH.cons rfl (λK hK=>?_) AllReadyH.nil;go_simp;go_wp2_with (go_at_call 233;refine(cZ _).mono ?_;rintro e w0 ⟨rfl,rfl⟩);refine hK.out _ _ ?_ (λdA=>?_)
             · exact SS _ kV
             clear hK K;try simp only[pz,pw]
             refine wpAnyH_done (by kernel_rfl) ?_ _;have h9:=hS.drew.next kV yA
             have Ee:=kV.heap (w:=WS.drew) D7 pU;have Ii:=(KH.kept (w:=WS) (w':=WS.drew) (λ_ _ _=>rfl)).kept (w:=WS.drew) (w':=w9) λb hb hlt=>kV.block b hlt (λe=>by have hb:B1<b:=hb;have:=hS.lt;have:=LH.out.lo;injection e with e;omega)
             have x0:=(af Ee 0).trans rfl;have x1:=(af Ee 1).trans rfl;have x2:=(af Ee 2).trans rfl;obtain⟨⟨y0,y1,y2⟩,z0,z1,z2⟩:=h9.rN;clear SS hnd e1 e2 d1;go_wp2_with fail;refine bodyPost_ret (v:=.agg #[.int .u8 (wk (s.take (ah s)++[91])),str (s.take (ah s)),.slice Is L c11]) (by simp[results,Tryz.results234,go_sem,y0,y1,y2]) rfl ?_;unfold aD;rw[HP.out];obtain⟨q1,q2⟩:=h9.done (.int .u8 (wk (s.take (ah s)++[91]))) (str (s.take (ah s))) (.slice Is L c11);have hlo:=LH.out.lo;refine⟨⟨_,rfl,((Ii.Ov.mono (D':=λb=>w.heap.size<b) λb hb _=>by have hb:B1<b:=hb;show w.heap.size<b;omega).GU (λb hb=>Nat.ne_of_gt hb) _ _ _).mono λb hb _=>Nat.le_of_lt hb⟩,q1,q2⟩
            case neg=>
             have MC:=dU (s:=r) (c:=93) (λr' e=>h93 ⟨r',e⟩);have hnone:aI s=none:=by
              rw[HE.out,IE.out];rcases r with _|⟨x,r⟩
              · rfl
              · split
                · rename_i h;simp only[Option.some.injEq,Prod.mk.injEq,List.cons.injEq] at h;exact absurd ⟨_,by rw[h.2.1]⟩ h93
                · rfl
             have HP:Hid (∀e w',aD w rb s e w'↔(e=.panicked cS∧Kept rb w w')):=by
              intro e w';unfold aD;rw[hnone]
             clear hnone h93 hle hL;go_wp2_with (first|(go_at_call 235;refine(bM _ [44] rb _ hS.rest.cell D2).mono ?_;rintro e w0 ⟨rfl,rfl⟩)|(go_at_call 233;refine hnd.mono ?_;rintro e w0 ⟨rfl,rfl⟩));refine wp_region_held_drew (S:=(λW:World=>W.cell? ⟨Nd,0,none⟩=some (.func (.func 233) #[] #[])∧W.cell? ⟨R,0,none⟩=some (.pointer (some ⟨rb,0,none⟩)))) (by kernel_rfl) ?_ (λdA=>?_)
             · exact SS _ (Kept.refl _ _)
             refine ay 0 117 (v:=?_) ?_ ?_;rotate_left
             · intro w aF
               try dsimp only at aF
               go_simp;try with_reducible rfl
             try simp only[pz,pw]
             refine ay 1 118 (v:=?_) ?_ ?_;rotate_left
             · intro w aF
               try dsimp only at aF
               go_simp;try with_reducible rfl
             try simp only[pz,pw]
             refine ay 2 119 (v:=?_) ?_ ?_;rotate_left
             · intro w aF
               try dsimp only at aF
               go_simp;try with_reducible rfl
             try simp only[pz,pw]
             refine ay 3 120 (v:=?_) ?_ ?_;rotate_left
             · intro w aF
               try dsimp only at aF
               go_simp;try with_reducible rfl
             try simp only[pz,pw]
             refine ay 4 121 (v:=?_) ?_ ?_;rotate_left
             · intro w aF
               try dsimp only at aF
               go_simp;try with_reducible rfl
             try simp only[pz,pw]
             refine ay 5 122 (v:=?_) ?_ ?_;rotate_left
             · intro w aF
               try dsimp only at aF
               go_simp;try with_reducible rfl
             try simp only[pz,pw]
             refine ay 6 123 (v:=?_) ?_ ?_;rotate_left
             · intro w aF
               try dsimp only at aF
               go_simp;try with_reducible rfl
             try simp only[pz,pw]
             refine wpAnyH_ready (rs:=[7]) (by kernel_rfl) (by simp) ?_;refine AllReadyH.cons rfl (λK hK=>?_) AllReadyH.nil;go_simp;go_wp2_with (go_at_call 235;refine(bM _ [93] rb _ hS.drew.rest.cell MC).mono ?_;rintro e w0 ⟨rfl,rfl⟩);refine hK.out _ _ ?_ (λdA=>?_)
             · exact SS _ (Kept.refl _ _)
             clear hK K;try simp only[pz,pw]
             refine ay 8 125 (v:=?_) ?_ ?_;rotate_left
             · intro w aF
               try dsimp only at aF
               go_simp;try with_reducible rfl
             try simp only[pz,pw]
             refine wpAnyH_ready (rs:=[9]) (by kernel_rfl) (by simp) ?_;refine AllReadyH.cons rfl (λK hK=>?_) AllReadyH.nil;go_simp;go_wp2_with (go_at_call 233;refine(dY _).mono ?_;rintro e w0 ⟨rfl,rfl⟩;exact⟨rfl,(HP.out _ _).2 ⟨rfl,hS.drew.kept⟩⟩)
           case neg=>
            have hnd:Calls Tryz.prog 233 #[.bool (decide ((L:Int)≤6))] WS λe w'=>e=.panicked cS∧WS=w':=by
             rw[decide_eq_false (show ¬(L:Int)≤6 by omega)];exact dY _
            have hnone:aI s=none:=by
             rw[HE.out,IE.out];rcases r with _|⟨x,r⟩
             · rfl
             · split
               · rename_i h;simp only[Option.some.injEq,Prod.mk.injEq,List.cons.injEq] at h;rw[←h.1,Fo.qt,hL,if_neg hle]
               · rfl
            have HP:Hid (∀e w',aD w rb s e w'↔(e=.panicked cS∧Kept rb w w')):=by
             intro e w';unfold aD;rw[hnone]
            clear hnone hle hL;go_wp2_with (first|(go_at_call 235;refine(bM _ [44] rb _ hS.rest.cell D2).mono ?_;rintro e w0 ⟨rfl,rfl⟩)|(go_at_call 233;refine hnd.mono ?_;rintro e w0 ⟨rfl,rfl⟩));exact⟨rfl,(HP.out _ _).2 ⟨rfl,hS.kept⟩⟩
theorem Ez : ∀ (n : Nat) (s : List UInt8), s.length ≤ n → s.length ≤ 1000 → ei s := by
 intro n
 induction n with
 | zero=>
  intro s hs hm;have hnil:s=[]:=by cases s with
   | nil=>rfl
   | cons=>simp at hs
  subst hnil;exact qy [] hm (λr e=>by cases e) rfl rfl rfl
 | succ n ihn =>
  intro s hs hm;have ih:∀u:List UInt8,u.length<s.length→ei u:=λu hu=>ihn u (by omega) (by omega)
  by_cases hp:dR s
  · by_cases h0:bU (s.take (ah s))=0
    · by_cases hb:∃s2,s.drop (ah s)=91::s2
      · obtain⟨s2,hb⟩:=hb
        have hl:s2.length<s.length:=by
         have:=congrArg List.length hb;simp at this;omega
        rcases oy (w:=s.take (ah s)) with⟨k1,_⟩|⟨k1,_⟩|⟨k1,_⟩|⟨k1,_⟩
        all_goals first
         | exact uF s s2 hm hp h0 k1 hb (ih s2 hl)
         | exact wZ s s2 hm hp h0 (.inl k1) hb ih
         | exact wZ s s2 hm hp h0 (.inr k1) hb ih
         | (rcases hn:isName (s.take (ah s)) with _|_
            · exact qy s hm hp h0 k1 hn
            · exact rK s s2 hm hp h0 k1 hn hb (ih s2 hl))
      · have hb':∀r,s.drop (ah s)≠91::r:=λr e=>hb ⟨r,e⟩
        by_cases hk:aS (s.take (ah s))=0
        · rcases hn:isName (s.take (ah s)) with _|_
          · exact qy s hm hp h0 hk hn
          · exact BG s hm hp h0 hk hn hb'
        · exact oQ s hm hp h0 hk hb'
    · exact BH s (by unfold maxLen;omega) hp h0
  · have:∃r,s=63::116::r:=Classical.byContradiction λh=>hp λr e=>h ⟨r,e⟩
    obtain⟨r,rfl⟩:=this;exact y9 r
theorem Aq (s:List UInt8) (hm:s.length≤1000):ei s:=Ez s.length s zr hm
end Go.Proofs.YtemjidmkolfgnaaGreatDoor
