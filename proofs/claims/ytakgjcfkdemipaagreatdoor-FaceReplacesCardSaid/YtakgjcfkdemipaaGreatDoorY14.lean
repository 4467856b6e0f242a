/-
  The closure with which the program reads a type (kind.read$3): records and oneofs.
  The closure with which the program reads a type (kind.read$3): every text of at most 1000 bytes.
-/
import Derived.Deep.CutRange
import Derived.Deep.LoopGhost
import Derived.Test.YtakgjcfkdemipaaGreatDoorYn
import Derived.Test.YtakgjcfkdemipaaGreatDoorY1
import Derived.Test.YtakgjcfkdemipaaGreatDoorY9
import Derived.Test.YtakgjcfkdemipaaGreatDoorY11
import Derived.Test.YtakgjcfkdemipaaGreatDoorY13
namespace Go.Proofs.YtakgjcfkdemipaaGreatDoor
open Go.RowKit
set_option maxRecDepth 4000 in
set_option maxHeartbeats 12800000 in
theorem next_rec (s s2 : List UInt8) (hm1 : s.length ≤ 1000) (hp : noPar s) (h0 : kind0 (s.take (cutN s)) = 0) (hkk : kindB (s.take (cutN s)) = 5 ∨ kindB (s.take (cutN s)) = 6) (hb : s.drop (cutN s) = 91 :: s2) (ih : ∀ u : List UInt8, u.length < s.length → NextOk u) : NextOk s := by
 have hm : s.length ≤ maxLen := by unfold maxLen; omega
 intro R Nd X rb w ht he hs
 have hE := parseT_rec hp h0 hkk hb
 have hpre := noPar_prefix hp
 have HK := Lib.hid (wk_word s)
 have HK2 := Lib.hid (wk_bracket (s.take (cutN s)))
 have hk0 : ((wk (s.take (cutN s)) : Int) != 0) = false := by rw [HK.out, h0]; rfl
 have hcle := cutN_le s
 have hwl : (s.take (cutN s)).length ≤ maxLen := by simp; omega
 have hk1 : ((wk (s.take (cutN s) ++ [91]) : Int) == 0) = false := by rw [HK2.out]; rcases hkk with h | h <;> rw [h] <;> rfl
 have hk7 : ((wk (s.take (cutN s) ++ [91]) : Int) == 7) = false := by rw [HK2.out]; rcases hkk with h | h <;> rw [h] <;> rfl
 have hk56 : (((wk (s.take (cutN s) ++ [91]) : Int) == 5) = true ∧ ((wk (s.take (cutN s) ++ [91]) : Int) == 6) = false) ∨ (((wk (s.take (cutN s) ++ [91]) : Int) == 5) = false ∧ ((wk (s.take (cutN s) ++ [91]) : Int) == 6) = true) := by rw [HK2.out]; rcases hkk with h | h <;> rw [h] <;> simp
 have hk9 : kindB (s.take (cutN s)) = wk (s.take (cutN s) ++ [91]) := HK2.out.symm
 rw [hk9] at hE
 have HB := Lib.hid hb
 have HE := Lib.hid hE
 clear hE
 clear h0 hp hkk hk9
 rcases hk56 with ⟨hk5, hk6⟩ | ⟨hk5, hk6⟩
 all_goals
  have hlen2 : s2.length < s.length := by
   have := congrArg List.length hb;simp at this;omega
  have h1 := St.start ht he hs;have a1 := h1.env.r;go_enter Tryz.func252, Tryz.ntmps252;go_wp2_with fail;generalize w.alloc (.cells #[.int .u8 0, .string ⟨#[]⟩, .slice none 0 0] 174) = W1 at *;refine (take_no s [63, 116] rb _ h1.rest.cell hpre).mono ?_;rintro e w1 ⟨rfl, rfl⟩;go_wp2_with fail;refine (word_any' s rb _ hm h1.rest).mono ?_;rintro e w2 ⟨rfl, hr2, hkp2⟩;have h2 := h1.next hkp2 hr2
  have b1 := h2.env.r;have b2 := h2.env.need;rw [hb] at h2;go_wp2_with (first | (go_at_call 255; refine (wk_any _ _).mono ?_; rintro e w0 ⟨rfl, rfl⟩) | (go_at_call 253; refine (take_yes' [91] s2 rb _ h2.rest).mono ?_; rintro e w3 ⟨rfl, hr3, hkp3⟩; have h3 := h2.next hkp3 hr3; have b3 := fun o => (h3.alloc o).env.need; have b4 := fun o => (h3.alloc o).env.r; have b5 := fun o => (h3.alloc o).env.next) | (go_at_call 251; refine (need_yes _).mono ?_; rintro e w0 ⟨rfl, rfl⟩));have hx := heap_alloc_new w3 (.cells #[.int .u8 (wk (s.take (cutN s) ++ [91])), .string ⟨(s.take (cutN s)).toArray⟩, .slice none 0 0] 174);have h5 := h3.alloc (.cells #[.int .u8 (wk (s.take (cutN s) ++ [91])), .string ⟨(s.take (cutN s)).toArray⟩, .slice none 0 0] 174);have hB1 := h3.size;have hB2 : w3.heap.size ≠ rb := by have := h3.lt; omega
  generalize hW5 : w3.alloc (.cells #[.int .u8 (wk (s.take (cutN s) ++ [91])), .string ⟨(s.take (cutN s)).toArray⟩, .slice none 0 0] 174) = W5 at *;have L0 : Lp w R Nd X rb w3.heap.size (wk (s.take (cutN s) ++ [91])) (s.take (cutN s)) s2 W5 .nil s2 :=
   Lp.start h5 hB1 hx
  clear hx h5 b3 b4 b5 hW5;generalize w3.heap.size = B1 at *;clear h3 hr3 hkp3
  go_loopg [9] s2.length (fun n _ wr => ∃ dn u, n = u.length ∧ Lp w R Nd X rb B1 (wk (s.take (cutN s) ++ [91])) (s.take (cutN s)) s2 wr dn u)
  case atStart => exact ⟨_, _, rfl, L0⟩
  case round =>
   clear L0;obtain ⟨dn, u, rfl, L⟩ := hrel;obtain ⟨st, lo, len, ⟨v, hrow, hv⟩, eq⟩ := id L;obtain ⟨p, c, rfl, hsh⟩ := hv.foV.shape;have d1 := st.env.r;have hul : u.length ≤ maxLen := by omega
   have hdl : dn.len ≤ 1000 := by omega
   go_upto_region 21 with (go_at_call 254; refine (word_any' u rb _ hul st.rest).mono ?_; rintro e w6 ⟨rfl, hr6, hk6⟩);have h6 := st.next hk6 hr6
   have hX := heap_alloc_new w6 (.cells #[.string ⟨(u.take (cutN u)).toArray⟩, .int .u8 0, .string ⟨#[]⟩, .slice none 0 0] 192);have h7 := h6.alloc (.cells #[.string ⟨(u.take (cutN u)).toArray⟩, .int .u8 0, .string ⟨#[]⟩, .slice none 0 0] 192);have hXlt : w.heap.size < w6.heap.size := h6.size;have hXrb : w6.heap.size ≠ rb := by have := h6.lt; omega
   have hB1rb : B1 ≠ rb := by have := h6.lt; omega
   have hB1X : B1 < w6.heap.size := by have := (Array.getElem?_eq_some_iff.1 (hk6.heap hrow hB1rb)).1; omega
   have k7 := hk6.trans (Kept.alloc rb w6 (.cells #[.string ⟨(u.take (cutN u)).toArray⟩, .int .u8 0, .string ⟨#[]⟩, .slice none 0 0] 192));have hrow7 := k7.heap hrow hB1rb;have hv7 := (hv.mono (D' := fun b => B1 < b ∧ b ≠ w6.heap.size) fun b hb hlt => ⟨hb, by have := hk6.size; omega⟩).kept (w' := w6.alloc (.cells #[.string ⟨(u.take (cutN u)).toArray⟩, .int .u8 0, .string ⟨#[]⟩, .slice none 0 0] 192)) fun b hb hlt => k7.block b hlt (fun e => by have hb : B1 < b := hb.1; have := st.lt; injection e with e; omega)
   generalize w6.alloc (.cells #[.string ⟨(u.take (cutN u)).toArray⟩, .int .u8 0, .string ⟨#[]⟩, .slice none 0 0] 192) = W7 at *;generalize w6.heap.size = Bx at *;have hown7 : ∀ b, (Value.slice p dn.len c).ownBlock = some b → b < W7.heap.size := by
    obtain ⟨_, a1, _, _⟩ := hv7;exact fun b e => ownsRow_lt a1 e
   obtain ⟨p', c', hpc, hsh⟩ := hv7.foV.shape;injection hpc with e1 _ e3;subst e1 e3;have hwn : (u.take (cutN u)).length ≤ maxLen := by simp; omega
   clear k7 hv hrow d1 hr6 hk6 h6;have q1 := h7.drew.env.need;have q2 := h7.drew.env.r;have q3 := (cells_at (w := W7.drew) hX 0).trans rfl;have q4 := (cells_at (w := W7.drew) hrow7 2).trans rfl;have S7 : ∀ W', Kept rb W7.drew W' → (fun W : World => W.cell? ⟨Nd, 0, none⟩ = some (.func (.func 251) #[] #[]) ∧ W.cell? ⟨R, 0, none⟩ = some (.pointer (some ⟨rb, 0, none⟩)) ∧ W.cell? ⟨Bx, 0, none⟩ = some (str (u.take (cutN u))) ∧ W.cell? ⟨B1, 2, none⟩ = some (.slice p dn.len c)) W' := fun W' k => ⟨k.cell q1 h7.env0.nn, k.cell q2 h7.env0.nr, k.cell q3 hXrb, k.cell q4 hB1rb⟩
   clear q1 q2 q3 q4
   by_cases hn : isName (u.take (cutN u)) = true
   case neg =>
    have hn : isName (u.take (cutN u)) = false := by simpa using hn
    have hnone : parseT s = none := by rw [HE.out, L.no_parse (round_bad fun e => by rw [e.1] at hn; exact Bool.noConfusion hn)]
    have HP : Hid (∀ e w', NextPost w rb s e w' ↔ (e = .panicked nonePanic ∧ Kept rb w w')) := by
     intro e w'; unfold NextPost; rw [hnone]
    clear hnone L eq;refine wp_region_held_drew (S := (fun W : World => W.cell? ⟨Nd, 0, none⟩ = some (.func (.func 251) #[] #[]) ∧ W.cell? ⟨R, 0, none⟩ = some (.pointer (some ⟨rb, 0, none⟩)) ∧ W.cell? ⟨Bx, 0, none⟩ = some (str (u.take (cutN u))) ∧ W.cell? ⟨B1, 2, none⟩ = some (.slice p dn.len c))) (by kernel_rfl) ?_ (fun hHeld => ?_)
    · exact S7 _ (Kept.refl _ _)
    refine takeK 0 66 (v := ?_) ?_ ?_;rotate_left
    · intro w hSw
      try dsimp only at hSw
      go_simp;try with_reducible rfl
    try simp only [pz, pw]
    refine takeK 1 67 (v := ?_) ?_ ?_;rotate_left
    · intro w hSw
      try dsimp only at hSw
      go_simp;try with_reducible rfl
    try simp only [pz, pw]
    refine takeK 2 68 (v := ?_) ?_ ?_;rotate_left
    · intro w hSw
      try dsimp only at hSw
      go_simp;try with_reducible rfl
    try simp only [pz, pw]
    refine wpAnyH_ready (rs := [3]) (by kernel_rfl) (by simp) ?_;refine AllReadyH.cons rfl (fun K hK => ?_) AllReadyH.nil;go_simp;go_wp2_with (go_at_call 88; refine (tIsName_any _ _ h7.drew.tab hwn).mono ?_; rw [hn]; rintro e w8 ⟨rfl, hb8⟩; have k8 := Kept.of_below (b := rb) hb8 (nl _));refine hK.out _ _ ?_ (fun hHeld => ?_)
    · exact S7 _ k8
    clear hK K;try simp only [pz, pw]
    refine takeK 4 70 (v := ?_) ?_ ?_;rotate_left
    · intro w hSw
      try dsimp only at hSw
      go_simp;try with_reducible rfl
    try simp only [pz, pw]
    refine skipK 5 71 ?_;try simp only [pz, pw]
    refine skipK 6 72 ?_;try simp only [pz, pw]
    refine skipK 7 73 ?_;try simp only [pz, pw]
    refine skipK 8 74 ?_;try simp only [pz, pw]
    refine takeK 9 75 (v := ?_) ?_ ?_;rotate_left
    · intro w hSw
      try dsimp only at hSw
      go_simp;try with_reducible rfl
    try simp only [pz, pw]
    refine takeK 10 76 (v := ?_) ?_ ?_;rotate_left
    · intro w hSw
      try dsimp only at hSw
      go_simp;try with_reducible rfl
    try simp only [pz, pw]
    refine skipK 11 77 ?_;try simp only [pz, pw]
    refine skipK 12 78 ?_;try simp only [pz, pw]
    refine skipK 13 79 ?_;try simp only [pz, pw]
    refine skipK 14 80 ?_;try simp only [pz, pw]
    refine skipK 15 81 ?_;try simp only [pz, pw]
    refine skipK 16 82 ?_;try simp only [pz, pw]
    refine skipK 17 83 ?_;try simp only [pz, pw]
    refine skipK 18 84 ?_;try simp only [pz, pw]
    refine skipK 19 85 ?_;try simp only [pz, pw]
    refine skipK 20 86 ?_;try simp only [pz, pw]
    refine skipK 21 87 ?_;try simp only [pz, pw]
    refine skipK 22 88 ?_;try simp only [pz, pw]
    refine skipK 23 89 ?_;try simp only [pz, pw]
    refine skipK 24 90 ?_;try simp only [pz, pw]
    refine skipK 25 91 ?_;try simp only [pz, pw]
    refine skipK 26 92 ?_;try simp only [pz, pw]
    refine skipK 27 93 ?_;try simp only [pz, pw]
    refine skipK 28 94 ?_;try simp only [pz, pw]
    refine takeK 29 95 (v := ?_) ?_ ?_;rotate_left
    · intro w hSw
      try dsimp only at hSw
      go_simp;try with_reducible rfl
    try simp only [pz, pw]
    refine wpAnyH_ready (rs := [30]) (by kernel_rfl) (by simp) ?_;refine AllReadyH.cons rfl (fun K hK => ?_) AllReadyH.nil;go_simp;go_wp2_with (go_at_call 251; refine (need_no _).mono ?_; rintro e w0 ⟨rfl, rfl⟩; exact ⟨rfl, (HP.out _ _).2 ⟨rfl, h7.drew.kept.trans k8⟩⟩)
   case pos =>
    by_cases hc : ∃ u2, u.drop (cutN u) = 58 :: u2
    case neg =>
     have hpreC := prefix_one (fun u2 e => hc ⟨u2, e⟩);have hnone : parseT s = none := by rw [HE.out, L.no_parse (parseP_colon fun u2 e => hc ⟨u2, e⟩)]
     have HP : Hid (∀ e w', NextPost w rb s e w' ↔ (e = .panicked nonePanic ∧ Kept rb w w')) := by
      intro e w'; unfold NextPost; rw [hnone]
     clear hnone L eq hc;refine wp_region_held_drew (S := (fun W : World => W.cell? ⟨Nd, 0, none⟩ = some (.func (.func 251) #[] #[]) ∧ W.cell? ⟨R, 0, none⟩ = some (.pointer (some ⟨rb, 0, none⟩)) ∧ W.cell? ⟨Bx, 0, none⟩ = some (str (u.take (cutN u))) ∧ W.cell? ⟨B1, 2, none⟩ = some (.slice p dn.len c))) (by kernel_rfl) ?_ (fun hHeld => ?_)
     · exact S7 _ (Kept.refl _ _)
     refine takeK 0 66 (v := ?_) ?_ ?_;rotate_left
     · intro w hSw
       try dsimp only at hSw
       go_simp;try with_reducible rfl
     try simp only [pz, pw]
     refine takeK 1 67 (v := ?_) ?_ ?_;rotate_left
     · intro w hSw
       try dsimp only at hSw
       go_simp;try with_reducible rfl
     try simp only [pz, pw]
     refine takeK 2 68 (v := ?_) ?_ ?_;rotate_left
     · intro w hSw
       try dsimp only at hSw
       go_simp;try with_reducible rfl
     try simp only [pz, pw]
     refine wpAnyH_ready (rs := [3]) (by kernel_rfl) (by simp) ?_;refine AllReadyH.cons rfl (fun K hK => ?_) AllReadyH.nil;go_simp;go_wp2_with (go_at_call 88; refine (tIsName_any _ _ h7.drew.tab hwn).mono ?_; rw [hn]; rintro e w8 ⟨rfl, hb8⟩; have k8 := Kept.of_below (b := rb) hb8 (nl _));refine hK.out _ _ ?_ (fun hHeld => ?_)
     · exact S7 _ k8
     clear hK K;try simp only [pz, pw]
     refine takeK 4 70 (v := ?_) ?_ ?_;rotate_left
     · intro w hSw
       try dsimp only at hSw
       go_simp;try with_reducible rfl
     try simp only [pz, pw]
     refine takeK 5 71 (v := ?_) ?_ ?_;rotate_left
     · intro w hSw
       try dsimp only at hSw
       go_simp;try with_reducible rfl
     try simp only [pz, pw]
     refine takeK 6 72 (v := ?_) ?_ ?_;rotate_left
     · intro w hSw
       try dsimp only at hSw
       go_simp;try with_reducible rfl
     try simp only [pz, pw]
     refine takeK 7 73 (v := ?_) ?_ ?_;rotate_left
     · intro w hSw
       try dsimp only at hSw
       go_simp;try with_reducible rfl
     try simp only [pz, pw]
     refine wpAnyH_ready (rs := [8]) (by kernel_rfl) (by simp) ?_;refine AllReadyH.cons rfl (fun K hK => ?_) AllReadyH.nil;go_simp;go_wp2_with (go_at_call 253; refine (take_no _ [58] rb _ (h7.drew.rest.below hb8 (nl _)).cell hpreC).mono ?_; rintro e w0 ⟨rfl, rfl⟩);refine hK.out _ _ ?_ (fun hHeld => ?_)
     · exact S7 _ k8
     clear hK K;try simp only [pz, pw]
     refine takeK 9 75 (v := ?_) ?_ ?_;rotate_left
     · intro w hSw
       try dsimp only at hSw
       go_simp;try with_reducible rfl
     try simp only [pz, pw]
     refine takeK 10 76 (v := ?_) ?_ ?_;rotate_left
     · intro w hSw
       try dsimp only at hSw
       go_simp;try with_reducible rfl
     try simp only [pz, pw]
     refine skipK 11 77 ?_;try simp only [pz, pw]
     refine skipK 12 78 ?_;try simp only [pz, pw]
     refine skipK 13 79 ?_;try simp only [pz, pw]
     refine skipK 14 80 ?_;try simp only [pz, pw]
     refine skipK 15 81 ?_;try simp only [pz, pw]
     refine skipK 16 82 ?_;try simp only [pz, pw]
     refine skipK 17 83 ?_;try simp only [pz, pw]
     refine skipK 18 84 ?_;try simp only [pz, pw]
     refine skipK 19 85 ?_;try simp only [pz, pw]
     refine skipK 20 86 ?_;try simp only [pz, pw]
     refine skipK 21 87 ?_;try simp only [pz, pw]
     refine skipK 22 88 ?_;try simp only [pz, pw]
     refine skipK 23 89 ?_;try simp only [pz, pw]
     refine skipK 24 90 ?_;try simp only [pz, pw]
     refine skipK 25 91 ?_;try simp only [pz, pw]
     refine skipK 26 92 ?_;try simp only [pz, pw]
     refine skipK 27 93 ?_;try simp only [pz, pw]
     refine skipK 28 94 ?_;try simp only [pz, pw]
     refine takeK 29 95 (v := ?_) ?_ ?_;rotate_left
     · intro w hSw
       try dsimp only at hSw
       go_simp;try with_reducible rfl
     try simp only [pz, pw]
     refine wpAnyH_ready (rs := [30]) (by kernel_rfl) (by simp) ?_;refine AllReadyH.cons rfl (fun K hK => ?_) AllReadyH.nil;go_simp;go_wp2_with (go_at_call 251; refine (need_no _).mono ?_; rintro e w0 ⟨rfl, rfl⟩; exact ⟨rfl, (HP.out _ _).2 ⟨rfl, h7.drew.kept.trans k8⟩⟩)
    case pos =>
     obtain ⟨u2, hc⟩ := hc;have hcl : u2.length < u.length := by
      have := congrArg List.length hc;simp at this;omega
     rw [hc] at h7
     by_cases ho : dn.len = 0 ∨ Op.bytesLess dn.last (u.take (cutN u)) = true
     case neg =>
      have hnone : parseT s = none := by rw [HE.out, L.no_parse (round_bad fun e => ho e.2)]
      have hne : dn.len ≠ 0 := fun e => ho (.inl e)
      have hlt : Op.bytesLess dn.last (u.take (cutN u)) = false := by
       rcases hbl : Op.bytesLess dn.last (u.take (cutN u)) with _ | _
       · rfl
       · exact absurd (.inr hbl) ho
      obtain ⟨g, rfl, hg1', hg2, hg3, hg4⟩ := hsh hne;have hg1 : B1 < g := hg1'.1;have hrbw := h7.lt;have hd0 : ((dn.len : Int) == 0) = false := int_not_zero hne;have hwr := wrap_pred hne hdl;have hix : dn.len - 1 < dn.len := Nat.sub_lt (Nat.pos_of_ne_zero hne) Nat.one_pos;have hgrb : g ≠ rb := by omega
      have S8 : ∀ W', Kept rb W7.drew W' → (fun W : World => W.cell? ⟨Nd, 0, none⟩ = some (.func (.func 251) #[] #[]) ∧ W.cell? ⟨R, 0, none⟩ = some (.pointer (some ⟨rb, 0, none⟩)) ∧ W.cell? ⟨Bx, 0, none⟩ = some (str (u.take (cutN u))) ∧ W.cell? ⟨B1, 2, none⟩ = some (.slice (some ⟨g, 0, none⟩) dn.len c) ∧ W.cell? ⟨g, (dn.len - 1) * 4, none⟩ = some (str dn.last)) W' := fun W' k => ⟨(S7 W' k).1, (S7 W' k).2.1, (S7 W' k).2.2.1, (S7 W' k).2.2.2, k.cell (w := W7.drew) hg4 hgrb⟩
      have HP : Hid (∀ e w', NextPost w rb s e w' ↔ (e = .panicked nonePanic ∧ Kept rb w w')) := by
       intro e w'; unfold NextPost; rw [hnone]
      clear hnone L eq ho hc S7 hsh;refine wp_region_held_drew (S := (fun W : World => W.cell? ⟨Nd, 0, none⟩ = some (.func (.func 251) #[] #[]) ∧ W.cell? ⟨R, 0, none⟩ = some (.pointer (some ⟨rb, 0, none⟩)) ∧ W.cell? ⟨Bx, 0, none⟩ = some (str (u.take (cutN u))) ∧ W.cell? ⟨B1, 2, none⟩ = some (.slice (some ⟨g, 0, none⟩) dn.len c) ∧ W.cell? ⟨g, (dn.len - 1) * 4, none⟩ = some (str dn.last))) (by kernel_rfl) ?_ (fun hHeld => ?_)
      · exact S8 _ (Kept.refl _ _)
      refine takeK 0 66 (v := ?_) ?_ ?_;rotate_left
      · intro w hSw
        try dsimp only at hSw
        go_simp;try with_reducible rfl
      try simp only [pz, pw]
      refine takeK 1 67 (v := ?_) ?_ ?_;rotate_left
      · intro w hSw
        try dsimp only at hSw
        go_simp;try with_reducible rfl
      try simp only [pz, pw]
      refine takeK 2 68 (v := ?_) ?_ ?_;rotate_left
      · intro w hSw
        try dsimp only at hSw
        go_simp;try with_reducible rfl
      try simp only [pz, pw]
      refine wpAnyH_ready (rs := [3]) (by kernel_rfl) (by simp) ?_;refine AllReadyH.cons rfl (fun K hK => ?_) AllReadyH.nil;go_simp;go_wp2_with (go_at_call 88; refine (tIsName_any _ _ h7.drew.tab hwn).mono ?_; rw [hn]; rintro e w8 ⟨rfl, hb8⟩; have k8 := Kept.of_below (b := rb) hb8 (nl _));refine hK.out _ _ ?_ (fun hHeld => ?_)
      · exact S8 _ k8
      clear hK K;try simp only [pz, pw]
      refine takeK 4 70 (v := ?_) ?_ ?_;rotate_left
      · intro w hSw
        try dsimp only at hSw
        go_simp;try with_reducible rfl
      try simp only [pz, pw]
      refine takeK 5 71 (v := ?_) ?_ ?_;rotate_left
      · intro w hSw
        try dsimp only at hSw
        go_simp;try with_reducible rfl
      try simp only [pz, pw]
      refine takeK 6 72 (v := ?_) ?_ ?_;rotate_left
      · intro w hSw
        try dsimp only at hSw
        go_simp;try with_reducible rfl
      try simp only [pz, pw]
      refine takeK 7 73 (v := ?_) ?_ ?_;rotate_left
      · intro w hSw
        try dsimp only at hSw
        go_simp;try with_reducible rfl
      try simp only [pz, pw]
      refine wpAnyH_ready (rs := [8]) (by kernel_rfl) (by simp) ?_;refine AllReadyH.cons rfl (fun K hK => ?_) AllReadyH.nil;go_simp;go_wp2_with (go_at_call 253; refine (take_yes' [58] u2 rb _ (h7.drew.rest.below hb8 (nl _))).mono ?_; rintro e w9 ⟨rfl, hr9, hk9⟩; have k9 := k8.trans hk9);refine hK.out _ _ ?_ (fun hHeld => ?_)
      · exact S8 _ k9
      clear hK K;try simp only [pz, pw]
      refine takeK 9 75 (v := ?_) ?_ ?_;rotate_left
      · intro w hSw
        try dsimp only at hSw
        go_simp;try with_reducible rfl
      try simp only [pz, pw]
      refine takeK 10 76 (v := ?_) ?_ ?_;rotate_left
      · intro w hSw
        try dsimp only at hSw
        go_simp;try with_reducible rfl
      try simp only [pz, pw]
      refine takeK 11 77 (v := ?_) ?_ ?_;rotate_left
      · intro w hSw
        try dsimp only at hSw
        go_simp;try with_reducible rfl
      try simp only [pz, pw]
      refine takeK 12 78 (v := ?_) ?_ ?_;rotate_left
      · intro w hSw
        try dsimp only at hSw
        go_simp;try with_reducible rfl
      try simp only [pz, pw]
      refine takeK 13 79 (v := ?_) ?_ ?_;rotate_left
      · intro w hSw
        try dsimp only at hSw
        go_simp;try with_reducible rfl
      try simp only [pz, pw]
      refine takeK 14 80 (v := ?_) ?_ ?_;rotate_left
      · intro w hSw
        try dsimp only at hSw
        go_simp;try with_reducible rfl
      try simp only [pz, pw]
      refine takeK 15 81 (v := ?_) ?_ ?_;rotate_left
      · intro w hSw
        try dsimp only at hSw
        go_simp;try with_reducible rfl
      try simp only [pz, pw]
      refine takeK 16 82 (v := ?_) ?_ ?_;rotate_left
      · intro w hSw
        try dsimp only at hSw
        go_simp;try with_reducible rfl
      try simp only [pz, pw]
      refine takeK 17 83 (v := ?_) ?_ ?_;rotate_left
      · intro w hSw
        try dsimp only at hSw
        go_simp;try with_reducible rfl
      try simp only [pz, pw]
      refine takeK 18 84 (v := ?_) ?_ ?_;rotate_left
      · intro w hSw
        try dsimp only at hSw
        go_simp;try with_reducible rfl
      try simp only [pz, pw]
      refine takeK 19 85 (v := ?_) ?_ ?_;rotate_left
      · intro w hSw
        try dsimp only at hSw
        go_simp;try with_reducible rfl
      try simp only [pz, pw]
      refine takeK 20 86 (v := ?_) ?_ ?_;rotate_left
      · intro w hSw
        try dsimp only at hSw
        go_simp;try with_reducible rfl
      try simp only [pz, pw]
      refine takeK 21 87 (v := ?_) ?_ ?_;rotate_left
      · intro w hSw
        try dsimp only at hSw
        go_simp;try with_reducible rfl
      try simp only [pz, pw]
      refine takeK 22 88 (v := ?_) ?_ ?_;rotate_left
      · intro w hSw
        try dsimp only at hSw
        go_simp;try with_reducible rfl
      try simp only [pz, pw]
      refine takeK 23 89 (v := ?_) ?_ ?_;rotate_left
      · intro w hSw
        try dsimp only at hSw
        go_simp;try with_reducible rfl
      try simp only [pz, pw]
      refine takeK 24 90 (v := ?_) ?_ ?_;rotate_left
      · intro w hSw
        try dsimp only at hSw
        go_simp;try with_reducible rfl
      try simp only [pz, pw]
      refine takeK 25 91 (v := ?_) ?_ ?_;rotate_left
      · intro w hSw
        try dsimp only at hSw
        go_simp;try with_reducible rfl
      try simp only [pz, pw]
      refine takeK 26 92 (v := ?_) ?_ ?_;rotate_left
      · intro w hSw
        try dsimp only at hSw
        go_simp;try with_reducible rfl
      try simp only [pz, pw]
      refine takeK 27 93 (v := ?_) ?_ ?_;rotate_left
      · intro w hSw
        try dsimp only at hSw
        go_simp;try with_reducible rfl
      try simp only [pz, pw]
      refine takeK 28 94 (v := ?_) ?_ ?_;rotate_left
      · intro w hSw
        try dsimp only at hSw
        go_simp;try with_reducible rfl
      try simp only [pz, pw]
      refine takeK 29 95 (v := ?_) ?_ ?_;rotate_left
      · intro w hSw
        try dsimp only at hSw
        go_simp;try with_reducible rfl
      try simp only [pz, pw]
      refine wpAnyH_ready (rs := [30]) (by kernel_rfl) (by simp) ?_;refine AllReadyH.cons rfl (fun K hK => ?_) AllReadyH.nil;go_simp;go_wp2_with (go_at_call 251; refine (need_no _).mono ?_; rintro e w0 ⟨rfl, rfl⟩; exact ⟨rfl, (HP.out _ _).2 ⟨rfl, h7.drew.kept.trans k9⟩⟩)
     case pos =>
      have HOK := Lib.hid (show okName dn (u.take (cutN u)) from ⟨hn, ho⟩)
      go_cut [] from 61 to 110 (fun wx => Kept rb W7 wx ∧ Rest wx rb u2)
      case first =>
       by_cases hz : dn.len = 0
       case pos =>
        have hd0 := int_zero hz;clear hsh ho L eq HOK hc;refine wp_region_held_drew (S := (fun W : World => W.cell? ⟨Nd, 0, none⟩ = some (.func (.func 251) #[] #[]) ∧ W.cell? ⟨R, 0, none⟩ = some (.pointer (some ⟨rb, 0, none⟩)) ∧ W.cell? ⟨Bx, 0, none⟩ = some (str (u.take (cutN u))) ∧ W.cell? ⟨B1, 2, none⟩ = some (.slice p dn.len c))) (by kernel_rfl) ?_ (fun hHeld => ?_)
        · exact S7 _ (Kept.refl _ _)
        refine takeK 0 66 (v := ?_) ?_ ?_;rotate_left
        · intro w hSw
          try dsimp only at hSw
          go_simp;try with_reducible rfl
        try simp only [pz, pw]
        refine takeK 1 67 (v := ?_) ?_ ?_;rotate_left
        · intro w hSw
          try dsimp only at hSw
          go_simp;try with_reducible rfl
        try simp only [pz, pw]
        refine takeK 2 68 (v := ?_) ?_ ?_;rotate_left
        · intro w hSw
          try dsimp only at hSw
          go_simp;try with_reducible rfl
        try simp only [pz, pw]
        refine wpAnyH_ready (rs := [3]) (by kernel_rfl) (by simp) ?_;refine AllReadyH.cons rfl (fun K hK => ?_) AllReadyH.nil;go_simp;go_wp2_with (go_at_call 88; refine (tIsName_any _ _ h7.drew.tab hwn).mono ?_; rw [hn]; rintro e w8 ⟨rfl, hb8⟩; have k8 := Kept.of_below (b := rb) hb8 (nl _));refine hK.out _ _ ?_ (fun hHeld => ?_)
        · exact S7 _ k8
        clear hK K;try simp only [pz, pw]
        refine takeK 4 70 (v := ?_) ?_ ?_;rotate_left
        · intro w hSw
          try dsimp only at hSw
          go_simp;try with_reducible rfl
        try simp only [pz, pw]
        refine takeK 5 71 (v := ?_) ?_ ?_;rotate_left
        · intro w hSw
          try dsimp only at hSw
          go_simp;try with_reducible rfl
        try simp only [pz, pw]
        refine takeK 6 72 (v := ?_) ?_ ?_;rotate_left
        · intro w hSw
          try dsimp only at hSw
          go_simp;try with_reducible rfl
        try simp only [pz, pw]
        refine takeK 7 73 (v := ?_) ?_ ?_;rotate_left
        · intro w hSw
          try dsimp only at hSw
          go_simp;try with_reducible rfl
        try simp only [pz, pw]
        refine wpAnyH_ready (rs := [8]) (by kernel_rfl) (by simp) ?_;refine AllReadyH.cons rfl (fun K hK => ?_) AllReadyH.nil;go_simp;go_wp2_with (go_at_call 253; refine (take_yes' [58] u2 rb _ (h7.drew.rest.below hb8 (nl _))).mono ?_; rintro e w9 ⟨rfl, hr9, hk9⟩; have k9 := k8.trans hk9);refine hK.out _ _ ?_ (fun hHeld => ?_)
        · exact S7 _ k9
        clear hK K;try simp only [pz, pw]
        refine takeK 9 75 (v := ?_) ?_ ?_;rotate_left
        · intro w hSw
          try dsimp only at hSw
          go_simp;try with_reducible rfl
        try simp only [pz, pw]
        refine takeK 10 76 (v := ?_) ?_ ?_;rotate_left
        · intro w hSw
          try dsimp only at hSw
          go_simp;try with_reducible rfl
        try simp only [pz, pw]
        refine takeK 11 77 (v := ?_) ?_ ?_;rotate_left
        · intro w hSw
          try dsimp only at hSw
          go_simp;try with_reducible rfl
        try simp only [pz, pw]
        refine takeK 12 78 (v := ?_) ?_ ?_;rotate_left
        · intro w hSw
          try dsimp only at hSw
          go_simp;try with_reducible rfl
        try simp only [pz, pw]
        refine takeK 13 79 (v := ?_) ?_ ?_;rotate_left
        · intro w hSw
          try dsimp only at hSw
          go_simp;try with_reducible rfl
        try simp only [pz, pw]
        refine takeK 14 80 (v := ?_) ?_ ?_;rotate_left
        · intro w hSw
          try dsimp only at hSw
          go_simp;try with_reducible rfl
        try simp only [pz, pw]
        refine takeK 15 81 (v := ?_) ?_ ?_;rotate_left
        · intro w hSw
          try dsimp only at hSw
          go_simp;try with_reducible rfl
        try simp only [pz, pw]
        refine skipK 16 82 ?_;try simp only [pz, pw]
        refine skipK 17 83 ?_;try simp only [pz, pw]
        refine skipK 18 84 ?_;try simp only [pz, pw]
        refine skipK 19 85 ?_;try simp only [pz, pw]
        refine skipK 20 86 ?_;try simp only [pz, pw]
        refine skipK 21 87 ?_;try simp only [pz, pw]
        refine skipK 22 88 ?_;try simp only [pz, pw]
        refine skipK 23 89 ?_;try simp only [pz, pw]
        refine skipK 24 90 ?_;try simp only [pz, pw]
        refine skipK 25 91 ?_;try simp only [pz, pw]
        refine skipK 26 92 ?_;try simp only [pz, pw]
        refine skipK 27 93 ?_;try simp only [pz, pw]
        refine takeK 28 94 (v := ?_) ?_ ?_;rotate_left
        · intro w hSw
          try dsimp only at hSw
          go_simp;try with_reducible rfl
        try simp only [pz, pw]
        refine takeK 29 95 (v := ?_) ?_ ?_;rotate_left
        · intro w hSw
          try dsimp only at hSw
          go_simp;try with_reducible rfl
        try simp only [pz, pw]
        refine wpAnyH_ready (rs := [30]) (by kernel_rfl) (by simp) ?_;refine AllReadyH.cons rfl (fun K hK => ?_) AllReadyH.nil;go_simp;go_wp2_with (go_at_call 251; refine (need_yes _).mono ?_; rintro e w0 ⟨rfl, rfl⟩);refine hK.out _ _ ?_ (fun hHeld => ?_)
        · exact S7 _ k9
        clear hK K;try simp only [pz, pw]
        refine wpAnyH_done (by kernel_rfl) ?_ _;go_wp2_with fail
        go_meet
        case rel => exact ⟨(Kept.refl _ _).drew.trans k9, hr9⟩
       case neg =>
        have hlt : Op.bytesLess dn.last (u.take (cutN u)) = true := by
         rcases ho with ho | ho
         · exact absurd ho hz
         · exact ho
        obtain ⟨g, rfl, hg1', hg2, hg3, hg4⟩ := hsh hz;have hg1 : B1 < g := hg1'.1;have hrbw := h7.lt;have hd0 := int_not_zero hz;have hwr := wrap_pred hz hdl;have hix : dn.len - 1 < dn.len := Nat.sub_lt (Nat.pos_of_ne_zero hz) Nat.one_pos;have hgrb : g ≠ rb := by omega
        have S8 : ∀ W', Kept rb W7.drew W' → (fun W : World => W.cell? ⟨Nd, 0, none⟩ = some (.func (.func 251) #[] #[]) ∧ W.cell? ⟨R, 0, none⟩ = some (.pointer (some ⟨rb, 0, none⟩)) ∧ W.cell? ⟨Bx, 0, none⟩ = some (str (u.take (cutN u))) ∧ W.cell? ⟨B1, 2, none⟩ = some (.slice (some ⟨g, 0, none⟩) dn.len c) ∧ W.cell? ⟨g, (dn.len - 1) * 4, none⟩ = some (str dn.last)) W' := fun W' k => ⟨(S7 W' k).1, (S7 W' k).2.1, (S7 W' k).2.2.1, (S7 W' k).2.2.2, k.cell (w := W7.drew) hg4 hgrb⟩
        clear ho S7 hsh L eq HOK hc;refine wp_region_held_drew (S := (fun W : World => W.cell? ⟨Nd, 0, none⟩ = some (.func (.func 251) #[] #[]) ∧ W.cell? ⟨R, 0, none⟩ = some (.pointer (some ⟨rb, 0, none⟩)) ∧ W.cell? ⟨Bx, 0, none⟩ = some (str (u.take (cutN u))) ∧ W.cell? ⟨B1, 2, none⟩ = some (.slice (some ⟨g, 0, none⟩) dn.len c) ∧ W.cell? ⟨g, (dn.len - 1) * 4, none⟩ = some (str dn.last))) (by kernel_rfl) ?_ (fun hHeld => ?_)
        · exact S8 _ (Kept.refl _ _)
        refine takeK 0 66 (v := ?_) ?_ ?_;rotate_left
        · intro w hSw
          try dsimp only at hSw
          go_simp;try with_reducible rfl
        try simp only [pz, pw]
        refine takeK 1 67 (v := ?_) ?_ ?_;rotate_left
        · intro w hSw
          try dsimp only at hSw
          go_simp;try with_reducible rfl
        try simp only [pz, pw]
        refine takeK 2 68 (v := ?_) ?_ ?_;rotate_left
        · intro w hSw
          try dsimp only at hSw
          go_simp;try with_reducible rfl
        try simp only [pz, pw]
        refine wpAnyH_ready (rs := [3]) (by kernel_rfl) (by simp) ?_;refine AllReadyH.cons rfl (fun K hK => ?_) AllReadyH.nil;go_simp;go_wp2_with (go_at_call 88; refine (tIsName_any _ _ h7.drew.tab hwn).mono ?_; rw [hn]; rintro e w8 ⟨rfl, hb8⟩; have k8 := Kept.of_below (b := rb) hb8 (nl _));refine hK.out _ _ ?_ (fun hHeld => ?_)
        · exact S8 _ k8
        clear hK K;try simp only [pz, pw]
        refine takeK 4 70 (v := ?_) ?_ ?_;rotate_left
        · intro w hSw
          try dsimp only at hSw
          go_simp;try with_reducible rfl
        try simp only [pz, pw]
        refine takeK 5 71 (v := ?_) ?_ ?_;rotate_left
        · intro w hSw
          try dsimp only at hSw
          go_simp;try with_reducible rfl
        try simp only [pz, pw]
        refine takeK 6 72 (v := ?_) ?_ ?_;rotate_left
        · intro w hSw
          try dsimp only at hSw
          go_simp;try with_reducible rfl
        try simp only [pz, pw]
        refine takeK 7 73 (v := ?_) ?_ ?_;rotate_left
        · intro w hSw
          try dsimp only at hSw
          go_simp;try with_reducible rfl
        try simp only [pz, pw]
        refine wpAnyH_ready (rs := [8]) (by kernel_rfl) (by simp) ?_;refine AllReadyH.cons rfl (fun K hK => ?_) AllReadyH.nil;go_simp;go_wp2_with (go_at_call 253; refine (take_yes' [58] u2 rb _ (h7.drew.rest.below hb8 (nl _))).mono ?_; rintro e w9 ⟨rfl, hr9, hk9⟩; have k9 := k8.trans hk9);refine hK.out _ _ ?_ (fun hHeld => ?_)
        · exact S8 _ k9
        clear hK K;try simp only [pz, pw]
        refine takeK 9 75 (v := ?_) ?_ ?_;rotate_left
        · intro w hSw
          try dsimp only at hSw
          go_simp;try with_reducible rfl
        try simp only [pz, pw]
        refine takeK 10 76 (v := ?_) ?_ ?_;rotate_left
        · intro w hSw
          try dsimp only at hSw
          go_simp;try with_reducible rfl
        try simp only [pz, pw]
        refine takeK 11 77 (v := ?_) ?_ ?_;rotate_left
        · intro w hSw
          try dsimp only at hSw
          go_simp;try with_reducible rfl
        try simp only [pz, pw]
        refine takeK 12 78 (v := ?_) ?_ ?_;rotate_left
        · intro w hSw
          try dsimp only at hSw
          go_simp;try with_reducible rfl
        try simp only [pz, pw]
        refine takeK 13 79 (v := ?_) ?_ ?_;rotate_left
        · intro w hSw
          try dsimp only at hSw
          go_simp;try with_reducible rfl
        try simp only [pz, pw]
        refine takeK 14 80 (v := ?_) ?_ ?_;rotate_left
        · intro w hSw
          try dsimp only at hSw
          go_simp;try with_reducible rfl
        try simp only [pz, pw]
        refine takeK 15 81 (v := ?_) ?_ ?_;rotate_left
        · intro w hSw
          try dsimp only at hSw
          go_simp;try with_reducible rfl
        try simp only [pz, pw]
        refine takeK 16 82 (v := ?_) ?_ ?_;rotate_left
        · intro w hSw
          try dsimp only at hSw
          go_simp;try with_reducible rfl
        try simp only [pz, pw]
        refine takeK 17 83 (v := ?_) ?_ ?_;rotate_left
        · intro w hSw
          try dsimp only at hSw
          go_simp;try with_reducible rfl
        try simp only [pz, pw]
        refine takeK 18 84 (v := ?_) ?_ ?_;rotate_left
        · intro w hSw
          try dsimp only at hSw
          go_simp;try with_reducible rfl
        try simp only [pz, pw]
        refine takeK 19 85 (v := ?_) ?_ ?_;rotate_left
        · intro w hSw
          try dsimp only at hSw
          go_simp;try with_reducible rfl
        try simp only [pz, pw]
        refine takeK 20 86 (v := ?_) ?_ ?_;rotate_left
        · intro w hSw
          try dsimp only at hSw
          go_simp;try with_reducible rfl
        try simp only [pz, pw]
        refine takeK 21 87 (v := ?_) ?_ ?_;rotate_left
        · intro w hSw
          try dsimp only at hSw
          go_simp;try with_reducible rfl
        try simp only [pz, pw]
        refine takeK 22 88 (v := ?_) ?_ ?_;rotate_left
        · intro w hSw
          try dsimp only at hSw
          go_simp;try with_reducible rfl
        try simp only [pz, pw]
        refine takeK 23 89 (v := ?_) ?_ ?_;rotate_left
        · intro w hSw
          try dsimp only at hSw
          go_simp;try with_reducible rfl
        try simp only [pz, pw]
        refine takeK 24 90 (v := ?_) ?_ ?_;rotate_left
        · intro w hSw
          try dsimp only at hSw
          go_simp;try with_reducible rfl
        try simp only [pz, pw]
        refine takeK 25 91 (v := ?_) ?_ ?_;rotate_left
        · intro w hSw
          try dsimp only at hSw
          go_simp;try with_reducible rfl
        try simp only [pz, pw]
        refine takeK 26 92 (v := ?_) ?_ ?_;rotate_left
        · intro w hSw
          try dsimp only at hSw
          go_simp;try with_reducible rfl
        try simp only [pz, pw]
        refine takeK 27 93 (v := ?_) ?_ ?_;rotate_left
        · intro w hSw
          try dsimp only at hSw
          go_simp;try with_reducible rfl
        try simp only [pz, pw]
        refine takeK 28 94 (v := ?_) ?_ ?_;rotate_left
        · intro w hSw
          try dsimp only at hSw
          go_simp;try with_reducible rfl
        try simp only [pz, pw]
        refine takeK 29 95 (v := ?_) ?_ ?_;rotate_left
        · intro w hSw
          try dsimp only at hSw
          go_simp;try with_reducible rfl
        try simp only [pz, pw]
        refine wpAnyH_ready (rs := [30]) (by kernel_rfl) (by simp) ?_;refine AllReadyH.cons rfl (fun K hK => ?_) AllReadyH.nil;go_simp;go_wp2_with (go_at_call 251; refine (need_yes _).mono ?_; rintro e w0 ⟨rfl, rfl⟩);refine hK.out _ _ ?_ (fun hHeld => ?_)
        · exact S8 _ k9
        clear hK K;try simp only [pz, pw]
        refine wpAnyH_done (by kernel_rfl) ?_ _;go_wp2_with fail
        go_meet
        case rel => exact ⟨(Kept.refl _ _).drew.trans k9, hr9⟩
      case rest =>
       obtain ⟨kx, rx⟩ := hcut;have h9 := h7.next kx rx
       have hX9 := kx.heap hX hXrb;have hrow9 := kx.heap hrow7 hB1rb;have hv9 := hv7.kept (w' := wc) fun b hb hlt => kx.block b hlt (fun e => by have hb : B1 < b := hb.1; have := h7.lt; injection e with e; omega)
       have e9 := h9.env.next
       have LH := Lib.hid L;clear L eq S7 hsh hrow7 hv7;go_wp2_with fail;rcases hq : parseT u2 with _ | ⟨t, r⟩
       · have hnone : parseT s = none := by rw [HE.out, LH.out.no_parse (by rw [round_ok HOK.out hc, hq])]
         refine (ih u2 (by omega) R Nd X rb wc h9.tab h9.env h9.rest).mono ?_;intro e w10 hpost;unfold NextPost at hpost;rw [hq] at hpost;obtain ⟨rfl, hk10⟩ := hpost;exact ⟨rfl, by unfold NextPost; rw [hnone]; exact ⟨rfl, h9.kept.trans hk10⟩⟩
       · have HQ := Lib.hid hq
         have HC := Lib.hid hc;refine (ih u2 (by omega) R Nd X rb wc h9.tab h9.env h9.rest).mono ?_;intro e w10 hpost;unfold NextPost at hpost;rw [hq] at hpost;obtain ⟨⟨vt, rfl, hvt⟩, hr10, hk10⟩ := hpost;clear hq hc;have h10 := h9.next hk10 hr10
         have hX10 := hk10.heap hX9 hXrb;have hrow10 := hk10.heap hrow9 hB1rb;have hv10 := hv9.kept (w' := w10) fun b hb hlt => hk10.block b hlt (fun e => by have hb : B1 < b := hb.1; have := h7.lt; injection e with e; omega)
         have f1 := free_at hX10 1;have f2 := free_at hX10 2;have f3 := free_at hX10 3;have c0 := (cells_at hX10 0).trans rfl;have c1 := (cells_at hX10 1).trans rfl;have c2 := (cells_at hX10 2).trans rfl;have c3 := (cells_at hX10 3).trans rfl;obtain ⟨pt, ct, rfl, _⟩ := hvt.shape;have g2 := (cells_at hrow10 2).trans rfl;clear hX9 hrow9 hv9 e9;have hXlt10 := (Array.getElem?_eq_some_iff.1 hX10).1;have hBwc := kx.size;have hBW7 := (Array.getElem?_eq_some_iff.1 hX).1;have hWlt := h7.lt;go_upto_region 23 with fail;have hXB : (((w10.setCell ⟨Bx, 1, none⟩ (.int .u8 t.k)).setCell ⟨Bx, 2, none⟩ (str t.n)).setCell ⟨Bx, 3, none⟩ (.slice pt t.sub.len ct)).heap[Bx]? = some (.cells #[str (u.take (cutN u)), .int .u8 t.k, str t.n, .slice pt t.sub.len ct] 192 (0, 0)) := set_row (set_row (set_row hX10 1 (.int .u8 t.k)) 2 (str t.n)) 3 (.slice pt t.sub.len ct);have hset : ∀ b, b ≠ Bx → (((w10.setCell ⟨Bx, 1, none⟩ (.int .u8 t.k)).setCell ⟨Bx, 2, none⟩ (str t.n)).setCell ⟨Bx, 3, none⟩ (.slice pt t.sub.len ct)).heap[b]? = w10.heap[b]? := fun b hb => by rw [Below.heap_setCell _ _ _ _ hb, Below.heap_setCell _ _ _ _ hb, Below.heap_setCell _ _ _ _ hb]
         have hrowB := (hset B1 (Nat.ne_of_lt hB1X)).trans hrow10;have hvB := hv10.kept (w' := ((w10.setCell ⟨Bx, 1, none⟩ (.int .u8 t.k)).setCell ⟨Bx, 2, none⟩ (str t.n)).setCell ⟨Bx, 3, none⟩ (.slice pt t.sub.len ct)) fun b hb _ => hset b hb.2
         have hvtB := hvt.kept (w' := ((w10.setCell ⟨Bx, 1, none⟩ (.int .u8 t.k)).setCell ⟨Bx, 2, none⟩ (str t.n)).setCell ⟨Bx, 3, none⟩ (.slice pt t.sub.len ct)) fun b hb _ => hset b (by have hb : wc.heap.size ≤ b := hb; omega)
         have hB := ((h10.set hXlt 1 (.int .u8 t.k)).set hXlt 2 (str t.n)).set hXlt 3 (.slice pt t.sub.len ct);obtain ⟨sc, ho1, ho2, ho3⟩ := hvB;obtain ⟨i0, hi, hz0, hz1, hz2⟩ := info_parts infoPart;have hlen3 := LH.out.len;have hsz3 : (dn.len + 1) * 64 ≤ 140737488355328 := by omega
         have hmx3 : dn.len + 1 ≤ maxLen := by unfold maxLen; omega
         clear hset hv10 hvt h10 hX10 hrow10 f1 f2 f3 c0 c1 c2 c3 g2 hr10 hk10;generalize ((w10.setCell ⟨Bx, 1, none⟩ (.int .u8 t.k)).setCell ⟨Bx, 2, none⟩ (str t.n)).setCell ⟨Bx, 3, none⟩ (.slice pt t.sub.len ct) = WB at *;have c0 := (cells_at hXB 0).trans rfl;have c1 := (cells_at hXB 1).trans rfl;have c2 := (cells_at hXB 2).trans rfl;have c3 := (cells_at hXB 3).trans rfl;have g2 := (cells_at hrowB 2).trans rfl;have hG := heap_alloc_new WB (.cells #[str (u.take (cutN u)), .int .u8 t.k, str t.n, .slice pt t.sub.len ct] 192);have hGc := (own_lit (n := 1) (cs := [str (u.take (cutN u)), .int .u8 t.k, str t.n, .slice pt t.sub.len ct]) hG rfl (by decide)).cells (g := WB.heap.size) rfl;have HG := Lib.hid hGc;clear hG hGc;go_wp2_with (at_builtin; refine wpList_append_own2 (WB.alloc (.cells #[str (u.take (cutN u)), .int .u8 t.k, str t.n, .slice pt t.sub.len ct] 192)) rfl _ _ 172 rfl 0 192 i0 _ 4 64 underPart hi hz0 hz1 hz2 rfl (by decide) _ _ _ rfl (ho1.alloc _) ⟨WB.heap.size, 0, none⟩ 1 1 [str (u.take (cutN u)), .int .u8 t.k, str t.n, .slice pt t.sub.len ct] rfl rfl HG.out ?a2 (by decide) hmx3 hsz3 (Nat.zero_le _) ?a3)
         case a2 => exact ⟨rfl, rfl, rfl, rfl⟩
         case a3 =>
          intro v' w11 hv' hg11 ho11;obtain ⟨p11, c11, rfl⟩ := row_shape hv';have hXBlt := (Array.getElem?_eq_some_iff.1 hXB).1;have hsz11 : (WB.alloc (.cells #[str (u.take (cutN u)), .int .u8 t.k, str t.n, .slice pt t.sub.len ct] 192)).heap.size = WB.heap.size + 1 := by simp
          have hbel := (Below.refl WB.heap.size WB).alloc (nl _) (.cells #[str (u.take (cutN u)), .int .u8 t.k, str t.n, .slice pt t.sub.len ct] 192);have hA := hB.alloc (.cells #[str (u.take (cutN u)), .int .u8 t.k, str t.n, .slice pt t.sub.len ct] 192);have hrowA := (hbel.block B1 (by omega)).trans hrowB;have hvtA := (hvtB.kept (w' := WB.alloc (.cells #[str (u.take (cutN u)), .int .u8 t.k, str t.n, .slice pt t.sub.len ct] 192)) fun b _ hlt => hbel.block b hlt).mono (D' := fun b => (B1 < b ∧ b ≠ Bx) ∧ (Value.slice p dn.len c).ownBlock ≠ some b) fun b hb _ => by
           have hb : wc.heap.size ≤ b := hb;refine ⟨⟨by omega, by omega⟩, fun e => ?_⟩;have := hown7 b e;omega
          have ho3A := ho3.kept (w' := WB.alloc (.cells #[str (u.take (cutN u)), .int .u8 t.k, str t.n, .slice pt t.sub.len ct] 192)) fun b _ hlt => hbel.block b hlt
          have hv11 := (FoR.grow ho2 ho3A hvtA ⟨by omega, by omega⟩ hv' hg11 (by rw [hsz11]; exact ho11)).mono (D' := fun b => B1 < b) fun b hb _ => hb.1
          have h11 := hA.grown hg11 fun b e => by have := ho2 b e; have hl := LH.out.lo; omega
          have hrow11 := (hg11.block B1 (by omega) (fun e => by have := ho2 B1 e.symm; omega)).trans hrowA;generalize hL : dn.len + 1 = L at *;clear hA hrowA hvtA ho3A hv' hg11 ho11 hbel hB hXB hrowB hvtB ho1 ho2 ho3 c0 c1 c2 c3 g2 HG;have g2 := (cells_at hrow11 2).trans rfl;have f2 := free_at hrow11 2;go_upto_region 24 with fail;have hrowS : (w11.setCell ⟨B1, 2, none⟩ (.slice p11 L c11)).heap[B1]? = some (.cells #[.int .u8 (wk (s.take (cutN s) ++ [91])), str (s.take (cutN s)), .slice p11 L c11] 174 (0, 0)) := set_row hrow11 2 (.slice p11 L c11);have hS := h11.set LH.out.lo 2 (.slice p11 L c11);have hvS := hv11.kept (w' := w11.setCell ⟨B1, 2, none⟩ (.slice p11 L c11)) fun b hb _ => Below.heap_setCell _ _ _ _ (Nat.ne_of_gt hb)
          clear h11 hv11 hrow11 g2 f2;generalize w11.setCell ⟨B1, 2, none⟩ (.slice p11 L c11) = WS at *;have d1 := hS.env.r
          by_cases hr : ∃ r2, r = 44 :: r2
          case pos =>
           obtain ⟨r2, rfl⟩ := hr;have hr2 := parseT_le HQ.out;simp only [List.length_cons] at hr2;have hrest := hS.rest;go_wp2_with (go_at_call 253; refine (take_yes' [44] r2 rb _ hrest).mono ?_; rintro e w12 ⟨rfl, hr12, hk12⟩)
           go_roundg r2.length
           case measure => omega
           case rel =>
            refine ⟨dn.snoc (u.take (cutN u)) t, r2, rfl, hS.next hk12 hr12, LH.out.lo, by rw [Fo.len_snoc]; omega, ⟨_, hk12.heap hrowS hB1rb, ?_⟩, Lib.hid (LH.out.step_eq HOK.out HC.out HQ.out)⟩;exact hvS.kept fun b hb hlt => hk12.block b hlt (fun e => by have hb : B1 < b := hb; have := hS.lt; have := LH.out.lo; injection e with e; omega)
          case neg =>
           have hpre4 := prefix_one (s := r) (c := 44) (fun r' e => hr ⟨r', e⟩);have HEND := Lib.hid (LH.out.end_eq HOK.out HC.out HQ.out (fun r' e => hr ⟨r', e⟩));have e1 := hS.env.need;have e2 := (cells_at hrowS 2).trans rfl;clear hr;have hS1 := hS.drew.env.need;have hS2 := hS.drew.env.r;have SS : ∀ W', Kept rb WS.drew W' → (fun W : World => W.cell? ⟨Nd, 0, none⟩ = some (.func (.func 251) #[] #[]) ∧ W.cell? ⟨R, 0, none⟩ = some (.pointer (some ⟨rb, 0, none⟩))) W' := fun W' k => ⟨k.cell hS1 hS.env0.nn, k.cell hS2 hS.env0.nr⟩
           clear hS1 hS2
           by_cases hle : L ≤ 6
           case pos =>
            have hnd : Calls Tryz.prog 251 #[.bool (decide ((L : Int) ≤ 6))] WS fun e w' => e = .returned (.tuple #[]) ∧ WS = w' := by
             rw [decide_eq_true (show (L : Int) ≤ 6 by omega)];exact need_yes _
            by_cases h93 : ∃ r', r = 93 :: r'
            case pos =>
             obtain ⟨r', rfl⟩ := h93;have HP : Hid (parseT s = some (⟨wk (s.take (cutN s) ++ [91]), s.take (cutN s), dn.snoc (u.take (cutN u)) t⟩, r')) := by
              show _ = _
              rw [HE.out, HEND.out];simp only [Fo.len_snoc, hL, if_pos hle]
             clear hle hL;go_wp2_with (first | (go_at_call 253; refine (take_no _ [44] rb _ hS.rest.cell hpre4).mono ?_; rintro e w0 ⟨rfl, rfl⟩) | (go_at_call 251; refine hnd.mono ?_; rintro e w0 ⟨rfl, rfl⟩));refine wp_region_held_drew (S := (fun W : World => W.cell? ⟨Nd, 0, none⟩ = some (.func (.func 251) #[] #[]) ∧ W.cell? ⟨R, 0, none⟩ = some (.pointer (some ⟨rb, 0, none⟩)))) (by kernel_rfl) ?_ (fun hHeld => ?_)
             · exact SS _ (Kept.refl _ _)
             refine takeK 0 117 (v := ?_) ?_ ?_;rotate_left
             · intro w hSw
               try dsimp only at hSw
               go_simp;try with_reducible rfl
             try simp only [pz, pw]
             refine takeK 1 118 (v := ?_) ?_ ?_;rotate_left
             · intro w hSw
               try dsimp only at hSw
               go_simp;try with_reducible rfl
             try simp only [pz, pw]
             refine takeK 2 119 (v := ?_) ?_ ?_;rotate_left
             · intro w hSw
               try dsimp only at hSw
               go_simp;try with_reducible rfl
             try simp only [pz, pw]
             refine takeK 3 120 (v := ?_) ?_ ?_;rotate_left
             · intro w hSw
               try dsimp only at hSw
               go_simp;try with_reducible rfl
             try simp only [pz, pw]
             refine takeK 4 121 (v := ?_) ?_ ?_;rotate_left
             · intro w hSw
               try dsimp only at hSw
               go_simp;try with_reducible rfl
             try simp only [pz, pw]
             refine takeK 5 122 (v := ?_) ?_ ?_;rotate_left
             · intro w hSw
               try dsimp only at hSw
               go_simp;try with_reducible rfl
             try simp only [pz, pw]
             refine takeK 6 123 (v := ?_) ?_ ?_;rotate_left
             · intro w hSw
               try dsimp only at hSw
               go_simp;try with_reducible rfl
             try simp only [pz, pw]
             refine wpAnyH_ready (rs := [7]) (by kernel_rfl) (by simp) ?_;refine AllReadyH.cons rfl (fun K hK => ?_) AllReadyH.nil;go_simp;go_wp2_with (go_at_call 253; refine (take_yes' [93] r' rb _ hS.drew.rest).mono ?_; rintro e w9 ⟨rfl, hr9, hk9⟩);refine hK.out _ _ ?_ (fun hHeld => ?_)
             · exact SS _ hk9
             clear hK K;try simp only [pz, pw]
             refine takeK 8 125 (v := ?_) ?_ ?_;rotate_left
             · intro w hSw
               try dsimp only at hSw
               go_simp;try with_reducible rfl
             try simp only [pz, pw]
             refine wpAnyH_ready (rs := [9]) (by kernel_rfl) (by simp) ?_;refine AllReadyH.cons rfl (fun K hK => ?_) AllReadyH.nil;go_simp;go_wp2_with (go_at_call 251; refine (need_yes _).mono ?_; rintro e w0 ⟨rfl, rfl⟩);refine hK.out _ _ ?_ (fun hHeld => ?_)
             · exact SS _ hk9
             clear hK K;try simp only [pz, pw]
             refine wpAnyH_done (by kernel_rfl) ?_ _;have h9 := hS.drew.next hk9 hr9
             have hx9 := hk9.heap (w := WS.drew) hrowS hB1rb;have hv9 := (hvS.kept (w := WS) (w' := WS.drew) (fun _ _ _ => rfl)).kept (w := WS.drew) (w' := w9) fun b hb hlt => hk9.block b hlt (fun e => by have hb : B1 < b := hb; have := hS.lt; have := LH.out.lo; injection e with e; omega)
             have x0 := (cells_at hx9 0).trans rfl;have x1 := (cells_at hx9 1).trans rfl;have x2 := (cells_at hx9 2).trans rfl;obtain ⟨⟨y0, y1, y2⟩, z0, z1, z2⟩ := h9.resc;clear SS hnd e1 e2 d1;go_wp2_with fail;refine bodyPost_ret (v := .agg #[.int .u8 (wk (s.take (cutN s) ++ [91])), str (s.take (cutN s)), .slice p11 L c11]) (by simp [results, Tryz.results252, go_sem, y0, y1, y2]) rfl ?_;unfold NextPost;rw [HP.out];obtain ⟨q1, q2⟩ := h9.done (.int .u8 (wk (s.take (cutN s) ++ [91]))) (str (s.take (cutN s))) (.slice p11 L c11);have hlo := LH.out.lo;refine ⟨⟨_, rfl, ((hv9.foV.mono (D' := fun b => w.heap.size < b) fun b hb _ => by have hb : B1 < b := hb; show w.heap.size < b; omega).set3 (fun b hb => Nat.ne_of_gt hb) _ _ _).mono fun b hb _ => Nat.le_of_lt hb⟩, q1, q2⟩
            case neg =>
             have hpre9 := prefix_one (s := r) (c := 93) (fun r' e => h93 ⟨r', e⟩);have hnone : parseT s = none := by
              rw [HE.out, HEND.out];rcases r with _ | ⟨x, r⟩
              · rfl
              · split
                · rename_i h; simp only [Option.some.injEq, Prod.mk.injEq, List.cons.injEq] at h; exact absurd ⟨_, by rw [h.2.1]⟩ h93
                · rfl
             have HP : Hid (∀ e w', NextPost w rb s e w' ↔ (e = .panicked nonePanic ∧ Kept rb w w')) := by
              intro e w'; unfold NextPost; rw [hnone]
             clear hnone h93 hle hL;go_wp2_with (first | (go_at_call 253; refine (take_no _ [44] rb _ hS.rest.cell hpre4).mono ?_; rintro e w0 ⟨rfl, rfl⟩) | (go_at_call 251; refine hnd.mono ?_; rintro e w0 ⟨rfl, rfl⟩));refine wp_region_held_drew (S := (fun W : World => W.cell? ⟨Nd, 0, none⟩ = some (.func (.func 251) #[] #[]) ∧ W.cell? ⟨R, 0, none⟩ = some (.pointer (some ⟨rb, 0, none⟩)))) (by kernel_rfl) ?_ (fun hHeld => ?_)
             · exact SS _ (Kept.refl _ _)
             refine takeK 0 117 (v := ?_) ?_ ?_;rotate_left
             · intro w hSw
               try dsimp only at hSw
               go_simp;try with_reducible rfl
             try simp only [pz, pw]
             refine takeK 1 118 (v := ?_) ?_ ?_;rotate_left
             · intro w hSw
               try dsimp only at hSw
               go_simp;try with_reducible rfl
             try simp only [pz, pw]
             refine takeK 2 119 (v := ?_) ?_ ?_;rotate_left
             · intro w hSw
               try dsimp only at hSw
               go_simp;try with_reducible rfl
             try simp only [pz, pw]
             refine takeK 3 120 (v := ?_) ?_ ?_;rotate_left
             · intro w hSw
               try dsimp only at hSw
               go_simp;try with_reducible rfl
             try simp only [pz, pw]
             refine takeK 4 121 (v := ?_) ?_ ?_;rotate_left
             · intro w hSw
               try dsimp only at hSw
               go_simp;try with_reducible rfl
             try simp only [pz, pw]
             refine takeK 5 122 (v := ?_) ?_ ?_;rotate_left
             · intro w hSw
               try dsimp only at hSw
               go_simp;try with_reducible rfl
             try simp only [pz, pw]
             refine takeK 6 123 (v := ?_) ?_ ?_;rotate_left
             · intro w hSw
               try dsimp only at hSw
               go_simp;try with_reducible rfl
             try simp only [pz, pw]
             refine wpAnyH_ready (rs := [7]) (by kernel_rfl) (by simp) ?_;refine AllReadyH.cons rfl (fun K hK => ?_) AllReadyH.nil;go_simp;go_wp2_with (go_at_call 253; refine (take_no _ [93] rb _ hS.drew.rest.cell hpre9).mono ?_; rintro e w0 ⟨rfl, rfl⟩);refine hK.out _ _ ?_ (fun hHeld => ?_)
             · exact SS _ (Kept.refl _ _)
             clear hK K;try simp only [pz, pw]
             refine takeK 8 125 (v := ?_) ?_ ?_;rotate_left
             · intro w hSw
               try dsimp only at hSw
               go_simp;try with_reducible rfl
             try simp only [pz, pw]
             refine wpAnyH_ready (rs := [9]) (by kernel_rfl) (by simp) ?_;refine AllReadyH.cons rfl (fun K hK => ?_) AllReadyH.nil;go_simp;go_wp2_with (go_at_call 251; refine (need_no _).mono ?_; rintro e w0 ⟨rfl, rfl⟩; exact ⟨rfl, (HP.out _ _).2 ⟨rfl, hS.drew.kept⟩⟩)
           case neg =>
            have hnd : Calls Tryz.prog 251 #[.bool (decide ((L : Int) ≤ 6))] WS fun e w' => e = .panicked nonePanic ∧ WS = w' := by
             rw [decide_eq_false (show ¬ (L : Int) ≤ 6 by omega)];exact need_no _
            have hnone : parseT s = none := by
             rw [HE.out, HEND.out];rcases r with _ | ⟨x, r⟩
             · rfl
             · split
               · rename_i h; simp only [Option.some.injEq, Prod.mk.injEq, List.cons.injEq] at h; rw [← h.1, Fo.len_snoc, hL, if_neg hle]
               · rfl
            have HP : Hid (∀ e w', NextPost w rb s e w' ↔ (e = .panicked nonePanic ∧ Kept rb w w')) := by
             intro e w'; unfold NextPost; rw [hnone]
            clear hnone hle hL;go_wp2_with (first | (go_at_call 253; refine (take_no _ [44] rb _ hS.rest.cell hpre4).mono ?_; rintro e w0 ⟨rfl, rfl⟩) | (go_at_call 251; refine hnd.mono ?_; rintro e w0 ⟨rfl, rfl⟩));exact ⟨rfl, (HP.out _ _).2 ⟨rfl, hS.kept⟩⟩
end Go.Proofs.YtakgjcfkdemipaaGreatDoor
namespace Go.Proofs.YtakgjcfkdemipaaGreatDoor
open Go.RowKit
theorem next_any : ∀ (n : Nat) (s : List UInt8), s.length ≤ n → s.length ≤ 1000 → NextOk s := by
 intro n
 induction n with
 | zero =>
  intro s hs hm;have hnil : s = [] := by cases s with
   | nil => rfl
   | cons => simp at hs
  subst hnil;exact next_bad [] hm (fun r e => by cases e) rfl rfl rfl
 | succ n ihn =>
  intro s hs hm;have ih : ∀ u : List UInt8, u.length < s.length → NextOk u := fun u hu => ihn u (by omega) (by omega)
  by_cases hp : noPar s
  · by_cases h0 : kind0 (s.take (cutN s)) = 0
    · by_cases hb : ∃ s2, s.drop (cutN s) = 91 :: s2
      · obtain ⟨s2, hb⟩ := hb
        have hl : s2.length < s.length := by
         have := congrArg List.length hb;simp at this;omega
        rcases kindB_facts (w := s.take (cutN s)) with ⟨k1, _⟩ | ⟨k1, _⟩ | ⟨k1, _⟩ | ⟨k1, _⟩
        all_goals first
         | exact next_arr_arg s s2 hm hp h0 k1 hb (ih s2 hl)
         | exact next_rec s s2 hm hp h0 (.inl k1) hb ih
         | exact next_rec s s2 hm hp h0 (.inr k1) hb ih
         | (rcases hn : isName (s.take (cutN s)) with _ | _
            · exact next_bad s hm hp h0 k1 hn
            · exact next_name_arg s s2 hm hp h0 k1 hn hb (ih s2 hl))
      · have hb' : ∀ r, s.drop (cutN s) ≠ 91 :: r := fun r e => hb ⟨r, e⟩
        by_cases hk : kindB (s.take (cutN s)) = 0
        · rcases hn : isName (s.take (cutN s)) with _ | _
          · exact next_bad s hm hp h0 hk hn
          · exact next_name s hm hp h0 hk hn hb'
        · exact next_no_bracket s hm hp h0 hk hb'
    · exact next_word s (by unfold maxLen; omega) hp h0
  · have : ∃ r, s = 63 :: 116 :: r := Classical.byContradiction fun h => hp fun r e => h ⟨r, e⟩
    obtain ⟨r, rfl⟩ := this;exact next_param r
theorem next_ok (s : List UInt8) (hm : s.length ≤ 1000) : NextOk s := next_any s.length s (nl _) hm
end Go.Proofs.YtakgjcfkdemipaaGreatDoor
