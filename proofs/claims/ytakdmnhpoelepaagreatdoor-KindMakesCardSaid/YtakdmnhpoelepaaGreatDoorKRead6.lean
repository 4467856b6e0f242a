/-
  The closure with which the program reads a type (kind.read$3): oneofs.
-/
import Derived.Test.YtakdmnhpoelepaaGreatDoorKRead2
import Derived.Test.YtakdmnhpoelepaaGreatDoorKRead4
import Derived.Test.YtakdmnhpoelepaaGreatDoorRegion
import Derived.Deep.LoopGhost
import Derived.Deep.CutRange
namespace Go.Proofs.YtakdmnhpoelepaaGreatDoor
open Go.RowKit

set_option maxRecDepth 4000 in
set_option maxHeartbeats 12800000 in
theorem next_rec6 (s s2 : List UInt8) (hm1 : s.length ≤ 1000) (hp : noPar s) (h0 : kind0 (s.take (cutN s)) = 0) (hkk : kindB (s.take (cutN s)) = 6) (hb : s.drop (cutN s) = 91 :: s2) (ih : ∀ u : List UInt8, u.length < s.length → NextOk u) : NextOk s := by
  have hm : s.length ≤ maxLen := by unfold maxLen; omega
  intro R Nd X rb w ht he hs
  have hE := parseT_rec hp h0 (.inr hkk) hb
  have hpre := noPar_prefix hp
  have HK := Lib.hid (wk_word s)
  have HK2 := Lib.hid (wk_bracket (s.take (cutN s)))
  have hk0 : ((wk (s.take (cutN s)) : Int) != 0) = false := by rw [HK.out, h0]; rfl
  have hcle := cutN_le s
  have hwl : (s.take (cutN s)).length ≤ maxLen := by simp; omega
  have hk1 : ((wk (s.take (cutN s) ++ [91]) : Int) == 0) = false := by rw [HK2.out, hkk]; rfl
  have hk7 : ((wk (s.take (cutN s) ++ [91]) : Int) == 7) = false := by rw [HK2.out, hkk]; rfl
  have hk5 : ((wk (s.take (cutN s) ++ [91]) : Int) == 5) = false := by rw [HK2.out, hkk]; rfl
  have hk6 : ((wk (s.take (cutN s) ++ [91]) : Int) == 6) = true := by rw [HK2.out, hkk]; rfl
  have hk9 : kindB (s.take (cutN s)) = wk (s.take (cutN s) ++ [91]) := HK2.out.symm
  rw [hk9] at hE
  have HB := Lib.hid hb
  have HE := Lib.hid hE
  clear hE
  clear h0 hp hkk hk9
  have hlen2 : s2.length < s.length := by
    have := congrArg List.length hb
    simp at this
    omega
  have h1 := St.start ht he hs
  have a1 := h1.env.r
  go_enter Tryz.func100, Tryz.ntmps100
  go_wp2_with fail
  generalize w.alloc (.cells #[.int .u8 0, .string ⟨#[]⟩, .slice none 0 0] 57) = W1 at *
  refine (take_no s [63, 116] rb _ h1.rest.cell hpre).mono ?_
  rintro e w1 ⟨rfl, rfl⟩
  go_wp2_with fail
  refine (word_any' s rb _ hm h1.rest).mono ?_
  rintro e w2 ⟨rfl, hr2, hkp2⟩
  have h2 := h1.next hkp2 hr2
  have b1 := h2.env.r
  have b2 := h2.env.need
  rw [hb] at h2
  go_wp2_with (first | (go_at_call 103; refine (wk_any _ _).mono ?_; rintro e w0 ⟨rfl, rfl⟩) | (go_at_call 101; refine (take_yes' [91] s2 rb _ h2.rest).mono ?_; rintro e w3 ⟨rfl, hr3, hkp3⟩; have h3 := h2.next hkp3 hr3; have b3 := fun o => (h3.alloc o).env.need; have b4 := fun o => (h3.alloc o).env.r; have b5 := fun o => (h3.alloc o).env.next) | (go_at_call 99; refine (need_yes _).mono ?_; rintro e w0 ⟨rfl, rfl⟩))
  have hx := heap_alloc_new w3 (.cells #[.int .u8 (wk (s.take (cutN s) ++ [91])), .string ⟨(s.take (cutN s)).toArray⟩, .slice none 0 0] 57)
  have h5 := h3.alloc (.cells #[.int .u8 (wk (s.take (cutN s) ++ [91])), .string ⟨(s.take (cutN s)).toArray⟩, .slice none 0 0] 57)
  have hB1 := h3.size
  have hB2 : w3.heap.size ≠ rb := by have := h3.lt; omega
  generalize hW5 : w3.alloc (.cells #[.int .u8 (wk (s.take (cutN s) ++ [91])), .string ⟨(s.take (cutN s)).toArray⟩, .slice none 0 0] 57) = W5 at *
  have L0 : Lp w R Nd X rb w3.heap.size (wk (s.take (cutN s) ++ [91])) (s.take (cutN s)) s2 W5 .nil s2 :=
    Lp.start h5 hB1 hx
  clear hx h5 b3 b4 b5 hW5
  generalize w3.heap.size = B1 at *
  clear h3 hr3 hkp3
  go_loopg [9] s2.length (fun n _ wr => ∃ dn u, n = u.length ∧ Lp w R Nd X rb B1 (wk (s.take (cutN s) ++ [91])) (s.take (cutN s)) s2 wr dn u)
  case atStart => exact ⟨_, _, rfl, L0⟩
  case round =>
    clear L0
    obtain ⟨dn, u, rfl, L⟩ := hrel
    obtain ⟨st, lo, len, ⟨v, hrow, hv⟩, eq⟩ := id L
    obtain ⟨p, c, rfl, hsh⟩ := hv.foV.shape
    have d1 := st.env.r
    have hul : u.length ≤ maxLen := by omega
    have hdl : dn.len ≤ 1000 := by omega
    go_upto_region 21 with (go_at_call 102; refine (word_any' u rb _ hul st.rest).mono ?_; rintro e w6 ⟨rfl, hr6, hk6⟩)
    have h6 := st.next hk6 hr6
    have hX := heap_alloc_new w6 (.cells #[.string ⟨(u.take (cutN u)).toArray⟩, .int .u8 0, .string ⟨#[]⟩, .slice none 0 0] 63)
    have h7 := h6.alloc (.cells #[.string ⟨(u.take (cutN u)).toArray⟩, .int .u8 0, .string ⟨#[]⟩, .slice none 0 0] 63)
    have hXlt : w.heap.size < w6.heap.size := h6.size
    have hXrb : w6.heap.size ≠ rb := by have := h6.lt; omega
    have hB1rb : B1 ≠ rb := by have := h6.lt; omega
    have hB1X : B1 < w6.heap.size := by have := (Array.getElem?_eq_some_iff.1 (hk6.heap hrow hB1rb)).1; omega
    have k7 := hk6.trans (Kept.alloc rb w6 (.cells #[.string ⟨(u.take (cutN u)).toArray⟩, .int .u8 0, .string ⟨#[]⟩, .slice none 0 0] 63))
    have hrow7 := k7.heap hrow hB1rb
    have hv7 := (hv.mono (D' := fun b => B1 < b ∧ b ≠ w6.heap.size) fun b hb hlt => ⟨hb, by have := hk6.size; omega⟩).kept (w' := w6.alloc (.cells #[.string ⟨(u.take (cutN u)).toArray⟩, .int .u8 0, .string ⟨#[]⟩, .slice none 0 0] 63)) fun b hb hlt => k7.block b hlt (fun e => by have hb : B1 < b := hb.1; have := st.lt; injection e with e; omega)
    generalize w6.alloc (.cells #[.string ⟨(u.take (cutN u)).toArray⟩, .int .u8 0, .string ⟨#[]⟩, .slice none 0 0] 63) = W7 at *
    generalize w6.heap.size = Bx at *
    have hown7 : ∀ b, (Value.slice p dn.len c).ownBlock = some b → b < W7.heap.size := by
      obtain ⟨_, a1, _, _⟩ := hv7
      exact fun b e => ownsRow_lt a1 e
    obtain ⟨p', c', hpc, hsh⟩ := hv7.foV.shape
    injection hpc with e1 _ e3
    subst e1 e3
    have hwn : (u.take (cutN u)).length ≤ maxLen := by simp; omega
    clear k7 hv hrow d1 hr6 hk6 h6
    have q1 := h7.drew.env.need
    have q2 := h7.drew.env.r
    have q3 := (cells_at (w := W7.drew) hX 0).trans rfl
    have q4 := (cells_at (w := W7.drew) hrow7 2).trans rfl
    have S7 : ∀ W', Kept rb W7.drew W' → (fun W : World => W.cell? ⟨Nd, 0, none⟩ = some (.func (.func 99) #[] #[]) ∧ W.cell? ⟨R, 0, none⟩ = some (.pointer (some ⟨rb, 0, none⟩)) ∧ W.cell? ⟨Bx, 0, none⟩ = some (str (u.take (cutN u))) ∧ W.cell? ⟨B1, 2, none⟩ = some (.slice p dn.len c)) W' := fun W' k => ⟨k.cell q1 h7.env0.nn, k.cell q2 h7.env0.nr, k.cell q3 hXrb, k.cell q4 hB1rb⟩
    clear q1 q2 q3 q4
    by_cases hn : isName (u.take (cutN u)) = true
    case neg =>
      have hn : isName (u.take (cutN u)) = false := by simpa using hn
      have hnone : parseT s = none := by rw [HE.out, L.no_parse (round_bad fun e => by rw [e.1] at hn; exact Bool.noConfusion hn)]
      have HP : Hid (∀ e w', NextPost w rb s e w' ↔ (e = .panicked nonePanic ∧ Kept rb w w')) := by
        intro e w'; unfold NextPost; rw [hnone]
      clear hnone L eq
      refine wp_region_held_drew (S := (fun W : World => W.cell? ⟨Nd, 0, none⟩ = some (.func (.func 99) #[] #[]) ∧ W.cell? ⟨R, 0, none⟩ = some (.pointer (some ⟨rb, 0, none⟩)) ∧ W.cell? ⟨Bx, 0, none⟩ = some (str (u.take (cutN u))) ∧ W.cell? ⟨B1, 2, none⟩ = some (.slice p dn.len c))) (by kernel_rfl) ?_ (fun hHeld => ?_)
      · exact S7 _ (Kept.refl _ _)
      refine takeH (i := 0) (d := some 66) (v := ?_) rfl (by kernel_rfl) (by kernel_rfl) (by kernel_rfl) (by kernel_rfl) (fun _ _ _ h => h) (by assumption) (by kernel_rfl) ?_ ?_
      rotate_left
      · intro w hSw
        try dsimp only at hSw
        go_simp
        try with_reducible rfl
      try simp only [Act.put, List.setIfInBounds_toArray, List.set_cons_zero, List.set_cons_succ]
      refine takeH (i := 1) (d := some 67) (v := ?_) rfl (by kernel_rfl) (by kernel_rfl) (by kernel_rfl) (by kernel_rfl) (fun _ _ _ h => h) (by assumption) (by kernel_rfl) ?_ ?_
      rotate_left
      · intro w hSw
        try dsimp only at hSw
        go_simp
        try with_reducible rfl
      try simp only [Act.put, List.setIfInBounds_toArray, List.set_cons_zero, List.set_cons_succ]
      refine takeH (i := 2) (d := some 68) (v := ?_) rfl (by kernel_rfl) (by kernel_rfl) (by kernel_rfl) (by kernel_rfl) (fun _ _ _ h => h) (by assumption) (by kernel_rfl) ?_ ?_
      rotate_left
      · intro w hSw
        try dsimp only at hSw
        go_simp
        try with_reducible rfl
      try simp only [Act.put, List.setIfInBounds_toArray, List.set_cons_zero, List.set_cons_succ]
      refine wpAnyH_ready (rs := [3]) (by kernel_rfl) (by simp) ?_
      refine AllReadyH.cons rfl (fun K hK => ?_) AllReadyH.nil
      go_simp
      go_wp2_with (go_at_call 65; refine (tIsName_any _ _ h7.drew.tab hwn).mono ?_; rw [hn]; rintro e w8 ⟨rfl, hb8⟩; have k8 := Kept.of_below (b := rb) hb8 (Nat.le_refl _))
      refine hK.out _ _ ?_ (fun hHeld => ?_)
      · exact S7 _ k8
      clear hK K
      try simp only [Act.put, List.setIfInBounds_toArray, List.set_cons_zero, List.set_cons_succ]
      refine takeH (i := 4) (d := some 70) (v := ?_) rfl (by kernel_rfl) (by kernel_rfl) (by kernel_rfl) (by kernel_rfl) (fun _ _ _ h => h) (by assumption) (by kernel_rfl) ?_ ?_
      rotate_left
      · intro w hSw
        try dsimp only at hSw
        go_simp
        try with_reducible rfl
      try simp only [Act.put, List.setIfInBounds_toArray, List.set_cons_zero, List.set_cons_succ]
      refine skipH (i := 5) (d := some 71) rfl (by kernel_rfl) (by kernel_rfl) (by kernel_rfl) (by kernel_rfl) (fun _ _ _ h => h) (by assumption) (by kernel_rfl) ?_
      try simp only [Act.put, List.setIfInBounds_toArray, List.set_cons_zero, List.set_cons_succ]
      refine skipH (i := 6) (d := some 72) rfl (by kernel_rfl) (by kernel_rfl) (by kernel_rfl) (by kernel_rfl) (fun _ _ _ h => h) (by assumption) (by kernel_rfl) ?_
      try simp only [Act.put, List.setIfInBounds_toArray, List.set_cons_zero, List.set_cons_succ]
      refine skipH (i := 7) (d := some 73) rfl (by kernel_rfl) (by kernel_rfl) (by kernel_rfl) (by kernel_rfl) (fun _ _ _ h => h) (by assumption) (by kernel_rfl) ?_
      try simp only [Act.put, List.setIfInBounds_toArray, List.set_cons_zero, List.set_cons_succ]
      refine skipH (i := 8) (d := some 74) rfl (by kernel_rfl) (by kernel_rfl) (by kernel_rfl) (by kernel_rfl) (fun _ _ _ h => h) (by assumption) (by kernel_rfl) ?_
      try simp only [Act.put, List.setIfInBounds_toArray, List.set_cons_zero, List.set_cons_succ]
      refine takeH (i := 9) (d := some 75) (v := ?_) rfl (by kernel_rfl) (by kernel_rfl) (by kernel_rfl) (by kernel_rfl) (fun _ _ _ h => h) (by assumption) (by kernel_rfl) ?_ ?_
      rotate_left
      · intro w hSw
        try dsimp only at hSw
        go_simp
        try with_reducible rfl
      try simp only [Act.put, List.setIfInBounds_toArray, List.set_cons_zero, List.set_cons_succ]
      refine takeH (i := 10) (d := some 76) (v := ?_) rfl (by kernel_rfl) (by kernel_rfl) (by kernel_rfl) (by kernel_rfl) (fun _ _ _ h => h) (by assumption) (by kernel_rfl) ?_ ?_
      rotate_left
      · intro w hSw
        try dsimp only at hSw
        go_simp
        try with_reducible rfl
      try simp only [Act.put, List.setIfInBounds_toArray, List.set_cons_zero, List.set_cons_succ]
      refine skipH (i := 11) (d := some 77) rfl (by kernel_rfl) (by kernel_rfl) (by kernel_rfl) (by kernel_rfl) (fun _ _ _ h => h) (by assumption) (by kernel_rfl) ?_
      try simp only [Act.put, List.setIfInBounds_toArray, List.set_cons_zero, List.set_cons_succ]
      refine skipH (i := 12) (d := some 78) rfl (by kernel_rfl) (by kernel_rfl) (by kernel_rfl) (by kernel_rfl) (fun _ _ _ h => h) (by assumption) (by kernel_rfl) ?_
      try simp only [Act.put, List.setIfInBounds_toArray, List.set_cons_zero, List.set_cons_succ]
      refine skipH (i := 13) (d := some 79) rfl (by kernel_rfl) (by kernel_rfl) (by kernel_rfl) (by kernel_rfl) (fun _ _ _ h => h) (by assumption) (by kernel_rfl) ?_
      try simp only [Act.put, List.setIfInBounds_toArray, List.set_cons_zero, List.set_cons_succ]
      refine skipH (i := 14) (d := some 80) rfl (by kernel_rfl) (by kernel_rfl) (by kernel_rfl) (by kernel_rfl) (fun _ _ _ h => h) (by assumption) (by kernel_rfl) ?_
      try simp only [Act.put, List.setIfInBounds_toArray, List.set_cons_zero, List.set_cons_succ]
      refine skipH (i := 15) (d := some 81) rfl (by kernel_rfl) (by kernel_rfl) (by kernel_rfl) (by kernel_rfl) (fun _ _ _ h => h) (by assumption) (by kernel_rfl) ?_
      try simp only [Act.put, List.setIfInBounds_toArray, List.set_cons_zero, List.set_cons_succ]
      refine skipH (i := 16) (d := some 82) rfl (by kernel_rfl) (by kernel_rfl) (by kernel_rfl) (by kernel_rfl) (fun _ _ _ h => h) (by assumption) (by kernel_rfl) ?_
      try simp only [Act.put, List.setIfInBounds_toArray, List.set_cons_zero, List.set_cons_succ]
      refine skipH (i := 17) (d := some 83) rfl (by kernel_rfl) (by kernel_rfl) (by kernel_rfl) (by kernel_rfl) (fun _ _ _ h => h) (by assumption) (by kernel_rfl) ?_
      try simp only [Act.put, List.setIfInBounds_toArray, List.set_cons_zero, List.set_cons_succ]
      refine skipH (i := 18) (d := some 84) rfl (by kernel_rfl) (by kernel_rfl) (by kernel_rfl) (by kernel_rfl) (fun _ _ _ h => h) (by assumption) (by kernel_rfl) ?_
      try simp only [Act.put, List.setIfInBounds_toArray, List.set_cons_zero, List.set_cons_succ]
      refine skipH (i := 19) (d := some 85) rfl (by kernel_rfl) (by kernel_rfl) (by kernel_rfl) (by kernel_rfl) (fun _ _ _ h => h) (by assumption) (by kernel_rfl) ?_
      try simp only [Act.put, List.setIfInBounds_toArray, List.set_cons_zero, List.set_cons_succ]
      refine skipH (i := 20) (d := some 86) rfl (by kernel_rfl) (by kernel_rfl) (by kernel_rfl) (by kernel_rfl) (fun _ _ _ h => h) (by assumption) (by kernel_rfl) ?_
      try simp only [Act.put, List.setIfInBounds_toArray, List.set_cons_zero, List.set_cons_succ]
      refine skipH (i := 21) (d := some 87) rfl (by kernel_rfl) (by kernel_rfl) (by kernel_rfl) (by kernel_rfl) (fun _ _ _ h => h) (by assumption) (by kernel_rfl) ?_
      try simp only [Act.put, List.setIfInBounds_toArray, List.set_cons_zero, List.set_cons_succ]
      refine skipH (i := 22) (d := some 88) rfl (by kernel_rfl) (by kernel_rfl) (by kernel_rfl) (by kernel_rfl) (fun _ _ _ h => h) (by assumption) (by kernel_rfl) ?_
      try simp only [Act.put, List.setIfInBounds_toArray, List.set_cons_zero, List.set_cons_succ]
      refine skipH (i := 23) (d := some 89) rfl (by kernel_rfl) (by kernel_rfl) (by kernel_rfl) (by kernel_rfl) (fun _ _ _ h => h) (by assumption) (by kernel_rfl) ?_
      try simp only [Act.put, List.setIfInBounds_toArray, List.set_cons_zero, List.set_cons_succ]
      refine skipH (i := 24) (d := some 90) rfl (by kernel_rfl) (by kernel_rfl) (by kernel_rfl) (by kernel_rfl) (fun _ _ _ h => h) (by assumption) (by kernel_rfl) ?_
      try simp only [Act.put, List.setIfInBounds_toArray, List.set_cons_zero, List.set_cons_succ]
      refine skipH (i := 25) (d := some 91) rfl (by kernel_rfl) (by kernel_rfl) (by kernel_rfl) (by kernel_rfl) (fun _ _ _ h => h) (by assumption) (by kernel_rfl) ?_
      try simp only [Act.put, List.setIfInBounds_toArray, List.set_cons_zero, List.set_cons_succ]
      refine skipH (i := 26) (d := some 92) rfl (by kernel_rfl) (by kernel_rfl) (by kernel_rfl) (by kernel_rfl) (fun _ _ _ h => h) (by assumption) (by kernel_rfl) ?_
      try simp only [Act.put, List.setIfInBounds_toArray, List.set_cons_zero, List.set_cons_succ]
      refine skipH (i := 27) (d := some 93) rfl (by kernel_rfl) (by kernel_rfl) (by kernel_rfl) (by kernel_rfl) (fun _ _ _ h => h) (by assumption) (by kernel_rfl) ?_
      try simp only [Act.put, List.setIfInBounds_toArray, List.set_cons_zero, List.set_cons_succ]
      refine skipH (i := 28) (d := some 94) rfl (by kernel_rfl) (by kernel_rfl) (by kernel_rfl) (by kernel_rfl) (fun _ _ _ h => h) (by assumption) (by kernel_rfl) ?_
      try simp only [Act.put, List.setIfInBounds_toArray, List.set_cons_zero, List.set_cons_succ]
      refine takeH (i := 29) (d := some 95) (v := ?_) rfl (by kernel_rfl) (by kernel_rfl) (by kernel_rfl) (by kernel_rfl) (fun _ _ _ h => h) (by assumption) (by kernel_rfl) ?_ ?_
      rotate_left
      · intro w hSw
        try dsimp only at hSw
        go_simp
        try with_reducible rfl
      try simp only [Act.put, List.setIfInBounds_toArray, List.set_cons_zero, List.set_cons_succ]
      refine wpAnyH_ready (rs := [30]) (by kernel_rfl) (by simp) ?_
      refine AllReadyH.cons rfl (fun K hK => ?_) AllReadyH.nil
      go_simp
      go_wp2_with (go_at_call 99; refine (need_no _).mono ?_; rintro e w0 ⟨rfl, rfl⟩; exact ⟨rfl, (HP.out _ _).2 ⟨rfl, h7.drew.kept.trans k8⟩⟩)
    case pos =>
      by_cases hc : ∃ u2, u.drop (cutN u) = 58 :: u2
      case neg =>
        have hpreC := prefix_one (fun u2 e => hc ⟨u2, e⟩)
        have hnone : parseT s = none := by rw [HE.out, L.no_parse (parseP_colon fun u2 e => hc ⟨u2, e⟩)]
        have HP : Hid (∀ e w', NextPost w rb s e w' ↔ (e = .panicked nonePanic ∧ Kept rb w w')) := by
          intro e w'; unfold NextPost; rw [hnone]
        clear hnone L eq hc
        refine wp_region_held_drew (S := (fun W : World => W.cell? ⟨Nd, 0, none⟩ = some (.func (.func 99) #[] #[]) ∧ W.cell? ⟨R, 0, none⟩ = some (.pointer (some ⟨rb, 0, none⟩)) ∧ W.cell? ⟨Bx, 0, none⟩ = some (str (u.take (cutN u))) ∧ W.cell? ⟨B1, 2, none⟩ = some (.slice p dn.len c))) (by kernel_rfl) ?_ (fun hHeld => ?_)
        · exact S7 _ (Kept.refl _ _)
        refine takeH (i := 0) (d := some 66) (v := ?_) rfl (by kernel_rfl) (by kernel_rfl) (by kernel_rfl) (by kernel_rfl) (fun _ _ _ h => h) (by assumption) (by kernel_rfl) ?_ ?_
        rotate_left
        · intro w hSw
          try dsimp only at hSw
          go_simp
          try with_reducible rfl
        try simp only [Act.put, List.setIfInBounds_toArray, List.set_cons_zero, List.set_cons_succ]
        refine takeH (i := 1) (d := some 67) (v := ?_) rfl (by kernel_rfl) (by kernel_rfl) (by kernel_rfl) (by kernel_rfl) (fun _ _ _ h => h) (by assumption) (by kernel_rfl) ?_ ?_
        rotate_left
        · intro w hSw
          try dsimp only at hSw
          go_simp
          try with_reducible rfl
        try simp only [Act.put, List.setIfInBounds_toArray, List.set_cons_zero, List.set_cons_succ]
        refine takeH (i := 2) (d := some 68) (v := ?_) rfl (by kernel_rfl) (by kernel_rfl) (by kernel_rfl) (by kernel_rfl) (fun _ _ _ h => h) (by assumption) (by kernel_rfl) ?_ ?_
        rotate_left
        · intro w hSw
          try dsimp only at hSw
          go_simp
          try with_reducible rfl
        try simp only [Act.put, List.setIfInBounds_toArray, List.set_cons_zero, List.set_cons_succ]
        refine wpAnyH_ready (rs := [3]) (by kernel_rfl) (by simp) ?_
        refine AllReadyH.cons rfl (fun K hK => ?_) AllReadyH.nil
        go_simp
        go_wp2_with (go_at_call 65; refine (tIsName_any _ _ h7.drew.tab hwn).mono ?_; rw [hn]; rintro e w8 ⟨rfl, hb8⟩; have k8 := Kept.of_below (b := rb) hb8 (Nat.le_refl _))
        refine hK.out _ _ ?_ (fun hHeld => ?_)
        · exact S7 _ k8
        clear hK K
        try simp only [Act.put, List.setIfInBounds_toArray, List.set_cons_zero, List.set_cons_succ]
        refine takeH (i := 4) (d := some 70) (v := ?_) rfl (by kernel_rfl) (by kernel_rfl) (by kernel_rfl) (by kernel_rfl) (fun _ _ _ h => h) (by assumption) (by kernel_rfl) ?_ ?_
        rotate_left
        · intro w hSw
          try dsimp only at hSw
          go_simp
          try with_reducible rfl
        try simp only [Act.put, List.setIfInBounds_toArray, List.set_cons_zero, List.set_cons_succ]
        refine takeH (i := 5) (d := some 71) (v := ?_) rfl (by kernel_rfl) (by kernel_rfl) (by kernel_rfl) (by kernel_rfl) (fun _ _ _ h => h) (by assumption) (by kernel_rfl) ?_ ?_
        rotate_left
        · intro w hSw
          try dsimp only at hSw
          go_simp
          try with_reducible rfl
        try simp only [Act.put, List.setIfInBounds_toArray, List.set_cons_zero, List.set_cons_succ]
        refine takeH (i := 6) (d := some 72) (v := ?_) rfl (by kernel_rfl) (by kernel_rfl) (by kernel_rfl) (by kernel_rfl) (fun _ _ _ h => h) (by assumption) (by kernel_rfl) ?_ ?_
        rotate_left
        · intro w hSw
          try dsimp only at hSw
          go_simp
          try with_reducible rfl
        try simp only [Act.put, List.setIfInBounds_toArray, List.set_cons_zero, List.set_cons_succ]
        refine takeH (i := 7) (d := some 73) (v := ?_) rfl (by kernel_rfl) (by kernel_rfl) (by kernel_rfl) (by kernel_rfl) (fun _ _ _ h => h) (by assumption) (by kernel_rfl) ?_ ?_
        rotate_left
        · intro w hSw
          try dsimp only at hSw
          go_simp
          try with_reducible rfl
        try simp only [Act.put, List.setIfInBounds_toArray, List.set_cons_zero, List.set_cons_succ]
        refine wpAnyH_ready (rs := [8]) (by kernel_rfl) (by simp) ?_
        refine AllReadyH.cons rfl (fun K hK => ?_) AllReadyH.nil
        go_simp
        go_wp2_with (go_at_call 101; refine (take_no _ [58] rb _ (h7.drew.rest.below hb8 (Nat.le_refl _)).cell hpreC).mono ?_; rintro e w0 ⟨rfl, rfl⟩)
        refine hK.out _ _ ?_ (fun hHeld => ?_)
        · exact S7 _ k8
        clear hK K
        try simp only [Act.put, List.setIfInBounds_toArray, List.set_cons_zero, List.set_cons_succ]
        refine takeH (i := 9) (d := some 75) (v := ?_) rfl (by kernel_rfl) (by kernel_rfl) (by kernel_rfl) (by kernel_rfl) (fun _ _ _ h => h) (by assumption) (by kernel_rfl) ?_ ?_
        rotate_left
        · intro w hSw
          try dsimp only at hSw
          go_simp
          try with_reducible rfl
        try simp only [Act.put, List.setIfInBounds_toArray, List.set_cons_zero, List.set_cons_succ]
        refine takeH (i := 10) (d := some 76) (v := ?_) rfl (by kernel_rfl) (by kernel_rfl) (by kernel_rfl) (by kernel_rfl) (fun _ _ _ h => h) (by assumption) (by kernel_rfl) ?_ ?_
        rotate_left
        · intro w hSw
          try dsimp only at hSw
          go_simp
          try with_reducible rfl
        try simp only [Act.put, List.setIfInBounds_toArray, List.set_cons_zero, List.set_cons_succ]
        refine skipH (i := 11) (d := some 77) rfl (by kernel_rfl) (by kernel_rfl) (by kernel_rfl) (by kernel_rfl) (fun _ _ _ h => h) (by assumption) (by kernel_rfl) ?_
        try simp only [Act.put, List.setIfInBounds_toArray, List.set_cons_zero, List.set_cons_succ]
        refine skipH (i := 12) (d := some 78) rfl (by kernel_rfl) (by kernel_rfl) (by kernel_rfl) (by kernel_rfl) (fun _ _ _ h => h) (by assumption) (by kernel_rfl) ?_
        try simp only [Act.put, List.setIfInBounds_toArray, List.set_cons_zero, List.set_cons_succ]
        refine skipH (i := 13) (d := some 79) rfl (by kernel_rfl) (by kernel_rfl) (by kernel_rfl) (by kernel_rfl) (fun _ _ _ h => h) (by assumption) (by kernel_rfl) ?_
        try simp only [Act.put, List.setIfInBounds_toArray, List.set_cons_zero, List.set_cons_succ]
        refine skipH (i := 14) (d := some 80) rfl (by kernel_rfl) (by kernel_rfl) (by kernel_rfl) (by kernel_rfl) (fun _ _ _ h => h) (by assumption) (by kernel_rfl) ?_
        try simp only [Act.put, List.setIfInBounds_toArray, List.set_cons_zero, List.set_cons_succ]
        refine skipH (i := 15) (d := some 81) rfl (by kernel_rfl) (by kernel_rfl) (by kernel_rfl) (by kernel_rfl) (fun _ _ _ h => h) (by assumption) (by kernel_rfl) ?_
        try simp only [Act.put, List.setIfInBounds_toArray, List.set_cons_zero, List.set_cons_succ]
        refine skipH (i := 16) (d := some 82) rfl (by kernel_rfl) (by kernel_rfl) (by kernel_rfl) (by kernel_rfl) (fun _ _ _ h => h) (by assumption) (by kernel_rfl) ?_
        try simp only [Act.put, List.setIfInBounds_toArray, List.set_cons_zero, List.set_cons_succ]
        refine skipH (i := 17) (d := some 83) rfl (by kernel_rfl) (by kernel_rfl) (by kernel_rfl) (by kernel_rfl) (fun _ _ _ h => h) (by assumption) (by kernel_rfl) ?_
        try simp only [Act.put, List.setIfInBounds_toArray, List.set_cons_zero, List.set_cons_succ]
        refine skipH (i := 18) (d := some 84) rfl (by kernel_rfl) (by kernel_rfl) (by kernel_rfl) (by kernel_rfl) (fun _ _ _ h => h) (by assumption) (by kernel_rfl) ?_
        try simp only [Act.put, List.setIfInBounds_toArray, List.set_cons_zero, List.set_cons_succ]
        refine skipH (i := 19) (d := some 85) rfl (by kernel_rfl) (by kernel_rfl) (by kernel_rfl) (by kernel_rfl) (fun _ _ _ h => h) (by assumption) (by kernel_rfl) ?_
        try simp only [Act.put, List.setIfInBounds_toArray, List.set_cons_zero, List.set_cons_succ]
        refine skipH (i := 20) (d := some 86) rfl (by kernel_rfl) (by kernel_rfl) (by kernel_rfl) (by kernel_rfl) (fun _ _ _ h => h) (by assumption) (by kernel_rfl) ?_
        try simp only [Act.put, List.setIfInBounds_toArray, List.set_cons_zero, List.set_cons_succ]
        refine skipH (i := 21) (d := some 87) rfl (by kernel_rfl) (by kernel_rfl) (by kernel_rfl) (by kernel_rfl) (fun _ _ _ h => h) (by assumption) (by kernel_rfl) ?_
        try simp only [Act.put, List.setIfInBounds_toArray, List.set_cons_zero, List.set_cons_succ]
        refine skipH (i := 22) (d := some 88) rfl (by kernel_rfl) (by kernel_rfl) (by kernel_rfl) (by kernel_rfl) (fun _ _ _ h => h) (by assumption) (by kernel_rfl) ?_
        try simp only [Act.put, List.setIfInBounds_toArray, List.set_cons_zero, List.set_cons_succ]
        refine skipH (i := 23) (d := some 89) rfl (by kernel_rfl) (by kernel_rfl) (by kernel_rfl) (by kernel_rfl) (fun _ _ _ h => h) (by assumption) (by kernel_rfl) ?_
        try simp only [Act.put, List.setIfInBounds_toArray, List.set_cons_zero, List.set_cons_succ]
        refine skipH (i := 24) (d := some 90) rfl (by kernel_rfl) (by kernel_rfl) (by kernel_rfl) (by kernel_rfl) (fun _ _ _ h => h) (by assumption) (by kernel_rfl) ?_
        try simp only [Act.put, List.setIfInBounds_toArray, List.set_cons_zero, List.set_cons_succ]
        refine skipH (i := 25) (d := some 91) rfl (by kernel_rfl) (by kernel_rfl) (by kernel_rfl) (by kernel_rfl) (fun _ _ _ h => h) (by assumption) (by kernel_rfl) ?_
        try simp only [Act.put, List.setIfInBounds_toArray, List.set_cons_zero, List.set_cons_succ]
        refine skipH (i := 26) (d := some 92) rfl (by kernel_rfl) (by kernel_rfl) (by kernel_rfl) (by kernel_rfl) (fun _ _ _ h => h) (by assumption) (by kernel_rfl) ?_
        try simp only [Act.put, List.setIfInBounds_toArray, List.set_cons_zero, List.set_cons_succ]
        refine skipH (i := 27) (d := some 93) rfl (by kernel_rfl) (by kernel_rfl) (by kernel_rfl) (by kernel_rfl) (fun _ _ _ h => h) (by assumption) (by kernel_rfl) ?_
        try simp only [Act.put, List.setIfInBounds_toArray, List.set_cons_zero, List.set_cons_succ]
        refine skipH (i := 28) (d := some 94) rfl (by kernel_rfl) (by kernel_rfl) (by kernel_rfl) (by kernel_rfl) (fun _ _ _ h => h) (by assumption) (by kernel_rfl) ?_
        try simp only [Act.put, List.setIfInBounds_toArray, List.set_cons_zero, List.set_cons_succ]
        refine takeH (i := 29) (d := some 95) (v := ?_) rfl (by kernel_rfl) (by kernel_rfl) (by kernel_rfl) (by kernel_rfl) (fun _ _ _ h => h) (by assumption) (by kernel_rfl) ?_ ?_
        rotate_left
        · intro w hSw
          try dsimp only at hSw
          go_simp
          try with_reducible rfl
        try simp only [Act.put, List.setIfInBounds_toArray, List.set_cons_zero, List.set_cons_succ]
        refine wpAnyH_ready (rs := [30]) (by kernel_rfl) (by simp) ?_
        refine AllReadyH.cons rfl (fun K hK => ?_) AllReadyH.nil
        go_simp
        go_wp2_with (go_at_call 99; refine (need_no _).mono ?_; rintro e w0 ⟨rfl, rfl⟩; exact ⟨rfl, (HP.out _ _).2 ⟨rfl, h7.drew.kept.trans k8⟩⟩)

      case pos =>
        obtain ⟨u2, hc⟩ := hc
        have hcl : u2.length < u.length := by
          have := congrArg List.length hc
          simp at this
          omega
        rw [hc] at h7
        by_cases ho : dn.len = 0 ∨ Op.bytesLess dn.last (u.take (cutN u)) = true
        case neg =>
          have hnone : parseT s = none := by rw [HE.out, L.no_parse (round_bad fun e => ho e.2)]
          have hne : dn.len ≠ 0 := fun e => ho (.inl e)
          have hlt : Op.bytesLess dn.last (u.take (cutN u)) = false := by
            rcases hbl : Op.bytesLess dn.last (u.take (cutN u)) with _ | _
            · rfl
            · exact absurd (.inr hbl) ho
          obtain ⟨g, rfl, hg1', hg2, hg3, hg4⟩ := hsh hne
          have hg1 : B1 < g := hg1'.1
          have hrbw := h7.lt
          have hd0 : ((dn.len : Int) == 0) = false := int_not_zero hne
          have hwr := wrap_pred hne hdl
          have hix : dn.len - 1 < dn.len := Nat.sub_lt (Nat.pos_of_ne_zero hne) Nat.one_pos
          have hgrb : g ≠ rb := by omega
          have S8 : ∀ W', Kept rb W7.drew W' → (fun W : World => W.cell? ⟨Nd, 0, none⟩ = some (.func (.func 99) #[] #[]) ∧ W.cell? ⟨R, 0, none⟩ = some (.pointer (some ⟨rb, 0, none⟩)) ∧ W.cell? ⟨Bx, 0, none⟩ = some (str (u.take (cutN u))) ∧ W.cell? ⟨B1, 2, none⟩ = some (.slice (some ⟨g, 0, none⟩) dn.len c) ∧ W.cell? ⟨g, (dn.len - 1) * 4, none⟩ = some (str dn.last)) W' := fun W' k => ⟨(S7 W' k).1, (S7 W' k).2.1, (S7 W' k).2.2.1, (S7 W' k).2.2.2, k.cell (w := W7.drew) hg4 hgrb⟩
          have HP : Hid (∀ e w', NextPost w rb s e w' ↔ (e = .panicked nonePanic ∧ Kept rb w w')) := by
            intro e w'; unfold NextPost; rw [hnone]
          clear hnone L eq ho hc S7 hsh
          refine wp_region_held_drew (S := (fun W : World => W.cell? ⟨Nd, 0, none⟩ = some (.func (.func 99) #[] #[]) ∧ W.cell? ⟨R, 0, none⟩ = some (.pointer (some ⟨rb, 0, none⟩)) ∧ W.cell? ⟨Bx, 0, none⟩ = some (str (u.take (cutN u))) ∧ W.cell? ⟨B1, 2, none⟩ = some (.slice (some ⟨g, 0, none⟩) dn.len c) ∧ W.cell? ⟨g, (dn.len - 1) * 4, none⟩ = some (str dn.last))) (by kernel_rfl) ?_ (fun hHeld => ?_)
          · exact S8 _ (Kept.refl _ _)
          refine takeH (i := 0) (d := some 66) (v := ?_) rfl (by kernel_rfl) (by kernel_rfl) (by kernel_rfl) (by kernel_rfl) (fun _ _ _ h => h) (by assumption) (by kernel_rfl) ?_ ?_
          rotate_left
          · intro w hSw
            try dsimp only at hSw
            go_simp
            try with_reducible rfl
          try simp only [Act.put, List.setIfInBounds_toArray, List.set_cons_zero, List.set_cons_succ]
          refine takeH (i := 1) (d := some 67) (v := ?_) rfl (by kernel_rfl) (by kernel_rfl) (by kernel_rfl) (by kernel_rfl) (fun _ _ _ h => h) (by assumption) (by kernel_rfl) ?_ ?_
          rotate_left
          · intro w hSw
            try dsimp only at hSw
            go_simp
            try with_reducible rfl
          try simp only [Act.put, List.setIfInBounds_toArray, List.set_cons_zero, List.set_cons_succ]
          refine takeH (i := 2) (d := some 68) (v := ?_) rfl (by kernel_rfl) (by kernel_rfl) (by kernel_rfl) (by kernel_rfl) (fun _ _ _ h => h) (by assumption) (by kernel_rfl) ?_ ?_
          rotate_left
          · intro w hSw
            try dsimp only at hSw
            go_simp
            try with_reducible rfl
          try simp only [Act.put, List.setIfInBounds_toArray, List.set_cons_zero, List.set_cons_succ]
          refine wpAnyH_ready (rs := [3]) (by kernel_rfl) (by simp) ?_
          refine AllReadyH.cons rfl (fun K hK => ?_) AllReadyH.nil
          go_simp
          go_wp2_with (go_at_call 65; refine (tIsName_any _ _ h7.drew.tab hwn).mono ?_; rw [hn]; rintro e w8 ⟨rfl, hb8⟩; have k8 := Kept.of_below (b := rb) hb8 (Nat.le_refl _))
          refine hK.out _ _ ?_ (fun hHeld => ?_)
          · exact S8 _ k8
          clear hK K
          try simp only [Act.put, List.setIfInBounds_toArray, List.set_cons_zero, List.set_cons_succ]
          refine takeH (i := 4) (d := some 70) (v := ?_) rfl (by kernel_rfl) (by kernel_rfl) (by kernel_rfl) (by kernel_rfl) (fun _ _ _ h => h) (by assumption) (by kernel_rfl) ?_ ?_
          rotate_left
          · intro w hSw
            try dsimp only at hSw
            go_simp
            try with_reducible rfl
          try simp only [Act.put, List.setIfInBounds_toArray, List.set_cons_zero, List.set_cons_succ]
          refine takeH (i := 5) (d := some 71) (v := ?_) rfl (by kernel_rfl) (by kernel_rfl) (by kernel_rfl) (by kernel_rfl) (fun _ _ _ h => h) (by assumption) (by kernel_rfl) ?_ ?_
          rotate_left
          · intro w hSw
            try dsimp only at hSw
            go_simp
            try with_reducible rfl
          try simp only [Act.put, List.setIfInBounds_toArray, List.set_cons_zero, List.set_cons_succ]
          refine takeH (i := 6) (d := some 72) (v := ?_) rfl (by kernel_rfl) (by kernel_rfl) (by kernel_rfl) (by kernel_rfl) (fun _ _ _ h => h) (by assumption) (by kernel_rfl) ?_ ?_
          rotate_left
          · intro w hSw
            try dsimp only at hSw
            go_simp
            try with_reducible rfl
          try simp only [Act.put, List.setIfInBounds_toArray, List.set_cons_zero, List.set_cons_succ]
          refine takeH (i := 7) (d := some 73) (v := ?_) rfl (by kernel_rfl) (by kernel_rfl) (by kernel_rfl) (by kernel_rfl) (fun _ _ _ h => h) (by assumption) (by kernel_rfl) ?_ ?_
          rotate_left
          · intro w hSw
            try dsimp only at hSw
            go_simp
            try with_reducible rfl
          try simp only [Act.put, List.setIfInBounds_toArray, List.set_cons_zero, List.set_cons_succ]
          refine wpAnyH_ready (rs := [8]) (by kernel_rfl) (by simp) ?_
          refine AllReadyH.cons rfl (fun K hK => ?_) AllReadyH.nil
          go_simp
          go_wp2_with (go_at_call 101; refine (take_yes' [58] u2 rb _ (h7.drew.rest.below hb8 (Nat.le_refl _))).mono ?_; rintro e w9 ⟨rfl, hr9, hk9⟩; have k9 := k8.trans hk9)
          refine hK.out _ _ ?_ (fun hHeld => ?_)
          · exact S8 _ k9
          clear hK K
          try simp only [Act.put, List.setIfInBounds_toArray, List.set_cons_zero, List.set_cons_succ]
          refine takeH (i := 9) (d := some 75) (v := ?_) rfl (by kernel_rfl) (by kernel_rfl) (by kernel_rfl) (by kernel_rfl) (fun _ _ _ h => h) (by assumption) (by kernel_rfl) ?_ ?_
          rotate_left
          · intro w hSw
            try dsimp only at hSw
            go_simp
            try with_reducible rfl
          try simp only [Act.put, List.setIfInBounds_toArray, List.set_cons_zero, List.set_cons_succ]
          refine takeH (i := 10) (d := some 76) (v := ?_) rfl (by kernel_rfl) (by kernel_rfl) (by kernel_rfl) (by kernel_rfl) (fun _ _ _ h => h) (by assumption) (by kernel_rfl) ?_ ?_
          rotate_left
          · intro w hSw
            try dsimp only at hSw
            go_simp
            try with_reducible rfl
          try simp only [Act.put, List.setIfInBounds_toArray, List.set_cons_zero, List.set_cons_succ]
          refine takeH (i := 11) (d := some 77) (v := ?_) rfl (by kernel_rfl) (by kernel_rfl) (by kernel_rfl) (by kernel_rfl) (fun _ _ _ h => h) (by assumption) (by kernel_rfl) ?_ ?_
          rotate_left
          · intro w hSw
            try dsimp only at hSw
            go_simp
            try with_reducible rfl
          try simp only [Act.put, List.setIfInBounds_toArray, List.set_cons_zero, List.set_cons_succ]
          refine takeH (i := 12) (d := some 78) (v := ?_) rfl (by kernel_rfl) (by kernel_rfl) (by kernel_rfl) (by kernel_rfl) (fun _ _ _ h => h) (by assumption) (by kernel_rfl) ?_ ?_
          rotate_left
          · intro w hSw
            try dsimp only at hSw
            go_simp
            try with_reducible rfl
          try simp only [Act.put, List.setIfInBounds_toArray, List.set_cons_zero, List.set_cons_succ]
          refine takeH (i := 13) (d := some 79) (v := ?_) rfl (by kernel_rfl) (by kernel_rfl) (by kernel_rfl) (by kernel_rfl) (fun _ _ _ h => h) (by assumption) (by kernel_rfl) ?_ ?_
          rotate_left
          · intro w hSw
            try dsimp only at hSw
            go_simp
            try with_reducible rfl
          try simp only [Act.put, List.setIfInBounds_toArray, List.set_cons_zero, List.set_cons_succ]
          refine takeH (i := 14) (d := some 80) (v := ?_) rfl (by kernel_rfl) (by kernel_rfl) (by kernel_rfl) (by kernel_rfl) (fun _ _ _ h => h) (by assumption) (by kernel_rfl) ?_ ?_
          rotate_left
          · intro w hSw
            try dsimp only at hSw
            go_simp
            try with_reducible rfl
          try simp only [Act.put, List.setIfInBounds_toArray, List.set_cons_zero, List.set_cons_succ]
          refine takeH (i := 15) (d := some 81) (v := ?_) rfl (by kernel_rfl) (by kernel_rfl) (by kernel_rfl) (by kernel_rfl) (fun _ _ _ h => h) (by assumption) (by kernel_rfl) ?_ ?_
          rotate_left
          · intro w hSw
            try dsimp only at hSw
            go_simp
            try with_reducible rfl
          try simp only [Act.put, List.setIfInBounds_toArray, List.set_cons_zero, List.set_cons_succ]
          refine takeH (i := 16) (d := some 82) (v := ?_) rfl (by kernel_rfl) (by kernel_rfl) (by kernel_rfl) (by kernel_rfl) (fun _ _ _ h => h) (by assumption) (by kernel_rfl) ?_ ?_
          rotate_left
          · intro w hSw
            try dsimp only at hSw
            go_simp
            try with_reducible rfl
          try simp only [Act.put, List.setIfInBounds_toArray, List.set_cons_zero, List.set_cons_succ]
          refine takeH (i := 17) (d := some 83) (v := ?_) rfl (by kernel_rfl) (by kernel_rfl) (by kernel_rfl) (by kernel_rfl) (fun _ _ _ h => h) (by assumption) (by kernel_rfl) ?_ ?_
          rotate_left
          · intro w hSw
            try dsimp only at hSw
            go_simp
            try with_reducible rfl
          try simp only [Act.put, List.setIfInBounds_toArray, List.set_cons_zero, List.set_cons_succ]
          refine takeH (i := 18) (d := some 84) (v := ?_) rfl (by kernel_rfl) (by kernel_rfl) (by kernel_rfl) (by kernel_rfl) (fun _ _ _ h => h) (by assumption) (by kernel_rfl) ?_ ?_
          rotate_left
          · intro w hSw
            try dsimp only at hSw
            go_simp
            try with_reducible rfl
          try simp only [Act.put, List.setIfInBounds_toArray, List.set_cons_zero, List.set_cons_succ]
          refine takeH (i := 19) (d := some 85) (v := ?_) rfl (by kernel_rfl) (by kernel_rfl) (by kernel_rfl) (by kernel_rfl) (fun _ _ _ h => h) (by assumption) (by kernel_rfl) ?_ ?_
          rotate_left
          · intro w hSw
            try dsimp only at hSw
            go_simp
            try with_reducible rfl
          try simp only [Act.put, List.setIfInBounds_toArray, List.set_cons_zero, List.set_cons_succ]
          refine takeH (i := 20) (d := some 86) (v := ?_) rfl (by kernel_rfl) (by kernel_rfl) (by kernel_rfl) (by kernel_rfl) (fun _ _ _ h => h) (by assumption) (by kernel_rfl) ?_ ?_
          rotate_left
          · intro w hSw
            try dsimp only at hSw
            go_simp
            try with_reducible rfl
          try simp only [Act.put, List.setIfInBounds_toArray, List.set_cons_zero, List.set_cons_succ]
          refine takeH (i := 21) (d := some 87) (v := ?_) rfl (by kernel_rfl) (by kernel_rfl) (by kernel_rfl) (by kernel_rfl) (fun _ _ _ h => h) (by assumption) (by kernel_rfl) ?_ ?_
          rotate_left
          · intro w hSw
            try dsimp only at hSw
            go_simp
            try with_reducible rfl
          try simp only [Act.put, List.setIfInBounds_toArray, List.set_cons_zero, List.set_cons_succ]
          refine takeH (i := 22) (d := some 88) (v := ?_) rfl (by kernel_rfl) (by kernel_rfl) (by kernel_rfl) (by kernel_rfl) (fun _ _ _ h => h) (by assumption) (by kernel_rfl) ?_ ?_
          rotate_left
          · intro w hSw
            try dsimp only at hSw
            go_simp
            try with_reducible rfl
          try simp only [Act.put, List.setIfInBounds_toArray, List.set_cons_zero, List.set_cons_succ]
          refine takeH (i := 23) (d := some 89) (v := ?_) rfl (by kernel_rfl) (by kernel_rfl) (by kernel_rfl) (by kernel_rfl) (fun _ _ _ h => h) (by assumption) (by kernel_rfl) ?_ ?_
          rotate_left
          · intro w hSw
            try dsimp only at hSw
            go_simp
            try with_reducible rfl
          try simp only [Act.put, List.setIfInBounds_toArray, List.set_cons_zero, List.set_cons_succ]
          refine takeH (i := 24) (d := some 90) (v := ?_) rfl (by kernel_rfl) (by kernel_rfl) (by kernel_rfl) (by kernel_rfl) (fun _ _ _ h => h) (by assumption) (by kernel_rfl) ?_ ?_
          rotate_left
          · intro w hSw
            try dsimp only at hSw
            go_simp
            try with_reducible rfl
          try simp only [Act.put, List.setIfInBounds_toArray, List.set_cons_zero, List.set_cons_succ]
          refine takeH (i := 25) (d := some 91) (v := ?_) rfl (by kernel_rfl) (by kernel_rfl) (by kernel_rfl) (by kernel_rfl) (fun _ _ _ h => h) (by assumption) (by kernel_rfl) ?_ ?_
          rotate_left
          · intro w hSw
            try dsimp only at hSw
            go_simp
            try with_reducible rfl
          try simp only [Act.put, List.setIfInBounds_toArray, List.set_cons_zero, List.set_cons_succ]
          refine takeH (i := 26) (d := some 92) (v := ?_) rfl (by kernel_rfl) (by kernel_rfl) (by kernel_rfl) (by kernel_rfl) (fun _ _ _ h => h) (by assumption) (by kernel_rfl) ?_ ?_
          rotate_left
          · intro w hSw
            try dsimp only at hSw
            go_simp
            try with_reducible rfl
          try simp only [Act.put, List.setIfInBounds_toArray, List.set_cons_zero, List.set_cons_succ]
          refine takeH (i := 27) (d := some 93) (v := ?_) rfl (by kernel_rfl) (by kernel_rfl) (by kernel_rfl) (by kernel_rfl) (fun _ _ _ h => h) (by assumption) (by kernel_rfl) ?_ ?_
          rotate_left
          · intro w hSw
            try dsimp only at hSw
            go_simp
            try with_reducible rfl
          try simp only [Act.put, List.setIfInBounds_toArray, List.set_cons_zero, List.set_cons_succ]
          refine takeH (i := 28) (d := some 94) (v := ?_) rfl (by kernel_rfl) (by kernel_rfl) (by kernel_rfl) (by kernel_rfl) (fun _ _ _ h => h) (by assumption) (by kernel_rfl) ?_ ?_
          rotate_left
          · intro w hSw
            try dsimp only at hSw
            go_simp
            try with_reducible rfl
          try simp only [Act.put, List.setIfInBounds_toArray, List.set_cons_zero, List.set_cons_succ]
          refine takeH (i := 29) (d := some 95) (v := ?_) rfl (by kernel_rfl) (by kernel_rfl) (by kernel_rfl) (by kernel_rfl) (fun _ _ _ h => h) (by assumption) (by kernel_rfl) ?_ ?_
          rotate_left
          · intro w hSw
            try dsimp only at hSw
            go_simp
            try with_reducible rfl
          try simp only [Act.put, List.setIfInBounds_toArray, List.set_cons_zero, List.set_cons_succ]
          refine wpAnyH_ready (rs := [30]) (by kernel_rfl) (by simp) ?_
          refine AllReadyH.cons rfl (fun K hK => ?_) AllReadyH.nil
          go_simp
          go_wp2_with (go_at_call 99; refine (need_no _).mono ?_; rintro e w0 ⟨rfl, rfl⟩; exact ⟨rfl, (HP.out _ _).2 ⟨rfl, h7.drew.kept.trans k9⟩⟩)

        case pos =>
          have HOK := Lib.hid (show okName dn (u.take (cutN u)) from ⟨hn, ho⟩)
          go_cut [] from 61 to 110 (fun wx => Kept rb W7 wx ∧ Rest wx rb u2)
          case first =>
            by_cases hz : dn.len = 0
            case pos =>
              have hd0 := int_zero hz
              clear hsh ho L eq HOK hc
              refine wp_region_held_drew (S := (fun W : World => W.cell? ⟨Nd, 0, none⟩ = some (.func (.func 99) #[] #[]) ∧ W.cell? ⟨R, 0, none⟩ = some (.pointer (some ⟨rb, 0, none⟩)) ∧ W.cell? ⟨Bx, 0, none⟩ = some (str (u.take (cutN u))) ∧ W.cell? ⟨B1, 2, none⟩ = some (.slice p dn.len c))) (by kernel_rfl) ?_ (fun hHeld => ?_)
              · exact S7 _ (Kept.refl _ _)
              refine takeH (i := 0) (d := some 66) (v := ?_) rfl (by kernel_rfl) (by kernel_rfl) (by kernel_rfl) (by kernel_rfl) (fun _ _ _ h => h) (by assumption) (by kernel_rfl) ?_ ?_
              rotate_left
              · intro w hSw
                try dsimp only at hSw
                go_simp
                try with_reducible rfl
              try simp only [Act.put, List.setIfInBounds_toArray, List.set_cons_zero, List.set_cons_succ]
              refine takeH (i := 1) (d := some 67) (v := ?_) rfl (by kernel_rfl) (by kernel_rfl) (by kernel_rfl) (by kernel_rfl) (fun _ _ _ h => h) (by assumption) (by kernel_rfl) ?_ ?_
              rotate_left
              · intro w hSw
                try dsimp only at hSw
                go_simp
                try with_reducible rfl
              try simp only [Act.put, List.setIfInBounds_toArray, List.set_cons_zero, List.set_cons_succ]
              refine takeH (i := 2) (d := some 68) (v := ?_) rfl (by kernel_rfl) (by kernel_rfl) (by kernel_rfl) (by kernel_rfl) (fun _ _ _ h => h) (by assumption) (by kernel_rfl) ?_ ?_
              rotate_left
              · intro w hSw
                try dsimp only at hSw
                go_simp
                try with_reducible rfl
              try simp only [Act.put, List.setIfInBounds_toArray, List.set_cons_zero, List.set_cons_succ]
              refine wpAnyH_ready (rs := [3]) (by kernel_rfl) (by simp) ?_
              refine AllReadyH.cons rfl (fun K hK => ?_) AllReadyH.nil
              go_simp
              go_wp2_with (go_at_call 65; refine (tIsName_any _ _ h7.drew.tab hwn).mono ?_; rw [hn]; rintro e w8 ⟨rfl, hb8⟩; have k8 := Kept.of_below (b := rb) hb8 (Nat.le_refl _))
              refine hK.out _ _ ?_ (fun hHeld => ?_)
              · exact S7 _ k8
              clear hK K
              try simp only [Act.put, List.setIfInBounds_toArray, List.set_cons_zero, List.set_cons_succ]
              refine takeH (i := 4) (d := some 70) (v := ?_) rfl (by kernel_rfl) (by kernel_rfl) (by kernel_rfl) (by kernel_rfl) (fun _ _ _ h => h) (by assumption) (by kernel_rfl) ?_ ?_
              rotate_left
              · intro w hSw
                try dsimp only at hSw
                go_simp
                try with_reducible rfl
              try simp only [Act.put, List.setIfInBounds_toArray, List.set_cons_zero, List.set_cons_succ]
              refine takeH (i := 5) (d := some 71) (v := ?_) rfl (by kernel_rfl) (by kernel_rfl) (by kernel_rfl) (by kernel_rfl) (fun _ _ _ h => h) (by assumption) (by kernel_rfl) ?_ ?_
              rotate_left
              · intro w hSw
                try dsimp only at hSw
                go_simp
                try with_reducible rfl
              try simp only [Act.put, List.setIfInBounds_toArray, List.set_cons_zero, List.set_cons_succ]
              refine takeH (i := 6) (d := some 72) (v := ?_) rfl (by kernel_rfl) (by kernel_rfl) (by kernel_rfl) (by kernel_rfl) (fun _ _ _ h => h) (by assumption) (by kernel_rfl) ?_ ?_
              rotate_left
              · intro w hSw
                try dsimp only at hSw
                go_simp
                try with_reducible rfl
              try simp only [Act.put, List.setIfInBounds_toArray, List.set_cons_zero, List.set_cons_succ]
              refine takeH (i := 7) (d := some 73) (v := ?_) rfl (by kernel_rfl) (by kernel_rfl) (by kernel_rfl) (by kernel_rfl) (fun _ _ _ h => h) (by assumption) (by kernel_rfl) ?_ ?_
              rotate_left
              · intro w hSw
                try dsimp only at hSw
                go_simp
                try with_reducible rfl
              try simp only [Act.put, List.setIfInBounds_toArray, List.set_cons_zero, List.set_cons_succ]
              refine wpAnyH_ready (rs := [8]) (by kernel_rfl) (by simp) ?_
              refine AllReadyH.cons rfl (fun K hK => ?_) AllReadyH.nil
              go_simp
              go_wp2_with (go_at_call 101; refine (take_yes' [58] u2 rb _ (h7.drew.rest.below hb8 (Nat.le_refl _))).mono ?_; rintro e w9 ⟨rfl, hr9, hk9⟩; have k9 := k8.trans hk9)
              refine hK.out _ _ ?_ (fun hHeld => ?_)
              · exact S7 _ k9
              clear hK K
              try simp only [Act.put, List.setIfInBounds_toArray, List.set_cons_zero, List.set_cons_succ]
              refine takeH (i := 9) (d := some 75) (v := ?_) rfl (by kernel_rfl) (by kernel_rfl) (by kernel_rfl) (by kernel_rfl) (fun _ _ _ h => h) (by assumption) (by kernel_rfl) ?_ ?_
              rotate_left
              · intro w hSw
                try dsimp only at hSw
                go_simp
                try with_reducible rfl
              try simp only [Act.put, List.setIfInBounds_toArray, List.set_cons_zero, List.set_cons_succ]
              refine takeH (i := 10) (d := some 76) (v := ?_) rfl (by kernel_rfl) (by kernel_rfl) (by kernel_rfl) (by kernel_rfl) (fun _ _ _ h => h) (by assumption) (by kernel_rfl) ?_ ?_
              rotate_left
              · intro w hSw
                try dsimp only at hSw
                go_simp
                try with_reducible rfl
              try simp only [Act.put, List.setIfInBounds_toArray, List.set_cons_zero, List.set_cons_succ]
              refine takeH (i := 11) (d := some 77) (v := ?_) rfl (by kernel_rfl) (by kernel_rfl) (by kernel_rfl) (by kernel_rfl) (fun _ _ _ h => h) (by assumption) (by kernel_rfl) ?_ ?_
              rotate_left
              · intro w hSw
                try dsimp only at hSw
                go_simp
                try with_reducible rfl
              try simp only [Act.put, List.setIfInBounds_toArray, List.set_cons_zero, List.set_cons_succ]
              refine takeH (i := 12) (d := some 78) (v := ?_) rfl (by kernel_rfl) (by kernel_rfl) (by kernel_rfl) (by kernel_rfl) (fun _ _ _ h => h) (by assumption) (by kernel_rfl) ?_ ?_
              rotate_left
              · intro w hSw
                try dsimp only at hSw
                go_simp
                try with_reducible rfl
              try simp only [Act.put, List.setIfInBounds_toArray, List.set_cons_zero, List.set_cons_succ]
              refine takeH (i := 13) (d := some 79) (v := ?_) rfl (by kernel_rfl) (by kernel_rfl) (by kernel_rfl) (by kernel_rfl) (fun _ _ _ h => h) (by assumption) (by kernel_rfl) ?_ ?_
              rotate_left
              · intro w hSw
                try dsimp only at hSw
                go_simp
                try with_reducible rfl
              try simp only [Act.put, List.setIfInBounds_toArray, List.set_cons_zero, List.set_cons_succ]
              refine takeH (i := 14) (d := some 80) (v := ?_) rfl (by kernel_rfl) (by kernel_rfl) (by kernel_rfl) (by kernel_rfl) (fun _ _ _ h => h) (by assumption) (by kernel_rfl) ?_ ?_
              rotate_left
              · intro w hSw
                try dsimp only at hSw
                go_simp
                try with_reducible rfl
              try simp only [Act.put, List.setIfInBounds_toArray, List.set_cons_zero, List.set_cons_succ]
              refine takeH (i := 15) (d := some 81) (v := ?_) rfl (by kernel_rfl) (by kernel_rfl) (by kernel_rfl) (by kernel_rfl) (fun _ _ _ h => h) (by assumption) (by kernel_rfl) ?_ ?_
              rotate_left
              · intro w hSw
                try dsimp only at hSw
                go_simp
                try with_reducible rfl
              try simp only [Act.put, List.setIfInBounds_toArray, List.set_cons_zero, List.set_cons_succ]
              refine skipH (i := 16) (d := some 82) rfl (by kernel_rfl) (by kernel_rfl) (by kernel_rfl) (by kernel_rfl) (fun _ _ _ h => h) (by assumption) (by kernel_rfl) ?_
              try simp only [Act.put, List.setIfInBounds_toArray, List.set_cons_zero, List.set_cons_succ]
              refine skipH (i := 17) (d := some 83) rfl (by kernel_rfl) (by kernel_rfl) (by kernel_rfl) (by kernel_rfl) (fun _ _ _ h => h) (by assumption) (by kernel_rfl) ?_
              try simp only [Act.put, List.setIfInBounds_toArray, List.set_cons_zero, List.set_cons_succ]
              refine skipH (i := 18) (d := some 84) rfl (by kernel_rfl) (by kernel_rfl) (by kernel_rfl) (by kernel_rfl) (fun _ _ _ h => h) (by assumption) (by kernel_rfl) ?_
              try simp only [Act.put, List.setIfInBounds_toArray, List.set_cons_zero, List.set_cons_succ]
              refine skipH (i := 19) (d := some 85) rfl (by kernel_rfl) (by kernel_rfl) (by kernel_rfl) (by kernel_rfl) (fun _ _ _ h => h) (by assumption) (by kernel_rfl) ?_
              try simp only [Act.put, List.setIfInBounds_toArray, List.set_cons_zero, List.set_cons_succ]
              refine skipH (i := 20) (d := some 86) rfl (by kernel_rfl) (by kernel_rfl) (by kernel_rfl) (by kernel_rfl) (fun _ _ _ h => h) (by assumption) (by kernel_rfl) ?_
              try simp only [Act.put, List.setIfInBounds_toArray, List.set_cons_zero, List.set_cons_succ]
              refine skipH (i := 21) (d := some 87) rfl (by kernel_rfl) (by kernel_rfl) (by kernel_rfl) (by kernel_rfl) (fun _ _ _ h => h) (by assumption) (by kernel_rfl) ?_
              try simp only [Act.put, List.setIfInBounds_toArray, List.set_cons_zero, List.set_cons_succ]
              refine skipH (i := 22) (d := some 88) rfl (by kernel_rfl) (by kernel_rfl) (by kernel_rfl) (by kernel_rfl) (fun _ _ _ h => h) (by assumption) (by kernel_rfl) ?_
              try simp only [Act.put, List.setIfInBounds_toArray, List.set_cons_zero, List.set_cons_succ]
              refine skipH (i := 23) (d := some 89) rfl (by kernel_rfl) (by kernel_rfl) (by kernel_rfl) (by kernel_rfl) (fun _ _ _ h => h) (by assumption) (by kernel_rfl) ?_
              try simp only [Act.put, List.setIfInBounds_toArray, List.set_cons_zero, List.set_cons_succ]
              refine skipH (i := 24) (d := some 90) rfl (by kernel_rfl) (by kernel_rfl) (by kernel_rfl) (by kernel_rfl) (fun _ _ _ h => h) (by assumption) (by kernel_rfl) ?_
              try simp only [Act.put, List.setIfInBounds_toArray, List.set_cons_zero, List.set_cons_succ]
              refine skipH (i := 25) (d := some 91) rfl (by kernel_rfl) (by kernel_rfl) (by kernel_rfl) (by kernel_rfl) (fun _ _ _ h => h) (by assumption) (by kernel_rfl) ?_
              try simp only [Act.put, List.setIfInBounds_toArray, List.set_cons_zero, List.set_cons_succ]
              refine skipH (i := 26) (d := some 92) rfl (by kernel_rfl) (by kernel_rfl) (by kernel_rfl) (by kernel_rfl) (fun _ _ _ h => h) (by assumption) (by kernel_rfl) ?_
              try simp only [Act.put, List.setIfInBounds_toArray, List.set_cons_zero, List.set_cons_succ]
              refine skipH (i := 27) (d := some 93) rfl (by kernel_rfl) (by kernel_rfl) (by kernel_rfl) (by kernel_rfl) (fun _ _ _ h => h) (by assumption) (by kernel_rfl) ?_
              try simp only [Act.put, List.setIfInBounds_toArray, List.set_cons_zero, List.set_cons_succ]
              refine takeH (i := 28) (d := some 94) (v := ?_) rfl (by kernel_rfl) (by kernel_rfl) (by kernel_rfl) (by kernel_rfl) (fun _ _ _ h => h) (by assumption) (by kernel_rfl) ?_ ?_
              rotate_left
              · intro w hSw
                try dsimp only at hSw
                go_simp
                try with_reducible rfl
              try simp only [Act.put, List.setIfInBounds_toArray, List.set_cons_zero, List.set_cons_succ]
              refine takeH (i := 29) (d := some 95) (v := ?_) rfl (by kernel_rfl) (by kernel_rfl) (by kernel_rfl) (by kernel_rfl) (fun _ _ _ h => h) (by assumption) (by kernel_rfl) ?_ ?_
              rotate_left
              · intro w hSw
                try dsimp only at hSw
                go_simp
                try with_reducible rfl
              try simp only [Act.put, List.setIfInBounds_toArray, List.set_cons_zero, List.set_cons_succ]
              refine wpAnyH_ready (rs := [30]) (by kernel_rfl) (by simp) ?_
              refine AllReadyH.cons rfl (fun K hK => ?_) AllReadyH.nil
              go_simp
              go_wp2_with (go_at_call 99; refine (need_yes _).mono ?_; rintro e w0 ⟨rfl, rfl⟩)
              refine hK.out _ _ ?_ (fun hHeld => ?_)
              · exact S7 _ k9
              clear hK K
              try simp only [Act.put, List.setIfInBounds_toArray, List.set_cons_zero, List.set_cons_succ]
              refine wpAnyH_done (by kernel_rfl) ?_ _

              go_wp2_with fail
              go_meet
              case rel => exact ⟨(Kept.refl _ _).drew.trans k9, hr9⟩
            case neg =>
              have hlt : Op.bytesLess dn.last (u.take (cutN u)) = true := by
                rcases ho with ho | ho
                · exact absurd ho hz
                · exact ho
              obtain ⟨g, rfl, hg1', hg2, hg3, hg4⟩ := hsh hz
              have hg1 : B1 < g := hg1'.1
              have hrbw := h7.lt
              have hd0 := int_not_zero hz
              have hwr := wrap_pred hz hdl
              have hix : dn.len - 1 < dn.len := Nat.sub_lt (Nat.pos_of_ne_zero hz) Nat.one_pos
              have hgrb : g ≠ rb := by omega
              have S8 : ∀ W', Kept rb W7.drew W' → (fun W : World => W.cell? ⟨Nd, 0, none⟩ = some (.func (.func 99) #[] #[]) ∧ W.cell? ⟨R, 0, none⟩ = some (.pointer (some ⟨rb, 0, none⟩)) ∧ W.cell? ⟨Bx, 0, none⟩ = some (str (u.take (cutN u))) ∧ W.cell? ⟨B1, 2, none⟩ = some (.slice (some ⟨g, 0, none⟩) dn.len c) ∧ W.cell? ⟨g, (dn.len - 1) * 4, none⟩ = some (str dn.last)) W' := fun W' k => ⟨(S7 W' k).1, (S7 W' k).2.1, (S7 W' k).2.2.1, (S7 W' k).2.2.2, k.cell (w := W7.drew) hg4 hgrb⟩
              clear ho S7 hsh L eq HOK hc
              refine wp_region_held_drew (S := (fun W : World => W.cell? ⟨Nd, 0, none⟩ = some (.func (.func 99) #[] #[]) ∧ W.cell? ⟨R, 0, none⟩ = some (.pointer (some ⟨rb, 0, none⟩)) ∧ W.cell? ⟨Bx, 0, none⟩ = some (str (u.take (cutN u))) ∧ W.cell? ⟨B1, 2, none⟩ = some (.slice (some ⟨g, 0, none⟩) dn.len c) ∧ W.cell? ⟨g, (dn.len - 1) * 4, none⟩ = some (str dn.last))) (by kernel_rfl) ?_ (fun hHeld => ?_)
              · exact S8 _ (Kept.refl _ _)
              refine takeH (i := 0) (d := some 66) (v := ?_) rfl (by kernel_rfl) (by kernel_rfl) (by kernel_rfl) (by kernel_rfl) (fun _ _ _ h => h) (by assumption) (by kernel_rfl) ?_ ?_
              rotate_left
              · intro w hSw
                try dsimp only at hSw
                go_simp
                try with_reducible rfl
              try simp only [Act.put, List.setIfInBounds_toArray, List.set_cons_zero, List.set_cons_succ]
              refine takeH (i := 1) (d := some 67) (v := ?_) rfl (by kernel_rfl) (by kernel_rfl) (by kernel_rfl) (by kernel_rfl) (fun _ _ _ h => h) (by assumption) (by kernel_rfl) ?_ ?_
              rotate_left
              · intro w hSw
                try dsimp only at hSw
                go_simp
                try with_reducible rfl
              try simp only [Act.put, List.setIfInBounds_toArray, List.set_cons_zero, List.set_cons_succ]
              refine takeH (i := 2) (d := some 68) (v := ?_) rfl (by kernel_rfl) (by kernel_rfl) (by kernel_rfl) (by kernel_rfl) (fun _ _ _ h => h) (by assumption) (by kernel_rfl) ?_ ?_
              rotate_left
              · intro w hSw
                try dsimp only at hSw
                go_simp
                try with_reducible rfl
              try simp only [Act.put, List.setIfInBounds_toArray, List.set_cons_zero, List.set_cons_succ]
              refine wpAnyH_ready (rs := [3]) (by kernel_rfl) (by simp) ?_
              refine AllReadyH.cons rfl (fun K hK => ?_) AllReadyH.nil
              go_simp
              go_wp2_with (go_at_call 65; refine (tIsName_any _ _ h7.drew.tab hwn).mono ?_; rw [hn]; rintro e w8 ⟨rfl, hb8⟩; have k8 := Kept.of_below (b := rb) hb8 (Nat.le_refl _))
              refine hK.out _ _ ?_ (fun hHeld => ?_)
              · exact S8 _ k8
              clear hK K
              try simp only [Act.put, List.setIfInBounds_toArray, List.set_cons_zero, List.set_cons_succ]
              refine takeH (i := 4) (d := some 70) (v := ?_) rfl (by kernel_rfl) (by kernel_rfl) (by kernel_rfl) (by kernel_rfl) (fun _ _ _ h => h) (by assumption) (by kernel_rfl) ?_ ?_
              rotate_left
              · intro w hSw
                try dsimp only at hSw
                go_simp
                try with_reducible rfl
              try simp only [Act.put, List.setIfInBounds_toArray, List.set_cons_zero, List.set_cons_succ]
              refine takeH (i := 5) (d := some 71) (v := ?_) rfl (by kernel_rfl) (by kernel_rfl) (by kernel_rfl) (by kernel_rfl) (fun _ _ _ h => h) (by assumption) (by kernel_rfl) ?_ ?_
              rotate_left
              · intro w hSw
                try dsimp only at hSw
                go_simp
                try with_reducible rfl
              try simp only [Act.put, List.setIfInBounds_toArray, List.set_cons_zero, List.set_cons_succ]
              refine takeH (i := 6) (d := some 72) (v := ?_) rfl (by kernel_rfl) (by kernel_rfl) (by kernel_rfl) (by kernel_rfl) (fun _ _ _ h => h) (by assumption) (by kernel_rfl) ?_ ?_
              rotate_left
              · intro w hSw
                try dsimp only at hSw
                go_simp
                try with_reducible rfl
              try simp only [Act.put, List.setIfInBounds_toArray, List.set_cons_zero, List.set_cons_succ]
              refine takeH (i := 7) (d := some 73) (v := ?_) rfl (by kernel_rfl) (by kernel_rfl) (by kernel_rfl) (by kernel_rfl) (fun _ _ _ h => h) (by assumption) (by kernel_rfl) ?_ ?_
              rotate_left
              · intro w hSw
                try dsimp only at hSw
                go_simp
                try with_reducible rfl
              try simp only [Act.put, List.setIfInBounds_toArray, List.set_cons_zero, List.set_cons_succ]
              refine wpAnyH_ready (rs := [8]) (by kernel_rfl) (by simp) ?_
              refine AllReadyH.cons rfl (fun K hK => ?_) AllReadyH.nil
              go_simp
              go_wp2_with (go_at_call 101; refine (take_yes' [58] u2 rb _ (h7.drew.rest.below hb8 (Nat.le_refl _))).mono ?_; rintro e w9 ⟨rfl, hr9, hk9⟩; have k9 := k8.trans hk9)
              refine hK.out _ _ ?_ (fun hHeld => ?_)
              · exact S8 _ k9
              clear hK K
              try simp only [Act.put, List.setIfInBounds_toArray, List.set_cons_zero, List.set_cons_succ]
              refine takeH (i := 9) (d := some 75) (v := ?_) rfl (by kernel_rfl) (by kernel_rfl) (by kernel_rfl) (by kernel_rfl) (fun _ _ _ h => h) (by assumption) (by kernel_rfl) ?_ ?_
              rotate_left
              · intro w hSw
                try dsimp only at hSw
                go_simp
                try with_reducible rfl
              try simp only [Act.put, List.setIfInBounds_toArray, List.set_cons_zero, List.set_cons_succ]
              refine takeH (i := 10) (d := some 76) (v := ?_) rfl (by kernel_rfl) (by kernel_rfl) (by kernel_rfl) (by kernel_rfl) (fun _ _ _ h => h) (by assumption) (by kernel_rfl) ?_ ?_
              rotate_left
              · intro w hSw
                try dsimp only at hSw
                go_simp
                try with_reducible rfl
              try simp only [Act.put, List.setIfInBounds_toArray, List.set_cons_zero, List.set_cons_succ]
              refine takeH (i := 11) (d := some 77) (v := ?_) rfl (by kernel_rfl) (by kernel_rfl) (by kernel_rfl) (by kernel_rfl) (fun _ _ _ h => h) (by assumption) (by kernel_rfl) ?_ ?_
              rotate_left
              · intro w hSw
                try dsimp only at hSw
                go_simp
                try with_reducible rfl
              try simp only [Act.put, List.setIfInBounds_toArray, List.set_cons_zero, List.set_cons_succ]
              refine takeH (i := 12) (d := some 78) (v := ?_) rfl (by kernel_rfl) (by kernel_rfl) (by kernel_rfl) (by kernel_rfl) (fun _ _ _ h => h) (by assumption) (by kernel_rfl) ?_ ?_
              rotate_left
              · intro w hSw
                try dsimp only at hSw
                go_simp
                try with_reducible rfl
              try simp only [Act.put, List.setIfInBounds_toArray, List.set_cons_zero, List.set_cons_succ]
              refine takeH (i := 13) (d := some 79) (v := ?_) rfl (by kernel_rfl) (by kernel_rfl) (by kernel_rfl) (by kernel_rfl) (fun _ _ _ h => h) (by assumption) (by kernel_rfl) ?_ ?_
              rotate_left
              · intro w hSw
                try dsimp only at hSw
                go_simp
                try with_reducible rfl
              try simp only [Act.put, List.setIfInBounds_toArray, List.set_cons_zero, List.set_cons_succ]
              refine takeH (i := 14) (d := some 80) (v := ?_) rfl (by kernel_rfl) (by kernel_rfl) (by kernel_rfl) (by kernel_rfl) (fun _ _ _ h => h) (by assumption) (by kernel_rfl) ?_ ?_
              rotate_left
              · intro w hSw
                try dsimp only at hSw
                go_simp
                try with_reducible rfl
              try simp only [Act.put, List.setIfInBounds_toArray, List.set_cons_zero, List.set_cons_succ]
              refine takeH (i := 15) (d := some 81) (v := ?_) rfl (by kernel_rfl) (by kernel_rfl) (by kernel_rfl) (by kernel_rfl) (fun _ _ _ h => h) (by assumption) (by kernel_rfl) ?_ ?_
              rotate_left
              · intro w hSw
                try dsimp only at hSw
                go_simp
                try with_reducible rfl
              try simp only [Act.put, List.setIfInBounds_toArray, List.set_cons_zero, List.set_cons_succ]
              refine takeH (i := 16) (d := some 82) (v := ?_) rfl (by kernel_rfl) (by kernel_rfl) (by kernel_rfl) (by kernel_rfl) (fun _ _ _ h => h) (by assumption) (by kernel_rfl) ?_ ?_
              rotate_left
              · intro w hSw
                try dsimp only at hSw
                go_simp
                try with_reducible rfl
              try simp only [Act.put, List.setIfInBounds_toArray, List.set_cons_zero, List.set_cons_succ]
              refine takeH (i := 17) (d := some 83) (v := ?_) rfl (by kernel_rfl) (by kernel_rfl) (by kernel_rfl) (by kernel_rfl) (fun _ _ _ h => h) (by assumption) (by kernel_rfl) ?_ ?_
              rotate_left
              · intro w hSw
                try dsimp only at hSw
                go_simp
                try with_reducible rfl
              try simp only [Act.put, List.setIfInBounds_toArray, List.set_cons_zero, List.set_cons_succ]
              refine takeH (i := 18) (d := some 84) (v := ?_) rfl (by kernel_rfl) (by kernel_rfl) (by kernel_rfl) (by kernel_rfl) (fun _ _ _ h => h) (by assumption) (by kernel_rfl) ?_ ?_
              rotate_left
              · intro w hSw
                try dsimp only at hSw
                go_simp
                try with_reducible rfl
              try simp only [Act.put, List.setIfInBounds_toArray, List.set_cons_zero, List.set_cons_succ]
              refine takeH (i := 19) (d := some 85) (v := ?_) rfl (by kernel_rfl) (by kernel_rfl) (by kernel_rfl) (by kernel_rfl) (fun _ _ _ h => h) (by assumption) (by kernel_rfl) ?_ ?_
              rotate_left
              · intro w hSw
                try dsimp only at hSw
                go_simp
                try with_reducible rfl
              try simp only [Act.put, List.setIfInBounds_toArray, List.set_cons_zero, List.set_cons_succ]
              refine takeH (i := 20) (d := some 86) (v := ?_) rfl (by kernel_rfl) (by kernel_rfl) (by kernel_rfl) (by kernel_rfl) (fun _ _ _ h => h) (by assumption) (by kernel_rfl) ?_ ?_
              rotate_left
              · intro w hSw
                try dsimp only at hSw
                go_simp
                try with_reducible rfl
              try simp only [Act.put, List.setIfInBounds_toArray, List.set_cons_zero, List.set_cons_succ]
              refine takeH (i := 21) (d := some 87) (v := ?_) rfl (by kernel_rfl) (by kernel_rfl) (by kernel_rfl) (by kernel_rfl) (fun _ _ _ h => h) (by assumption) (by kernel_rfl) ?_ ?_
              rotate_left
              · intro w hSw
                try dsimp only at hSw
                go_simp
                try with_reducible rfl
              try simp only [Act.put, List.setIfInBounds_toArray, List.set_cons_zero, List.set_cons_succ]
              refine takeH (i := 22) (d := some 88) (v := ?_) rfl (by kernel_rfl) (by kernel_rfl) (by kernel_rfl) (by kernel_rfl) (fun _ _ _ h => h) (by assumption) (by kernel_rfl) ?_ ?_
              rotate_left
              · intro w hSw
                try dsimp only at hSw
                go_simp
                try with_reducible rfl
              try simp only [Act.put, List.setIfInBounds_toArray, List.set_cons_zero, List.set_cons_succ]
              refine takeH (i := 23) (d := some 89) (v := ?_) rfl (by kernel_rfl) (by kernel_rfl) (by kernel_rfl) (by kernel_rfl) (fun _ _ _ h => h) (by assumption) (by kernel_rfl) ?_ ?_
              rotate_left
              · intro w hSw
                try dsimp only at hSw
                go_simp
                try with_reducible rfl
              try simp only [Act.put, List.setIfInBounds_toArray, List.set_cons_zero, List.set_cons_succ]
              refine takeH (i := 24) (d := some 90) (v := ?_) rfl (by kernel_rfl) (by kernel_rfl) (by kernel_rfl) (by kernel_rfl) (fun _ _ _ h => h) (by assumption) (by kernel_rfl) ?_ ?_
              rotate_left
              · intro w hSw
                try dsimp only at hSw
                go_simp
                try with_reducible rfl
              try simp only [Act.put, List.setIfInBounds_toArray, List.set_cons_zero, List.set_cons_succ]
              refine takeH (i := 25) (d := some 91) (v := ?_) rfl (by kernel_rfl) (by kernel_rfl) (by kernel_rfl) (by kernel_rfl) (fun _ _ _ h => h) (by assumption) (by kernel_rfl) ?_ ?_
              rotate_left
              · intro w hSw
                try dsimp only at hSw
                go_simp
                try with_reducible rfl
              try simp only [Act.put, List.setIfInBounds_toArray, List.set_cons_zero, List.set_cons_succ]
              refine takeH (i := 26) (d := some 92) (v := ?_) rfl (by kernel_rfl) (by kernel_rfl) (by kernel_rfl) (by kernel_rfl) (fun _ _ _ h => h) (by assumption) (by kernel_rfl) ?_ ?_
              rotate_left
              · intro w hSw
                try dsimp only at hSw
                go_simp
                try with_reducible rfl
              try simp only [Act.put, List.setIfInBounds_toArray, List.set_cons_zero, List.set_cons_succ]
              refine takeH (i := 27) (d := some 93) (v := ?_) rfl (by kernel_rfl) (by kernel_rfl) (by kernel_rfl) (by kernel_rfl) (fun _ _ _ h => h) (by assumption) (by kernel_rfl) ?_ ?_
              rotate_left
              · intro w hSw
                try dsimp only at hSw
                go_simp
                try with_reducible rfl
              try simp only [Act.put, List.setIfInBounds_toArray, List.set_cons_zero, List.set_cons_succ]
              refine takeH (i := 28) (d := some 94) (v := ?_) rfl (by kernel_rfl) (by kernel_rfl) (by kernel_rfl) (by kernel_rfl) (fun _ _ _ h => h) (by assumption) (by kernel_rfl) ?_ ?_
              rotate_left
              · intro w hSw
                try dsimp only at hSw
                go_simp
                try with_reducible rfl
              try simp only [Act.put, List.setIfInBounds_toArray, List.set_cons_zero, List.set_cons_succ]
              refine takeH (i := 29) (d := some 95) (v := ?_) rfl (by kernel_rfl) (by kernel_rfl) (by kernel_rfl) (by kernel_rfl) (fun _ _ _ h => h) (by assumption) (by kernel_rfl) ?_ ?_
              rotate_left
              · intro w hSw
                try dsimp only at hSw
                go_simp
                try with_reducible rfl
              try simp only [Act.put, List.setIfInBounds_toArray, List.set_cons_zero, List.set_cons_succ]
              refine wpAnyH_ready (rs := [30]) (by kernel_rfl) (by simp) ?_
              refine AllReadyH.cons rfl (fun K hK => ?_) AllReadyH.nil
              go_simp
              go_wp2_with (go_at_call 99; refine (need_yes _).mono ?_; rintro e w0 ⟨rfl, rfl⟩)
              refine hK.out _ _ ?_ (fun hHeld => ?_)
              · exact S8 _ k9
              clear hK K
              try simp only [Act.put, List.setIfInBounds_toArray, List.set_cons_zero, List.set_cons_succ]
              refine wpAnyH_done (by kernel_rfl) ?_ _

              go_wp2_with fail
              go_meet
              case rel => exact ⟨(Kept.refl _ _).drew.trans k9, hr9⟩
          case rest =>
            obtain ⟨kx, rx⟩ := hcut
            have h9 := h7.next kx rx
            have hX9 := kx.heap hX hXrb
            have hrow9 := kx.heap hrow7 hB1rb
            have hv9 := hv7.kept (w' := wc) fun b hb hlt => kx.block b hlt (fun e => by have hb : B1 < b := hb.1; have := h7.lt; injection e with e; omega)
            have e9 := h9.env.next
            have LH := Lib.hid L
            clear L eq S7 hsh hrow7 hv7
            go_wp2_with fail
            rcases hq : parseT u2 with _ | ⟨t, r⟩
            · have hnone : parseT s = none := by rw [HE.out, LH.out.no_parse (by rw [round_ok HOK.out hc, hq])]
              refine (ih u2 (by omega) R Nd X rb wc h9.tab h9.env h9.rest).mono ?_
              intro e w10 hpost
              unfold NextPost at hpost
              rw [hq] at hpost
              obtain ⟨rfl, hk10⟩ := hpost
              exact ⟨rfl, by unfold NextPost; rw [hnone]; exact ⟨rfl, h9.kept.trans hk10⟩⟩
            · have HQ := Lib.hid hq
              have HC := Lib.hid hc
              refine (ih u2 (by omega) R Nd X rb wc h9.tab h9.env h9.rest).mono ?_
              intro e w10 hpost
              unfold NextPost at hpost
              rw [hq] at hpost
              obtain ⟨⟨vt, rfl, hvt⟩, hr10, hk10⟩ := hpost
              clear hq hc
              have h10 := h9.next hk10 hr10
              have hX10 := hk10.heap hX9 hXrb
              have hrow10 := hk10.heap hrow9 hB1rb
              have hv10 := hv9.kept (w' := w10) fun b hb hlt => hk10.block b hlt (fun e => by have hb : B1 < b := hb.1; have := h7.lt; injection e with e; omega)
              have f1 := free_at hX10 1
              have f2 := free_at hX10 2
              have f3 := free_at hX10 3
              have c0 := (cells_at hX10 0).trans rfl
              have c1 := (cells_at hX10 1).trans rfl
              have c2 := (cells_at hX10 2).trans rfl
              have c3 := (cells_at hX10 3).trans rfl
              obtain ⟨pt, ct, rfl, _⟩ := hvt.shape
              have g2 := (cells_at hrow10 2).trans rfl
              clear hX9 hrow9 hv9 e9
              have hXlt10 := (Array.getElem?_eq_some_iff.1 hX10).1
              have hBwc := kx.size
              have hBW7 := (Array.getElem?_eq_some_iff.1 hX).1
              have hWlt := h7.lt
              go_upto_region 23 with fail
              have hXB : (((w10.setCell ⟨Bx, 1, none⟩ (.int .u8 t.k)).setCell ⟨Bx, 2, none⟩ (str t.n)).setCell ⟨Bx, 3, none⟩ (.slice pt t.sub.len ct)).heap[Bx]? = some (.cells #[str (u.take (cutN u)), .int .u8 t.k, str t.n, .slice pt t.sub.len ct] 63 (0, 0)) := set_row (set_row (set_row hX10 1 (.int .u8 t.k)) 2 (str t.n)) 3 (.slice pt t.sub.len ct)
              have hset : ∀ b, b ≠ Bx → (((w10.setCell ⟨Bx, 1, none⟩ (.int .u8 t.k)).setCell ⟨Bx, 2, none⟩ (str t.n)).setCell ⟨Bx, 3, none⟩ (.slice pt t.sub.len ct)).heap[b]? = w10.heap[b]? := fun b hb => by rw [Below.heap_setCell _ _ _ _ hb, Below.heap_setCell _ _ _ _ hb, Below.heap_setCell _ _ _ _ hb]
              have hrowB := (hset B1 (Nat.ne_of_lt hB1X)).trans hrow10
              have hvB := hv10.kept (w' := ((w10.setCell ⟨Bx, 1, none⟩ (.int .u8 t.k)).setCell ⟨Bx, 2, none⟩ (str t.n)).setCell ⟨Bx, 3, none⟩ (.slice pt t.sub.len ct)) fun b hb _ => hset b hb.2
              have hvtB := hvt.kept (w' := ((w10.setCell ⟨Bx, 1, none⟩ (.int .u8 t.k)).setCell ⟨Bx, 2, none⟩ (str t.n)).setCell ⟨Bx, 3, none⟩ (.slice pt t.sub.len ct)) fun b hb _ => hset b (by have hb : wc.heap.size ≤ b := hb; omega)
              have hB := ((h10.set hXlt 1 (.int .u8 t.k)).set hXlt 2 (str t.n)).set hXlt 3 (.slice pt t.sub.len ct)
              obtain ⟨sc, ho1, ho2, ho3⟩ := hvB
              obtain ⟨i0, hi, hz0, hz1, hz2⟩ := info_parts infoPart
              have hlen3 := LH.out.len
              have hsz3 : (dn.len + 1) * 64 ≤ 140737488355328 := by omega
              have hmx3 : dn.len + 1 ≤ maxLen := by unfold maxLen; omega
              clear hset hv10 hvt h10 hX10 hrow10 f1 f2 f3 c0 c1 c2 c3 g2 hr10 hk10
              generalize ((w10.setCell ⟨Bx, 1, none⟩ (.int .u8 t.k)).setCell ⟨Bx, 2, none⟩ (str t.n)).setCell ⟨Bx, 3, none⟩ (.slice pt t.sub.len ct) = WB at *
              have c0 := (cells_at hXB 0).trans rfl
              have c1 := (cells_at hXB 1).trans rfl
              have c2 := (cells_at hXB 2).trans rfl
              have c3 := (cells_at hXB 3).trans rfl
              have g2 := (cells_at hrowB 2).trans rfl
              have hG := heap_alloc_new WB (.cells #[str (u.take (cutN u)), .int .u8 t.k, str t.n, .slice pt t.sub.len ct] 63)
              have hGc := (own_lit (n := 1) (cs := [str (u.take (cutN u)), .int .u8 t.k, str t.n, .slice pt t.sub.len ct]) hG rfl (by decide)).cells (g := WB.heap.size) rfl
              have HG := Lib.hid hGc
              clear hG hGc
              go_wp2_with (at_builtin; refine wpList_append_own2 (WB.alloc (.cells #[str (u.take (cutN u)), .int .u8 t.k, str t.n, .slice pt t.sub.len ct] 63)) rfl _ _ 55 rfl 0 63 i0 _ 4 64 underPart hi hz0 hz1 hz2 rfl (by decide) _ _ _ rfl (ho1.alloc _) ⟨WB.heap.size, 0, none⟩ 1 1 [str (u.take (cutN u)), .int .u8 t.k, str t.n, .slice pt t.sub.len ct] rfl rfl HG.out ?a2 (by decide) hmx3 hsz3 (Nat.zero_le _) ?a3)
              case a2 => exact ⟨rfl, rfl, rfl, rfl⟩
              case a3 =>
                intro v' w11 hv' hg11 ho11
                obtain ⟨p11, c11, rfl⟩ := row_shape hv'
                have hXBlt := (Array.getElem?_eq_some_iff.1 hXB).1
                have hsz11 : (WB.alloc (.cells #[str (u.take (cutN u)), .int .u8 t.k, str t.n, .slice pt t.sub.len ct] 63)).heap.size = WB.heap.size + 1 := by simp
                have hbel := (Below.refl WB.heap.size WB).alloc (Nat.le_refl _) (.cells #[str (u.take (cutN u)), .int .u8 t.k, str t.n, .slice pt t.sub.len ct] 63)
                have hA := hB.alloc (.cells #[str (u.take (cutN u)), .int .u8 t.k, str t.n, .slice pt t.sub.len ct] 63)
                have hrowA := (hbel.block B1 (by omega)).trans hrowB
                have hvtA := (hvtB.kept (w' := WB.alloc (.cells #[str (u.take (cutN u)), .int .u8 t.k, str t.n, .slice pt t.sub.len ct] 63)) fun b _ hlt => hbel.block b hlt).mono (D' := fun b => (B1 < b ∧ b ≠ Bx) ∧ (Value.slice p dn.len c).ownBlock ≠ some b) fun b hb _ => by
                  have hb : wc.heap.size ≤ b := hb
                  refine ⟨⟨by omega, by omega⟩, fun e => ?_⟩
                  have := hown7 b e
                  omega
                have ho3A := ho3.kept (w' := WB.alloc (.cells #[str (u.take (cutN u)), .int .u8 t.k, str t.n, .slice pt t.sub.len ct] 63)) fun b _ hlt => hbel.block b hlt
                have hv11 := (FoR.grow ho2 ho3A hvtA ⟨by omega, by omega⟩ hv' hg11 (by rw [hsz11]; exact ho11)).mono (D' := fun b => B1 < b) fun b hb _ => hb.1
                have h11 := hA.grown hg11 fun b e => by have := ho2 b e; have hl := LH.out.lo; omega
                have hrow11 := (hg11.block B1 (by omega) (fun e => by have := ho2 B1 e.symm; omega)).trans hrowA
                generalize hL : dn.len + 1 = L at *
                clear hA hrowA hvtA ho3A hv' hg11 ho11 hbel hB hXB hrowB hvtB ho1 ho2 ho3 c0 c1 c2 c3 g2 HG
                have g2 := (cells_at hrow11 2).trans rfl
                have f2 := free_at hrow11 2
                go_upto_region 24 with fail
                have hrowS : (w11.setCell ⟨B1, 2, none⟩ (.slice p11 L c11)).heap[B1]? = some (.cells #[.int .u8 (wk (s.take (cutN s) ++ [91])), str (s.take (cutN s)), .slice p11 L c11] 57 (0, 0)) := set_row hrow11 2 (.slice p11 L c11)
                have hS := h11.set LH.out.lo 2 (.slice p11 L c11)
                have hvS := hv11.kept (w' := w11.setCell ⟨B1, 2, none⟩ (.slice p11 L c11)) fun b hb _ => Below.heap_setCell _ _ _ _ (Nat.ne_of_gt hb)
                clear h11 hv11 hrow11 g2 f2
                generalize w11.setCell ⟨B1, 2, none⟩ (.slice p11 L c11) = WS at *
                have d1 := hS.env.r
                by_cases hr : ∃ r2, r = 44 :: r2
                case pos =>
                  obtain ⟨r2, rfl⟩ := hr
                  have hr2 := parseT_le HQ.out
                  simp only [List.length_cons] at hr2
                  have hrest := hS.rest
                  go_wp2_with (go_at_call 101; refine (take_yes' [44] r2 rb _ hrest).mono ?_; rintro e w12 ⟨rfl, hr12, hk12⟩)
                  go_roundg r2.length
                  case measure => omega
                  case rel =>
                    refine ⟨dn.snoc (u.take (cutN u)) t, r2, rfl, hS.next hk12 hr12, LH.out.lo, by rw [Fo.len_snoc]; omega, ⟨_, hk12.heap hrowS hB1rb, ?_⟩, Lib.hid (LH.out.step_eq HOK.out HC.out HQ.out)⟩
                    exact hvS.kept fun b hb hlt => hk12.block b hlt (fun e => by have hb : B1 < b := hb; have := hS.lt; have := LH.out.lo; injection e with e; omega)
                case neg =>
                  have hpre4 := prefix_one (s := r) (c := 44) (fun r' e => hr ⟨r', e⟩)
                  have HEND := Lib.hid (LH.out.end_eq HOK.out HC.out HQ.out (fun r' e => hr ⟨r', e⟩))
                  have e1 := hS.env.need
                  have e2 := (cells_at hrowS 2).trans rfl
                  clear hr
                  have hS1 := hS.drew.env.need
                  have hS2 := hS.drew.env.r
                  have SS : ∀ W', Kept rb WS.drew W' → (fun W : World => W.cell? ⟨Nd, 0, none⟩ = some (.func (.func 99) #[] #[]) ∧ W.cell? ⟨R, 0, none⟩ = some (.pointer (some ⟨rb, 0, none⟩))) W' := fun W' k => ⟨k.cell hS1 hS.env0.nn, k.cell hS2 hS.env0.nr⟩
                  clear hS1 hS2
                  by_cases hle : L ≤ 6
                  case pos =>
                    have hnd : Calls Tryz.prog 99 #[.bool (decide ((L : Int) ≤ 6))] WS fun e w' => e = .returned (.tuple #[]) ∧ WS = w' := by
                      rw [decide_eq_true (show (L : Int) ≤ 6 by omega)]
                      exact need_yes _
                    by_cases h93 : ∃ r', r = 93 :: r'
                    case pos =>
                      obtain ⟨r', rfl⟩ := h93
                      have HP : Hid (parseT s = some (⟨wk (s.take (cutN s) ++ [91]), s.take (cutN s), dn.snoc (u.take (cutN u)) t⟩, r')) := by
                        show _ = _
                        rw [HE.out, HEND.out]
                        simp only [Fo.len_snoc, hL, if_pos hle]
                      clear hle hL
                      go_wp2_with (first | (go_at_call 101; refine (take_no _ [44] rb _ hS.rest.cell hpre4).mono ?_; rintro e w0 ⟨rfl, rfl⟩) | (go_at_call 99; refine hnd.mono ?_; rintro e w0 ⟨rfl, rfl⟩))
                      refine wp_region_held_drew (S := (fun W : World => W.cell? ⟨Nd, 0, none⟩ = some (.func (.func 99) #[] #[]) ∧ W.cell? ⟨R, 0, none⟩ = some (.pointer (some ⟨rb, 0, none⟩)))) (by kernel_rfl) ?_ (fun hHeld => ?_)
                      · exact SS _ (Kept.refl _ _)
                      refine takeH (i := 0) (d := some 117) (v := ?_) rfl (by kernel_rfl) (by kernel_rfl) (by kernel_rfl) (by kernel_rfl) (fun _ _ _ h => h) (by assumption) (by kernel_rfl) ?_ ?_
                      rotate_left
                      · intro w hSw
                        try dsimp only at hSw
                        go_simp
                        try with_reducible rfl
                      try simp only [Act.put, List.setIfInBounds_toArray, List.set_cons_zero, List.set_cons_succ]
                      refine takeH (i := 1) (d := some 118) (v := ?_) rfl (by kernel_rfl) (by kernel_rfl) (by kernel_rfl) (by kernel_rfl) (fun _ _ _ h => h) (by assumption) (by kernel_rfl) ?_ ?_
                      rotate_left
                      · intro w hSw
                        try dsimp only at hSw
                        go_simp
                        try with_reducible rfl
                      try simp only [Act.put, List.setIfInBounds_toArray, List.set_cons_zero, List.set_cons_succ]
                      refine takeH (i := 2) (d := some 119) (v := ?_) rfl (by kernel_rfl) (by kernel_rfl) (by kernel_rfl) (by kernel_rfl) (fun _ _ _ h => h) (by assumption) (by kernel_rfl) ?_ ?_
                      rotate_left
                      · intro w hSw
                        try dsimp only at hSw
                        go_simp
                        try with_reducible rfl
                      try simp only [Act.put, List.setIfInBounds_toArray, List.set_cons_zero, List.set_cons_succ]
                      refine takeH (i := 3) (d := some 120) (v := ?_) rfl (by kernel_rfl) (by kernel_rfl) (by kernel_rfl) (by kernel_rfl) (fun _ _ _ h => h) (by assumption) (by kernel_rfl) ?_ ?_
                      rotate_left
                      · intro w hSw
                        try dsimp only at hSw
                        go_simp
                        try with_reducible rfl
                      try simp only [Act.put, List.setIfInBounds_toArray, List.set_cons_zero, List.set_cons_succ]
                      refine takeH (i := 4) (d := some 121) (v := ?_) rfl (by kernel_rfl) (by kernel_rfl) (by kernel_rfl) (by kernel_rfl) (fun _ _ _ h => h) (by assumption) (by kernel_rfl) ?_ ?_
                      rotate_left
                      · intro w hSw
                        try dsimp only at hSw
                        go_simp
                        try with_reducible rfl
                      try simp only [Act.put, List.setIfInBounds_toArray, List.set_cons_zero, List.set_cons_succ]
                      refine takeH (i := 5) (d := some 122) (v := ?_) rfl (by kernel_rfl) (by kernel_rfl) (by kernel_rfl) (by kernel_rfl) (fun _ _ _ h => h) (by assumption) (by kernel_rfl) ?_ ?_
                      rotate_left
                      · intro w hSw
                        try dsimp only at hSw
                        go_simp
                        try with_reducible rfl
                      try simp only [Act.put, List.setIfInBounds_toArray, List.set_cons_zero, List.set_cons_succ]
                      refine takeH (i := 6) (d := some 123) (v := ?_) rfl (by kernel_rfl) (by kernel_rfl) (by kernel_rfl) (by kernel_rfl) (fun _ _ _ h => h) (by assumption) (by kernel_rfl) ?_ ?_
                      rotate_left
                      · intro w hSw
                        try dsimp only at hSw
                        go_simp
                        try with_reducible rfl
                      try simp only [Act.put, List.setIfInBounds_toArray, List.set_cons_zero, List.set_cons_succ]
                      refine wpAnyH_ready (rs := [7]) (by kernel_rfl) (by simp) ?_
                      refine AllReadyH.cons rfl (fun K hK => ?_) AllReadyH.nil
                      go_simp
                      go_wp2_with (go_at_call 101; refine (take_yes' [93] r' rb _ hS.drew.rest).mono ?_; rintro e w9 ⟨rfl, hr9, hk9⟩)
                      refine hK.out _ _ ?_ (fun hHeld => ?_)
                      · exact SS _ hk9
                      clear hK K
                      try simp only [Act.put, List.setIfInBounds_toArray, List.set_cons_zero, List.set_cons_succ]
                      refine takeH (i := 8) (d := some 125) (v := ?_) rfl (by kernel_rfl) (by kernel_rfl) (by kernel_rfl) (by kernel_rfl) (fun _ _ _ h => h) (by assumption) (by kernel_rfl) ?_ ?_
                      rotate_left
                      · intro w hSw
                        try dsimp only at hSw
                        go_simp
                        try with_reducible rfl
                      try simp only [Act.put, List.setIfInBounds_toArray, List.set_cons_zero, List.set_cons_succ]
                      refine wpAnyH_ready (rs := [9]) (by kernel_rfl) (by simp) ?_
                      refine AllReadyH.cons rfl (fun K hK => ?_) AllReadyH.nil
                      go_simp
                      go_wp2_with (go_at_call 99; refine (need_yes _).mono ?_; rintro e w0 ⟨rfl, rfl⟩)
                      refine hK.out _ _ ?_ (fun hHeld => ?_)
                      · exact SS _ hk9
                      clear hK K
                      try simp only [Act.put, List.setIfInBounds_toArray, List.set_cons_zero, List.set_cons_succ]
                      refine wpAnyH_done (by kernel_rfl) ?_ _

                      have h9 := hS.drew.next hk9 hr9
                      have hx9 := hk9.heap (w := WS.drew) hrowS hB1rb
                      have hv9 := (hvS.kept (w := WS) (w' := WS.drew) (fun _ _ _ => rfl)).kept (w := WS.drew) (w' := w9) fun b hb hlt => hk9.block b hlt (fun e => by have hb : B1 < b := hb; have := hS.lt; have := LH.out.lo; injection e with e; omega)
                      have x0 := (cells_at hx9 0).trans rfl
                      have x1 := (cells_at hx9 1).trans rfl
                      have x2 := (cells_at hx9 2).trans rfl
                      obtain ⟨⟨y0, y1, y2⟩, z0, z1, z2⟩ := h9.resc
                      clear SS hnd e1 e2 d1
                      go_wp2_with fail
                      refine bodyPost_ret (v := .agg #[.int .u8 (wk (s.take (cutN s) ++ [91])), str (s.take (cutN s)), .slice p11 L c11]) (by simp [results, Tryz.results100, go_sem, y0, y1, y2]) rfl ?_
                      unfold NextPost
                      rw [HP.out]
                      obtain ⟨q1, q2⟩ := h9.done (.int .u8 (wk (s.take (cutN s) ++ [91]))) (str (s.take (cutN s))) (.slice p11 L c11)
                      have hlo := LH.out.lo
                      refine ⟨⟨_, rfl, ((hv9.foV.mono (D' := fun b => w.heap.size < b) fun b hb _ => by have hb : B1 < b := hb; show w.heap.size < b; omega).set3 (fun b hb => Nat.ne_of_gt hb) _ _ _).mono fun b hb _ => Nat.le_of_lt hb⟩, q1, q2⟩
                    case neg =>
                      have hpre9 := prefix_one (s := r) (c := 93) (fun r' e => h93 ⟨r', e⟩)
                      have hnone : parseT s = none := by
                        rw [HE.out, HEND.out]
                        rcases r with _ | ⟨x, r⟩
                        · rfl
                        · split
                          · rename_i h; simp only [Option.some.injEq, Prod.mk.injEq, List.cons.injEq] at h; exact absurd ⟨_, by rw [h.2.1]⟩ h93
                          · rfl
                      have HP : Hid (∀ e w', NextPost w rb s e w' ↔ (e = .panicked nonePanic ∧ Kept rb w w')) := by
                        intro e w'; unfold NextPost; rw [hnone]
                      clear hnone h93 hle hL
                      go_wp2_with (first | (go_at_call 101; refine (take_no _ [44] rb _ hS.rest.cell hpre4).mono ?_; rintro e w0 ⟨rfl, rfl⟩) | (go_at_call 99; refine hnd.mono ?_; rintro e w0 ⟨rfl, rfl⟩))
                      refine wp_region_held_drew (S := (fun W : World => W.cell? ⟨Nd, 0, none⟩ = some (.func (.func 99) #[] #[]) ∧ W.cell? ⟨R, 0, none⟩ = some (.pointer (some ⟨rb, 0, none⟩)))) (by kernel_rfl) ?_ (fun hHeld => ?_)
                      · exact SS _ (Kept.refl _ _)
                      refine takeH (i := 0) (d := some 117) (v := ?_) rfl (by kernel_rfl) (by kernel_rfl) (by kernel_rfl) (by kernel_rfl) (fun _ _ _ h => h) (by assumption) (by kernel_rfl) ?_ ?_
                      rotate_left
                      · intro w hSw
                        try dsimp only at hSw
                        go_simp
                        try with_reducible rfl
                      try simp only [Act.put, List.setIfInBounds_toArray, List.set_cons_zero, List.set_cons_succ]
                      refine takeH (i := 1) (d := some 118) (v := ?_) rfl (by kernel_rfl) (by kernel_rfl) (by kernel_rfl) (by kernel_rfl) (fun _ _ _ h => h) (by assumption) (by kernel_rfl) ?_ ?_
                      rotate_left
                      · intro w hSw
                        try dsimp only at hSw
                        go_simp
                        try with_reducible rfl
                      try simp only [Act.put, List.setIfInBounds_toArray, List.set_cons_zero, List.set_cons_succ]
                      refine takeH (i := 2) (d := some 119) (v := ?_) rfl (by kernel_rfl) (by kernel_rfl) (by kernel_rfl) (by kernel_rfl) (fun _ _ _ h => h) (by assumption) (by kernel_rfl) ?_ ?_
                      rotate_left
                      · intro w hSw
                        try dsimp only at hSw
                        go_simp
                        try with_reducible rfl
                      try simp only [Act.put, List.setIfInBounds_toArray, List.set_cons_zero, List.set_cons_succ]
                      refine takeH (i := 3) (d := some 120) (v := ?_) rfl (by kernel_rfl) (by kernel_rfl) (by kernel_rfl) (by kernel_rfl) (fun _ _ _ h => h) (by assumption) (by kernel_rfl) ?_ ?_
                      rotate_left
                      · intro w hSw
                        try dsimp only at hSw
                        go_simp
                        try with_reducible rfl
                      try simp only [Act.put, List.setIfInBounds_toArray, List.set_cons_zero, List.set_cons_succ]
                      refine takeH (i := 4) (d := some 121) (v := ?_) rfl (by kernel_rfl) (by kernel_rfl) (by kernel_rfl) (by kernel_rfl) (fun _ _ _ h => h) (by assumption) (by kernel_rfl) ?_ ?_
                      rotate_left
                      · intro w hSw
                        try dsimp only at hSw
                        go_simp
                        try with_reducible rfl
                      try simp only [Act.put, List.setIfInBounds_toArray, List.set_cons_zero, List.set_cons_succ]
                      refine takeH (i := 5) (d := some 122) (v := ?_) rfl (by kernel_rfl) (by kernel_rfl) (by kernel_rfl) (by kernel_rfl) (fun _ _ _ h => h) (by assumption) (by kernel_rfl) ?_ ?_
                      rotate_left
                      · intro w hSw
                        try dsimp only at hSw
                        go_simp
                        try with_reducible rfl
                      try simp only [Act.put, List.setIfInBounds_toArray, List.set_cons_zero, List.set_cons_succ]
                      refine takeH (i := 6) (d := some 123) (v := ?_) rfl (by kernel_rfl) (by kernel_rfl) (by kernel_rfl) (by kernel_rfl) (fun _ _ _ h => h) (by assumption) (by kernel_rfl) ?_ ?_
                      rotate_left
                      · intro w hSw
                        try dsimp only at hSw
                        go_simp
                        try with_reducible rfl
                      try simp only [Act.put, List.setIfInBounds_toArray, List.set_cons_zero, List.set_cons_succ]
                      refine wpAnyH_ready (rs := [7]) (by kernel_rfl) (by simp) ?_
                      refine AllReadyH.cons rfl (fun K hK => ?_) AllReadyH.nil
                      go_simp
                      go_wp2_with (go_at_call 101; refine (take_no _ [93] rb _ hS.drew.rest.cell hpre9).mono ?_; rintro e w0 ⟨rfl, rfl⟩)
                      refine hK.out _ _ ?_ (fun hHeld => ?_)
                      · exact SS _ (Kept.refl _ _)
                      clear hK K
                      try simp only [Act.put, List.setIfInBounds_toArray, List.set_cons_zero, List.set_cons_succ]
                      refine takeH (i := 8) (d := some 125) (v := ?_) rfl (by kernel_rfl) (by kernel_rfl) (by kernel_rfl) (by kernel_rfl) (fun _ _ _ h => h) (by assumption) (by kernel_rfl) ?_ ?_
                      rotate_left
                      · intro w hSw
                        try dsimp only at hSw
                        go_simp
                        try with_reducible rfl
                      try simp only [Act.put, List.setIfInBounds_toArray, List.set_cons_zero, List.set_cons_succ]
                      refine wpAnyH_ready (rs := [9]) (by kernel_rfl) (by simp) ?_
                      refine AllReadyH.cons rfl (fun K hK => ?_) AllReadyH.nil
                      go_simp
                      go_wp2_with (go_at_call 99; refine (need_no _).mono ?_; rintro e w0 ⟨rfl, rfl⟩; exact ⟨rfl, (HP.out _ _).2 ⟨rfl, hS.drew.kept⟩⟩)

                  case neg =>
                    have hnd : Calls Tryz.prog 99 #[.bool (decide ((L : Int) ≤ 6))] WS fun e w' => e = .panicked nonePanic ∧ WS = w' := by
                      rw [decide_eq_false (show ¬ (L : Int) ≤ 6 by omega)]
                      exact need_no _
                    have hnone : parseT s = none := by
                      rw [HE.out, HEND.out]
                      rcases r with _ | ⟨x, r⟩
                      · rfl
                      · split
                        · rename_i h; simp only [Option.some.injEq, Prod.mk.injEq, List.cons.injEq] at h; rw [← h.1, Fo.len_snoc, hL, if_neg hle]
                        · rfl
                    have HP : Hid (∀ e w', NextPost w rb s e w' ↔ (e = .panicked nonePanic ∧ Kept rb w w')) := by
                      intro e w'; unfold NextPost; rw [hnone]
                    clear hnone hle hL
                    go_wp2_with (first | (go_at_call 101; refine (take_no _ [44] rb _ hS.rest.cell hpre4).mono ?_; rintro e w0 ⟨rfl, rfl⟩) | (go_at_call 99; refine hnd.mono ?_; rintro e w0 ⟨rfl, rfl⟩))
                    exact ⟨rfl, (HP.out _ _).2 ⟨rfl, hS.kept⟩⟩
end Go.Proofs.YtakdmnhpoelepaaGreatDoor
