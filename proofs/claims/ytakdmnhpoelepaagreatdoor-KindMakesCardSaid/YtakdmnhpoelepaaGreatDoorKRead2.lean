/-
  The closure with which the program reads a type (kind.read$3): names and arrays; where a bracket is lacking.
-/
import Derived.Test.YtakdmnhpoelepaaGreatDoorKRead1
import Derived.Test.YtakdmnhpoelepaaGreatDoorRRead
import Derived.Deep.RegionHeld2
namespace Go.Proofs.YtakdmnhpoelepaaGreatDoor
open Go.RowKit

/-- A way out by panic in a region that draws its order, where the tactic bears one goal alone: a goal that is never come to is left in its place. -/
theorem leave {S : World → Prop} {Y : Act → World → Prop} {K : Act → World → Prop} {G : Prop} (_ : Shut (∀ a w, S w → (S w → Y a w) → K a w)) (hG : G) (a : Act) (w : World) (_ : Hid False → K a w) : G := hG

set_option maxHeartbeats 3200000 in
theorem next_name (s : List UInt8) (hm1 : s.length ≤ 1000) (hp : noPar s) (h0 : kind0 (s.take (cutN s)) = 0) (hkk : kindB (s.take (cutN s)) = 0) (hn : isName (s.take (cutN s)) = true) (hb : ∀ r, s.drop (cutN s) ≠ 91 :: r) : NextOk s := by
  have hm : s.length ≤ maxLen := by unfold maxLen; omega
  intro R Nd X rb w ht he hs
  have HP : Hid (∀ e w', NextPost w rb s e w' ↔ ((∃ v, e = .returned (.agg #[.int .u8 (7 : Nat), str (s.take (cutN s)), v]) ∧ FoV w' (fun b => w.heap.size ≤ b) .nil v) ∧ Rest w' rb (s.drop (cutN s)) ∧ Kept rb w w')) := by
    intro e w'; unfold NextPost; rw [parseT_name hp h0 hkk hn hb]
  have hpre := noPar_prefix hp
  have HK := Lib.hid (wk_word s)
  have HK2 := Lib.hid (wk_bracket (s.take (cutN s)))
  have hk0 : ((wk (s.take (cutN s)) : Int) != 0) = false := by rw [HK.out, h0]; rfl
  have hcle := cutN_le s
  have hwl : (s.take (cutN s)).length ≤ maxLen := by simp; omega
  have hpre2 := prefix_one hb
  have hk1 : ((wk (s.take (cutN s) ++ [91]) : Int) == 0) = true := by rw [HK2.out, hkk]; rfl
  clear h0 hp hkk hb
  have h1 := St.start ht he hs
  have a1 := h1.env.r
  go_enter Tryz.func100, Tryz.ntmps100
  go_wp2_with fail
  generalize w.alloc (.cells #[.int .u8 0, .string ⟨#[]⟩, .slice none 0 0] 57) = W1 at *
  refine (take_no s [63, 116] rb _ h1.rest.cell hpre).mono ?_
  rintro e w1 ⟨rfl, rfl⟩
  go_wp2_with fail
  refine (word_any' s rb _ hm h1.rest).mono ?_
  rintro e w2 ⟨rfl, hr2, hkp2⟩
  have h2 := h1.next hkp2 hr2
  have b1 := h2.env.r
  have b2 := h2.env.need
  go_wp2_with (first | (go_at_call 103; refine (wk_any _ _).mono ?_; rintro e w0 ⟨rfl, rfl⟩) | (go_at_call 101; refine (take_no _ [91] rb _ h2.rest.cell hpre2).mono ?_; rintro e w0 ⟨rfl, rfl⟩))
  go_region_held3 (fun W => W.cell? ⟨Nd, 0, none⟩ = some (.func (.func 99) #[] #[])) (first | exact h2.drew.env.need | exact (h2.drew.quiet hb3).env.need)
    (first | (go_at_call 65; refine (tIsName_any _ _ h2.drew.tab hwl).mono ?_; rintro e w3 ⟨rfl, hb3⟩) | (go_at_call 99; refine (need_yes _).mono ?_; rintro e w0 ⟨rfl, rfl⟩))
  have h3 := h2.drew.quiet hb3
  have b3 := fun o => (h3.alloc o).env.need
  go_wp2_with (go_at_call 99; refine (need_yes _).mono ?_; rintro e w0 ⟨rfl, rfl⟩)
  go_quiet ((go_at_call 99; exact Calls.quiet_of_same ((need_yes _).mono fun _ _ h => ⟨h.1, h.2.symm⟩)))
  have c0 := fun o => (h3.alloc o).resc.1.1
  have c1 := fun o => (h3.alloc o).resc.1.2.1
  have c2 := fun o => (h3.alloc o).resc.1.2.2
  have f0 := fun o => (h3.alloc o).resc.2.1
  have f1 := fun o => (h3.alloc o).resc.2.2.1
  have f2 := fun o => (h3.alloc o).resc.2.2.2
  go_wp2_with fail
  refine bodyPost_ret (v := .agg #[.int .u8 7, str (s.take (cutN s)), .slice none 0 0]) (by simp [results, Tryz.results100, go_sem, c0, c1, c2]) rfl ?_
  rw [HP.out]
  obtain ⟨g1, g2⟩ := ((h3.alloc _).drewN nq).done (.int .u8 7) (str (s.take (cutN s))) (.slice none 0 0)
  exact ⟨⟨_, rfl, FoV.nil _ _⟩, g1, g2⟩

set_option maxHeartbeats 3200000 in
/-- The text is none: the word is no name. -/
theorem next_bad (s : List UInt8) (hm1 : s.length ≤ 1000) (hp : noPar s) (h0 : kind0 (s.take (cutN s)) = 0) (hkk : kindB (s.take (cutN s)) = 0) (hn : isName (s.take (cutN s)) = false) : NextOk s := by
  have hnone := parseT_bad hp h0 hkk hn
  have hm : s.length ≤ maxLen := by unfold maxLen; omega
  intro R Nd X rb w ht he hs
  have HP : Hid (∀ e w', NextPost w rb s e w' ↔ (e = .panicked nonePanic ∧ Kept rb w w')) := by
    intro e w'; unfold NextPost; rw [hnone]
  have hpre := noPar_prefix hp
  have HK := Lib.hid (wk_word s)
  have HK2 := Lib.hid (wk_bracket (s.take (cutN s)))
  have hk0 : ((wk (s.take (cutN s)) : Int) != 0) = false := by rw [HK.out, h0]; rfl
  have hcle := cutN_le s
  have hwl : (s.take (cutN s)).length ≤ maxLen := by simp; omega
  have hk1 : ((wk (s.take (cutN s) ++ [91]) : Int) == 0) = true := by rw [HK2.out, hkk]; rfl
  by_cases hbr : ∃ s2, s.drop (cutN s) = 91 :: s2
  · obtain ⟨s2, hb⟩ := hbr
    clear h0 hp hkk hnone
    have h1 := St.start ht he hs
    have a1 := h1.env.r
    go_enter Tryz.func100, Tryz.ntmps100
    go_wp2_with fail
    generalize w.alloc (.cells #[.int .u8 0, .string ⟨#[]⟩, .slice none 0 0] 57) = W1 at *
    refine (take_no s [63, 116] rb _ h1.rest.cell hpre).mono ?_
    rintro e w1 ⟨rfl, rfl⟩
    go_wp2_with fail
    refine (word_any' s rb _ hm h1.rest).mono ?_
    rintro e w2 ⟨rfl, hr2, hkp2⟩
    have h2 := h1.next hkp2 hr2
    have b1 := h2.env.r
    have b2 := h2.env.need
    rw [hb] at h2
    go_wp2_with (first | (go_at_call 103; refine (wk_any _ _).mono ?_; rintro e w0 ⟨rfl, rfl⟩) | (go_at_call 101; refine (take_yes' [91] s2 rb _ h2.rest).mono ?_; rintro e w3 ⟨rfl, hr3, hkp3⟩; have h3 := h2.next hkp3 hr3; have b3 := h3.env.need))
    go_region_held2 (fun W => W.cell? ⟨Nd, 0, none⟩ = some (.func (.func 99) #[] #[])) (first | exact h3.drew.env.need | exact (h3.drew.quiet hb4).env.need | exact hfalse.out.elim)
      (first | (go_at_call 65; refine (tIsName_any _ _ h3.drew.tab hwl).mono ?_; rintro e w4 ⟨rfl, hb4⟩) | (go_at_call 99; refine (need_no _).mono ?_; rintro e w0 ⟨rfl, rfl⟩; refine leave (by assumption) (show _ ∧ _ from ⟨rfl, (HP.out _ _).2 ⟨rfl, (h3.drew.quiet hb4).kept⟩⟩) { tmps := #[], defers := [] } w4 (fun hfalse => ?_)))
    all_goals exact hfalse.out.elim
  · have hpre2 := prefix_one (s := s.drop (cutN s)) (c := 91) (fun r e => hbr ⟨r, e⟩)
    clear h0 hp hkk hnone hbr
    have h1 := St.start ht he hs
    have a1 := h1.env.r
    go_enter Tryz.func100, Tryz.ntmps100
    go_wp2_with fail
    generalize w.alloc (.cells #[.int .u8 0, .string ⟨#[]⟩, .slice none 0 0] 57) = W1 at *
    refine (take_no s [63, 116] rb _ h1.rest.cell hpre).mono ?_
    rintro e w1 ⟨rfl, rfl⟩
    go_wp2_with fail
    refine (word_any' s rb _ hm h1.rest).mono ?_
    rintro e w2 ⟨rfl, hr2, hkp2⟩
    have h2 := h1.next hkp2 hr2
    have b1 := h2.env.r
    have b2 := h2.env.need
    go_wp2_with (first | (go_at_call 103; refine (wk_any _ _).mono ?_; rintro e w0 ⟨rfl, rfl⟩) | (go_at_call 101; refine (take_no _ [91] rb _ h2.rest.cell hpre2).mono ?_; rintro e w0 ⟨rfl, rfl⟩))
    go_region_held2 (fun W => W.cell? ⟨Nd, 0, none⟩ = some (.func (.func 99) #[] #[])) (first | exact h2.drew.env.need | exact (h2.drew.quiet hb4).env.need | exact hfalse.out.elim)
      (first | (go_at_call 65; refine (tIsName_any _ _ h2.drew.tab hwl).mono ?_; rintro e w4 ⟨rfl, hb4⟩) | (go_at_call 99; refine (need_no _).mono ?_; rintro e w0 ⟨rfl, rfl⟩; refine leave (by assumption) (show _ ∧ _ from ⟨rfl, (HP.out _ _).2 ⟨rfl, (h2.drew.quiet hb4).kept⟩⟩) { tmps := #[], defers := [] } w4 (fun hfalse => ?_)))
    all_goals exact hfalse.out.elim

set_option maxHeartbeats 3200000 in
/-- The text is none: no bracket behind array, record, oneof. -/
theorem next_no_bracket (s : List UInt8) (hm1 : s.length ≤ 1000) (hp : noPar s) (h0 : kind0 (s.take (cutN s)) = 0) (hk : kindB (s.take (cutN s)) ≠ 0) (hb : ∀ r, s.drop (cutN s) ≠ 91 :: r) : NextOk s := by
  have hkk : kindB (s.take (cutN s)) = 4 ∨ kindB (s.take (cutN s)) = 5 ∨ kindB (s.take (cutN s)) = 6 := by
    rcases kindB_facts (w := s.take (cutN s)) with ⟨k1, k2⟩ | ⟨k1, k2⟩ | ⟨k1, k2⟩ | ⟨k1, k2⟩ <;> omega
  have hnone : parseT s = none := by
    rcases hkk with h | h | h
    · exact parseT_arr_no hp h0 h hb
    · exact parseT_rec_no hp h0 (.inl h) hb
    · exact parseT_rec_no hp h0 (.inr h) hb
  have hm : s.length ≤ maxLen := by unfold maxLen; omega
  intro R Nd X rb w ht he hs
  have HP : Hid (∀ e w', NextPost w rb s e w' ↔ (e = .panicked nonePanic ∧ Kept rb w w')) := by
    intro e w'; unfold NextPost; rw [hnone]
  have hpre := noPar_prefix hp
  have HK := Lib.hid (wk_word s)
  have HK2 := Lib.hid (wk_bracket (s.take (cutN s)))
  have hk0 : ((wk (s.take (cutN s)) : Int) != 0) = false := by rw [HK.out, h0]; rfl
  have hcle := cutN_le s
  have hwl : (s.take (cutN s)).length ≤ maxLen := by simp; omega
  have hpre2 := prefix_one hb
  rcases hkk with hkk | hkk | hkk
  · have hk1 : ((wk (s.take (cutN s) ++ [91]) : Int) == 0) = false := by rw [HK2.out, hkk]; rfl
    have hk7 : ((wk (s.take (cutN s) ++ [91]) : Int) == 7) = false := by rw [HK2.out, hkk]; rfl
    have hk5 : ((wk (s.take (cutN s) ++ [91]) : Int) == 5) = false := by rw [HK2.out, hkk]; rfl
    have hk6 : ((wk (s.take (cutN s) ++ [91]) : Int) == 6) = false := by rw [HK2.out, hkk]; rfl
    clear h0 hp hb hnone hk hkk
    have h1 := St.start ht he hs
    have a1 := h1.env.r
    go_enter Tryz.func100, Tryz.ntmps100
    go_wp2_with fail
    generalize w.alloc (.cells #[.int .u8 0, .string ⟨#[]⟩, .slice none 0 0] 57) = W1 at *
    refine (take_no s [63, 116] rb _ h1.rest.cell hpre).mono ?_
    rintro e w1 ⟨rfl, rfl⟩
    go_wp2_with fail
    refine (word_any' s rb _ hm h1.rest).mono ?_
    rintro e w2 ⟨rfl, hr2, hkp2⟩
    have h2 := h1.next hkp2 hr2
    have b1 := h2.env.r
    have b2 := h2.env.need
    have b3 := fun o => (h2.alloc o).env.need
    go_wp2_with (first | (go_at_call 103; refine (wk_any _ _).mono ?_; rintro e w0 ⟨rfl, rfl⟩) | (go_at_call 101; refine (take_no _ [91] rb _ h2.rest.cell hpre2).mono ?_; rintro e w0 ⟨rfl, rfl⟩) | (go_at_call 99; refine (need_no _).mono ?_; rintro e w0 ⟨rfl, rfl⟩))
    exact ⟨rfl, (HP.out _ _).2 ⟨rfl, (h2.alloc _).kept⟩⟩
  · have hk1 : ((wk (s.take (cutN s) ++ [91]) : Int) == 0) = false := by rw [HK2.out, hkk]; rfl
    have hk7 : ((wk (s.take (cutN s) ++ [91]) : Int) == 7) = false := by rw [HK2.out, hkk]; rfl
    have hk5 : ((wk (s.take (cutN s) ++ [91]) : Int) == 5) = true := by rw [HK2.out, hkk]; rfl
    have hk6 : ((wk (s.take (cutN s) ++ [91]) : Int) == 6) = false := by rw [HK2.out, hkk]; rfl
    clear h0 hp hb hnone hk hkk
    have h1 := St.start ht he hs
    have a1 := h1.env.r
    go_enter Tryz.func100, Tryz.ntmps100
    go_wp2_with fail
    generalize w.alloc (.cells #[.int .u8 0, .string ⟨#[]⟩, .slice none 0 0] 57) = W1 at *
    refine (take_no s [63, 116] rb _ h1.rest.cell hpre).mono ?_
    rintro e w1 ⟨rfl, rfl⟩
    go_wp2_with fail
    refine (word_any' s rb _ hm h1.rest).mono ?_
    rintro e w2 ⟨rfl, hr2, hkp2⟩
    have h2 := h1.next hkp2 hr2
    have b1 := h2.env.r
    have b2 := h2.env.need
    have b3 := fun o => (h2.alloc o).env.need
    go_wp2_with (first | (go_at_call 103; refine (wk_any _ _).mono ?_; rintro e w0 ⟨rfl, rfl⟩) | (go_at_call 101; refine (take_no _ [91] rb _ h2.rest.cell hpre2).mono ?_; rintro e w0 ⟨rfl, rfl⟩) | (go_at_call 99; refine (need_no _).mono ?_; rintro e w0 ⟨rfl, rfl⟩))
    exact ⟨rfl, (HP.out _ _).2 ⟨rfl, (h2.alloc _).kept⟩⟩
  · have hk1 : ((wk (s.take (cutN s) ++ [91]) : Int) == 0) = false := by rw [HK2.out, hkk]; rfl
    have hk7 : ((wk (s.take (cutN s) ++ [91]) : Int) == 7) = false := by rw [HK2.out, hkk]; rfl
    have hk5 : ((wk (s.take (cutN s) ++ [91]) : Int) == 5) = false := by rw [HK2.out, hkk]; rfl
    have hk6 : ((wk (s.take (cutN s) ++ [91]) : Int) == 6) = true := by rw [HK2.out, hkk]; rfl
    clear h0 hp hb hnone hk hkk
    have h1 := St.start ht he hs
    have a1 := h1.env.r
    go_enter Tryz.func100, Tryz.ntmps100
    go_wp2_with fail
    generalize w.alloc (.cells #[.int .u8 0, .string ⟨#[]⟩, .slice none 0 0] 57) = W1 at *
    refine (take_no s [63, 116] rb _ h1.rest.cell hpre).mono ?_
    rintro e w1 ⟨rfl, rfl⟩
    go_wp2_with fail
    refine (word_any' s rb _ hm h1.rest).mono ?_
    rintro e w2 ⟨rfl, hr2, hkp2⟩
    have h2 := h1.next hkp2 hr2
    have b1 := h2.env.r
    have b2 := h2.env.need
    have b3 := fun o => (h2.alloc o).env.need
    go_wp2_with (first | (go_at_call 103; refine (wk_any _ _).mono ?_; rintro e w0 ⟨rfl, rfl⟩) | (go_at_call 101; refine (take_no _ [91] rb _ h2.rest.cell hpre2).mono ?_; rintro e w0 ⟨rfl, rfl⟩) | (go_at_call 99; refine (need_no _).mono ?_; rintro e w0 ⟨rfl, rfl⟩))
    exact ⟨rfl, (HP.out _ _).2 ⟨rfl, (h2.alloc _).kept⟩⟩
end Go.Proofs.YtakdmnhpoelepaaGreatDoor
