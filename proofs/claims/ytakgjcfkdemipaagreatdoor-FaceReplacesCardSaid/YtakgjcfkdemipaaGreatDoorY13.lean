/-
  The closure with which the program reads a type (kind.read$3): a type with an argument.
-/
import Derived.Test.YtakgjcfkdemipaaGreatDoorYn
import Derived.Test.YtakgjcfkdemipaaGreatDoorY11
namespace Go.Proofs.YtakgjcfkdemipaaGreatDoor
open Go.RowKit
set_option maxHeartbeats 6400000 in
theorem next_name_arg (s s2 : List UInt8) (hm1 : s.length ≤ 1000) (hp : noPar s) (h0 : kind0 (s.take (cutN s)) = 0) (hkk : kindB (s.take (cutN s)) = 0) (hn : isName (s.take (cutN s)) = true) (hb : s.drop (cutN s) = 91 :: s2) (ih : NextOk s2) : NextOk s := by
 have hm : s.length ≤ maxLen := by unfold maxLen; omega
 intro R Nd X rb w ht he hs
 have hE := parseT_arg hp h0 (.inr ⟨hkk, hn⟩) hb
 have hpre := noPar_prefix hp
 have HK := Lib.hid (wk_word s)
 have HK2 := Lib.hid (wk_bracket (s.take (cutN s)))
 have hk0 : ((wk (s.take (cutN s)) : Int) != 0) = false := by rw [HK.out, h0]; rfl
 have hcle := cutN_le s
 have hwl : (s.take (cutN s)).length ≤ maxLen := by simp; omega
 have hk1 : ((wk (s.take (cutN s) ++ [91]) : Int) == 0) = true := by rw [HK2.out, hkk]; rfl
 have hk9 : (if kindB (s.take (cutN s)) = 4 then 4 else 7) = 7 := by rw [hkk]; rfl
 rw [hk9] at hE
 have HB := Lib.hid hb
 have HE := Lib.hid hE
 clear hE
 clear h0 hp hkk hk9
 have h1 := St.start ht he hs
 have a1 := h1.env.r
 go_enter Tryz.func252, Tryz.ntmps252
 go_wp2_with fail
 generalize w.alloc (.cells #[.int .u8 0, .string ⟨#[]⟩, .slice none 0 0] 174) = W1 at *
 refine (take_no s [63, 116] rb _ h1.rest.cell hpre).mono ?_
 rintro e w1 ⟨rfl, rfl⟩
 go_wp2_with fail
 refine (word_any' s rb _ hm h1.rest).mono ?_
 rintro e w2 ⟨rfl, hr2, hkp2⟩
 have h2 := h1.next hkp2 hr2
 have b1 := h2.env.r
 have b2 := h2.env.need
 rw [hb] at h2
 go_wp2_with (first | (go_at_call 255; refine (wk_any _ _).mono ?_; rintro e w0 ⟨rfl, rfl⟩) | (go_at_call 253; refine (take_yes' [91] s2 rb _ h2.rest).mono ?_; rintro e w3 ⟨rfl, hr3, hkp3⟩; have h3 := h2.next hkp3 hr3; have b3 := h3.env.need))
 go_region_held3 (fun W => W.cell? ⟨Nd, 0, none⟩ = some (.func (.func 251) #[] #[])) (first | exact h3.drew.env.need | exact (h3.drew.quiet hb4).env.need)
  (first | (go_at_call 88; refine (tIsName_any _ _ h3.drew.tab hwl).mono ?_; rintro e w4 ⟨rfl, hb4⟩) | (go_at_call 251; refine (need_yes _).mono ?_; rintro e w0 ⟨rfl, rfl⟩))
 have h4 := h3.drew.quiet hb4
 have b4 := fun o => (h4.alloc o).env.need
 have b5 := fun o => (h4.alloc o).env.next
 go_wp2_with (go_at_call 251; refine (need_yes _).mono ?_; rintro e w0 ⟨rfl, rfl⟩)
 have hx := heap_alloc_new w4 (.cells #[.int .u8 7, .string ⟨(s.take (cutN s)).toArray⟩, .slice none 0 0] 174)
 have h5 := h4.alloc (.cells #[.int .u8 7, .string ⟨(s.take (cutN s)).toArray⟩, .slice none 0 0] 174)
 have hB1 := h4.size
 have hB2 : w4.heap.size ≠ rb := by have := h4.lt; omega
 generalize hW5 : w4.alloc (.cells #[.int .u8 7, .string ⟨(s.take (cutN s)).toArray⟩, .slice none 0 0] 174) = W5 at *
 have hB3 : w4.heap.size < W5.heap.size := (Array.getElem?_eq_some_iff.1 hx).1
 clear hW5
 rcases hq : parseT s2 with _ | ⟨t, r⟩
 · have hnone : parseT s = none := by rw [HE.out, hq]
   have ih5 := ih R Nd X rb W5 h5.tab h5.env h5.rest;refine ih5.mono ?_;intro e w6 hpost;unfold NextPost at hpost;rw [hq] at hpost;obtain ⟨rfl, hk6⟩ := hpost;exact ⟨rfl, by unfold NextPost; rw [hnone]; exact ⟨rfl, h5.kept.trans hk6⟩⟩
 · have ih5 := ih R Nd X rb W5 h5.tab h5.env h5.rest
   have HQ := Lib.hid hq;refine ih5.mono ?_;intro e w6 hpost;unfold NextPost at hpost;rw [hq] at hpost;obtain ⟨⟨v, rfl, hv⟩, hr6, hk6⟩ := hpost;clear hq ih5 ih;have h6 := h5.next hk6 hr6
   have hx6 := hk6.heap hx hB2;have d2 := fun o => (cells_at ((Kept.alloc rb w6 o).heap hx6 hB2) 2).trans rfl
   have d2f := fun o => free_at ((Kept.alloc rb w6 o).heap hx6 hB2) 2
   go_wp2_with fail;have hG := heap_alloc_new w6 (.cells #[.string ⟨#[]⟩, .int .u8 t.k, .string ⟨t.n.toArray⟩, v] 192);have hGlt : w6.heap.size < (w6.alloc (.cells #[.string ⟨#[]⟩, .int .u8 t.k, .string ⟨t.n.toArray⟩, v] 192)).heap.size := by simp
   have hv7 := hv.below (B := w6.heap.size) ((Below.refl _ w6).alloc (nl _) (.cells #[.string ⟨#[]⟩, .int .u8 t.k, .string ⟨t.n.toArray⟩, v] 192)) (nl _);have hx7 := (Kept.alloc rb w6 (.cells #[.string ⟨#[]⟩, .int .u8 t.k, .string ⟨t.n.toArray⟩, v] 192)).heap hx6 hB2;have h7 := (h6.alloc (.cells #[.string ⟨#[]⟩, .int .u8 t.k, .string ⟨t.n.toArray⟩, v] 192)).set (B := w4.heap.size) hB1 2 (.slice (some ⟨w6.heap.size, 0, none⟩) 1 1);have hs6 := hk6.size;generalize hW7 : w6.alloc (.cells #[.string ⟨#[]⟩, .int .u8 t.k, .string ⟨t.n.toArray⟩, v] 192) = W7 at *;clear hW7;have hx8 := set_row hx7 2 (.slice (some ⟨w6.heap.size, 0, none⟩) 1 1);have hG8 : (W7.setCell ⟨w4.heap.size, 2, none⟩ (.slice (some ⟨w6.heap.size, 0, none⟩) 1 1)).heap[w6.heap.size]? = _ := (Below.heap_setCell _ _ _ _ (by simp; omega)).trans hG;have hv8 : FoV (W7.setCell ⟨w4.heap.size, 2, none⟩ (.slice (some ⟨w6.heap.size, 0, none⟩) 1 1)) (fun b => W5.heap.size ≤ b) t.sub v := hv7.kept fun b hb _ => Below.heap_setCell _ _ _ _ (by simp; omega)
   simp only [List.setIfInBounds_toArray, List.set_cons_zero, List.set_cons_succ] at hx8;generalize W7.setCell ⟨w4.heap.size, 2, none⟩ (.slice (some ⟨w6.heap.size, 0, none⟩) 1 1) = W8 at *;clear hx7 hG hv7 hx6 hx d2 d2f b3 b5 b4
   by_cases hr : ∃ r', r = 93 :: r'
   · obtain ⟨r', rfl⟩ := hr
     have HP : Hid (parseT s = some (⟨7, s.take (cutN s), .one t⟩, r')) := by show _ = _; rw [HE.out, HQ.out]; rfl
     have g1 := h7.drew.env.need
     go_region_held3 (fun W => W.cell? ⟨Nd, 0, none⟩ = some (.func (.func 251) #[] #[]) ∧ W.cell? ⟨R, 0, none⟩ = some (.pointer (some ⟨rb, 0, none⟩))) (first | exact ⟨h7.drew.env.need, h7.drew.env.r⟩ | exact ⟨h9.env.need, h9.env.r⟩)
      (first | (go_at_call 253; refine (take_yes' [93] r' rb _ h7.drew.rest).mono ?_; rintro e w9 ⟨rfl, hr9, hk9⟩; have h9 := h7.drew.next hk9 hr9) | (go_at_call 251; refine (need_yes _).mono ?_; rintro e w0 ⟨rfl, rfl⟩))
     have h9 := h7.drew.next hk9 hr9
     have hx9 := hk9.heap (w := W8.drew) hx8 hB2;have hG9 := hk9.heap (w := W8.drew) hG8 (by have := h7.lt; omega);have hv9 : FoV w9 (fun b => W5.heap.size ≤ b) t.sub v := (hv8.kept (w := W8) (w' := W8.drew) (fun _ _ _ => rfl)).kept (w := W8.drew) (w' := w9) fun b hb hlt => hk9.block b hlt (by have := h7.lt; intro e; injection e with e; omega)
     have x0 := (cells_at hx9 0).trans rfl;have x1 := (cells_at hx9 1).trans rfl;have x2 := (cells_at hx9 2).trans rfl;obtain ⟨⟨c0, c1, c2⟩, f0, f1, f2⟩ := h9.resc;go_wp2_with fail;refine bodyPost_ret (v := .agg #[.int .u8 7, str (s.take (cutN s)), .slice (some ⟨w6.heap.size, 0, none⟩) 1 1]) (by simp [results, Tryz.results252, go_sem, c0, c1, c2]) rfl ?_;unfold NextPost;rw [HP.out];obtain ⟨q1, q2⟩ := h9.done (.int .u8 7) (str (s.take (cutN s))) (.slice (some ⟨w6.heap.size, 0, none⟩) 1 1);refine ⟨⟨_, rfl, ?_⟩, q1, q2⟩;refine FoV.set3 ⟨_, own_lit (n := 1) hG9 rfl (by decide), ?_, FoC.single (hv9.mono fun b hb _ => ?_)⟩ (D := fun b => w.heap.size < b) ?_ _ _ _ |>.mono (fun b hb _ => Nat.le_of_lt hb)
     · intro b hb
       have hb : some w6.heap.size = some b := hb;injection hb with hb; show w.heap.size < b; omega
     · have hb : W5.heap.size ≤ b := hb
       show w.heap.size < b; omega
     · intro b hb; exact Nat.ne_of_gt hb
   · have hpre3 := prefix_one (s := r) (c := 93) (fun r' e => hr ⟨r', e⟩)
     have hnone : parseT s = none := by
      rw [HE.out, HQ.out];rcases r with _ | ⟨c, r⟩
      · rfl
      · split
        · rename_i h; simp only [Option.some.injEq, Prod.mk.injEq, List.cons.injEq] at h; exact absurd ⟨_, by rw [h.2.1]⟩ hr
        · rfl
     have HP : Hid (∀ e w', NextPost w rb s e w' ↔ (e = .panicked nonePanic ∧ Kept rb w w')) := by
      intro e w'; unfold NextPost; rw [hnone]
     clear hnone hr
     go_region_held2 (fun W => W.cell? ⟨Nd, 0, none⟩ = some (.func (.func 251) #[] #[]) ∧ W.cell? ⟨R, 0, none⟩ = some (.pointer (some ⟨rb, 0, none⟩))) (first | exact ⟨h7.drew.env.need, h7.drew.env.r⟩ | exact hfalse.out.elim)
      (first | (go_at_call 253; refine (take_no r [93] rb _ h7.drew.rest.cell hpre3).mono ?_; rintro e w9 ⟨rfl, rfl⟩) | (go_at_call 251; refine (need_no _).mono ?_; rintro e w0 ⟨rfl, rfl⟩; refine leave (by assumption) (show _ ∧ _ from ⟨rfl, (HP.out _ _).2 ⟨rfl, h7.drew.kept⟩⟩) { tmps := #[], defers := [] } W8.drew (fun hfalse => ?_)))
     all_goals exact hfalse.out.elim
set_option maxHeartbeats 6400000 in
theorem next_arr_arg (s s2 : List UInt8) (hm1 : s.length ≤ 1000) (hp : noPar s) (h0 : kind0 (s.take (cutN s)) = 0) (hkk : kindB (s.take (cutN s)) = 4) (hb : s.drop (cutN s) = 91 :: s2) (ih : NextOk s2) : NextOk s := by
 have hm : s.length ≤ maxLen := by unfold maxLen; omega
 intro R Nd X rb w ht he hs
 have hE := parseT_arg hp h0 (.inl hkk) hb
 have hpre := noPar_prefix hp
 have HK := Lib.hid (wk_word s)
 have HK2 := Lib.hid (wk_bracket (s.take (cutN s)))
 have hk0 : ((wk (s.take (cutN s)) : Int) != 0) = false := by rw [HK.out, h0]; rfl
 have hcle := cutN_le s
 have hwl : (s.take (cutN s)).length ≤ maxLen := by simp; omega
 have hk1 : ((wk (s.take (cutN s) ++ [91]) : Int) == 0) = false := by rw [HK2.out, hkk]; rfl
 have hk7 : ((wk (s.take (cutN s) ++ [91]) : Int) == 7) = false := by rw [HK2.out, hkk]; rfl
 have hk5 : ((wk (s.take (cutN s) ++ [91]) : Int) == 5) = false := by rw [HK2.out, hkk]; rfl
 have hk6 : ((wk (s.take (cutN s) ++ [91]) : Int) == 6) = false := by rw [HK2.out, hkk]; rfl
 have hk9 : (if kindB (s.take (cutN s)) = 4 then 4 else 7) = wk (s.take (cutN s) ++ [91]) := by rw [HK2.out, hkk]; rfl
 rw [hk9] at hE
 have HB := Lib.hid hb
 have HE := Lib.hid hE
 clear hE
 clear h0 hp hkk hk9
 have h1 := St.start ht he hs
 have a1 := h1.env.r
 go_enter Tryz.func252, Tryz.ntmps252
 go_wp2_with fail
 generalize w.alloc (.cells #[.int .u8 0, .string ⟨#[]⟩, .slice none 0 0] 174) = W1 at *
 refine (take_no s [63, 116] rb _ h1.rest.cell hpre).mono ?_
 rintro e w1 ⟨rfl, rfl⟩
 go_wp2_with fail
 refine (word_any' s rb _ hm h1.rest).mono ?_
 rintro e w2 ⟨rfl, hr2, hkp2⟩
 have h2 := h1.next hkp2 hr2
 have b1 := h2.env.r
 have b2 := h2.env.need
 rw [hb] at h2
 go_wp2_with (first | (go_at_call 255; refine (wk_any _ _).mono ?_; rintro e w0 ⟨rfl, rfl⟩) | (go_at_call 253; refine (take_yes' [91] s2 rb _ h2.rest).mono ?_; rintro e w3 ⟨rfl, hr3, hkp3⟩; have h3 := h2.next hkp3 hr3; have b3 := fun o => (h3.alloc o).env.need; have b5 := fun o => (h3.alloc o).env.next) | (go_at_call 251; refine (need_yes _).mono ?_; rintro e w0 ⟨rfl, rfl⟩))
 have h4 := h3
 have hx := heap_alloc_new w3 (.cells #[.int .u8 (wk (s.take (cutN s) ++ [91])), .string ⟨(s.take (cutN s)).toArray⟩, .slice none 0 0] 174)
 have h5 := h4.alloc (.cells #[.int .u8 (wk (s.take (cutN s) ++ [91])), .string ⟨(s.take (cutN s)).toArray⟩, .slice none 0 0] 174)
 have hB1 := h4.size
 have hB2 : w3.heap.size ≠ rb := by have := h4.lt; omega
 generalize hW5 : w3.alloc (.cells #[.int .u8 (wk (s.take (cutN s) ++ [91])), .string ⟨(s.take (cutN s)).toArray⟩, .slice none 0 0] 174) = W5 at *
 have hB3 : w3.heap.size < W5.heap.size := (Array.getElem?_eq_some_iff.1 hx).1
 clear hW5
 rcases hq : parseT s2 with _ | ⟨t, r⟩
 · have hnone : parseT s = none := by rw [HE.out, hq]
   have ih5 := ih R Nd X rb W5 h5.tab h5.env h5.rest;refine ih5.mono ?_;intro e w6 hpost;unfold NextPost at hpost;rw [hq] at hpost;obtain ⟨rfl, hk6⟩ := hpost;exact ⟨rfl, by unfold NextPost; rw [hnone]; exact ⟨rfl, h5.kept.trans hk6⟩⟩
 · have ih5 := ih R Nd X rb W5 h5.tab h5.env h5.rest
   have HQ := Lib.hid hq;refine ih5.mono ?_;intro e w6 hpost;unfold NextPost at hpost;rw [hq] at hpost;obtain ⟨⟨v, rfl, hv⟩, hr6, hk6⟩ := hpost;clear hq ih5 ih;have h6 := h5.next hk6 hr6
   have hx6 := hk6.heap hx hB2;have d2 := fun o => (cells_at ((Kept.alloc rb w6 o).heap hx6 hB2) 2).trans rfl
   have d2f := fun o => free_at ((Kept.alloc rb w6 o).heap hx6 hB2) 2
   go_wp2_with fail;have hG := heap_alloc_new w6 (.cells #[.string ⟨#[]⟩, .int .u8 t.k, .string ⟨t.n.toArray⟩, v] 192);have hGlt : w6.heap.size < (w6.alloc (.cells #[.string ⟨#[]⟩, .int .u8 t.k, .string ⟨t.n.toArray⟩, v] 192)).heap.size := by simp
   have hv7 := hv.below (B := w6.heap.size) ((Below.refl _ w6).alloc (nl _) (.cells #[.string ⟨#[]⟩, .int .u8 t.k, .string ⟨t.n.toArray⟩, v] 192)) (nl _);have hx7 := (Kept.alloc rb w6 (.cells #[.string ⟨#[]⟩, .int .u8 t.k, .string ⟨t.n.toArray⟩, v] 192)).heap hx6 hB2;have h7 := (h6.alloc (.cells #[.string ⟨#[]⟩, .int .u8 t.k, .string ⟨t.n.toArray⟩, v] 192)).set (B := w3.heap.size) hB1 2 (.slice (some ⟨w6.heap.size, 0, none⟩) 1 1);have hs6 := hk6.size;generalize hW7 : w6.alloc (.cells #[.string ⟨#[]⟩, .int .u8 t.k, .string ⟨t.n.toArray⟩, v] 192) = W7 at *;clear hW7;have hx8 := set_row hx7 2 (.slice (some ⟨w6.heap.size, 0, none⟩) 1 1);have hG8 : (W7.setCell ⟨w3.heap.size, 2, none⟩ (.slice (some ⟨w6.heap.size, 0, none⟩) 1 1)).heap[w6.heap.size]? = _ := (Below.heap_setCell _ _ _ _ (by simp; omega)).trans hG;have hv8 : FoV (W7.setCell ⟨w3.heap.size, 2, none⟩ (.slice (some ⟨w6.heap.size, 0, none⟩) 1 1)) (fun b => W5.heap.size ≤ b) t.sub v := hv7.kept fun b hb _ => Below.heap_setCell _ _ _ _ (by simp; omega)
   simp only [List.setIfInBounds_toArray, List.set_cons_zero, List.set_cons_succ] at hx8;generalize W7.setCell ⟨w3.heap.size, 2, none⟩ (.slice (some ⟨w6.heap.size, 0, none⟩) 1 1) = W8 at *;clear hx7 hG hv7 hx6 hx d2 d2f b3 b5
   by_cases hr : ∃ r', r = 93 :: r'
   · obtain ⟨r', rfl⟩ := hr
     have HP : Hid (parseT s = some (⟨(wk (s.take (cutN s) ++ [91])), s.take (cutN s), .one t⟩, r')) := by show _ = _; rw [HE.out, HQ.out]; rfl
     have g1 := h7.drew.env.need
     go_region_held3 (fun W => W.cell? ⟨Nd, 0, none⟩ = some (.func (.func 251) #[] #[]) ∧ W.cell? ⟨R, 0, none⟩ = some (.pointer (some ⟨rb, 0, none⟩))) (first | exact ⟨h7.drew.env.need, h7.drew.env.r⟩ | exact ⟨h9.env.need, h9.env.r⟩)
      (first | (go_at_call 253; refine (take_yes' [93] r' rb _ h7.drew.rest).mono ?_; rintro e w9 ⟨rfl, hr9, hk9⟩; have h9 := h7.drew.next hk9 hr9) | (go_at_call 251; refine (need_yes _).mono ?_; rintro e w0 ⟨rfl, rfl⟩))
     have h9 := h7.drew.next hk9 hr9
     have hx9 := hk9.heap (w := W8.drew) hx8 hB2;have hG9 := hk9.heap (w := W8.drew) hG8 (by have := h7.lt; omega);have hv9 : FoV w9 (fun b => W5.heap.size ≤ b) t.sub v := (hv8.kept (w := W8) (w' := W8.drew) (fun _ _ _ => rfl)).kept (w := W8.drew) (w' := w9) fun b hb hlt => hk9.block b hlt (by have := h7.lt; intro e; injection e with e; omega)
     have x0 := (cells_at hx9 0).trans rfl;have x1 := (cells_at hx9 1).trans rfl;have x2 := (cells_at hx9 2).trans rfl;obtain ⟨⟨c0, c1, c2⟩, f0, f1, f2⟩ := h9.resc;go_wp2_with fail;refine bodyPost_ret (v := .agg #[.int .u8 (wk (s.take (cutN s) ++ [91])), str (s.take (cutN s)), .slice (some ⟨w6.heap.size, 0, none⟩) 1 1]) (by simp [results, Tryz.results252, go_sem, c0, c1, c2]) rfl ?_;unfold NextPost;rw [HP.out];obtain ⟨q1, q2⟩ := h9.done (.int .u8 (wk (s.take (cutN s) ++ [91]))) (str (s.take (cutN s))) (.slice (some ⟨w6.heap.size, 0, none⟩) 1 1);refine ⟨⟨_, rfl, ?_⟩, q1, q2⟩;refine FoV.set3 ⟨_, own_lit (n := 1) hG9 rfl (by decide), ?_, FoC.single (hv9.mono fun b hb _ => ?_)⟩ (D := fun b => w.heap.size < b) ?_ _ _ _ |>.mono (fun b hb _ => Nat.le_of_lt hb)
     · intro b hb
       have hb : some w6.heap.size = some b := hb;injection hb with hb; show w.heap.size < b; omega
     · have hb : W5.heap.size ≤ b := hb
       show w.heap.size < b; omega
     · intro b hb; exact Nat.ne_of_gt hb
   · have hpre3 := prefix_one (s := r) (c := 93) (fun r' e => hr ⟨r', e⟩)
     have hnone : parseT s = none := by
      rw [HE.out, HQ.out];rcases r with _ | ⟨c, r⟩
      · rfl
      · split
        · rename_i h; simp only [Option.some.injEq, Prod.mk.injEq, List.cons.injEq] at h; exact absurd ⟨_, by rw [h.2.1]⟩ hr
        · rfl
     have HP : Hid (∀ e w', NextPost w rb s e w' ↔ (e = .panicked nonePanic ∧ Kept rb w w')) := by
      intro e w'; unfold NextPost; rw [hnone]
     clear hnone hr
     go_region_held2 (fun W => W.cell? ⟨Nd, 0, none⟩ = some (.func (.func 251) #[] #[]) ∧ W.cell? ⟨R, 0, none⟩ = some (.pointer (some ⟨rb, 0, none⟩))) (first | exact ⟨h7.drew.env.need, h7.drew.env.r⟩ | exact hfalse.out.elim)
      (first | (go_at_call 253; refine (take_no r [93] rb _ h7.drew.rest.cell hpre3).mono ?_; rintro e w9 ⟨rfl, rfl⟩) | (go_at_call 251; refine (need_no _).mono ?_; rintro e w0 ⟨rfl, rfl⟩; refine leave (by assumption) (show _ ∧ _ from ⟨rfl, (HP.out _ _).2 ⟨rfl, h7.drew.kept⟩⟩) { tmps := #[], defers := [] } W8.drew (fun hfalse => ?_)))
     all_goals exact hfalse.out.elim
end Go.Proofs.YtakgjcfkdemipaaGreatDoor
