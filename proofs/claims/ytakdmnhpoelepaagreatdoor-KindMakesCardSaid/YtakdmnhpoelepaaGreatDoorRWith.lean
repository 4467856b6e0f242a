/-
  Contracts: the reference's limited, With, Match (argusref03), in the words of the program's contracts. Condition: the texts' length.
-/
import Derived.Test.YtakdmnhpoelepaaGreatDoorRTop
import Derived.Test.YtakdmnhpoelepaaGreatDoorLaw0
namespace Go.Proofs.YtakdmnhpoelepaaGreatDoor
open Go.RowKit

theorem blwN {B : Nat} {a w : World} (h : Below B a w) (n : Nat) : Below B a (w.drewN n) := h.trans ⟨rfl, rfl, rfl, Nat.le_refl _, fun _ _ => rfl⟩
set_option maxRecDepth 4000 in
set_option maxHeartbeats 3200000 in
/-- limited of a text that is a type: told. -/
theorem rlimited_any (s : List UInt8) (hm : s.length ≤ maxLen) (w : World) : Calls Tryz.prog 51 #[str s] w fun e w' => e = .returned (.tuple #[str (if (checkK s).1 = 0 then s else []), .int .i64 (if (checkK s).1 = 0 then 0 else 2 : Nat)]) ∧ Below w.heap.size w w' := by
  have hC := rcheck_any s hm w
  by_cases hc : (checkK s).1 = 0
  · rw [if_pos hc, if_pos hc]
    rw [hc] at hC
    clear hc
    go_enter Tryz.func51, Tryz.ntmps51
    go_wp2_with (go_at_call 32; refine hC.mono ?_; clear hC; rintro e w1 ⟨rfl, hb1⟩)
    go_ret2
    exact ⟨rfl, hb1⟩
  · rw [if_neg hc, if_neg hc]
    generalize (checkK s).1 = C at hC hc
    obtain ⟨g1, g2⟩ := nat_ne0 hc
    clear hc
    go_enter Tryz.func51, Tryz.ntmps51
    go_wp2_with (go_at_call 32; refine hC.mono ?_; clear hC; rintro e w1 ⟨rfl, hb1⟩)
    go_ret2
    exact ⟨rfl, hb1⟩
theorem toldK_limited {t : Tr} (h : t.ok) : (if (checkK t.txt).1 = 0 then t.txt else []) = (toldK t).1 ∧ (if (checkK t.txt).1 = 0 then 0 else 2 : Nat) = (toldK t).2 := by
  unfold toldK
  rw [checkK_of h]
  split <;> simp
theorem rlimited_told {t : Tr} (h : t.ok) (hm : t.txt.length ≤ maxLen) (w : World) : Calls Tryz.prog 51 #[str t.txt] w fun e w' => e = .returned (.tuple #[str (toldK t).1, .int .i64 (toldK t).2]) ∧ Below w.heap.size w w' := by
  have hC := rlimited_any t.txt hm w
  rw [(toldK_limited h).1, (toldK_limited h).2] at hC
  exact hC

theorem subst_at {a s : List UInt8} {k : Nat} (hk : k < s.length) (hc : s[k] ≠ 63) : subst a (s.drop k) = s[k] :: subst a (s.drop (k + 1)) := by
  rw [List.drop_eq_getElem_cons hk, subst_other _ _ _ hc]
theorem subst_hit {a s : List UInt8} {k : Nat} (hk : k < s.length) (hc : s[k] = 63) : subst a (s.drop k) = a ++ subst a (s.drop (k + 2)) := by
  rw [List.drop_eq_getElem_cons hk, hc]
  by_cases h : k + 1 < s.length
  · rw [List.drop_eq_getElem_cons h, subst_two]
  · rw [List.drop_of_length_le (by omega), List.drop_of_length_le (by omega)]
    simp [subst]
theorem drop_take_one {s : List UInt8} {k : Nat} (hk : k < s.length) : List.drop k (List.take (k + 1) s) = [s[k]] := by
  rw [List.drop_take, show k + 1 - k = 1 from by omega, List.drop_eq_getElem_cons hk]
  rfl
set_option maxRecDepth 4000 in
set_option maxHeartbeats 3200000 in
/-- Both texts are types: the loop. -/
theorem rwith_good (s u : List UInt8) (t a : Tr) (hs : checkK s = (0, t)) (hu : checkK u = (0, a)) (w : World) :
    Calls Tryz.prog 16 #[str s, str u] w fun e w' => e = .returned (.tuple #[str (toldK (t.put a)).1, .int .i64 (toldK (t.put a)).2]) ∧ Below w.heap.size w w' := by
  obtain ⟨h1, h2, h3, _⟩ := checkK_ok hs
  obtain ⟨k1, k2, k3, _⟩ := checkK_ok hu
  have hC := fun W => rcheck_any s (by unfold maxLen; omega) W
  have hD := fun W => rcheck_any u (by unfold maxLen; omega) W
  rw [hs] at hC
  rw [hu] at hD
  have hX : subst u s = (t.put a).txt := by rw [← h2, ← k2, h1.subst]
  have hL := fun W hm => rlimited_told (k1.put h1) hm W
  generalize (toldK (t.put a)).1 = R at hL ⊢
  generalize (toldK (t.put a)).2 = E at hL ⊢
  generalize (t.put a).txt = X at hX hL
  have HX := Lib.hid hX
  have HL := Lib.hid hL
  clear hX hL hs hu h1 h2 k1 k2
  go_enter Tryz.func16, Tryz.ntmps16
  go_wp2_with (first
    | (go_at_call 32; refine (hC _).mono ?_; clear hC; rintro e w1 ⟨rfl, hb1⟩)
    | (go_at_call 32; refine (hD _).mono ?_; clear hD; rintro e w2 ⟨rfl, hb2⟩))
  have hb := hb1.trans (below_less hb2 hb1.size)
  clear hb1 hb2
  go_loop [7, 8] (fun x i => ∃ (k : Nat) (o : List UInt8), k ≤ s.length + 1 ∧ o.length ≤ 100 * k ∧ Hid (subst u s = o ++ subst u (s.drop k)) ∧ x = str o ∧ i = .int .i64 k) (fun _ i => s.length + 1 - (intOf i).toNat)
  case atStart => exact ⟨0, [], by omega, by simp, rfl, rfl, rfl⟩
  case round =>
    obtain ⟨k, o, hk, ho, HO, rfl, rfl⟩ := hrel
    by_cases hlt : k < s.length
    · have b1 : ¬ 9223372036854775807 < o.length + u.length := by omega
      by_cases hc : s[k] = 63
      · have HS := Lib.hid (show subst u s = (o ++ u) ++ subst u (s.drop (k + 2)) by rw [HO.out, subst_hit hlt hc]; simp)
        have g : (((s[k]).toNat : Int) == 63) = true := by rw [hc]; rfl
        clear hc
        go_wp2_with fail
        go_round
        case rel => exact ⟨k + 2, o ++ u, by omega, by simp only [List.length_append]; omega, HS.out, rfl, by go_num⟩
        case measure => simp [intOf]; omega
      · have HS := Lib.hid (show subst u s = (o ++ List.drop k (List.take (k + 1) s)) ++ subst u (s.drop (k + 1)) by rw [HO.out, subst_at hlt hc, drop_take_one hlt]; simp)
        have g : (((s[k]).toNat : Int) == 63) = false := by rw [beq_eq_false_iff_ne]; exact u8_ne (d := 63) hc
        have b2 : ¬ 9223372036854775807 < o.length + 1 := by omega
        have hl1 : (List.drop k (List.take (k + 1) s)).length = 1 := by rw [drop_take_one hlt]; rfl
        have HL1 := Lib.hid hl1
        clear hc hl1
        go_wp2_with fail
        go_round
        case rel => exact ⟨k + 1, o ++ List.drop k (List.take (k + 1) s), by omega, by rw [List.length_append, HL1.out]; omega, HS.out, rfl, by go_num⟩
        case measure => simp [intOf]; omega
    · have HS : Hid (X = o) := by
        show X = o
        rw [← HX.out, HO.out, List.drop_of_length_le (by omega)]
        simp [subst]
      have hm : o.length ≤ maxLen := by unfold maxLen; omega
      obtain rfl : X = o := HS.out
      go_wp2_with (go_at_call 51; refine (HL.out _ hm).mono ?_; rintro e w3 ⟨rfl, hb3⟩)
      go_ret2
      exact ⟨rfl, hb.trans (below_less hb3 hb.size)⟩
set_option maxRecDepth 4000 in
set_option maxHeartbeats 3200000 in
theorem rwith_bad (s u : List UInt8) (ms : s.length ≤ maxLen) (mu : u.length ≤ maxLen) (c : Nat) (hc : (twoK s u).2.2 = c) (h0 : c ≠ 0) (w : World) :
    Calls Tryz.prog 16 #[str s, str u] w fun e w' => e = .returned (.tuple #[str [], .int .i64 c]) ∧ Below w.heap.size w w' := by
  have hC := fun W => rcheck_any s ms W
  have hD := fun W => rcheck_any u mu W
  unfold twoK at hc
  obtain ⟨g1, g2⟩ := nat_ne0 h0
  by_cases h1 : (checkK s).1 = 0
  · rw [if_pos h1] at hc
    rw [h1] at hC
    simp only at hc
    rw [hc] at hD
    clear hc h1 h0
    go_enter Tryz.func16, Tryz.ntmps16
    go_wp2_with (first
      | (go_at_call 32; refine (hC _).mono ?_; clear hC; rintro e w1 ⟨rfl, hb1⟩)
      | (go_at_call 32; refine (hD _).mono ?_; clear hD; rintro e w2 ⟨rfl, hb2⟩))
    go_ret2
    exact ⟨rfl, hb1.trans (below_less hb2 hb1.size)⟩
  · rw [if_neg h1] at hc
    simp only at hc
    rw [hc] at hC
    clear hc h1 h0
    go_enter Tryz.func16, Tryz.ntmps16
    go_wp2_with (go_at_call 32; refine (hC _).mono ?_; clear hC; rintro e w1 ⟨rfl, hb1⟩)
    go_ret2
    exact ⟨rfl, hb1⟩
theorem rwith_any (s u : List UInt8) (ms : s.length ≤ maxLen) (mu : u.length ≤ maxLen) (w : World) :
    Calls Tryz.prog 16 #[str s, str u] w fun e w' => e = .returned (.tuple #[str (withK s u).1, .int .i64 (withK s u).2]) ∧ Below w.heap.size w w' := by
  by_cases hc : (twoK s u).2.2 = 0
  · rcases hq : twoK s u with ⟨t, a, c⟩
    rw [hq] at hc
    simp only at hc
    subst hc
    obtain ⟨h3, h4⟩ := twoK_ok hq
    rw [withK_eq h3 h4]
    exact rwith_good s u t a h3 h4 w
  · rw [show withK s u = ([], (twoK s u).2.2) by unfold withK; rw [if_neg hc]]
    exact rwith_bad s u ms mu _ rfl hc w
end Go.Proofs.YtakdmnhpoelepaaGreatDoor
