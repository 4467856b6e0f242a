/-
  Contracts: reserved words and names, the program's (token.IsName and what it calls) and the reference's (argusref01.IsName and what it calls).
-/
import Derived.Test.YtakdmnhpoelepaaGreatDoorPlain0
import Derived.Test.YtakdmnhpoelepaaGreatDoorSets
import Derived.Test.YtakdmnhpoelepaaGreatDoorShelf
import Derived.WalkSmall
import Derived.Shelf.Abstract
namespace Go.Proofs.YtakdmnhpoelepaaGreatDoor
open Go.RowKit

set_option maxHeartbeats 400000 in
theorem in_any (v : Value) (ss : List (List UInt8)) (s : List UInt8) (w : World) (hv : Strs w v ss) :
    Calls Tryz.prog 112 #[v, str s] w fun e w' => e = .returned (.bool (hasB ss s)) ∧ w = w' := by
  rcases hv.shape with ⟨rfl, rfl⟩ | ⟨b, o, cap, rfl, hm, hc⟩
  · go_enter Tryz.func112, Tryz.ntmps112
    go_wp2
    refine wp_loop_rounds 1 ?_
    rw [rounds_succ]
    go_wp2
    go_ret
    exact ⟨rfl, rfl⟩
  · unfold maxLen at hm
    go_enter Tryz.func112, Tryz.ntmps112
    go_wp2
    go_loop [5] (fun i => ∃ k : Nat, k ≤ ss.length ∧ hasB (ss.take k) s = false ∧ i = .int .i64 k) (fun i => ss.length - (intOf i).toNat)
    case atStart => exact ⟨0, by omega, hasB_zero _ _, rfl⟩
    case round =>
      obtain ⟨k, hk, hn, rfl⟩ := hrel
      have Hn := Lib.hid hn
      clear hn
      by_cases hlt : k < ss.length
      · have hck := hc k hlt
        clear hc
        cases he : (ss[k] == s)
        · have Hs := Lib.hid (hasB_take_succ ss s k hlt Hn.out he)
          go_wp2
          go_round
          case rel => exact ⟨k + 1, by omega, Hs.out, by go_num⟩
          case measure => simp [intOf]; omega
        · have Hs := Lib.hid (hasB_hit ss s k hlt he)
          go_wp2
          go_ret
          exact ⟨ret_bool Hs.out.symm, rfl⟩
      · have Hs := Lib.hid (hasB_end ss s k hlt Hn.out)
        clear hc
        go_wp2
        go_ret
        exact ⟨ret_bool Hs.out.symm, rfl⟩

set_option maxRecDepth 100000 in
theorem words_any (w : World) : Calls Tryz.prog 113 #[] w fun e w' => ∃ v, e = .returned v ∧ Strs w' v wordsL ∧ Below w.heap.size w w' := by
  go_enter Tryz.func113, Tryz.ntmps113
  go_wp2
  go_ret
  exact ⟨_, rfl, strs_new w wordsL 9 _ 46 (by decide), (Below.refl _ _).alloc (Nat.le_refl _) _⟩

theorem rIsWord_any (s : List UInt8) (w : World) : Calls Tryz.prog 91 #[str s] w fun e w' => e = .returned (.bool (isWord s)) ∧ Below w.heap.size w w' := by
  go_enter Tryz.func91, Tryz.ntmps91
  go_wp2_with fail
  refine (words_any _).mono ?_
  rintro e w1 ⟨v, rfl, hv, hb⟩
  go_wp2_with fail
  refine (in_any _ _ _ _ hv).mono ?_
  rintro e w2 ⟨rfl, rfl⟩
  go_wp2_with fail
  go_ret
  exact ⟨rfl, hb⟩

/-- The cases of a name, each test of the chain decided. -/
theorem name_cases (s : List UInt8) : (s = [] ∧ isName s = false) ∨ (∃ h : 0 < s.length, (12 < s.length ∧ isName s = false) ∨ (s.length ≤ 12 ∧
    (((((s[0]).toNat : Int) < 97 ∨ (122 : Int) < ((s[0]).toNat : Int)) ∧ isName s = false) ∨ ((97 : Int) ≤ ((s[0]).toNat : Int) ∧ ((s[0]).toNat : Int) ≤ 122 ∧
      ((cutN s ≠ s.length ∧ isName s = false) ∨ (cutN s = s.length ∧ ((isWord s = true ∧ isName s = false) ∨ (isWord s = false ∧ isName s = true)))))))) := by
  cases s with
  | nil => exact .inl ⟨rfl, rfl⟩
  | cons c r =>
    refine .inr ⟨by simp, ?_⟩
    simp only [List.getElem_cons_zero]
    by_cases h1 : (c :: r).length ≤ 12
    · refine .inr ⟨h1, ?_⟩
      by_cases h2 : low c = true
      · have h2' := h2
        simp only [low, Bool.and_eq_true, decide_eq_true_eq] at h2'
        refine .inr ⟨by omega, by omega, ?_⟩
        by_cases h3 : cutN (c :: r) = (c :: r).length
        · refine .inr ⟨h3, ?_⟩
          cases h4 : isWord (c :: r)
          · exact .inr ⟨rfl, by simp only [isName, h1, h2, h3, h4]; rfl⟩
          · exact .inl ⟨rfl, by simp only [isName, h1, h2, h3, h4]; rfl⟩
        · exact .inl ⟨h3, by simp only [isName, h1, h2, h3]; simp⟩
      · have h2' := h2
        simp only [low, Bool.and_eq_true, decide_eq_true_eq] at h2'
        simp only [Bool.not_eq_true] at h2
        refine .inl ⟨by omega, by simp only [isName, h2]; simp⟩
    · exact .inl ⟨by omega, by simp only [isName]; simp at h1 ⊢; intro h; omega⟩

set_option maxHeartbeats 800000 in
theorem rIsName_any (s : List UInt8) (w : World) (hl : s.length ≤ maxLen) : Calls Tryz.prog 66 #[str s] w fun e w' => e = .returned (.bool (isName s)) ∧ Below w.heap.size w w' := by
  have hl' := hl
  unfold maxLen at hl'
  rcases name_cases s with ⟨rfl, hn⟩ | ⟨h0, ⟨h1, hn⟩ | ⟨h1, ⟨h2, hn⟩ | ⟨h2, h3, ⟨h4, hn⟩ | ⟨h4, ⟨h5, hn⟩ | ⟨h5, hn⟩⟩⟩⟩⟩
  · have HN := Lib.hid hn
    clear hn
    go_enter Tryz.func66, Tryz.ntmps66
    go_wp2_with fail
    go_ret
    exact ⟨ret_bool HN.out.symm, Below.refl _ _⟩
  · have HN := Lib.hid hn
    clear hn
    go_enter Tryz.func66, Tryz.ntmps66
    go_wp2_with fail
    go_ret
    exact ⟨ret_bool HN.out.symm, Below.refl _ _⟩
  · have HN := Lib.hid hn
    clear hn
    rcases h2 with h2 | h2
    all_goals
      go_enter Tryz.func66, Tryz.ntmps66
      go_wp2
      go_ret
      exact ⟨ret_bool HN.out.symm, Below.refl _ _⟩
  · have HN := Lib.hid hn
    have hc := cutN_le s
    have hc2 : ((cutN s : Int) == (s.length : Int)) = false := by simp; omega
    clear hn h4
    go_enter Tryz.func66, Tryz.ntmps66
    go_wp2_with (first | (go_at_call 90; refine (run_any _ _ hl).mono ?_; rintro e w1 ⟨rfl, rfl⟩) | (go_at_call 89; go_in))
    go_ret
    exact ⟨ret_bool HN.out.symm, Below.refl _ _⟩
  all_goals
    have HN := Lib.hid hn
    have hc := cutN_le s
    have hc2 : ((cutN s : Int) == (s.length : Int)) = true := by simp; omega
    clear hn h4
    go_enter Tryz.func66, Tryz.ntmps66
    go_wp2_with (first | (go_at_call 90; refine (run_any _ _ hl).mono ?_; rintro e w1 ⟨rfl, rfl⟩) | (go_at_call 89; go_in) | (go_at_call 91; refine (rIsWord_any _ _).mono ?_; rintro e w1 ⟨rfl, hb⟩))
    go_ret
    exact ⟨ret_bool HN.out.symm, hb⟩
end Go.Proofs.YtakdmnhpoelepaaGreatDoor
