/-
  The walk of the statement KindLevels: it answers true. Condition: the variable strings.asciiSpace; the texts' bound.
-/
import Derived.Test.YtakdmnhpoelepaaGreatDoorPInside
namespace Go.Proofs.YtakdmnhpoelepaaGreatDoor
open Go.RowKit

theorem withK_len (t a : List UInt8) : (withK t a).1.length ≤ 100 := by
  rcases h : withK t a with ⟨x, c⟩
  by_cases hc : c = 0
  · subst hc
    obtain ⟨_, _, _, _, _, k⟩ := withK_ok h
    exact (checkK_ok k).2.2.1
  · unfold withK at h
    split at h
    · unfold toldK at h
      split at h
      · simp only [Prod.mk.injEq] at h; rw [← h.1]; simp
      · simp only [Prod.mk.injEq] at h; exact absurd h.2.symm hc
    · simp only [Prod.mk.injEq] at h; rw [← h.1]; simp
theorem levelK_le (t : List UInt8) : levelK t ≤ 6 := by
  unfold levelK
  split
  · rename_i h
    exact (checkK_ok (s := t) (t := (checkK t).2) (by rw [← h])).2.2.2
  · omega
theorem levelK_pos {t : List UInt8} (h : (checkK t).1 = 0) : 1 ≤ levelK t := by
  unfold levelK
  rw [if_pos h]
  unfold Tr.level
  omega

theorem wl_long (t a : List UInt8) (w : World) (ht : Tab w) (h : (decide (t.length ≤ 400) && decide (a.length ≤ 400)) = false) :
    Calls Tryz.prog 8 #[str t, str a] w fun e w' => e = .returned (.bool true) ∧ Below w.heap.size w w' := by
  have hs := short2 t a w false h
  go_enter Tryz.func8, Tryz.ntmps8
  go_wp2_with (first
    | (go_at_call 13; refine hs.mono ?_; clear hs; rintro e wk ⟨rfl, hbk⟩; have hB := hbk)
    | (go_at_call 14; refine (aKept _ (ht.below hB (Nat.le_refl _))).mono ?_; rintro e wk ⟨rfl, hbk⟩; have hB := hB.trans (below_less hbk hB.size)))
  go_ret
  exact ⟨rfl, hB⟩
theorem wl_bad (t a : List UInt8) (n c : Nat) (w : World) (ht : Tab w) (h : (decide (t.length ≤ 400) && decide (a.length ≤ 400)) = true)
    (h1 : Ans 27 #[str t] (.tuple #[.int .i64 n, .int .i64 c])) (h2 : ∀ W, Tab W → Calls Tryz.prog 19 #[str t] W fun e w' => ∃ v, e = .returned (.tuple #[v, .int .i64 c]) ∧ Strs w' v [] ∧ Below W.heap.size W w') (hc : c ≠ 0) :
    Calls Tryz.prog 8 #[str t, str a] w fun e w' => e = .returned (.bool true) ∧ Below w.heap.size w w' := by
  have hs := short2 t a w true h
  obtain ⟨g1, g2⟩ := nat_ne0 hc
  go_enter Tryz.func8, Tryz.ntmps8
  go_wp2_with (first
    | (go_at_call 13; refine hs.mono ?_; clear hs; rintro e wk ⟨rfl, hbk⟩; have hB := hbk)
    | (go_at_call 27; refine (h1 _ (ht.below hB (Nat.le_refl _))).mono ?_; clear h1; rintro e wk ⟨rfl, hbk⟩; have hB := hB.trans (below_less hbk hB.size))
    | (go_at_call 19; refine (h2 _ (ht.below hB (Nat.le_refl _))).mono ?_; clear h2; rintro e wi ⟨v, rfl, hv, hbk⟩; obtain ⟨pv, cv, rfl⟩ := hv.sh; have hB := hB.trans (below_less hbk hB.size))
    | (go_at_call 14; refine (aKept _ (ht.below hB (Nat.le_refl _))).mono ?_; rintro e wk ⟨rfl, hbk⟩; have hB := hB.trans (below_less hbk hB.size)))
  go_ret
  exact ⟨rfl, hB⟩
set_option maxRecDepth 4000 in
set_option maxHeartbeats 6400000 in
theorem wl_good (t a x : List UInt8) (L : List (List UInt8)) (n m k c g j : Nat) (w : World) (ht : Tab w) (h : (decide (t.length ≤ 400) && decide (a.length ≤ 400)) = true)
    (h1 : Ans 27 #[str t] (.tuple #[.int .i64 n, .int .i64 0])) (h2 : ∀ W, Tab W → Calls Tryz.prog 19 #[str t] W fun e w' => ∃ v, e = .returned (.tuple #[v, .int .i64 0]) ∧ Strs w' v L ∧ Below W.heap.size W w')
    (hr : ∀ i s, L[i]? = some s → (i = 0 ∧ s = t) ∨ (i ≠ 0 ∧ (s == t) = false ∧ ∃ q : Nat, q < n ∧ Ans 27 #[str s] (.tuple #[.int .i64 q, .int .i64 0]))) (hl : L.length ≤ 100) (hl0 : 0 < L.length)
    (h5 : Ans 27 #[str a] (.tuple #[.int .i64 m, .int .i64 g])) (h6 : Ans 15 #[str t, str a] (.tuple #[str x, .int .i64 c])) (h7 : Ans 27 #[str x] (.tuple #[.int .i64 k, .int .i64 j]))
    (hn1 : 1 ≤ n) (hn6 : n ≤ 6) (hm : m ≤ 6) (hend : c ≠ 0 ∨ (c = 0 ∧ g = 0 ∧ j = 0 ∧ k + 1 ≤ n + m)) :
    Calls Tryz.prog 8 #[str t, str a] w fun e w' => e = .returned (.bool true) ∧ Below w.heap.size w w' := by
  have hs := short2 t a w true h
  have HR := Lib.hid hr
  have h1' := h1
  have HE := Lib.hid hend
  clear hr hend
  go_enter Tryz.func8, Tryz.ntmps8
  go_wp2_with (first
    | (go_at_call 13; refine hs.mono ?_; clear hs; rintro e wk ⟨rfl, hbk⟩; have hB := hbk)
    | (go_at_call 27; refine (h1 _ (ht.below hB (Nat.le_refl _))).mono ?_; clear h1; rintro e wk ⟨rfl, hbk⟩; have hB := hB.trans (below_less hbk hB.size))
    | (go_at_call 19; refine (h2 _ (ht.below hB (Nat.le_refl _))).mono ?_; clear h2; rintro e wi ⟨v, rfl, hv, hbk⟩; obtain ⟨pv, cv, rfl⟩ := hv.sh; have hB := hB.trans (below_less hbk hB.size)))
  go_loopw [9] (fun y wx => ∃ i : Nat, i ≤ L.length ∧ y = .int .i64 i ∧ Below w.heap.size w wx ∧ Below wi.heap.size wi wx) (fun y _ => L.length - (intOf y).toNat)
  case atStart => exact ⟨0, Nat.zero_le _, by go_num, hB, Below.refl _ _⟩
  case round =>
    clear hB
    obtain ⟨i, hi, rfl, hB, hBi⟩ := hrel
    by_cases hlt : i < L.length
    case pos =>
      obtain ⟨s, hks⟩ : ∃ s, L[i]? = some s := ⟨_, List.getElem?_eq_getElem hlt⟩
      have hvx := hv.below hBi (Nat.le_refl _)
      obtain ⟨b1, o1, rfl, c1⟩ := hvx.at hks
      rcases HR.out i s hks with ⟨rfl, rfl⟩ | ⟨hi0, hne, q, hq, h3⟩
      · rw [Nat.add_zero] at c1
        clear hks hvx
        go_wp2_with (go_at_call 27; refine (h1' _ (ht.below hB (Nat.le_refl _))).mono ?_; rintro e wk ⟨rfl, hbk⟩; have hB := hB.trans (below_less hbk hB.size); have c1 := Below.keep hbk c1; have hBi := hBi.trans (below_less hbk hBi.size))
        exact ⟨⟨1, by omega, by go_num, hB, hBi⟩, by simp only [intOf]; omega⟩
      · have hi1 : ((i : Int) == 0) = false := (nat_ne0 hi0).1
        have hi2 : (0 : Int) < (i : Int) := by omega
        have hq' : decide (n ≤ q) = false := by rw [decide_eq_false_iff_not]; omega
        clear hks hvx
        go_wp2_with (go_at_call 27; refine (h3 _ (ht.below hB (Nat.le_refl _))).mono ?_; rintro e wk ⟨rfl, hbk⟩; have hB := hB.trans (below_less hbk hB.size); have c1 := Below.keep hbk c1; have hBi := hBi.trans (below_less hbk hBi.size))
        exact ⟨⟨i + 1, by omega, by go_num, hB, hBi⟩, by simp only [intOf]; omega⟩
    case neg =>
      have hl1 : (0 : Int) < (L.length : Int) := by omega
      have hn1' : (1 : Int) ≤ (n : Int) := by omega
      have hn6' : (n : Int) ≤ 6 := by omega
      rcases HE.out with hc | ⟨rfl, rfl, rfl, hk⟩
      · obtain ⟨e1, e2⟩ := nat_ne0 hc
        clear hc
        go_wp2_with (first
        | (go_at_call 27; refine (h5 _ (ht.below hB (Nat.le_refl _))).mono ?_; clear h5; rintro e wk ⟨rfl, hbk⟩; have hB := hB.trans (below_less hbk hB.size))
        | (go_at_call 15; refine (h6 _ (ht.below hB (Nat.le_refl _))).mono ?_; clear h6; rintro e wk ⟨rfl, hbk⟩; have hB := hB.trans (below_less hbk hB.size))
        | (go_at_call 27; refine (h7 _ (ht.below hB (Nat.le_refl _))).mono ?_; clear h7; rintro e wk ⟨rfl, hbk⟩; have hB := hB.trans (below_less hbk hB.size))
        | (go_at_call 14; refine (aKept _ (ht.below hB (Nat.le_refl _))).mono ?_; rintro e wk ⟨rfl, hbk⟩; have hB := hB.trans (below_less hbk hB.size)))
        go_ret
        exact ⟨rfl, hB⟩
      · have hk' : (k : Int) ≤ (n : Int) + (m : Int) - 1 := by omega
        clear hk
        go_wp2_with (first
        | (go_at_call 27; refine (h5 _ (ht.below hB (Nat.le_refl _))).mono ?_; clear h5; rintro e wk ⟨rfl, hbk⟩; have hB := hB.trans (below_less hbk hB.size))
        | (go_at_call 15; refine (h6 _ (ht.below hB (Nat.le_refl _))).mono ?_; clear h6; rintro e wk ⟨rfl, hbk⟩; have hB := hB.trans (below_less hbk hB.size))
        | (go_at_call 27; refine (h7 _ (ht.below hB (Nat.le_refl _))).mono ?_; clear h7; rintro e wk ⟨rfl, hbk⟩; have hB := hB.trans (below_less hbk hB.size))
        | (go_at_call 14; refine (aKept _ (ht.below hB (Nat.le_refl _))).mono ?_; rintro e wk ⟨rfl, hbk⟩; have hB := hB.trans (below_less hbk hB.size)))
        go_ret
        exact ⟨rfl, hB⟩
/-- KindLevels answers true. -/
theorem wlevels (t a : List UInt8) (w : World) (ht : Tab w) : Calls Tryz.prog 8 #[str t, str a] w fun e w' => e = .returned (.bool true) ∧ Below w.heap.size w w' := by
  rcases h : (decide (t.length ≤ 400) && decide (a.length ≤ 400)) with _ | _
  · exact wl_long t a w ht h
  · have hl := h
    simp only [Bool.and_eq_true, decide_eq_true_eq] at hl
    obtain ⟨lt, la⟩ := hl
    have h1 := aLevel lt
    have h2 : ∀ W, Tab W → Calls Tryz.prog 19 #[str t] W fun e w' => ∃ v, e = .returned (.tuple #[v, .int .i64 (insideK t).2]) ∧ Strs w' v (insideK t).1 ∧ Below W.heap.size W w' := by
      intro W hW
      exact (kinside_any t (small400 lt) W hW).mono fun e w' ⟨v, k1, k2, k3⟩ => ⟨v, k1, Sl.of_own (by simpa [strsC] using k2), k3⟩
    rcases hq : checkK t with ⟨c, T⟩
    by_cases hc : c = 0
    · subst hc
      obtain ⟨r, e1, e2, e3⟩ := insideK_list hq
      rw [e1] at h2
      have hlT : levelK t = T.level := by unfold levelK; rw [hq]; rfl
      rcases hw : withK t a with ⟨x, c⟩
      have hx := withK_len t a
      rw [hw] at hx
      have hp := levelK_pos (t := t) (by rw [hq])
      rw [hq] at h1
      refine wl_good t a x (t :: r) _ _ _ c _ _ w ht h h1 h2 ?_ e2 (by simp) (aLevel la) (aWith lt la hw) (aLevel (by simp only at hx; omega)) hp (levelK_le t) (levelK_le a) ?_
      · intro i s hs
        cases i with
        | zero => exact .inl ⟨rfl, by simpa using hs.symm⟩
        | succ i =>
        rw [List.getElem?_cons_succ] at hs
        obtain ⟨d1, U, d2, d3, d4⟩ := e3 s (List.mem_of_getElem? hs)
        refine .inr ⟨by omega, by simpa using d1, levelK s, ?_, ?_⟩
        · rw [hlT]; unfold levelK; rw [d2]; exact d4
        · have := aLevel (s := s) (by omega)
          rw [d2] at this
          exact this
      · by_cases hc : c = 0
        · subst hc
          obtain ⟨k1, k2, k3⟩ := withK_level hw
          exact .inr ⟨rfl, k1, k2, k3⟩
        · exact .inl hc
    · have e1 : insideK t = ([], c) := by unfold insideK; rw [hq, if_neg hc]
      rw [e1] at h2
      rw [hq] at h1
      exact wl_bad t a _ c w ht h h1 h2 hc
end Go.Proofs.YtakdmnhpoelepaaGreatDoor
