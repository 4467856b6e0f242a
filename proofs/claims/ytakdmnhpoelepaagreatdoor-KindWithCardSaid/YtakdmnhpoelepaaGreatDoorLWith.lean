/-
  The walk of the statement KindWith: it answers true. Condition: the variable strings.asciiSpace; the texts' bound.
-/
import Derived.Test.YtakdmnhpoelepaaGreatDoorRMatch
namespace Go.Proofs.YtakdmnhpoelepaaGreatDoor
open Go.RowKit

theorem aRWith {s u x : List UInt8} {c : Nat} (hs : s.length ≤ 400) (hu : u.length ≤ 400) (h : withK s u = (x, c)) : Ans 16 #[str s, str u] (.tuple #[str x, .int .i64 c]) := by
  intro W ht
  have hC := rwith_any s u (small400 hs) (small400 hu) W
  rw [h] at hC
  exact hC
theorem aRMatch {s u : List UInt8} (hs : s.length ≤ 400) (hu : u.length ≤ 400) : Ans 18 #[str s, str u] (.tuple #[str (matchK s u).1, .bool (matchK s u).2.1, .int .i64 (matchK s u).2.2]) := fun W _ => rmatch_any s u (small400 hs) (small400 hu) W
theorem ww_long (t u : List UInt8) (w : World) (ht : Tab w) (h : (decide (t.length ≤ 400) && decide (u.length ≤ 400)) = false) :
    Calls Tryz.prog 3 #[str t, str u] w fun e w' => e = .returned (.bool true) ∧ Below w.heap.size w w' := by
  have hs := short2 t u w false h
  go_enter Tryz.func3, Tryz.ntmps3
  go_wp2_with (first
    | (go_at_call 13; refine hs.mono ?_; clear hs; rintro e wk ⟨rfl, hbk⟩; have hB := hbk)
    | (go_at_call 14; refine (aKept _ (ht.below hB (Nat.le_refl _))).mono ?_; rintro e wk ⟨rfl, hbk⟩; have hB := hB.trans (below_less hbk hB.size)))
  go_ret
  exact ⟨rfl, hB⟩
theorem ww_good (t u a b : List UInt8) (c d : Nat) (is : Bool) (w : World) (ht : Tab w) (h : (decide (t.length ≤ 400) && decide (u.length ≤ 400)) = true)
    (h1 : Ans 15 #[str t, str u] (.tuple #[str a, .int .i64 c])) (k1 : Ans 16 #[str t, str u] (.tuple #[str a, .int .i64 c]))
    (h2 : Ans 17 #[str t, str u] (.tuple #[str b, .bool is, .int .i64 d])) (k2 : Ans 18 #[str t, str u] (.tuple #[str b, .bool is, .int .i64 d])) :
    Calls Tryz.prog 3 #[str t, str u] w fun e w' => e = .returned (.bool true) ∧ Below w.heap.size w w' := by
  have hs := short2 t u w true h
  cases is
  all_goals
    go_enter Tryz.func3, Tryz.ntmps3
    go_wp2_with (first
      | (go_at_call 13; refine hs.mono ?_; clear hs; rintro e wk ⟨rfl, hbk⟩; have hB := hbk)
      | (go_at_call 15; refine (h1 _ (ht.below hB (Nat.le_refl _))).mono ?_; clear h1; rintro e wk ⟨rfl, hbk⟩; have hB := hB.trans (below_less hbk hB.size))
      | (go_at_call 16; refine (k1 _ (ht.below hB (Nat.le_refl _))).mono ?_; clear k1; rintro e wk ⟨rfl, hbk⟩; have hB := hB.trans (below_less hbk hB.size))
      | (go_at_call 17; refine (h2 _ (ht.below hB (Nat.le_refl _))).mono ?_; clear h2; rintro e wk ⟨rfl, hbk⟩; have hB := hB.trans (below_less hbk hB.size))
      | (go_at_call 18; refine (k2 _ (ht.below hB (Nat.le_refl _))).mono ?_; clear k2; rintro e wk ⟨rfl, hbk⟩; have hB := hB.trans (below_less hbk hB.size))
      | (go_at_call 14; refine (aKept _ (ht.below hB (Nat.le_refl _))).mono ?_; rintro e wk ⟨rfl, hbk⟩; have hB := hB.trans (below_less hbk hB.size)))
    go_ret
    exact ⟨rfl, hB⟩
/-- KindWith answers true. -/
theorem wwith (t u : List UInt8) (w : World) (ht : Tab w) : Calls Tryz.prog 3 #[str t, str u] w fun e w' => e = .returned (.bool true) ∧ Below w.heap.size w w' := by
  rcases h : (decide (t.length ≤ 400) && decide (u.length ≤ 400)) with _ | _
  · exact ww_long t u w ht h
  · have hl := h
    simp only [Bool.and_eq_true, decide_eq_true_eq] at hl
    obtain ⟨lt, lu⟩ := hl
    exact ww_good t u _ _ _ _ _ w ht h (aWith lt lu rfl) (aRWith lt lu rfl) (aMatch lt lu) (aRMatch lt lu)
end Go.Proofs.YtakdmnhpoelepaaGreatDoor
