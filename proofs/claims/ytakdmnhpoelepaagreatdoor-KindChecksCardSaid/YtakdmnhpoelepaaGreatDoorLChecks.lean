/-
  The walk of the statement KindChecks: it answers true. Condition: the variable strings.asciiSpace; the texts' bound.
-/
import Derived.Test.YtakdmnhpoelepaaGreatDoorLaw0
import Derived.Test.YtakdmnhpoelepaaGreatDoorRTop
namespace Go.Proofs.YtakdmnhpoelepaaGreatDoor
open Go.RowKit

theorem aRCheck {s : List UInt8} (hs : s.length ≤ 400) : Ans 32 #[str s] (.int .i64 (checkK s).1) := fun W _ => rcheck_any s (small400 hs) W
theorem aROpen {s : List UInt8} (hs : s.length ≤ 400) : Ans 31 #[str s] (.tuple #[.bool (openK s), .int .i64 (checkK s).1]) := fun W _ => ropen_any s (small400 hs) W
theorem aRKind {s : List UInt8} (hs : s.length ≤ 400) : Ans 29 #[str s] (.tuple #[.int .u8 (checkK s).2.k, .int .i64 (checkK s).1]) := fun W _ => rkind_any s (small400 hs) W
theorem aRLevel {s : List UInt8} (hs : s.length ≤ 400) : Ans 30 #[str s] (.tuple #[.int .i64 (levelK s), .int .i64 (checkK s).1]) := fun W _ => rlevel_any s (small400 hs) W

theorem wc_long (t : List UInt8) (w : World) (ht : Tab w) (h : decide (t.length ≤ 400) = false) :
    Calls Tryz.prog 9 #[str t] w fun e w' => e = .returned (.bool true) ∧ Below w.heap.size w w' := by
  have hs := short1 t w false h
  go_enter Tryz.func9, Tryz.ntmps9
  go_wp2_with (first
    | (go_at_call 13; refine hs.mono ?_; clear hs; rintro e wk ⟨rfl, hbk⟩; have hB := hbk)
    | (go_at_call 14; refine (aKept _ (ht.below hB (Nat.le_refl _))).mono ?_; rintro e wk ⟨rfl, hbk⟩; have hB := hB.trans (below_less hbk hB.size)))
  go_ret
  exact ⟨rfl, hB⟩
theorem wc_good (t : List UInt8) (K L C : Nat) (O : Bool) (w : World) (ht : Tab w) (h : decide (t.length ≤ 400) = true)
    (h1 : Ans 28 #[str t] (.tuple #[.int .u8 K, .int .i64 C])) (k1 : Ans 29 #[str t] (.tuple #[.int .u8 K, .int .i64 C]))
    (h2 : Ans 27 #[str t] (.tuple #[.int .i64 L, .int .i64 C])) (k2 : Ans 30 #[str t] (.tuple #[.int .i64 L, .int .i64 C]))
    (h3 : Ans 25 #[str t] (.tuple #[.bool O, .int .i64 C])) (k3 : Ans 31 #[str t] (.tuple #[.bool O, .int .i64 C]))
    (h4 : Ans 24 #[str t] (.int .i64 C)) (k4 : Ans 32 #[str t] (.int .i64 C)) :
    Calls Tryz.prog 9 #[str t] w fun e w' => e = .returned (.bool true) ∧ Below w.heap.size w w' := by
  have hs := short1 t w true h
  cases O
  all_goals
    go_enter Tryz.func9, Tryz.ntmps9
    go_wp2_with (first
      | (go_at_call 13; refine hs.mono ?_; clear hs; rintro e wk ⟨rfl, hbk⟩; have hB := hbk)
      | (go_at_call 28; refine (h1 _ (ht.below hB (Nat.le_refl _))).mono ?_; clear h1; rintro e wk ⟨rfl, hbk⟩; have hB := hB.trans (below_less hbk hB.size))
      | (go_at_call 29; refine (k1 _ (ht.below hB (Nat.le_refl _))).mono ?_; clear k1; rintro e wk ⟨rfl, hbk⟩; have hB := hB.trans (below_less hbk hB.size))
      | (go_at_call 27; refine (h2 _ (ht.below hB (Nat.le_refl _))).mono ?_; clear h2; rintro e wk ⟨rfl, hbk⟩; have hB := hB.trans (below_less hbk hB.size))
      | (go_at_call 30; refine (k2 _ (ht.below hB (Nat.le_refl _))).mono ?_; clear k2; rintro e wk ⟨rfl, hbk⟩; have hB := hB.trans (below_less hbk hB.size))
      | (go_at_call 25; refine (h3 _ (ht.below hB (Nat.le_refl _))).mono ?_; clear h3; rintro e wk ⟨rfl, hbk⟩; have hB := hB.trans (below_less hbk hB.size))
      | (go_at_call 31; refine (k3 _ (ht.below hB (Nat.le_refl _))).mono ?_; clear k3; rintro e wk ⟨rfl, hbk⟩; have hB := hB.trans (below_less hbk hB.size))
      | (go_at_call 24; refine (h4 _ (ht.below hB (Nat.le_refl _))).mono ?_; clear h4; rintro e wk ⟨rfl, hbk⟩; have hB := hB.trans (below_less hbk hB.size))
      | (go_at_call 32; refine (k4 _ (ht.below hB (Nat.le_refl _))).mono ?_; clear k4; rintro e wk ⟨rfl, hbk⟩; have hB := hB.trans (below_less hbk hB.size))
      | (go_at_call 14; refine (aKept _ (ht.below hB (Nat.le_refl _))).mono ?_; rintro e wk ⟨rfl, hbk⟩; have hB := hB.trans (below_less hbk hB.size)))
    go_ret
    exact ⟨rfl, hB⟩
/-- KindChecks answers true. -/
theorem wchecks (t : List UInt8) (w : World) (ht : Tab w) : Calls Tryz.prog 9 #[str t] w fun e w' => e = .returned (.bool true) ∧ Below w.heap.size w w' := by
  rcases h : decide (t.length ≤ 400) with _ | _
  · exact wc_long t w ht h
  · have lt : t.length ≤ 400 := by simpa using h
    exact wc_good t _ _ _ _ w ht h (aKind lt) (aRKind lt) (aLevel lt) (aRLevel lt) (aOpen lt) (aROpen lt) (aCheck lt) (aRCheck lt)
end Go.Proofs.YtakdmnhpoelepaaGreatDoor
