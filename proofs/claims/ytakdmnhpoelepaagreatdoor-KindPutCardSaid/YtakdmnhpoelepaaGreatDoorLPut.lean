/-
  The walk of the statement KindPut: it answers true. Condition: the variable strings.asciiSpace; the texts' bound.
-/
import Derived.Test.YtakdmnhpoelepaaGreatDoorLaw0
namespace Go.Proofs.YtakdmnhpoelepaaGreatDoor
open Go.RowKit

theorem wput_long (t a b : List UInt8) (w : World) (ht : Tab w) (h : (decide (t.length ≤ 400) && (decide (a.length ≤ 400) && decide (b.length ≤ 400))) = false) : Calls Tryz.prog 5 #[str t, str a, str b] w fun e w' => e = .returned (.bool true) ∧ Below w.heap.size w w' := by
  have hs := short3 t a b w false h
  go_enter Tryz.func5, Tryz.ntmps5
  go_wp2_with (first
    | (go_at_call 13; refine hs.mono ?_; clear hs; rintro e wk ⟨rfl, hbk⟩; have hB := hbk)
    | (go_at_call 14; refine (aKept _ (ht.below hB (Nat.le_refl _))).mono ?_; rintro e wk ⟨rfl, hbk⟩; have hB := hB.trans (below_less hbk hB.size)))
  go_ret
  exact ⟨rfl, hB⟩

/-- The calls of the walk, where the texts are short. -/
theorem wput_bad (t a b x1 x2 x3 x4 : List UInt8) (c1 c2 c3 c4 ct : Nat) (op : Bool) (w : World) (ht : Tab w) (h : (decide (t.length ≤ 400) && (decide (a.length ≤ 400) && decide (b.length ≤ 400))) = true)
    (h1 : Ans 15 #[str t, str qT] (.tuple #[str x1, .int .i64 c1])) (h2 : Ans 15 #[str qT, str t] (.tuple #[str x2, .int .i64 c2])) (h3 : Ans 24 #[str t] (.int .i64 ct)) (h4 : Ans 25 #[str t] (.tuple #[.bool op, .int .i64 ct]))
    (h5 : Ans 15 #[str t, str a] (.tuple #[str x3, .int .i64 c3])) (h6 : Ans 15 #[str a, str b] (.tuple #[str x4, .int .i64 c4])) (hct : ct ≠ 0) (hc3 : c3 ≠ 0) :
    Calls Tryz.prog 5 #[str t, str a, str b] w fun e w' => e = .returned (.bool true) ∧ Below w.heap.size w w' := by
  have hs := short3 t a b w true h
  have hQ : (str qT : Value) = .string ⟨#[63, 116]⟩ := rfl
  rw [hQ] at h1 h2
  obtain ⟨g1, g2⟩ := nat_ne0 hct
  obtain ⟨g3, g4⟩ := nat_ne0 hc3
  go_enter Tryz.func5, Tryz.ntmps5
  go_wp2_with (first
    | (go_at_call 13; refine hs.mono ?_; clear hs; rintro e wk ⟨rfl, hbk⟩; have hB := hbk)
    | (go_at_call 15; refine (h1 _ (ht.below hB (Nat.le_refl _))).mono ?_; clear h1; rintro e wk ⟨rfl, hbk⟩; have hB := hB.trans (below_less hbk hB.size))
    | (go_at_call 15; refine (h2 _ (ht.below hB (Nat.le_refl _))).mono ?_; clear h2; rintro e wk ⟨rfl, hbk⟩; have hB := hB.trans (below_less hbk hB.size))
    | (go_at_call 24; refine (h3 _ (ht.below hB (Nat.le_refl _))).mono ?_; rintro e wk ⟨rfl, hbk⟩; have hB := hB.trans (below_less hbk hB.size))
    | (go_at_call 25; refine (h4 _ (ht.below hB (Nat.le_refl _))).mono ?_; rintro e wk ⟨rfl, hbk⟩; have hB := hB.trans (below_less hbk hB.size))
    | (go_at_call 15; refine (h5 _ (ht.below hB (Nat.le_refl _))).mono ?_; clear h5; rintro e wk ⟨rfl, hbk⟩; have hB := hB.trans (below_less hbk hB.size))
    | (go_at_call 15; refine (h6 _ (ht.below hB (Nat.le_refl _))).mono ?_; clear h6; rintro e wk ⟨rfl, hbk⟩; have hB := hB.trans (below_less hbk hB.size))
    | (go_at_call 14; refine (aKept _ (ht.below hB (Nat.le_refl _))).mono ?_; rintro e wk ⟨rfl, hbk⟩; have hB := hB.trans (below_less hbk hB.size)))
  go_ret
  exact ⟨rfl, hB⟩
theorem wput_one_true (t a b x3 x4 : List UInt8) (c3 c4 : Nat) (w : World) (ht : Tab w) (h : (decide (t.length ≤ 400) && (decide (a.length ≤ 400) && decide (b.length ≤ 400))) = true)
    (h1 : Ans 15 #[str t, str qT] (.tuple #[str t, .int .i64 0])) (h2 : Ans 15 #[str qT, str t] (.tuple #[str t, .int .i64 0])) (h3 : Ans 24 #[str t] (.int .i64 0)) (h4 : Ans 25 #[str t] (.tuple #[.bool true, .int .i64 0]))
    (h5 : Ans 15 #[str t, str a] (.tuple #[str x3, .int .i64 c3])) (h6 : Ans 15 #[str a, str b] (.tuple #[str x4, .int .i64 c4])) (hc3 : c3 ≠ 0) :
    Calls Tryz.prog 5 #[str t, str a, str b] w fun e w' => e = .returned (.bool true) ∧ Below w.heap.size w w' := by
  have hs := short3 t a b w true h
  have hQ : (str qT : Value) = .string ⟨#[63, 116]⟩ := rfl
  rw [hQ] at h1 h2
  obtain ⟨g3, g4⟩ := nat_ne0 hc3
  go_enter Tryz.func5, Tryz.ntmps5
  go_wp2_with (first
    | (go_at_call 13; refine hs.mono ?_; clear hs; rintro e wk ⟨rfl, hbk⟩; have hB := hbk)
    | (go_at_call 15; refine (h1 _ (ht.below hB (Nat.le_refl _))).mono ?_; clear h1; rintro e wk ⟨rfl, hbk⟩; have hB := hB.trans (below_less hbk hB.size))
    | (go_at_call 15; refine (h2 _ (ht.below hB (Nat.le_refl _))).mono ?_; clear h2; rintro e wk ⟨rfl, hbk⟩; have hB := hB.trans (below_less hbk hB.size))
    | (go_at_call 24; refine (h3 _ (ht.below hB (Nat.le_refl _))).mono ?_; clear h3; rintro e wk ⟨rfl, hbk⟩; have hB := hB.trans (below_less hbk hB.size))
    | (go_at_call 25; refine (h4 _ (ht.below hB (Nat.le_refl _))).mono ?_; clear h4; rintro e wk ⟨rfl, hbk⟩; have hB := hB.trans (below_less hbk hB.size))
    | (go_at_call 15; refine (h5 _ (ht.below hB (Nat.le_refl _))).mono ?_; clear h5; rintro e wk ⟨rfl, hbk⟩; have hB := hB.trans (below_less hbk hB.size))
    | (go_at_call 15; refine (h6 _ (ht.below hB (Nat.le_refl _))).mono ?_; clear h6; rintro e wk ⟨rfl, hbk⟩; have hB := hB.trans (below_less hbk hB.size))
    | (go_at_call 14; refine (aKept _ (ht.below hB (Nat.le_refl _))).mono ?_; rintro e wk ⟨rfl, hbk⟩; have hB := hB.trans (below_less hbk hB.size)))
  go_ret
  exact ⟨rfl, hB⟩
theorem wput_two_true (t a b x3 x4 : List UInt8) (c4 : Nat) (w : World) (ht : Tab w) (h : (decide (t.length ≤ 400) && (decide (a.length ≤ 400) && decide (b.length ≤ 400))) = true)
    (h1 : Ans 15 #[str t, str qT] (.tuple #[str t, .int .i64 0])) (h2 : Ans 15 #[str qT, str t] (.tuple #[str t, .int .i64 0])) (h3 : Ans 24 #[str t] (.int .i64 0)) (h4 : Ans 25 #[str t] (.tuple #[.bool true, .int .i64 0]))
    (h5 : Ans 15 #[str t, str a] (.tuple #[str x3, .int .i64 0])) (h6 : Ans 15 #[str a, str b] (.tuple #[str x4, .int .i64 c4])) (hc4 : c4 ≠ 0) :
    Calls Tryz.prog 5 #[str t, str a, str b] w fun e w' => e = .returned (.bool true) ∧ Below w.heap.size w w' := by
  have hs := short3 t a b w true h
  have hQ : (str qT : Value) = .string ⟨#[63, 116]⟩ := rfl
  rw [hQ] at h1 h2
  obtain ⟨g3, g4⟩ := nat_ne0 hc4
  go_enter Tryz.func5, Tryz.ntmps5
  go_wp2_with (first
    | (go_at_call 13; refine hs.mono ?_; clear hs; rintro e wk ⟨rfl, hbk⟩; have hB := hbk)
    | (go_at_call 15; refine (h1 _ (ht.below hB (Nat.le_refl _))).mono ?_; clear h1; rintro e wk ⟨rfl, hbk⟩; have hB := hB.trans (below_less hbk hB.size))
    | (go_at_call 15; refine (h2 _ (ht.below hB (Nat.le_refl _))).mono ?_; clear h2; rintro e wk ⟨rfl, hbk⟩; have hB := hB.trans (below_less hbk hB.size))
    | (go_at_call 24; refine (h3 _ (ht.below hB (Nat.le_refl _))).mono ?_; clear h3; rintro e wk ⟨rfl, hbk⟩; have hB := hB.trans (below_less hbk hB.size))
    | (go_at_call 25; refine (h4 _ (ht.below hB (Nat.le_refl _))).mono ?_; clear h4; rintro e wk ⟨rfl, hbk⟩; have hB := hB.trans (below_less hbk hB.size))
    | (go_at_call 15; refine (h5 _ (ht.below hB (Nat.le_refl _))).mono ?_; clear h5; rintro e wk ⟨rfl, hbk⟩; have hB := hB.trans (below_less hbk hB.size))
    | (go_at_call 15; refine (h6 _ (ht.below hB (Nat.le_refl _))).mono ?_; clear h6; rintro e wk ⟨rfl, hbk⟩; have hB := hB.trans (below_less hbk hB.size))
    | (go_at_call 14; refine (aKept _ (ht.below hB (Nat.le_refl _))).mono ?_; rintro e wk ⟨rfl, hbk⟩; have hB := hB.trans (below_less hbk hB.size)))
  go_ret
  exact ⟨rfl, hB⟩
theorem wput_all_true (t a b x3 x4 z : List UInt8) (c : Nat) (w : World) (ht : Tab w) (h : (decide (t.length ≤ 400) && (decide (a.length ≤ 400) && decide (b.length ≤ 400))) = true)
    (h1 : Ans 15 #[str t, str qT] (.tuple #[str t, .int .i64 0])) (h2 : Ans 15 #[str qT, str t] (.tuple #[str t, .int .i64 0])) (h3 : Ans 24 #[str t] (.int .i64 0)) (h4 : Ans 25 #[str t] (.tuple #[.bool true, .int .i64 0]))
    (h5 : Ans 15 #[str t, str a] (.tuple #[str x3, .int .i64 0])) (h6 : Ans 15 #[str a, str b] (.tuple #[str x4, .int .i64 0]))
    (h7 : Ans 15 #[str x3, str b] (.tuple #[str z, .int .i64 c])) (h8 : Ans 15 #[str t, str x4] (.tuple #[str z, .int .i64 c])) :
    Calls Tryz.prog 5 #[str t, str a, str b] w fun e w' => e = .returned (.bool true) ∧ Below w.heap.size w w' := by
  have hs := short3 t a b w true h
  have hQ : (str qT : Value) = .string ⟨#[63, 116]⟩ := rfl
  rw [hQ] at h1 h2
  rcases hc : (decide (c = 0)) with _ | _
  all_goals
    have hc' : ((c : Int) == 0) = decide (c = 0) := by rw [hc]; first | exact (nat_ne0 (by simpa using hc)).1 | exact int_zero (by simpa using hc)
    rw [hc] at hc'
    clear hc
    go_enter Tryz.func5, Tryz.ntmps5
    go_wp2_with (first
      | (go_at_call 13; refine hs.mono ?_; clear hs; rintro e wk ⟨rfl, hbk⟩; have hB := hbk)
      | (go_at_call 15; refine (h1 _ (ht.below hB (Nat.le_refl _))).mono ?_; clear h1; rintro e wk ⟨rfl, hbk⟩; have hB := hB.trans (below_less hbk hB.size))
      | (go_at_call 15; refine (h2 _ (ht.below hB (Nat.le_refl _))).mono ?_; clear h2; rintro e wk ⟨rfl, hbk⟩; have hB := hB.trans (below_less hbk hB.size))
      | (go_at_call 24; refine (h3 _ (ht.below hB (Nat.le_refl _))).mono ?_; clear h3; rintro e wk ⟨rfl, hbk⟩; have hB := hB.trans (below_less hbk hB.size))
      | (go_at_call 25; refine (h4 _ (ht.below hB (Nat.le_refl _))).mono ?_; clear h4; rintro e wk ⟨rfl, hbk⟩; have hB := hB.trans (below_less hbk hB.size))
      | (go_at_call 15; refine (h5 _ (ht.below hB (Nat.le_refl _))).mono ?_; clear h5; rintro e wk ⟨rfl, hbk⟩; have hB := hB.trans (below_less hbk hB.size))
      | (go_at_call 15; refine (h6 _ (ht.below hB (Nat.le_refl _))).mono ?_; clear h6; rintro e wk ⟨rfl, hbk⟩; have hB := hB.trans (below_less hbk hB.size))
      | (go_at_call 15; refine (h7 _ (ht.below hB (Nat.le_refl _))).mono ?_; clear h7; rintro e wk ⟨rfl, hbk⟩; have hB := hB.trans (below_less hbk hB.size))
      | (go_at_call 15; refine (h8 _ (ht.below hB (Nat.le_refl _))).mono ?_; clear h8; rintro e wk ⟨rfl, hbk⟩; have hB := hB.trans (below_less hbk hB.size))
      | (go_at_call 14; refine (aKept _ (ht.below hB (Nat.le_refl _))).mono ?_; rintro e wk ⟨rfl, hbk⟩; have hB := hB.trans (below_less hbk hB.size)))
    go_ret
    exact ⟨rfl, hB⟩
theorem wput_one_false (t a b x3 x4 : List UInt8) (c3 c4 : Nat) (w : World) (ht : Tab w) (h : (decide (t.length ≤ 400) && (decide (a.length ≤ 400) && decide (b.length ≤ 400))) = true)
    (h1 : Ans 15 #[str t, str qT] (.tuple #[str t, .int .i64 0])) (h2 : Ans 15 #[str qT, str t] (.tuple #[str t, .int .i64 0])) (h3 : Ans 24 #[str t] (.int .i64 0)) (h4 : Ans 25 #[str t] (.tuple #[.bool false, .int .i64 0]))
    (h5 : Ans 15 #[str t, str a] (.tuple #[str x3, .int .i64 c3])) (h6 : Ans 15 #[str a, str b] (.tuple #[str x4, .int .i64 c4])) (hc3 : c3 ≠ 0) :
    Calls Tryz.prog 5 #[str t, str a, str b] w fun e w' => e = .returned (.bool true) ∧ Below w.heap.size w w' := by
  have hs := short3 t a b w true h
  have hQ : (str qT : Value) = .string ⟨#[63, 116]⟩ := rfl
  rw [hQ] at h1 h2
  obtain ⟨g3, g4⟩ := nat_ne0 hc3
  go_enter Tryz.func5, Tryz.ntmps5
  go_wp2_with (first
    | (go_at_call 13; refine hs.mono ?_; clear hs; rintro e wk ⟨rfl, hbk⟩; have hB := hbk)
    | (go_at_call 15; refine (h1 _ (ht.below hB (Nat.le_refl _))).mono ?_; clear h1; rintro e wk ⟨rfl, hbk⟩; have hB := hB.trans (below_less hbk hB.size))
    | (go_at_call 15; refine (h2 _ (ht.below hB (Nat.le_refl _))).mono ?_; clear h2; rintro e wk ⟨rfl, hbk⟩; have hB := hB.trans (below_less hbk hB.size))
    | (go_at_call 24; refine (h3 _ (ht.below hB (Nat.le_refl _))).mono ?_; clear h3; rintro e wk ⟨rfl, hbk⟩; have hB := hB.trans (below_less hbk hB.size))
    | (go_at_call 25; refine (h4 _ (ht.below hB (Nat.le_refl _))).mono ?_; clear h4; rintro e wk ⟨rfl, hbk⟩; have hB := hB.trans (below_less hbk hB.size))
    | (go_at_call 15; refine (h5 _ (ht.below hB (Nat.le_refl _))).mono ?_; clear h5; rintro e wk ⟨rfl, hbk⟩; have hB := hB.trans (below_less hbk hB.size))
    | (go_at_call 15; refine (h6 _ (ht.below hB (Nat.le_refl _))).mono ?_; clear h6; rintro e wk ⟨rfl, hbk⟩; have hB := hB.trans (below_less hbk hB.size))
    | (go_at_call 14; refine (aKept _ (ht.below hB (Nat.le_refl _))).mono ?_; rintro e wk ⟨rfl, hbk⟩; have hB := hB.trans (below_less hbk hB.size)))
  go_ret
  exact ⟨rfl, hB⟩
theorem wput_two_false (t a b x4 : List UInt8) (c4 : Nat) (w : World) (ht : Tab w) (h : (decide (t.length ≤ 400) && (decide (a.length ≤ 400) && decide (b.length ≤ 400))) = true)
    (h1 : Ans 15 #[str t, str qT] (.tuple #[str t, .int .i64 0])) (h2 : Ans 15 #[str qT, str t] (.tuple #[str t, .int .i64 0])) (h3 : Ans 24 #[str t] (.int .i64 0)) (h4 : Ans 25 #[str t] (.tuple #[.bool false, .int .i64 0]))
    (h5 : Ans 15 #[str t, str a] (.tuple #[str t, .int .i64 0])) (h6 : Ans 15 #[str a, str b] (.tuple #[str x4, .int .i64 c4])) (hc4 : c4 ≠ 0) :
    Calls Tryz.prog 5 #[str t, str a, str b] w fun e w' => e = .returned (.bool true) ∧ Below w.heap.size w w' := by
  have hs := short3 t a b w true h
  have hQ : (str qT : Value) = .string ⟨#[63, 116]⟩ := rfl
  rw [hQ] at h1 h2
  obtain ⟨g3, g4⟩ := nat_ne0 hc4
  go_enter Tryz.func5, Tryz.ntmps5
  go_wp2_with (first
    | (go_at_call 13; refine hs.mono ?_; clear hs; rintro e wk ⟨rfl, hbk⟩; have hB := hbk)
    | (go_at_call 15; refine (h1 _ (ht.below hB (Nat.le_refl _))).mono ?_; clear h1; rintro e wk ⟨rfl, hbk⟩; have hB := hB.trans (below_less hbk hB.size))
    | (go_at_call 15; refine (h2 _ (ht.below hB (Nat.le_refl _))).mono ?_; clear h2; rintro e wk ⟨rfl, hbk⟩; have hB := hB.trans (below_less hbk hB.size))
    | (go_at_call 24; refine (h3 _ (ht.below hB (Nat.le_refl _))).mono ?_; clear h3; rintro e wk ⟨rfl, hbk⟩; have hB := hB.trans (below_less hbk hB.size))
    | (go_at_call 25; refine (h4 _ (ht.below hB (Nat.le_refl _))).mono ?_; clear h4; rintro e wk ⟨rfl, hbk⟩; have hB := hB.trans (below_less hbk hB.size))
    | (go_at_call 15; refine (h5 _ (ht.below hB (Nat.le_refl _))).mono ?_; clear h5; rintro e wk ⟨rfl, hbk⟩; have hB := hB.trans (below_less hbk hB.size))
    | (go_at_call 15; refine (h6 _ (ht.below hB (Nat.le_refl _))).mono ?_; clear h6; rintro e wk ⟨rfl, hbk⟩; have hB := hB.trans (below_less hbk hB.size))
    | (go_at_call 14; refine (aKept _ (ht.below hB (Nat.le_refl _))).mono ?_; rintro e wk ⟨rfl, hbk⟩; have hB := hB.trans (below_less hbk hB.size)))
  go_ret
  exact ⟨rfl, hB⟩
theorem wput_all_false (t a b x4 z : List UInt8) (c : Nat) (w : World) (ht : Tab w) (h : (decide (t.length ≤ 400) && (decide (a.length ≤ 400) && decide (b.length ≤ 400))) = true)
    (h1 : Ans 15 #[str t, str qT] (.tuple #[str t, .int .i64 0])) (h2 : Ans 15 #[str qT, str t] (.tuple #[str t, .int .i64 0])) (h3 : Ans 24 #[str t] (.int .i64 0)) (h4 : Ans 25 #[str t] (.tuple #[.bool false, .int .i64 0]))
    (h5 : Ans 15 #[str t, str a] (.tuple #[str t, .int .i64 0])) (h6 : Ans 15 #[str a, str b] (.tuple #[str x4, .int .i64 0]))
    (h7 : Ans 15 #[str t, str b] (.tuple #[str z, .int .i64 c])) (h8 : Ans 15 #[str t, str x4] (.tuple #[str z, .int .i64 c])) :
    Calls Tryz.prog 5 #[str t, str a, str b] w fun e w' => e = .returned (.bool true) ∧ Below w.heap.size w w' := by
  have hs := short3 t a b w true h
  have hQ : (str qT : Value) = .string ⟨#[63, 116]⟩ := rfl
  rw [hQ] at h1 h2
  rcases hc : (decide (c = 0)) with _ | _
  all_goals
    have hc' : ((c : Int) == 0) = decide (c = 0) := by rw [hc]; first | exact (nat_ne0 (by simpa using hc)).1 | exact int_zero (by simpa using hc)
    rw [hc] at hc'
    clear hc
    go_enter Tryz.func5, Tryz.ntmps5
    go_wp2_with (first
      | (go_at_call 13; refine hs.mono ?_; clear hs; rintro e wk ⟨rfl, hbk⟩; have hB := hbk)
      | (go_at_call 15; refine (h1 _ (ht.below hB (Nat.le_refl _))).mono ?_; clear h1; rintro e wk ⟨rfl, hbk⟩; have hB := hB.trans (below_less hbk hB.size))
      | (go_at_call 15; refine (h2 _ (ht.below hB (Nat.le_refl _))).mono ?_; clear h2; rintro e wk ⟨rfl, hbk⟩; have hB := hB.trans (below_less hbk hB.size))
      | (go_at_call 24; refine (h3 _ (ht.below hB (Nat.le_refl _))).mono ?_; clear h3; rintro e wk ⟨rfl, hbk⟩; have hB := hB.trans (below_less hbk hB.size))
      | (go_at_call 25; refine (h4 _ (ht.below hB (Nat.le_refl _))).mono ?_; clear h4; rintro e wk ⟨rfl, hbk⟩; have hB := hB.trans (below_less hbk hB.size))
      | (go_at_call 15; refine (h5 _ (ht.below hB (Nat.le_refl _))).mono ?_; clear h5; rintro e wk ⟨rfl, hbk⟩; have hB := hB.trans (below_less hbk hB.size))
      | (go_at_call 15; refine (h6 _ (ht.below hB (Nat.le_refl _))).mono ?_; clear h6; rintro e wk ⟨rfl, hbk⟩; have hB := hB.trans (below_less hbk hB.size))
      | (go_at_call 15; refine (h7 _ (ht.below hB (Nat.le_refl _))).mono ?_; clear h7; rintro e wk ⟨rfl, hbk⟩; have hB := hB.trans (below_less hbk hB.size))
      | (go_at_call 15; refine (h8 _ (ht.below hB (Nat.le_refl _))).mono ?_; clear h8; rintro e wk ⟨rfl, hbk⟩; have hB := hB.trans (below_less hbk hB.size))
      | (go_at_call 14; refine (aKept _ (ht.below hB (Nat.le_refl _))).mono ?_; rintro e wk ⟨rfl, hbk⟩; have hB := hB.trans (below_less hbk hB.size)))
    go_ret
    exact ⟨rfl, hB⟩
/-- KindPut answers true. -/
theorem wput (t a b : List UInt8) (w : World) (ht : Tab w) : Calls Tryz.prog 5 #[str t, str a, str b] w fun e w' => e = .returned (.bool true) ∧ Below w.heap.size w w' := by
  rcases h : (decide (t.length ≤ 400) && (decide (a.length ≤ 400) && decide (b.length ≤ 400))) with _ | _
  · exact wput_long t a b w ht h
  · have hl := h
    simp only [Bool.and_eq_true, decide_eq_true_eq] at hl
    obtain ⟨lt, la, lb⟩ := hl
    have lq : qT.length ≤ 400 := by decide
    rcases e5 : withK t a with ⟨x3, c3⟩
    rcases e6 : withK a b with ⟨x4, c4⟩
    have h5 := aWith lt la e5
    have h6 := aWith la lb e6
    by_cases hct : (checkK t).1 = 0
    · obtain ⟨p1, p2⟩ := withK_par hct
      have h1 := aWith lt lq p1
      have h2 := aWith lq lt p2
      have h3 := aCheck lt
      have h4 := aOpen lt
      rw [hct] at h3 h4
      by_cases hc3 : c3 = 0
      · subst hc3
        by_cases hc4 : c4 = 0
        · subst hc4
          have hxy := withK_with e5 e6
          obtain ⟨_, _, k1, _, k3, k4⟩ := withK_ok e5
          obtain ⟨_, _, _, _, m3, m4⟩ := withK_ok e6
          have lx3 := (checkK_ok k4).2.2.1
          have lx4 := (checkK_ok m4).2.2.1
          rcases e7 : withK x3 b with ⟨z, c⟩
          have e8 := hxy.symm.trans e7
          have h7 := aWith (by omega) lb e7
          have h8 := aWith lt (by omega) e8
          rcases ho : openK t with _ | _
          · have hx := withK_shut ho e5
            subst hx
            rw [ho] at h4
            exact wput_all_false x3 a b x4 z c w ht h h1 h2 h3 h4 h5 h6 h7 h8
          · rw [ho] at h4
            exact wput_all_true t a b x3 x4 z c w ht h h1 h2 h3 h4 h5 h6 h7 h8
        · rcases ho : openK t with _ | _
          · have hx := withK_shut ho e5
            subst hx
            rw [ho] at h4
            exact wput_two_false x3 a b x4 c4 w ht h h1 h2 h3 h4 h5 h6 hc4
          · rw [ho] at h4
            exact wput_two_true t a b x3 x4 c4 w ht h h1 h2 h3 h4 h5 h6 hc4
      · rcases ho : openK t with _ | _
        · rw [ho] at h4
          exact wput_one_false t a b x3 x4 c3 c4 w ht h h1 h2 h3 h4 h5 h6 hc3
        · rw [ho] at h4
          exact wput_one_true t a b x3 x4 c3 c4 w ht h h1 h2 h3 h4 h5 h6 hc3
    · rcases e1 : withK t qT with ⟨x1, c1⟩
      rcases e2 : withK qT t with ⟨x2, c2⟩
      have hb := withK_bad (u := a) hct
      rw [e5] at hb
      exact wput_bad t a b x1 x2 x3 x4 c1 c2 c3 c4 _ _ w ht h (aWith lt lq e1) (aWith lq lt e2) (aCheck lt) (aOpen lt) h5 h6 hct hb
end Go.Proofs.YtakdmnhpoelepaaGreatDoor
