/-
  The walk of the statement KindParts: it answers true. Condition: the variable strings.asciiSpace; the texts' bound.
-/
import Derived.Test.YtakdmnhpoelepaaGreatDoorKParts
import Derived.Test.YtakdmnhpoelepaaGreatDoorLaw0
import Derived.RegionTactic
import Derived.ChangeAlike
namespace Go.Proofs.YtakdmnhpoelepaaGreatDoor
open Go.RowKit

theorem blwP {B : Nat} {a w : World} (h : Below B a w) (n : Nat) : Below B a (w.drewN n) := h.trans ⟨rfl, rfl, rfl, Nat.le_refl _, fun _ _ => rfl⟩
set_option maxRecDepth 4000 in
set_option maxHeartbeats 3200000 in
/-- Two equal lists of parts. -/
theorem sameparts_yes (a : List (List UInt8 × List UInt8)) (v u : Value) (w : World) (hv : Pts w v a) (hu : Pts w u a) (ha : a.length ≤ 100) :
    Calls Tryz.prog 47 #[v, u] w fun e w' => e = .returned (.bool true) ∧ Below w.heap.size w w' := by
  obtain ⟨p, c, rfl⟩ := hv.shape
  obtain ⟨q, d, rfl⟩ := hu.shape
  go_enter Tryz.func47, Tryz.ntmps47
  go_wp2_with fail
  go_loopw [5] (fun x wx => ∃ k : Nat, k ≤ a.length ∧ x = .int .i64 k ∧ Below w.heap.size w wx) (fun x _ => a.length - (intOf x).toNat)
  case atStart => exact ⟨0, Nat.zero_le _, by go_num, Below.refl _ _⟩
  case round =>
    obtain ⟨k, hk, rfl, hb⟩ := hrel
    by_cases hlt : k < a.length
    case neg =>
      go_wp2_with fail
      go_ret
      exact ⟨rfl, hb⟩
    case pos =>
      obtain ⟨b1, o1, c1, x, he, hx, d1, d2⟩ := (hv.below hb).at hlt
      obtain ⟨b2, o2, c2, y, he', hy, e1, e2⟩ := (hu.below hb).at hlt
      injection he with h1 h2 h3
      subst h1 h3
      injection he' with h1 h2 h3
      subst h1 h3
      rw [hx] at hy
      injection hy with hy
      subst hy
      have HX := Lib.hid hx
      clear hx
      go_upto_region 6 with fail
      go_quiet (fail)
      go_wp2_with fail
      exact ⟨⟨k + 1, hlt, by go_num, blwP hb _⟩, by simp only [intOf]; omega⟩
theorem aArg {s : List UInt8} (hs : s.length ≤ 400) : Ans 41 #[str s] (.tuple #[str (argK s).1, .bool (argK s).2.1, .int .i64 (argK s).2.2]) := fun W hW => karg_any s (small400 hs) W hW
theorem aRArg {s : List UInt8} (hs : s.length ≤ 400) : Ans 42 #[str s] (.tuple #[str (argK s).1, .bool (argK s).2.1, .int .i64 (argK s).2.2]) := fun W _ => rarg_any s (small400 hs) W
theorem aBase {s : List UInt8} (hs : s.length ≤ 400) : Ans 43 #[str s] (.tuple #[str (baseK s).1, .int .i64 (baseK s).2]) := fun W hW => kbase_any s (small400 hs) W hW
theorem aRBase {s : List UInt8} (hs : s.length ≤ 400) : Ans 44 #[str s] (.tuple #[str (baseK s).1, .int .i64 (baseK s).2]) := fun W _ => rbase_any s (small400 hs) W
/-- A list of parts is answered. -/
def AnsP (f : FuncId) (args : Array Value) (l : List (List UInt8 × List UInt8)) (c : Nat) : Prop := ∀ W, Tab W → Calls Tryz.prog f args W fun e w' => ∃ v, e = .returned (.tuple #[v, .int .i64 c]) ∧ Pts w' v l ∧ Below W.heap.size W w'
theorem aParts {s : List UInt8} (hs : s.length ≤ 400) : AnsP 45 #[str s] (partsK s).1 (partsK s).2 := fun W hW => kparts_any s (small400 hs) W hW
theorem aRParts {s : List UInt8} (hs : s.length ≤ 400) : AnsP 46 #[str s] (partsK s).1 (partsK s).2 := fun W _ => rparts_any s (small400 hs) W
theorem partsK_len (s : List UInt8) : (partsK s).1.length ≤ 6 := by
  unfold partsK
  rcases hq : ofK s [5, 6] with ⟨c, T⟩
  by_cases hc : c = 0
  · subst hc
    obtain ⟨hk, hk2⟩ := ofK_ok hq
    obtain ⟨o1, _, _, _⟩ := checkK_ok hk
    rw [if_pos rfl]
    show T.sub.pts.length ≤ 6
    rw [Fo.pts_len]
    exact rec_len o1 (by simpa using hk2)
  · simp only
    rw [if_neg hc]
    simp
theorem pts_below {w w' : World} {v : Value} {ps : List (List UInt8 × List UInt8)} (h : Pts w v ps) (hb : Below w.heap.size w w') : Pts w' v ps := h.below hb

theorem wp_long (t : List UInt8) (w : World) (ht : Tab w) (h : decide (t.length ≤ 400) = false) :
    Calls Tryz.prog 11 #[str t] w fun e w' => e = .returned (.bool true) ∧ Below w.heap.size w w' := by
  have hs := short1 t w false h
  go_enter Tryz.func11, Tryz.ntmps11
  go_wp2_with (first
    | (go_at_call 13; refine hs.mono ?_; clear hs; rintro e wk ⟨rfl, hbk⟩; have hB := hbk)
    | (go_at_call 14; refine (aKept _ (ht.below hB (Nat.le_refl _))).mono ?_; rintro e wk ⟨rfl, hbk⟩; have hB := hB.trans (below_less hbk hB.size)))
  go_ret
  exact ⟨rfl, hB⟩
set_option maxRecDepth 4000 in
theorem wp_good (t a b : List UInt8) (is : Bool) (c d f : Nat) (L : List (List UInt8 × List UInt8)) (w : World) (ht : Tab w) (h : decide (t.length ≤ 400) = true) (hL : L.length ≤ 100)
    (h1 : Ans 41 #[str t] (.tuple #[str a, .bool is, .int .i64 c])) (k1 : Ans 42 #[str t] (.tuple #[str a, .bool is, .int .i64 c]))
    (h2 : Ans 43 #[str t] (.tuple #[str b, .int .i64 d])) (k2 : Ans 44 #[str t] (.tuple #[str b, .int .i64 d]))
    (h3 : AnsP 45 #[str t] L f) (k3 : AnsP 46 #[str t] L f) :
    Calls Tryz.prog 11 #[str t] w fun e w' => e = .returned (.bool true) ∧ Below w.heap.size w w' := by
  have hs := short1 t w true h
  cases is
  all_goals
  go_enter Tryz.func11, Tryz.ntmps11
  go_wp2_with (first
    | (go_at_call 13; refine hs.mono ?_; clear hs; rintro e wk ⟨rfl, hbk⟩; have hB := hbk)
    | (go_at_call 41; refine (h1 _ (ht.below hB (Nat.le_refl _))).mono ?_; clear h1; rintro e wk ⟨rfl, hbk⟩; have hB := hB.trans (below_less hbk hB.size))
    | (go_at_call 42; refine (k1 _ (ht.below hB (Nat.le_refl _))).mono ?_; clear k1; rintro e wk ⟨rfl, hbk⟩; have hB := hB.trans (below_less hbk hB.size))
    | (go_at_call 43; refine (h2 _ (ht.below hB (Nat.le_refl _))).mono ?_; clear h2; rintro e wk ⟨rfl, hbk⟩; have hB := hB.trans (below_less hbk hB.size))
    | (go_at_call 44; refine (k2 _ (ht.below hB (Nat.le_refl _))).mono ?_; clear k2; rintro e wk ⟨rfl, hbk⟩; have hB := hB.trans (below_less hbk hB.size))
    | (go_at_call 45; refine (h3 _ (ht.below hB (Nat.le_refl _))).mono ?_; clear h3; rintro e w1 ⟨v1, rfl, hv1, hbk⟩; obtain ⟨p1, c1, rfl⟩ := hv1.shape; have hB := hB.trans (below_less hbk hB.size))
    | (go_at_call 46; refine (k3 _ (ht.below hB (Nat.le_refl _))).mono ?_; clear k3; rintro e w2 ⟨v2, rfl, hv2, hbk⟩; obtain ⟨p2, c2, rfl⟩ := hv2.shape; have hv1 := hv1.below hbk; have hB := hB.trans (below_less hbk hB.size))
    | (go_at_call 14; refine (aKept _ (ht.below hB (Nat.le_refl _))).mono ?_; rintro e w5 ⟨rfl, hb5⟩; have hv1 := hv1.below hb5; have hv2 := hv2.below hb5; have hB := hB.trans (below_less hb5 hB.size))
    | (go_at_call 47; refine (sameparts_yes L _ _ _ hv1 hv2 hL).mono ?_; rintro e w6 ⟨rfl, hb6⟩; have hB := hB.trans (below_less hb6 hB.size)))
  go_ret
  exact ⟨rfl, hB⟩
/-- KindParts answers true. -/
theorem wparts (t : List UInt8) (w : World) (ht : Tab w) : Calls Tryz.prog 11 #[str t] w fun e w' => e = .returned (.bool true) ∧ Below w.heap.size w w' := by
  rcases h : decide (t.length ≤ 400) with _ | _
  · exact wp_long t w ht h
  · have lt : t.length ≤ 400 := by simpa using h
    exact wp_good t _ _ _ _ _ _ _ w ht h (Nat.le_trans (partsK_len t) (by decide)) (aArg lt) (aRArg lt) (aBase lt) (aRBase lt) (aParts lt) (aRParts lt)
end Go.Proofs.YtakdmnhpoelepaaGreatDoor
