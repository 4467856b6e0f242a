/-
  Contracts: kind.Check, Kind, Level, Open, told. Condition: the texts' length; the variable strings.asciiSpace.
-/
import Derived.Test.YtakdmnhpoelepaaGreatDoorKOpen
import Derived.Test.YtakdmnhpoelepaaGreatDoorKChecked
namespace Go.Proofs.YtakdmnhpoelepaaGreatDoor
open Go.RowKit

theorem checkK_ok {s : List UInt8} {t : Tr} (h : checkK s = (0, t)) : t.ok ∧ t.txt = s ∧ s.length ≤ 100 ∧ t.level ≤ 6 := by
  unfold checkK at h
  split at h
  · simp at h
  · rename_i hl
    split at h
    · rename_i u e
      split at h
      · simp at h
      · rename_i hv
        simp only [Prod.mk.injEq, true_and] at h
        subst h
        obtain ⟨h1, h2⟩ := parseT_ok e
        exact ⟨h1, by simpa using h2.symm, by omega, by omega⟩
    · simp at h
theorem checkK_bad {s : List UInt8} {c : Nat} {t : Tr} (h : checkK s = (c, t)) (hc : c ≠ 0) : (c = 2 ∨ c = 4) ∧ t = ⟨0, [], .nil⟩ := by
  unfold checkK at h
  split at h
  · simp only [Prod.mk.injEq] at h; exact ⟨.inl h.1.symm, h.2.symm⟩
  · split at h
    · split at h
      · simp only [Prod.mk.injEq] at h; exact ⟨.inl h.1.symm, h.2.symm⟩
      · simp only [Prod.mk.injEq] at h; exact absurd h.1.symm hc
    · simp only [Prod.mk.injEq] at h; exact ⟨.inr h.1.symm, h.2.symm⟩
theorem checkK_of {t : Tr} (h : t.ok) : checkK t.txt = if 100 < t.txt.length ∨ 6 < t.level then (2, ⟨0, [], .nil⟩) else (0, t) := by
  unfold checkK
  rw [h.reads']
  by_cases h1 : 100 < t.txt.length
  · rw [if_pos h1, if_pos (.inl h1)]
  · rw [if_neg h1]
    by_cases h2 : 6 < t.level
    · simp only; rw [if_pos h2, if_pos (.inr h2)]
    · simp only; rw [if_neg h2, if_neg (by omega)]
theorem nat_ne0 {c : Nat} (h : c ≠ 0) : ((c : Int) == 0) = false ∧ ((c : Int) != 0) = true := by
  constructor
  · rw [beq_eq_false_iff_ne]; omega
  · rw [bne_iff_ne]; omega

set_option maxRecDepth 4000 in
set_option maxHeartbeats 3200000 in
theorem kcheck_any (s : List UInt8) (hm : s.length ≤ maxLen) (w : World) (ht : Tab w) : Calls Tryz.prog 24 #[str s] w fun e w' => e = .returned (.int .i64 (checkK s).1) ∧ Below w.heap.size w w' := by
  go_enter Tryz.func24, Tryz.ntmps24
  go_wp2_with (go_at_call 57; refine (kchecked_any s hm _ ht).mono ?_; rintro e w1 ⟨v, rfl, hv, hb1⟩; obtain ⟨p, c, rfl, _⟩ := hv.shape)
  go_ret
  exact ⟨rfl, hb1.alloc hb1.size _⟩
set_option maxRecDepth 4000 in
set_option maxHeartbeats 3200000 in
theorem kkind_any (s : List UInt8) (hm : s.length ≤ maxLen) (w : World) (ht : Tab w) : Calls Tryz.prog 28 #[str s] w fun e w' => e = .returned (.tuple #[.int .u8 (checkK s).2.k, .int .i64 (checkK s).1]) ∧ Below w.heap.size w w' := by
  go_enter Tryz.func28, Tryz.ntmps28
  go_wp2_with (go_at_call 57; refine (kchecked_any s hm _ ht).mono ?_; rintro e w1 ⟨v, rfl, hv, hb1⟩; obtain ⟨p, c, rfl, _⟩ := hv.shape)
  go_ret2
  exact ⟨rfl, hb1.alloc hb1.size _⟩
def levelK (s : List UInt8) : Nat := if (checkK s).1 = 0 then (checkK s).2.level else 0
def openK (s : List UInt8) : Bool := if (checkK s).1 = 0 then (checkK s).2.opn else false
set_option maxRecDepth 4000 in
set_option maxHeartbeats 3200000 in
theorem klevel_any (s : List UInt8) (hm : s.length ≤ maxLen) (w : World) (ht : Tab w) : Calls Tryz.prog 27 #[str s] w fun e w' => e = .returned (.tuple #[.int .i64 (levelK s), .int .i64 (checkK s).1]) ∧ Below w.heap.size w w' := by
  have HC := kchecked_any s hm w ht
  unfold CheckedPost at HC
  unfold levelK
  rcases hq : checkK s with ⟨c, t⟩
  rw [hq] at HC
  simp only at HC ⊢
  by_cases hc : c = 0
  · subst hc
    obtain ⟨_, _, _, hl⟩ := checkK_ok hq
    unfold Tr.level at hl ⊢
    have HQ := Lib.hid hq
    clear hq
    go_enter Tryz.func27, Tryz.ntmps27
    go_wp2_with (first | (go_at_call 57; refine HC.mono ?_; clear HC; rintro e w1 ⟨v, rfl, hv, hb1⟩; obtain ⟨p, c, rfl, _⟩ := hv.shape) | (go_at_call 64; refine (level_any 6 t.sub (by omega) (by omega) _ _ _ t.k t.n (hv.below ((Below.refl _ w1).alloc (Nat.le_refl _) _) (Nat.le_refl _))).mono ?_; rintro e w2 ⟨rfl, hb2⟩))
    go_ret2
    exact ⟨rfl, (hb1.alloc hb1.size _).trans (below_less hb2 (by have := hb1.size; simp; omega))⟩
  · obtain ⟨h1, h2⟩ := nat_ne0 hc
    have HQ := Lib.hid hq
    have HZ := Lib.hid hc
    clear hq hc
    go_enter Tryz.func27, Tryz.ntmps27
    go_wp2_with (go_at_call 57; refine HC.mono ?_; clear HC; rintro e w1 ⟨v, rfl, hv, hb1⟩; obtain ⟨p, c, rfl, _⟩ := hv.shape)
    go_ret2
    exact ⟨rfl, hb1.alloc hb1.size _⟩
set_option maxRecDepth 4000 in
set_option maxHeartbeats 3200000 in
theorem kopen_any (s : List UInt8) (hm : s.length ≤ maxLen) (w : World) (ht : Tab w) : Calls Tryz.prog 25 #[str s] w fun e w' => e = .returned (.tuple #[.bool (openK s), .int .i64 (checkK s).1]) ∧ Below w.heap.size w w' := by
  have HC := kchecked_any s hm w ht
  unfold CheckedPost at HC
  unfold openK
  rcases hq : checkK s with ⟨c, t⟩
  rw [hq] at HC
  simp only at HC ⊢
  by_cases hc : c = 0
  · subst hc
    have HQ := Lib.hid hq
    clear hq
    go_enter Tryz.func25, Tryz.ntmps25
    go_wp2_with (first | (go_at_call 57; refine HC.mono ?_; clear HC; rintro e w1 ⟨v, rfl, hv, hb1⟩; obtain ⟨p, c, rfl, _⟩ := hv.shape) | (go_at_call 52; refine (open_any t _ _ _ (hv.below ((Below.refl _ w1).alloc (Nat.le_refl _) _) (Nat.le_refl _))).mono ?_; rintro e w2 ⟨rfl, hb2⟩))
    go_ret2
    exact ⟨rfl, (hb1.alloc hb1.size _).trans (below_less hb2 (by have := hb1.size; simp; omega))⟩
  · obtain ⟨h1, h2⟩ := nat_ne0 hc
    have HQ := Lib.hid hq
    have HZ := Lib.hid hc
    clear hq hc
    go_enter Tryz.func25, Tryz.ntmps25
    go_wp2_with (go_at_call 57; refine HC.mono ?_; clear HC; rintro e w1 ⟨v, rfl, hv, hb1⟩; obtain ⟨p, c, rfl, _⟩ := hv.shape)
    go_ret2
    exact ⟨rfl, hb1.alloc hb1.size _⟩

/-- What told answers. -/
def toldK (t : Tr) : List UInt8 × Nat := if 100 < t.txt.length ∨ 6 < t.level then ([], 2) else (t.txt, 0)
set_option maxRecDepth 4000 in
set_option maxHeartbeats 3200000 in
theorem told_any (t : Tr) (hl : t.txt.length ≤ 1000000) (hlv : t.level ≤ 1000) (w : World) (D : Nat → Prop) (v : Value) (hv : FoV w D t.sub v) :
    Calls Tryz.prog 49 #[.agg #[.int .u8 t.k, str t.n, v]] w fun e w' => e = .returned (.tuple #[str (toldK t).1, .int .i64 (toldK t).2]) ∧ Below w.heap.size w w' := by
  obtain ⟨p, c, rfl, _⟩ := hv.shape
  unfold Tr.level at hlv
  have hrow := heap_alloc_new w (.cells #[.int .u8 t.k, str t.n, .slice p t.sub.len c] 57)
  have hv1 := hv.below ((Below.refl _ w).alloc (Nat.le_refl _) (.cells #[.int .u8 t.k, str t.n, .slice p t.sub.len c] 57)) (Nat.le_refl _)
  have hb0 := (Below.refl _ w).alloc (Nat.le_refl _) (.cells #[.int .u8 t.k, str t.n, .slice p t.sub.len c] 57)
  by_cases h1 : 100 < t.txt.length
  · have HT := Lib.hid (show toldK t = ([], 2) by unfold toldK; rw [if_pos (.inl h1)])
    go_enter Tryz.func49, Tryz.ntmps49
    go_wp2_with (go_at_call 53; refine (kstring_any t _ _ _ hv1 hl).mono ?_; rintro e w2 ⟨rfl, hb2⟩)
    go_ret2
    rw [HT.out]
    exact ⟨rfl, hb0.trans (below_less hb2 (by simp))⟩
  · have h1' : t.txt.length ≤ 100 := by omega
    by_cases h2 : 6 < t.level
    · have HT := Lib.hid (show toldK t = ([], 2) by unfold toldK; rw [if_pos (.inr h2)])
      have h3 : (6 : Int) < ((t.sub.level + 1 : Nat) : Int) := by unfold Tr.level at h2; omega
      go_enter Tryz.func49, Tryz.ntmps49
      go_wp2_with (first | (go_at_call 53; refine (kstring_any t _ _ _ hv1 hl).mono ?_; rintro e w2 ⟨rfl, hb2⟩; have r2 := (hb2.block w.heap.size (by simp)).trans hrow; have c0 := (cells_at r2 0).trans rfl; have c1 := (cells_at r2 1).trans rfl; have c2 := (cells_at r2 2).trans rfl; have hv2 := hv1.below hb2 (Nat.le_refl _); clear r2) | (go_at_call 64; refine (level_any 1000 t.sub (by omega) (by omega) _ _ _ t.k t.n hv2).mono ?_; rintro e w3 ⟨rfl, hb3⟩))
      go_ret2
      rw [HT.out]
      exact ⟨rfl, (hb0.trans (below_less hb2 (by simp))).trans (below_less hb3 (by have := hb2.size; simp at this; omega))⟩
    · have HT := Lib.hid (show toldK t = (t.txt, 0) by unfold toldK; rw [if_neg (by omega)])
      have h3 : ((t.sub.level + 1 : Nat) : Int) ≤ 6 := by unfold Tr.level at h2; omega
      go_enter Tryz.func49, Tryz.ntmps49
      go_wp2_with (first | (go_at_call 53; refine (kstring_any t _ _ _ hv1 hl).mono ?_; rintro e w2 ⟨rfl, hb2⟩; have r2 := (hb2.block w.heap.size (by simp)).trans hrow; have c0 := (cells_at r2 0).trans rfl; have c1 := (cells_at r2 1).trans rfl; have c2 := (cells_at r2 2).trans rfl; have hv2 := hv1.below hb2 (Nat.le_refl _); clear r2) | (go_at_call 64; refine (level_any 1000 t.sub (by omega) (by omega) _ _ _ t.k t.n hv2).mono ?_; rintro e w3 ⟨rfl, hb3⟩))
      go_ret2
      rw [HT.out]
      exact ⟨rfl, (hb0.trans (below_less hb2 (by simp))).trans (below_less hb3 (by have := hb2.size; simp at this; omega))⟩
end Go.Proofs.YtakdmnhpoelepaaGreatDoor
