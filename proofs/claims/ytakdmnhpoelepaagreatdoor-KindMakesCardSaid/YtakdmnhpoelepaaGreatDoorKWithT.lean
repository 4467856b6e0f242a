/-
  Contract: kind.With. Condition: the texts' length; the variable strings.asciiSpace.
-/
import Derived.Test.YtakdmnhpoelepaaGreatDoorKTwo
namespace Go.Proofs.YtakdmnhpoelepaaGreatDoor
open Go.RowKit

theorem subst_len (a : List UInt8) : ∀ (n : Nat) (s : List UInt8), s.length ≤ n → (subst a s).length ≤ s.length * (a.length + 1) := by
  intro n
  induction n with
  | zero => intro s h; have : s = [] := List.length_eq_zero_iff.1 (by omega); subst this; simp [subst]
  | succ n ih =>
    intro s h
    match s, h with
    | [], _ => simp [subst]
    | [c], _ =>
      rw [subst]
      split
      · simp
      · simp
    | c :: d :: r, h =>
      rw [subst]
      simp only [List.length_cons] at h
      split
      · have := ih r (by omega)
        simp only [List.length_append, List.length_cons, Nat.add_mul] at this ⊢
        omega
      · have := ih (d :: r) (by simp only [List.length_cons]; omega)
        simp only [List.length_cons, Nat.add_mul] at this ⊢
        omega
theorem put_small {t a : Tr} (ht : t.ok) (hl : t.txt.length ≤ 100) (ha : a.txt.length ≤ 100) : (t.put a).txt.length ≤ 1000000 := by
  rw [← ht.subst]
  have h := subst_len a.txt _ t.txt (Nat.le_refl _)
  have : t.txt.length * (a.txt.length + 1) ≤ 100 * 101 := Nat.mul_le_mul hl (by omega)
  omega
/-- What With answers. -/
def withK (s u : List UInt8) : List UInt8 × Nat := if (twoK s u).2.2 = 0 then toldK ((twoK s u).1.put (twoK s u).2.1) else ([], (twoK s u).2.2)
theorem twoK_ok {s u : List UInt8} {t a : Tr} (h : twoK s u = (t, a, 0)) : checkK s = (0, t) ∧ checkK u = (0, a) := by
  unfold twoK at h
  rcases hq : checkK s with ⟨c, x⟩
  rcases hr : checkK u with ⟨d, y⟩
  rw [hq, hr] at h
  simp only at h
  split at h
  · rename_i e
    simp only [Prod.mk.injEq] at h
    obtain ⟨rfl, rfl, rfl⟩ := h
    subst e
    exact ⟨rfl, rfl⟩
  · rename_i e
    simp only [Prod.mk.injEq] at h
    exact absurd h.2.2 e

set_option maxRecDepth 4000 in
set_option maxHeartbeats 3200000 in
theorem kwith_any (s u : List UInt8) (ms : s.length ≤ maxLen) (mu : u.length ≤ maxLen) (w : World) (ht : Tab w) :
    Calls Tryz.prog 15 #[str s, str u] w fun e w' => e = .returned (.tuple #[str (withK s u).1, .int .i64 (withK s u).2]) ∧ Below w.heap.size w w' := by
  have HC := two_any s u ms mu w ht
  unfold TwoPost at HC
  unfold withK
  rcases hq : twoK s u with ⟨t, a, c⟩
  rw [hq] at HC
  simp only at HC ⊢
  by_cases hc : c = 0
  · subst hc
    obtain ⟨h1, h2⟩ := twoK_ok hq
    obtain ⟨ot, et, lt, vt⟩ := checkK_ok h1
    obtain ⟨oa, ea, la, va⟩ := checkK_ok h2
    have htx : t.txt.length ≤ 100 := by rw [et]; exact lt
    have hps := put_small ot htx (by rw [ea]; exact la)
    have hpl : (t.put a).level ≤ 1000 := by have := Tr.put_level a t; omega
    have htx2 : t.txt.length ≤ 1000000 := by omega
    clear hq h1 h2 et ea lt la vt va
    go_enter Tryz.func15, Tryz.ntmps15
    go_wp2_with fail
    refine HC.mono ?_
    clear HC
    rintro e w1 ⟨v1, v2, rfl, hv1, hv2, hb1⟩
    obtain ⟨p1, c1, rfl, _⟩ := hv1.shape
    obtain ⟨p2, c2, rfl, _⟩ := hv2.shape
    have hbA := ((Below.refl _ w1).alloc (Nat.le_refl _) (.cells #[.int .u8 t.k, str t.n, .slice p1 t.sub.len c1] 57)).alloc (by simp) (.cells #[.int .u8 a.k, str a.n, .slice p2 a.sub.len c2] 57)
    have hw1 := hv1.below hbA (Nat.le_refl _)
    have hw2 := hv2.below hbA (Nat.le_refl _)
    have hz := hb1.size
    have hbB := hb1.trans (below_less hbA hz)
    clear hbA hv1 hv2
    go_wp2_with fail
    refine (with_any t a htx2 _ _ _ _ hw1 hw2).mono ?_
    rintro e w2 ⟨v', rfl, hv', hb2⟩
    obtain ⟨p3, c3, rfl, _⟩ := hv'.shape
    go_wp2_with fail
    refine (told_any (t.put a) hps hpl _ _ _ hv').mono ?_
    rintro e w3 ⟨rfl, hb3⟩
    go_wp2_with fail
    go_ret2
    exact ⟨rfl, (hbB.trans (below_less hb2 (by simp; omega))).trans (below_less hb3 (by have := hb2.size; simp at this; omega))⟩
  · obtain ⟨z1, z2⟩ := nat_ne0 hc
    have HZ := Lib.hid hc
    clear hq hc
    go_enter Tryz.func15, Tryz.ntmps15
    go_wp2_with fail
    refine HC.mono ?_
    clear HC
    rintro e w1 ⟨v1, v2, rfl, hv1, hv2, hb1⟩
    obtain ⟨p1, c1, rfl, _⟩ := hv1.shape
    obtain ⟨p2, c2, rfl, _⟩ := hv2.shape
    go_wp2_with fail
    go_ret2
    refine ⟨?_, (hb1.alloc hb1.size _).alloc (by have := hb1.size; simp; omega) _⟩
    rfl
end Go.Proofs.YtakdmnhpoelepaaGreatDoor
