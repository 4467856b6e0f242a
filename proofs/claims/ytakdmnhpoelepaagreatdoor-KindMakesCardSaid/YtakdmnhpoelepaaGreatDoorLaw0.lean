/-
  With, as the statements need it (plain): what it answers where it succeeds; twice; by the parameter; where the type is not open. No condition.
  What the functions answer, in any world with the table: the form in which the statements' walks use the contracts. Condition: the texts' lengths.
-/
import Derived.Test.YtakdmnhpoelepaaGreatDoorKWithT
import Derived.Test.YtakdmnhpoelepaaGreatDoorKept
namespace Go.Proofs.YtakdmnhpoelepaaGreatDoor

/-- The text of the parameter. -/
def qT : List UInt8 := [63, 116]
theorem checkQ : checkK qT = (0, ⟨8, [], .nil⟩) := by kernel_rfl
theorem withK_eq {s u : List UInt8} {t a : Tr} (hs : checkK s = (0, t)) (hu : checkK u = (0, a)) : withK s u = toldK (t.put a) := by
  unfold withK twoK
  simp only [hs, hu, if_true]
theorem withK_ok {s u x : List UInt8} (h : withK s u = (x, 0)) : ∃ t a, checkK s = (0, t) ∧ checkK u = (0, a) ∧ x = (t.put a).txt ∧ checkK x = (0, t.put a) := by
  have h2 : (twoK s u).2.2 = 0 := by
    unfold withK at h
    split at h
    · assumption
    · rename_i hc; simp only [Prod.mk.injEq] at h; exact absurd h.2 hc
  rcases hq : twoK s u with ⟨t, a, c⟩
  rw [hq] at h2
  simp only at h2
  subst h2
  obtain ⟨h3, h4⟩ := twoK_ok hq
  rw [withK_eq h3 h4] at h
  obtain ⟨o1, _⟩ := checkK_ok h3
  obtain ⟨o2, _⟩ := checkK_ok h4
  have ho : (t.put a).ok := Tr.ok.put o2 o1
  unfold toldK at h
  split at h
  · simp at h
  · rename_i hs
    simp only [Prod.mk.injEq, and_true] at h
    refine ⟨t, a, h3, h4, h.symm, ?_⟩
    rw [← h, checkK_of ho, if_neg hs]
theorem withK_bad {s u : List UInt8} (h : (checkK s).1 ≠ 0) : (withK s u).2 ≠ 0 := by
  unfold withK twoK
  rw [if_neg h]
  simp only
  rw [if_neg h]
  exact h
theorem Fo.put_put (a b : Tr) : ∀ fo : Fo, (fo.put a).put b = fo.put (a.put b)
  | .nil => rfl
  | .cons pn k n sub rest => by
    have h1 := Fo.put_put a b sub
    have h2 := Fo.put_put a b rest
    by_cases hk : k = 8
    · rw [Fo.put, if_pos hk, Fo.put, h2, Fo.put, if_pos hk]
      unfold Tr.put
      split <;> rfl
    · rw [Fo.put, if_neg hk, Fo.put, if_neg hk, h1, h2, Fo.put, if_neg hk]
theorem Tr.put_put (a b t : Tr) : (t.put a).put b = t.put (a.put b) := by
  by_cases hk : t.k = 8
  · rw [Tr.put, Tr.put, if_pos hk, Tr.put, if_pos hk]
    rfl
  · have h := Fo.put_put a b t.sub
    simp only [Tr.put, hk, if_false, h]
    try (split <;> rfl)
theorem Wf.put_par {tag : Option (List UInt8)} {fo : Fo} (h : Wf tag fo) : fo.put ⟨8, [], .nil⟩ = fo := by
  induction h with
  | par => rfl
  | word k h => rw [Fo.put, if_neg (by omega)]; rfl
  | arr x h ih => rw [Fo.put, if_neg (by omega), ih]; rfl
  | rcd k w fo hk h hl ih => rw [Fo.put, if_neg (by omega), ih]; rfl
  | nam n hn => rw [Fo.put, if_neg (by omega)]; rfl
  | app n x hn h ih => rw [Fo.put, if_neg (by omega), ih]; rfl
  | last b pn k n sub hn hb h ih =>
    rw [Fo.put] at ih ⊢
    split at ih
    · rw [if_pos ‹_›]; obtain ⟨_, e1, e2, e3, e4⟩ := Fo.cons.inj ih; exact (Fo.cons.injEq ..).mpr ⟨rfl, e1, e2, e3, e4⟩
    · rw [if_neg ‹_›]; obtain ⟨_, e1, e2, e3, e4⟩ := Fo.cons.inj ih; exact (Fo.cons.injEq ..).mpr ⟨rfl, e1, e2, e3, e4⟩
  | more b pn k n sub rest hn hb h h2 ih ih2 =>
    rw [Fo.put] at ih ⊢
    split at ih
    · rw [if_pos ‹_›]; obtain ⟨_, e1, e2, e3, e4⟩ := Fo.cons.inj ih; exact (Fo.cons.injEq ..).mpr ⟨rfl, e1, e2, e3, ih2⟩
    · rw [if_neg ‹_›]; obtain ⟨_, e1, e2, e3, e4⟩ := Fo.cons.inj ih; exact (Fo.cons.injEq ..).mpr ⟨rfl, e1, e2, e3, ih2⟩
theorem Tr.ok.put_par {t : Tr} (h : t.ok) : t.put ⟨8, [], .nil⟩ = t := by
  have h1 := Wf.put_par h
  rw [Fo.put_one] at h1
  rcases t with ⟨k, n, sub⟩
  unfold Fo.one at h1
  simp only [Fo.cons.injEq] at h1
  obtain ⟨_, e1, e2, e3, _⟩ := h1
  rcases hq : (Tr.mk k n sub).put ⟨8, [], .nil⟩ with ⟨k', n', sub'⟩
  rw [hq] at e1 e2 e3
  simp only at e1 e2 e3
  rw [e1, e2, e3]
theorem toldK_ok {t : Tr} (h1 : t.txt.length ≤ 100) (h2 : t.level ≤ 6) : toldK t = (t.txt, 0) := by
  unfold toldK; rw [if_neg (by omega)]

/-- With by the parameter, and of the parameter. -/
theorem withK_par {t : List UInt8} (h : (checkK t).1 = 0) : withK t qT = (t, 0) ∧ withK qT t = (t, 0) := by
  rcases hq : checkK t with ⟨c, T⟩
  rw [hq] at h
  simp only at h
  subst h
  obtain ⟨h1, h2, h3, h4⟩ := checkK_ok hq
  constructor
  · rw [withK_eq hq checkQ, h1.put_par, toldK_ok (by rw [h2]; exact h3) h4, h2]
  · rw [withK_eq checkQ hq, show (Tr.mk 8 [] .nil).put T = T from rfl, toldK_ok (by rw [h2]; exact h3) h4, h2]
/-- A type that is not open stays. -/
theorem withK_shut {t a x : List UInt8} (ho : openK t = false) (h : withK t a = (x, 0)) : x = t := by
  obtain ⟨T, A, h1, h2, h3, _⟩ := withK_ok h
  unfold openK at ho
  rw [h1] at ho
  simp only [if_true] at ho
  rw [h3, Tr.put_shut ho]
  exact (checkK_ok h1).2.1
/-- Twice. -/
theorem withK_with {t a b x y : List UInt8} (h : withK t a = (x, 0)) (k : withK a b = (y, 0)) : withK x b = withK t y := by
  obtain ⟨T, A, h1, h2, _, h4⟩ := withK_ok h
  obtain ⟨A', B, k1, k2, _, k4⟩ := withK_ok k
  rw [h2] at k1
  simp only [Prod.mk.injEq, true_and] at k1
  subst k1
  rw [withK_eq h4 k2, withK_eq h1 k4, Tr.put_put]
end Go.Proofs.YtakdmnhpoelepaaGreatDoor

namespace Go.Proofs.YtakdmnhpoelepaaGreatDoor
open Go.RowKit

/-- The call answers r in every world with the table. -/
def Ans (f : FuncId) (args : Array Value) (r : Value) : Prop := ∀ W, Tab W → Calls Tryz.prog f args W fun e w' => e = .returned r ∧ Below W.heap.size W w'
theorem small400 {s : List UInt8} (h : s.length ≤ 400) : s.length ≤ maxLen := by unfold maxLen; omega
theorem aWith {s u x : List UInt8} {c : Nat} (hs : s.length ≤ 400) (hu : u.length ≤ 400) (h : withK s u = (x, c)) : Ans 15 #[str s, str u] (.tuple #[str x, .int .i64 c]) := by
  intro W ht
  have hC := kwith_any s u (small400 hs) (small400 hu) W ht
  rw [h] at hC
  exact hC
theorem aCheck {s : List UInt8} (hs : s.length ≤ 400) : Ans 24 #[str s] (.int .i64 (checkK s).1) := fun W ht => kcheck_any s (small400 hs) W ht
theorem aOpen {s : List UInt8} (hs : s.length ≤ 400) : Ans 25 #[str s] (.tuple #[.bool (openK s), .int .i64 (checkK s).1]) := fun W ht => kopen_any s (small400 hs) W ht
theorem aKind {s : List UInt8} (hs : s.length ≤ 400) : Ans 28 #[str s] (.tuple #[.int .u8 (checkK s).2.k, .int .i64 (checkK s).1]) := fun W ht => kkind_any s (small400 hs) W ht
theorem aLevel {s : List UInt8} (hs : s.length ≤ 400) : Ans 27 #[str s] (.tuple #[.int .i64 (levelK s), .int .i64 (checkK s).1]) := fun W ht => klevel_any s (small400 hs) W ht
theorem aMatch {s u : List UInt8} (hs : s.length ≤ 400) (hu : u.length ≤ 400) : Ans 17 #[str s, str u] (.tuple #[str (matchK s u).1, .bool (matchK s u).2.1, .int .i64 (matchK s u).2.2]) := fun W ht => kmatch_any s u (small400 hs) (small400 hu) W ht
theorem aKept : Ans 14 #[] (.bool true) := kept_any
/-- Texts in a new block are short enough, or not. -/
theorem short_new (l : List (List UInt8)) (w : World) (c : Nat) (h : l.length ≤ 12) : Calls Tryz.prog 13 #[.slice (some ⟨w.heap.size, 0, none⟩) l.length c] (w.alloc (.cells (strsC l).toArray 9)) fun e w' => e = .returned (.bool (l.all fun s => decide (s.length ≤ 400))) ∧ Below w.heap.size w w' :=
  (short_any l _ _ (strs_new w l _ _ c (by unfold maxLen; omega)) h).mono fun e w' hh => ⟨hh.1, ((Below.refl _ w).alloc (Nat.le_refl _) _).trans (below_less hh.2 (by simp))⟩
theorem short3 (t a b : List UInt8) (w : World) (q : Bool) (h : (decide (t.length ≤ 400) && (decide (a.length ≤ 400) && decide (b.length ≤ 400))) = q) : Calls Tryz.prog 13 #[.slice (some ⟨w.heap.size, 0, none⟩) 3 3] (w.alloc (.cells #[str t, str a, str b] 9)) fun e w' => e = .returned (.bool q) ∧ Below w.heap.size w w' := by
  have hC := short_new [t, a, b] w 3 (by simp)
  rw [show ([t, a, b].all fun s => decide (s.length ≤ 400)) = q by rw [← h]; simp] at hC
  exact hC
theorem short2 (t a : List UInt8) (w : World) (q : Bool) (h : (decide (t.length ≤ 400) && decide (a.length ≤ 400)) = q) : Calls Tryz.prog 13 #[.slice (some ⟨w.heap.size, 0, none⟩) 2 2] (w.alloc (.cells #[str t, str a] 9)) fun e w' => e = .returned (.bool q) ∧ Below w.heap.size w w' := by
  have hC := short_new [t, a] w 2 (by simp)
  rw [show ([t, a].all fun s => decide (s.length ≤ 400)) = q by rw [← h]; simp] at hC
  exact hC
theorem short1 (t : List UInt8) (w : World) (q : Bool) (h : decide (t.length ≤ 400) = q) : Calls Tryz.prog 13 #[.slice (some ⟨w.heap.size, 0, none⟩) 1 1] (w.alloc (.cells #[str t] 9)) fun e w' => e = .returned (.bool q) ∧ Below w.heap.size w w' := by
  have hC := short_new [t] w 1 (by simp)
  rw [show ([t].all fun s => decide (s.length ≤ 400)) = q by rw [← h]; simp] at hC
  exact hC
end Go.Proofs.YtakdmnhpoelepaaGreatDoor
