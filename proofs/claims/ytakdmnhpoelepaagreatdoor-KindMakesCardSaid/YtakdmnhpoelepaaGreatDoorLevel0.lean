/-
  The parts of a forest by number; the levels of the first parts (plain).
-/
import Derived.Test.YtakdmnhpoelepaaGreatDoorForest
import Derived.Test.YtakdmnhpoelepaaGreatDoorPlain1
namespace Go.Proofs.YtakdmnhpoelepaaGreatDoor
open Go.RowKit

/-- The part of the given number: its name; its type's kind, name, parts. -/
def Fo.at : Fo → Nat → Option (List UInt8 × Tr)
  | .nil, _ => none
  | .cons pn k n sub _, 0 => some (pn, ⟨k, n, sub⟩)
  | .cons _ _ _ _ rest, i + 1 => rest.at i
/-- The most levels of the first i parts. -/
def Fo.levTo : Fo → Nat → Nat
  | _, 0 => 0
  | .nil, _ + 1 => 0
  | .cons _ _ _ sub rest, i + 1 => max (sub.level + 1) (rest.levTo i)

theorem FoC.at {w : World} {D : Nat → Prop} : ∀ (fo : Fo) (cs : List Value) (i : Nat), FoC w D fo cs → i < fo.len → ∃ pn t v, fo.at i = some (pn, t) ∧ cs[i * 4]? = some (str pn) ∧ cs[i * 4 + 1]? = some (.int .u8 t.k) ∧ cs[i * 4 + 2]? = some (str t.n) ∧ cs[i * 4 + 3]? = some v ∧ FoV w D t.sub v
  | .nil, _, _, _, h => by simp [Fo.len] at h
  | .cons pn k n sub rest, _, 0, ⟨v, cs', sc, e, h1, h2, h3, _⟩, _ => ⟨pn, ⟨k, n, sub⟩, v, rfl, by rw [e]; rfl, by rw [e]; rfl, by rw [e]; rfl, by rw [e]; rfl, sc, h1, h2, h3⟩
  | .cons pn k n sub rest, _, i + 1, ⟨v, cs', sc, e, h1, h2, h3, h4⟩, hi => by
    obtain ⟨pn', t, v', a, b0, b1, b2, b3, c⟩ := FoC.at rest cs' i h4 (by simp only [Fo.len] at hi; omega)
    have hs : ∀ j, (str pn :: .int .u8 k :: str n :: v :: cs')[(i + 1) * 4 + j]? = cs'[i * 4 + j]? := by
      intro j
      rw [show (i + 1) * 4 + j = (i * 4 + j) + 1 + 1 + 1 + 1 from by omega]
      simp
    refine ⟨pn', t, v', a, ?_, ?_, ?_, ?_, c⟩
    · rw [e]; exact (hs 0).trans b0
    · rw [e]; exact (hs 1).trans b1
    · rw [e]; exact (hs 2).trans b2
    · rw [e]; exact (hs 3).trans b3
theorem Fo.levTo_succ : ∀ (fo : Fo) (i : Nat) (pn : List UInt8) (t : Tr), fo.at i = some (pn, t) → fo.levTo (i + 1) = max (fo.levTo i) (t.sub.level + 1)
  | .nil, _, _, _, h => by simp [Fo.at] at h
  | .cons _ _ _ sub rest, 0, _, _, h => by
    simp only [Fo.at, Option.some.injEq, Prod.mk.injEq] at h
    obtain ⟨_, rfl⟩ := h
    simp [Fo.levTo]
  | .cons _ _ _ sub rest, i + 1, pn, t, h => by
    have := Fo.levTo_succ rest i pn t h
    rw [Fo.levTo, this, Fo.levTo]
    omega
theorem Fo.levTo_all : ∀ fo : Fo, fo.levTo fo.len = fo.level
  | .nil => rfl
  | .cons _ _ _ sub rest => by rw [Fo.len, Fo.levTo, Fo.levTo_all rest, Fo.level]
theorem Fo.at_level : ∀ (fo : Fo) (i : Nat) (pn : List UInt8) (t : Tr), fo.at i = some (pn, t) → t.sub.level + 1 ≤ fo.level
  | .nil, _, _, _, h => by simp [Fo.at] at h
  | .cons _ _ _ sub rest, 0, _, _, h => by
    simp only [Fo.at, Option.some.injEq, Prod.mk.injEq] at h
    obtain ⟨_, rfl⟩ := h
    rw [Fo.level]
    exact Nat.le_max_left _ _
  | .cons _ _ _ sub rest, i + 1, pn, t, h => by
    have := Fo.at_level rest i pn t h
    rw [Fo.level]
    omega
theorem Fo.levTo_le : ∀ (fo : Fo) (i : Nat), fo.levTo i ≤ fo.level
  | .nil, 0 => Nat.le_refl _
  | .nil, _ + 1 => Nat.le_refl _
  | .cons _ _ _ _ _, 0 => by simp [Fo.levTo]
  | .cons _ _ _ sub rest, i + 1 => by
    have := Fo.levTo_le rest i
    rw [Fo.levTo, Fo.level]
    omega
theorem Fo.at_txt : ∀ (fo : Fo) (i : Nat) (pn : List UInt8) (t : Tr), fo.at i = some (pn, t) → fo.txt[i]? = some (preN pn ++ t.txt)
  | .nil, _, _, _, h => by simp [Fo.at] at h
  | .cons pn' k n sub rest, 0, pn, t, h => by
    simp only [Fo.at, Option.some.injEq, Prod.mk.injEq] at h
    obtain ⟨rfl, rfl⟩ := h
    rw [show Fo.cons pn' k n sub rest = .cons pn' (Tr.mk k n sub).k (Tr.mk k n sub).n (Tr.mk k n sub).sub rest from rfl, Fo.txt_cons]
    rfl
  | .cons pn' k n sub rest, i + 1, pn, t, h => by
    rw [show Fo.cons pn' k n sub rest = .cons pn' (Tr.mk k n sub).k (Tr.mk k n sub).n (Tr.mk k n sub).sub rest from rfl, Fo.txt_cons, List.getElem?_cons_succ]
    exact Fo.at_txt rest i pn t h
theorem below_less {B B' : Nat} {a b : World} (h : Below B' a b) (hB : B ≤ B') : Below B a b := ⟨h.os, h.tape, h.output, h.size, fun k hk => h.block k (by omega)⟩
theorem ownsRow_below {B : Nat} {w w' : World} {base : Nat} {e : TypeId} {size n : Nat} {v : Value} {xs : List Value} (h : w.ownsRow base e size v n xs) (hb : Below B w w') (hB : w.heap.size ≤ B) : w'.ownsRow base e size v n xs :=
  ownsRow_of_block h fun _ e => hb.block _ (Nat.lt_of_lt_of_le (ownsRow_lt h e) hB)
end Go.Proofs.YtakdmnhpoelepaaGreatDoor
