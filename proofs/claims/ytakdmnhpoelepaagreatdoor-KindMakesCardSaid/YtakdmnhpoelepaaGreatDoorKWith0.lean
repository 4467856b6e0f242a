/-
  The parts of a type while the parameter's place is filled, part by part (plain, and in memory). No condition.
-/
import Derived.Test.YtakdmnhpoelepaaGreatDoorPlain1
import Derived.Test.YtakdmnhpoelepaaGreatDoorLevel1
import Derived.Laws.OwnMore
namespace Go.Proofs.YtakdmnhpoelepaaGreatDoor
open Go.RowKit

theorem Fo.put_cons (a : Tr) (pn : List UInt8) (k : Nat) (n : List UInt8) (sub rest : Fo) : (Fo.cons pn k n sub rest).put a = .cons pn ((Tr.mk k n sub).put a).k ((Tr.mk k n sub).put a).n ((Tr.mk k n sub).put a).sub (rest.put a) := by
  rw [Fo.put]
  unfold Tr.put
  split <;> rfl
/-- The first i parts filled. -/
def Fo.putTo (a : Tr) : Fo → Nat → Fo
  | fo, 0 => fo
  | .nil, _ + 1 => .nil
  | .cons pn k n sub rest, i + 1 => .cons pn ((Tr.mk k n sub).put a).k ((Tr.mk k n sub).put a).n ((Tr.mk k n sub).put a).sub (rest.putTo a i)
theorem Fo.putTo_all (a : Tr) : ∀ fo : Fo, fo.putTo a fo.len = fo.put a
  | .nil => rfl
  | .cons pn k n sub rest => by rw [Fo.len, Fo.putTo, Fo.putTo_all a rest, Fo.put_cons]
theorem Fo.putTo_len (a : Tr) : ∀ (fo : Fo) (i : Nat), (fo.putTo a i).len = fo.len
  | .nil, 0 => rfl
  | .nil, _ + 1 => rfl
  | .cons pn k n sub rest, 0 => rfl
  | .cons pn k n sub rest, i + 1 => by rw [Fo.putTo, Fo.len, Fo.putTo_len a rest i, Fo.len]
theorem Fo.putTo_at (a : Tr) : ∀ (fo : Fo) (i : Nat), (fo.putTo a i).at i = fo.at i
  | .nil, 0 => rfl
  | .nil, _ + 1 => rfl
  | .cons pn k n sub rest, 0 => rfl
  | .cons pn k n sub rest, i + 1 => by rw [Fo.putTo, Fo.at, Fo.putTo_at a rest i, Fo.at]
/-- Another type in the part of the given number. -/
def Fo.setAt (t : Tr) : Fo → Nat → Fo
  | .nil, _ => .nil
  | .cons pn _ _ _ rest, 0 => .cons pn t.k t.n t.sub rest
  | .cons pn k n sub rest, i + 1 => .cons pn k n sub (rest.setAt t i)
theorem Fo.putTo_succ (a : Tr) : ∀ (fo : Fo) (i : Nat) (pn : List UInt8) (t : Tr), fo.at i = some (pn, t) → fo.putTo a (i + 1) = (fo.putTo a i).setAt (t.put a) i
  | .nil, _, _, _, h => by simp [Fo.at] at h
  | .cons pn' k n sub rest, 0, pn, t, h => by
    simp only [Fo.at, Option.some.injEq, Prod.mk.injEq] at h
    obtain ⟨rfl, rfl⟩ := h
    simp only [Fo.putTo, Fo.setAt]
  | .cons pn' k n sub rest, i + 1, pn, t, h => by
    rw [Fo.putTo, Fo.putTo_succ a rest i pn t h, Fo.putTo, Fo.setAt]
theorem FoC.setAt {w : World} {D : Nat → Prop} {t : Tr} {v : Value} (ht : FoV w D t.sub v) : ∀ (fo : Fo) (cs : List Value) (i : Nat), FoC w D fo cs → i < fo.len →
    FoC w D (fo.setAt t i) (((cs.set (i * 4 + 1) (.int .u8 t.k)).set (i * 4 + 2) (str t.n)).set (i * 4 + 3) v)
  | .nil, _, _, _, h => by simp [Fo.len] at h
  | .cons pn k n sub rest, _, 0, ⟨v', cs', sc, e, h1, h2, h3, h4⟩, _ => by
    obtain ⟨sc', g1, g2, g3⟩ := ht
    rw [e]
    exact ⟨v, cs', sc', rfl, g1, g2, g3, h4⟩
  | .cons pn k n sub rest, _, i + 1, ⟨v', cs', sc, e, h1, h2, h3, h4⟩, hi => by
    have := FoC.setAt ht rest cs' i h4 (by simp only [Fo.len] at hi; omega)
    refine ⟨v', _, sc, ?_, h1, h2, h3, this⟩
    rw [e]
    rw [show (i + 1) * 4 + 1 = (i * 4 + 1) + 1 + 1 + 1 + 1 from by omega, show (i + 1) * 4 + 2 = (i * 4 + 2) + 1 + 1 + 1 + 1 from by omega, show (i + 1) * 4 + 3 = (i * 4 + 3) + 1 + 1 + 1 + 1 from by omega]
    simp only [List.set_cons_succ]
/-- The row of parts that a call fills: v' is its slice; no part's own parts lie in it. -/
def RowAt (wr : World) (base : Nat) (D : Nat → Prop) (fo : Fo) (v : Value) : Prop :=
  ∃ cs, wr.ownsRow base 63 4 v fo.len cs ∧ FoC wr (fun b => D b ∧ v.ownBlock ≠ some b) fo cs
theorem RowAt.kept {w w' : World} {base : Nat} {D : Nat → Prop} {fo : Fo} {v : Value} (h : RowAt w base D fo v) (hb : ∀ b, (D b ∨ base ≤ b) → b < w.heap.size → w'.heap[b]? = w.heap[b]?) : RowAt w' base D fo v := by
  obtain ⟨cs, h1, h2⟩ := h
  exact ⟨cs, ownsRow_of_block h1 (fun b e => hb b (.inr (h1.lt b e).1) (ownsRow_lt h1 e)), h2.kept fun b hb' hlt => hb b (.inl hb'.1) hlt⟩
theorem RowAt.below {B : Nat} {w w' : World} {base : Nat} {D : Nat → Prop} {fo : Fo} {v : Value} (h : RowAt w base D fo v) (hb : Below B w w') (hB : w.heap.size ≤ B) : RowAt w' base D fo v :=
  h.kept fun b _ hlt => hb.block b (by omega)
theorem RowAt.shape {w : World} {base : Nat} {D : Nat → Prop} {fo : Fo} {v : Value} (h : RowAt w base D fo v) : ∃ p c, v = .slice p fo.len c := by
  obtain ⟨cs, h1, h2⟩ := h
  exact row_shape h1
theorem RowAt.at {w : World} {base : Nat} {D : Nat → Prop} {fo : Fo} {v : Value} (h : RowAt w base D fo v) {i : Nat} (hi : i < fo.len) : ∃ g c pn t u, v = .slice (some ⟨g, 0, none⟩) fo.len c ∧ base ≤ g ∧ g < w.heap.size ∧ fo.at i = some (pn, t) ∧
    w.cell? ⟨g, i * 4, none⟩ = some (str pn) ∧ w.cell? ⟨g, i * 4 + 1, none⟩ = some (.int .u8 t.k) ∧ w.cell? ⟨g, i * 4 + 2, none⟩ = some (str t.n) ∧ w.cell? ⟨g, i * 4 + 3, none⟩ = some u ∧ FoV w (fun b => D b ∧ b ≠ g) t.sub u ∧ (∀ j, w.frozen? ⟨g, j, none⟩ = false) := by
  obtain ⟨cs, h1, h2⟩ := h
  obtain ⟨pn, t, u, a, b0, b1, b2, b3, c⟩ := h2.at fo cs i hi
  rcases h1.2 with ⟨rfl, hz⟩ | ⟨g, cap, cur, rfl, hb, hh, _, _⟩
  · omega
  · have hc : ∀ j x, cs[j]? = some x → w.cell? ⟨g, j, none⟩ = some x := by
      intro j x hx
      have := h1.cells (g := g) rfl _ _ hx
      simp only [Addr.add] at this
      split at this
      · rename_i e; rw [e]; exact this
      · simpa using this
    exact ⟨g, cap, pn, t, u, rfl, hb, ownsRow_lt h1 rfl, a, hc _ _ b0, hc _ _ b1, hc _ _ b2, hc _ _ b3, c.mono (fun b hb _ => ⟨hb.1, fun e => hb.2 (by rw [e]; rfl)⟩), fun j => free_at hh j⟩
/-- A part is written over. -/
theorem RowAt.set {w : World} {base : Nat} {D : Nat → Prop} {fo : Fo} {g c : Nat} (h : RowAt w base D fo (.slice (some ⟨g, 0, none⟩) fo.len c)) {i : Nat} (hi : i < fo.len) {t : Tr} {v : Value} (ht : FoV w (fun b => D b ∧ b ≠ g) t.sub v) (_hn : base ≤ g) :
    RowAt (((w.setCell ⟨g, i * 4 + 1, none⟩ (.int .u8 t.k)).setCell ⟨g, i * 4 + 2, none⟩ (str t.n)).setCell ⟨g, i * 4 + 3, none⟩ v) base D (fo.setAt t i) (.slice (some ⟨g, 0, none⟩) fo.len c) := by
  obtain ⟨cs, h1, h2⟩ := h
  have hl : (fo.setAt t i).len = fo.len := by
    have : ∀ (fo : Fo) (i : Nat), (fo.setAt t i).len = fo.len := by
      intro fo
      induction fo with
      | nil => intro i; rfl
      | cons pn k n sub rest _ ih =>
        intro i
        cases i with
        | zero => rfl
        | succ i => rw [Fo.setAt, Fo.len, ih, Fo.len]
    exact this fo i
  refine ⟨_, by rw [hl]; exact (((h1.stored (i * 4 + 1) (.int .u8 t.k)).1.stored (i * 4 + 2) (str t.n)).1.stored (i * 4 + 3) v).1, ?_⟩
  have h3 := FoC.setAt (t := t) (v := v) (ht.mono (D' := fun b => D b ∧ (Value.slice (some ⟨g, 0, none⟩) fo.len c).ownBlock ≠ some b) fun b hb _ => ⟨hb.1, fun e => hb.2 (by simpa [Value.ownBlock] using e.symm)⟩) fo cs i h2 hi
  refine h3.kept fun b hb _ => ?_
  have hne : b ≠ g := fun e => hb.2 (by rw [e]; rfl)
  rw [Below.heap_setCell _ _ _ _ hne, Below.heap_setCell _ _ _ _ hne, Below.heap_setCell _ _ _ _ hne]
theorem Fo.setAt_len (t : Tr) : ∀ (fo : Fo) (i : Nat), (fo.setAt t i).len = fo.len
  | .nil, _ => rfl
  | .cons pn k n sub rest, 0 => rfl
  | .cons pn k n sub rest, i + 1 => by rw [Fo.setAt, Fo.len, Fo.setAt_len t rest i, Fo.len]
end Go.Proofs.YtakdmnhpoelepaaGreatDoor
