/-
  A forest of types in memory: the cells of the parts, and all that is inside. No condition.
-/
import Derived.Test.YtakdmnhpoelepaaGreatDoorPlain0
namespace Go.Proofs.YtakdmnhpoelepaaGreatDoor
open Go.RowKit

/-- The cells of the parts of a type; the blocks of all that is inside satisfy D. -/
def FoC (w : World) (D : Nat → Prop) : Fo → List Value → Prop
  | .nil, cs => cs = []
  | .cons pn k n sub rest, cs => ∃ v cs' sc, cs = str pn :: .int .u8 k :: str n :: v :: cs' ∧ w.ownsRow 0 63 4 v sub.len sc ∧ (∀ b, v.ownBlock = some b → D b) ∧ FoC w D sub sc ∧ FoC w D rest cs'
/-- The slice value v holds parts. -/
def FoV (w : World) (D : Nat → Prop) (fo : Fo) (v : Value) : Prop := ∃ sc, w.ownsRow 0 63 4 v fo.len sc ∧ (∀ b, v.ownBlock = some b → D b) ∧ FoC w D fo sc

theorem ownsRow_of_block {w w' : World} {base : Nat} {e : TypeId} {size n : Nat} {v : Value} {xs : List Value} (h : w.ownsRow base e size v n xs) (hb : ∀ b, v.ownBlock = some b → w'.heap[b]? = w.heap[b]?) : w'.ownsRow base e size v n xs := by
  refine ⟨h.1, ?_⟩
  rcases h.2 with h2 | ⟨g, cap, cur, rfl, h3, h4, h5⟩
  · exact .inl h2
  · exact .inr ⟨g, cap, cur, rfl, h3, by rw [hb g rfl]; exact h4, h5⟩
theorem ownsRow_lt {w : World} {base : Nat} {e : TypeId} {size n : Nat} {v : Value} {xs : List Value} (h : w.ownsRow base e size v n xs) {b : Nat} (hb : v.ownBlock = some b) : b < w.heap.size := (h.lt b hb).2

theorem FoC.kept {w w' : World} {D : Nat → Prop} (hb : ∀ b, D b → b < w.heap.size → w'.heap[b]? = w.heap[b]?) : ∀ (fo : Fo) (cs : List Value), FoC w D fo cs → FoC w' D fo cs
  | .nil, _, h => h
  | .cons _ _ _ sub rest, _, ⟨v, cs', sc, e, h1, h2, h3, h4⟩ =>
    ⟨v, cs', sc, e, ownsRow_of_block h1 (fun b e => hb b (h2 b e) (ownsRow_lt h1 e)), h2, FoC.kept hb sub sc h3, FoC.kept hb rest cs' h4⟩
theorem FoC.mono {w : World} {D D' : Nat → Prop} (hD : ∀ b, D b → b < w.heap.size → D' b) : ∀ (fo : Fo) (cs : List Value), FoC w D fo cs → FoC w D' fo cs
  | .nil, _, h => h
  | .cons _ _ _ sub rest, _, ⟨v, cs', sc, e, h1, h2, h3, h4⟩ => ⟨v, cs', sc, e, h1, fun b e => hD b (h2 b e) (ownsRow_lt h1 e), FoC.mono hD sub sc h3, FoC.mono hD rest cs' h4⟩
theorem FoC.length {w : World} {D : Nat → Prop} : ∀ (fo : Fo) (cs : List Value), FoC w D fo cs → cs.length = fo.len * 4
  | .nil, _, h => by rw [show _ = [] from h]; simp [Fo.len]
  | .cons _ _ _ _ rest, _, ⟨v, cs', sc, e, _, _, _, h4⟩ => by
    have := FoC.length rest cs' h4
    rw [e]
    simp [Fo.len, this]
    omega
theorem FoV.kept {w w' : World} {D : Nat → Prop} (hb : ∀ b, D b → b < w.heap.size → w'.heap[b]? = w.heap[b]?) {fo : Fo} {v : Value} (h : FoV w D fo v) : FoV w' D fo v := by
  obtain ⟨sc, h1, h2, h3⟩ := h
  exact ⟨sc, ownsRow_of_block h1 (fun b e => hb b (h2 b e) (ownsRow_lt h1 e)), h2, h3.kept hb⟩
theorem FoV.mono {w : World} {D D' : Nat → Prop} (hD : ∀ b, D b → b < w.heap.size → D' b) {fo : Fo} {v : Value} (h : FoV w D fo v) : FoV w D' fo v := by
  obtain ⟨sc, h1, h2, h3⟩ := h
  exact ⟨sc, h1, fun b e => hD b (h2 b e) (ownsRow_lt h1 e), h3.mono hD⟩
theorem FoV.nil (w : World) (D : Nat → Prop) : FoV w D .nil (.slice none 0 0) := ⟨[], World.ownsRow_nil _ _ _ _, by intro b h; simp [Value.ownBlock] at h, rfl⟩
theorem FoV.below {B : Nat} {w w' : World} {D : Nat → Prop} {fo : Fo} {v : Value} (h : FoV w D fo v) (hb : Below B w w') (hB : w.heap.size ≤ B) : FoV w' D fo v :=
  h.kept fun b _ hlt => hb.block b (by omega)

/-- One forest behind another. -/
def Fo.app : Fo → Fo → Fo
  | .nil, g => g
  | .cons pn k n sub rest, g => .cons pn k n sub (rest.app g)
theorem Fo.app_nil : ∀ f : Fo, f.app .nil = f
  | .nil => rfl
  | .cons pn k n sub rest => by rw [Fo.app, Fo.app_nil rest]
theorem Fo.app_assoc : ∀ f g h : Fo, (f.app g).app h = f.app (g.app h)
  | .nil, _, _ => rfl
  | .cons pn k n sub rest, g, h => by rw [Fo.app, Fo.app, Fo.app, Fo.app_assoc rest g h]
theorem Fo.len_app : ∀ f g : Fo, (f.app g).len = f.len + g.len
  | .nil, g => by simp [Fo.app, Fo.len]
  | .cons pn k n sub rest, g => by rw [Fo.app, Fo.len, Fo.len_app rest g, Fo.len]; omega
theorem FoC.app {w : World} {D : Nat → Prop} {g : Fo} {cg : List Value} (hg : FoC w D g cg) : ∀ (fo : Fo) (cs : List Value), FoC w D fo cs → FoC w D (fo.app g) (cs ++ cg)
  | .nil, _, h => by rw [show _ = [] from h]; exact hg
  | .cons _ _ _ _ rest, _, ⟨v, cs', sc, e, h1, h2, h3, h4⟩ => ⟨v, cs' ++ cg, sc, by rw [e]; rfl, h1, h2, h3, FoC.app hg rest cs' h4⟩
/-- A part of its own. -/
theorem FoC.single {w : World} {D : Nat → Prop} {pn n : List UInt8} {k : Nat} {sub : Fo} {v : Value} (h : FoV w D sub v) : FoC w D (.cons pn k n sub .nil) [str pn, .int .u8 k, str n, v] := by
  obtain ⟨sc, h1, h2, h3⟩ := h
  exact ⟨v, [], sc, rfl, h1, h2, h3, rfl⟩
/-- The name of the last part. -/
def Fo.last : Fo → List UInt8
  | .nil => []
  | .cons pn _ _ _ .nil => pn
  | .cons _ _ _ _ (.cons pn k n sub rest) => Fo.last (.cons pn k n sub rest)
theorem Fo.last_snoc (pn : List UInt8) (k : Nat) (n : List UInt8) (sub : Fo) : ∀ f : Fo, (f.app (.cons pn k n sub .nil)).last = pn
  | .nil => rfl
  | .cons _ _ _ _ .nil => rfl
  | .cons _ _ _ _ (.cons pn' k' n' sub' rest) => by
    rw [Fo.app]
    have := Fo.last_snoc pn k n sub (.cons pn' k' n' sub' rest)
    rw [Fo.app] at this ⊢
    rw [Fo.last]
    exact this
/-- The cell of the last part's name. -/
theorem FoC.last {w : World} {D : Nat → Prop} : ∀ (fo : Fo) (cs : List Value), FoC w D fo cs → fo.len ≠ 0 → cs[(fo.len - 1) * 4]? = some (str fo.last)
  | .nil, _, _, h => by simp [Fo.len] at h
  | .cons pn _ _ _ .nil, _, ⟨v, cs', sc, e, _, _, _, _⟩, _ => by rw [e]; simp [Fo.len, Fo.last]
  | .cons _ _ _ _ (.cons pn k n sub rest), _, ⟨v, cs', sc, e, _, _, _, h4⟩, _ => by
    have := FoC.last (.cons pn k n sub rest) cs' h4 (by simp [Fo.len])
    rw [Fo.last, ← this, e]
    simp only [Fo.len]
    rw [show (rest.len + 1 + 1 - 1) * 4 = (rest.len + 1 - 1) * 4 + 1 + 1 + 1 + 1 from by omega]
    simp
end Go.Proofs.YtakdmnhpoelepaaGreatDoor
