/-
  Contracts: the program's comparison of two parts by their names (cmp.Compare[string], the closures of kind.sorted and kind.made). No condition. Contract: the program's kind.sorted at parts: a few parts in the order of their names. Condition: at most twelve parts, in a row of the call's own. Contracts: slices.stableCmpFunc, slices.SortStableFunc and kind.sorted at a few parts. Condition: at most twelve parts, in a row of the call's own. Contracts: whether a part has no name (slices.ContainsFunc at api.Part); parts as lists (plain, and in memory). Condition: lengths; the variable strings.asciiSpace. The parts of a record that is being made: in memory, as a list, as a forest; sorted by name (plain, and in memory). No condition. Contract: kind.made. Condition: the number and the lengths of the parts; the variable strings.asciiSpace.
-/
import Derived.ChangeAlike
import Derived.Maps.AppendAt
import Derived.RegionTactic
import Derived.Shelf.SlSortCmp.InsertionK
import Derived.Sort.Grow
import Derived.Sort.LotA
import Derived.Sort.OwnSorted
import Derived.Test.YtakgjcfkdemipaaGreatDoorZ0
import Derived.Test.YtakgjcfkdemipaaGreatDoorZ12
import Derived.Test.YtakgjcfkdemipaaGreatDoorZ13
namespace Go.Proofs.YtakgjcfkdemipaaGreatDoor
open Go.RowKit Go.Sort
abbrev PV := List UInt8 × Tr × Option Addr × Nat × Nat
def encP (x : PV) : List Value := [str x.1, .int .u8 x.2.1.k, str x.2.1.n, .slice x.2.2.1 x.2.2.2.1 x.2.2.2.2]
def Gr (W W' : World) : Prop := ∃ q os, W' = grow (W.drewN q) os
theorem Gr.refl (W : World) : Gr W W := ⟨0, #[], by simp [World.drewN]⟩
theorem Gr.alloc {W W' : World} (h : Gr W W') (o : Obj) : Gr W (W'.alloc o) := by
 obtain ⟨q, os, rfl⟩ := h
 exact ⟨q, os ++ #[o], by rw [alloc_eq_grow, grow_grow]⟩
end Go.Proofs.YtakgjcfkdemipaaGreatDoor
namespace Go.Proofs.YtakgjcfkdemipaaGreatDoor
open Go.RowKit Go.Sort Go.Shelf
instance : Inhabited Tr := ⟨⟨0, [], .nil⟩⟩
end Go.Proofs.YtakgjcfkdemipaaGreatDoor
namespace Go.Proofs.YtakgjcfkdemipaaGreatDoor
open Go.RowKit Go.Sort Go.Shelf
end Go.Proofs.YtakgjcfkdemipaaGreatDoor
namespace Go.Proofs.YtakgjcfkdemipaaGreatDoor
open Go.RowKit
def Pts (w : World) (v : Value) (ps : List (List UInt8 × List UInt8)) : Prop :=
 (v = .slice none 0 0 ∧ ps = []) ∨ ∃ b o c, v = .slice (some ⟨b, o, none⟩) ps.length c ∧ b < w.heap.size ∧ ∀ j (h : j < ps.length), w.cell? ⟨b, o + j * 2, none⟩ = some (str ps[j].1) ∧ w.cell? ⟨b, o + j * 2 + 1, none⟩ = some (str ps[j].2)
theorem Pts.below {w w' : World} {v : Value} {ps : List (List UInt8 × List UInt8)} (h : Pts w v ps) (hb : Below w.heap.size w w') : Pts w' v ps := by
 rcases h with h | ⟨b, o, c, rfl, hl, hc⟩
 · exact .inl h
 · refine .inr ⟨b, o, c, rfl, Nat.lt_of_lt_of_le hl hb.size, fun j h => ⟨Below.keep hb (hc j h).1, Below.keep hb (hc j h).2⟩⟩
theorem Pts.shape {w : World} {v : Value} {ps : List (List UInt8 × List UInt8)} (h : Pts w v ps) : ∃ p c, v = .slice p ps.length c := by
 rcases h with ⟨rfl, rfl⟩ | ⟨b, o, c, rfl, _⟩
 · exact ⟨none, 0, rfl⟩
 · exact ⟨_, _, rfl⟩
theorem Pts.at {w : World} {v : Value} {ps : List (List UInt8 × List UInt8)} (h : Pts w v ps) {j : Nat} (hj : j < ps.length) : ∃ b o c x, v = .slice (some ⟨b, o, none⟩) ps.length c ∧ ps[j]? = some x ∧ w.cell? ⟨b, o + j * 2, none⟩ = some (str x.1) ∧ w.cell? ⟨b, o + j * 2 + 1, none⟩ = some (str x.2) := by
 rcases h with ⟨rfl, rfl⟩ | ⟨b, o, c, rfl, hl, hc⟩
 · simp at hj
 · exact ⟨b, o, c, ps[j], rfl, List.getElem?_eq_getElem hj, (hc j hj).1, (hc j hj).2⟩
end Go.Proofs.YtakgjcfkdemipaaGreatDoor
namespace Go.Proofs.YtakgjcfkdemipaaGreatDoor
open Go.RowKit
def PR (w : World) (D : Nat → Prop) (v : Value) (l : List PV) : Prop :=
 w.ownsRow 0 192 4 v l.length (l.flatMap encP) ∧ (∀ b, v.ownBlock = some b → D b) ∧ ∀ x ∈ l, FoV w (fun b => D b ∧ v.ownBlock ≠ some b) x.2.1.sub (.slice x.2.2.1 x.2.2.2.1 x.2.2.2.2)
theorem PR.nil (w : World) (D : Nat → Prop) : PR w D (.slice none 0 0) [] := ⟨World.ownsRow_nil _ _ _ _, by intro b h; simp [Value.ownBlock] at h, by simp⟩
end Go.Proofs.YtakgjcfkdemipaaGreatDoor
namespace Go.Proofs.YtakgjcfkdemipaaGreatDoor
open Go.RowKit Go.Sort
end Go.Proofs.YtakgjcfkdemipaaGreatDoor
