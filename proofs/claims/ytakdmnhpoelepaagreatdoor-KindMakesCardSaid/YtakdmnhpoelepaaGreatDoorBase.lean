/-
  The base of this seat's texts: words of the walk for strings that are given as lists of bytes. No condition.
-/
import Derived.Test.YtakdmnhpoelepaaGreatDoorRows
import Derived.WalkKit
import Derived.WalkSpells
import Derived.WalkLawsBesides
import Derived.StillTactics
import Derived.StillTailTactics
import Derived.Laws.Pointers
import Derived.Laws.ResultCell
import Derived.Laws.EntriesVeiled
import Derived.Deep.RegionHeld3
import Derived.BigQuiet
import Derived.Deep.QuietTactic
import Derived.Lib.Hide
namespace Go.Proofs.YtakdmnhpoelepaaGreatDoor
open Go.RowKit

@[go_sem] theorem bytes_get (l : List UInt8) (k : Nat) (h : k < (⟨l.toArray⟩ : ByteArray).size) : (⟨l.toArray⟩ : ByteArray)[k]'h = l[k]'h := rfl
@[go_sem] theorem bytes_extract (l : List UInt8) (a b : Nat) : (⟨l.toArray⟩ : ByteArray).extract a b = ⟨((l.take b).drop a).toArray⟩ := by
  apply ByteArray.ext
  simp [ByteArray.data_extract, List.extract_eq_take_drop, List.drop_take]

/-- A string of bytes. -/
abbrev str (l : List UInt8) : Value := .string ⟨l.toArray⟩

theorem ret_int {k : IntKind} {a b : Int} (h : a = b) : Ending.returned (.int k a) = .returned (.int k b) := by rw [h]
end Go.Proofs.YtakdmnhpoelepaaGreatDoor
