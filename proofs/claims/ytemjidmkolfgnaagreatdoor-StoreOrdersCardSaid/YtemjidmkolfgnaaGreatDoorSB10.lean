/-
  Lemmas for the statement: contract: the program's kind.sorted at parts: a few parts in the order of their names. Conditions: bounds of lengths; the variable strings.asciiSpace.
-/
import Derived.Shelf.SlIter.Nil
import Derived.Shelf.SlSortCmp.InsertionK
import Derived.Test.YtemjidmkolfgnaaGreatDoorSB9
namespace Go.Proofs.YtemjidmkolfgnaaGreatDoor
open Go.RowKit Go.Sort Go.Shelf
instance:Inhabited Tr:=⟨⟨0,[],.nil⟩⟩
end Go.Proofs.YtemjidmkolfgnaaGreatDoor
