/-
  Lemmas for the statement: contract: kind.Names. Conditions: bounds of lengths; the variable strings.asciiSpace.
-/
import Derived.Shelf.SlIter.Nil
import Derived.Test.YtemjidmkolfgnaaGreatDoorSB11
namespace Go.Proofs.YtemjidmkolfgnaaGreatDoor
open Go.RowKit Go.Shelf Go.Maps
attribute [local go_sem] Oper.semAt_some
end Go.Proofs.YtemjidmkolfgnaaGreatDoor
