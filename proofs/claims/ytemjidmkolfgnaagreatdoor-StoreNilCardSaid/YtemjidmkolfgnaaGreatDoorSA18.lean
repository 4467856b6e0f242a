/-
  Lemmas for the statement: arguments that are faces, needs, operations: what their reading says of memory. No condition.
-/
import Derived.Deep.SlicePairs
import Derived.Test.YtemjidmkolfgnaaGreatDoorSA1
namespace Go.Proofs.YtemjidmkolfgnaaGreatDoor
open Go.ChangeShapes Go.WideShapes Go.RowKit Go.Deep
abbrev Any:Nat→Prop:=λ_=>True
section
variable {H:Type} {enc:TypeId×Value→H} {W:World}
instance:Inhabited dw:=⟨⟨[],.zero⟩⟩
instance:Inhabited aZ:=⟨⟨[],0,false,[],[]⟩⟩
end
end Go.Proofs.YtemjidmkolfgnaaGreatDoor
