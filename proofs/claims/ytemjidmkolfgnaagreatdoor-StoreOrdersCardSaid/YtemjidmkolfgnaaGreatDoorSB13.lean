/-
  Lemmas for the statement: what a row's list of laid variables gives: strings.asciiSpace holds its table; a world that meets the list. Conditions: bounds of lengths; the variable strings.asciiSpace.
-/
import Derived.Deep.DeepWitnessRowRef
import Derived.LaidMore
import Derived.OpenShut
import Derived.ProofKit
import Derived.Test.YtemjidmkolfgnaaGreatDoorCards
import Derived.Test.YtemjidmkolfgnaaGreatDoorTie
import Derived.Test.YtemjidmkolfgnaaGreatDoorSB10
import Derived.Test.YtemjidmkolfgnaaGreatDoorSB12
namespace Go.Proofs.YtemjidmkolfgnaaGreatDoor
open Go.ChangeShapes Go.WideShapes Go.ChangeAt Go.RowKit
theorem own:ownKnob Tryz.prog.godebug=none:=by kernel_rfl
theorem Dw:(Tryz.prog.globals[1]?).map (·.type)=some 275:=by kernel_rfl
theorem Di:Tryz.prog.cellsOf 275=256:=by kernel_rfl
theorem FJ:Tryz.prog.cellsOf 5=1:=by kernel_rfl
theorem Gt:(Rows.laid_strings_asciiSpace:DataW Unit)=Lib.tabData .u8 Lib.asciiSpaceTab:=by kernel_rfl
end Go.Proofs.YtemjidmkolfgnaaGreatDoor
