/-
  What a row's list of laid variables gives: strings.asciiSpace holds its table; a world that meets the list. Condition: the row's list.
-/
import Derived.Deep.DeepHandedRow
import Derived.Deep.DeepWitnessRowRef
import Derived.LaidMore
import Derived.Lib.LaidTab
import Derived.OpenShut
import Derived.ProofKit
import Derived.Test.YtakgjcfkdemipaaGreatDoorCards
import Derived.Test.YtakgjcfkdemipaaGreatDoorTie
import Derived.WalkKit
import Derived.Test.YtakgjcfkdemipaaGreatDoorY21
namespace Go.Proofs.YtakgjcfkdemipaaGreatDoor
open Go.ChangeShapes Go.WideShapes Go.ChangeAt Go.RowKit
theorem own : ownKnob Tryz.prog.godebug = none := by kernel_rfl
theorem gTabType : (Tryz.prog.globals[1]?).map (·.type) = some 279 := by kernel_rfl
theorem cellsTab : Tryz.prog.cellsOf 279 = 256 := by kernel_rfl
theorem cellsU8 : Tryz.prog.cellsOf 5 = 1 := by kernel_rfl
def laid2 : List (String × DataW Unit) := [("unicode.White_Space", Rows.laid_unicode_White_Space), ("strings.asciiSpace", Rows.laid_strings_asciiSpace)]
theorem laidTab : (Rows.laid_strings_asciiSpace : DataW Unit) = Lib.tabData .u8 Lib.asciiSpaceTab := by kernel_rfl
theorem tab_of_laid {W : World} (h0 : laidMetH Tryz.prog laid2 W) : Tab W := by
 rw [MakeChecks.laidMetH_plain _ _ _ (by kernel_rfl)] at h0
 obtain ⟨ps, ⟨g0, t0, cs0, f0, p0, q0, hg0, ht0, hv0, hd0, ⟨g1, t1, cs1, f1, p1, q1, hg1, ht1, hv1, hd1, _, _⟩, _⟩, _, _⟩ := h0
 obtain rfl := Option.some.inj (gTab.symm.trans hg1)
 obtain rfl := Option.some.inj (gTabType.symm.trans ht1)
 rw [laidTab] at hd1
 unfold Tab Lib.TabIs
 rw [hv1, ← Lib.cells_of_tab Tryz.underlying279 Tryz.underlying5 cellsU8 cellsTab hd1]
theorem door_met (os : Os) (args : Array Value) : laidMet Tryz.prog laid2 ((World.doorLaid Tryz.prog 400 os).forCall (fun _ _ => 0) ⟨#[], args, []⟩).memory :=
 laidMet_of_run' 8 (by kernel_rfl) (by kernel_rfl)
end Go.Proofs.YtakgjcfkdemipaaGreatDoor
