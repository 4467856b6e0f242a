/-
  The statement FaceFits: the closed cells of its row are what the program forces. No condition.
-/
import Derived.Test.YtakgjcfkdemipaaGreatDoorZCFits1
namespace Go.Proofs.YtakgjcfkdemipaaGreatDoor.faceFits
open Go.ChangeShapes Go.WideShapes Go.ChangeAt Go.RowKit Go.Deep
theorem c1 : (Rows.faceFitsRow.inPlace == Tryz.pinned.checked.prog.inPlace 8) = true := by kernel_rfl
theorem c2 : (Rows.faceFitsRow.unfollowed == Tryz.pinned.checked.prog.unfollowed 8) = true := by kernel_rfl
theorem c3 : (Rows.faceFitsRow.recurses == Tryz.pinned.checked.prog.recurses 8) = true := by kernel_rfl
theorem c4 : (Rows.faceFitsRow.named == Tryz.pinned.checked.prog.varsNamed 8) = true := by kernel_rfl
theorem closed : joinedFacts Tryz.pinned.checked.prog 8 Tryz.f8 (OpenSpec.ofChange Rows.faceFitsSpec).bare Rows.faceFitsRow = true := by
  unfold joinedFacts
  rw [c1, c2, c3, c4]
  kernel_rfl
end Go.Proofs.YtakgjcfkdemipaaGreatDoor.faceFits
