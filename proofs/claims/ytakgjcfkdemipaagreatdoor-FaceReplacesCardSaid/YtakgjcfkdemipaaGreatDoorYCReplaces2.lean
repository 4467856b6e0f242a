/-
  The statement FaceReplaces: the closed cells of its row are what the program forces. No condition.
-/
import Derived.Test.YtakgjcfkdemipaaGreatDoorYCReplaces1
namespace Go.Proofs.YtakgjcfkdemipaaGreatDoor.faceReplaces
open Go.ChangeShapes Go.WideShapes Go.ChangeAt Go.RowKit Go.Deep
theorem c1 : (Rows.faceReplacesRow.inPlace == Tryz.pinned.checked.prog.inPlace 13) = true := by kernel_rfl
theorem c2 : (Rows.faceReplacesRow.unfollowed == Tryz.pinned.checked.prog.unfollowed 13) = true := by kernel_rfl
theorem c3 : (Rows.faceReplacesRow.recurses == Tryz.pinned.checked.prog.recurses 13) = true := by kernel_rfl
theorem c4 : (Rows.faceReplacesRow.named == Tryz.pinned.checked.prog.varsNamed 13) = true := by kernel_rfl
theorem closed : joinedFacts Tryz.pinned.checked.prog 13 Tryz.f13 (OpenSpec.ofChange Rows.faceReplacesSpec).bare Rows.faceReplacesRow = true := by
  unfold joinedFacts
  rw [c1, c2, c3, c4]
  kernel_rfl
end Go.Proofs.YtakgjcfkdemipaaGreatDoor.faceReplaces
