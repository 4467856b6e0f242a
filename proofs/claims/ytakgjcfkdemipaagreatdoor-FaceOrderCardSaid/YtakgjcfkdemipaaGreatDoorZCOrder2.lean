/-
  The statement FaceOrder: the closed cells of its row are what the program forces. No condition.
-/
import Derived.Test.YtakgjcfkdemipaaGreatDoorZCOrder1
namespace Go.Proofs.YtakgjcfkdemipaaGreatDoor.faceOrder
open Go.ChangeShapes Go.WideShapes Go.ChangeAt Go.RowKit Go.Deep
theorem c1 : (Rows.faceOrderRow.inPlace == Tryz.pinned.checked.prog.inPlace 12) = true := by kernel_rfl
theorem c2 : (Rows.faceOrderRow.unfollowed == Tryz.pinned.checked.prog.unfollowed 12) = true := by kernel_rfl
theorem c3 : (Rows.faceOrderRow.recurses == Tryz.pinned.checked.prog.recurses 12) = true := by kernel_rfl
theorem c4 : (Rows.faceOrderRow.named == Tryz.pinned.checked.prog.varsNamed 12) = true := by kernel_rfl
theorem closed : joinedFacts Tryz.pinned.checked.prog 12 Tryz.f12 (OpenSpec.ofChange Rows.faceOrderSpec).bare Rows.faceOrderRow = true := by
  unfold joinedFacts
  rw [c1, c2, c3, c4]
  kernel_rfl
end Go.Proofs.YtakgjcfkdemipaaGreatDoor.faceOrder
