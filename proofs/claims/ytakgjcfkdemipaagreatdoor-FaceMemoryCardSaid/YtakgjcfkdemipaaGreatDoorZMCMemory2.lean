/-
  The statement FaceMemory: the closed cells of its row are what the program forces. No condition.
-/
import Derived.Test.YtakgjcfkdemipaaGreatDoorZMCMemory1
namespace Go.Proofs.YtakgjcfkdemipaaGreatDoor.faceMemory
open Go.ChangeShapes Go.WideShapes Go.ChangeAt Go.RowKit Go.Deep
theorem c1:(Rows.faceMemoryRow.inPlace==Tryz.pinned.checked.prog.inPlace 10)=true:=by kernel_rfl
theorem c2:(Rows.faceMemoryRow.unfollowed==Tryz.pinned.checked.prog.unfollowed 10)=true:=by kernel_rfl
theorem c3:(Rows.faceMemoryRow.recurses==Tryz.pinned.checked.prog.recurses 10)=true:=by kernel_rfl
theorem c4:(Rows.faceMemoryRow.named==Tryz.pinned.checked.prog.varsNamed 10)=true:=by kernel_rfl
theorem closed:joinedFacts Tryz.pinned.checked.prog 10 Tryz.f10 (OpenSpec.ofChange Rows.faceMemorySpec).bare Rows.faceMemoryRow=true:=by
  unfold joinedFacts
  rw[c1,c2,c3,c4]
  kernel_rfl
end Go.Proofs.YtakgjcfkdemipaaGreatDoor.faceMemory
