/-
  The statement FaceTexts: the closed cells of its row are what the program forces. No condition.
-/
import Derived.Test.YtakgjcfkdemipaaGreatDoorZTCTexts1
namespace Go.Proofs.YtakgjcfkdemipaaGreatDoor.faceTexts
open Go.ChangeShapes Go.WideShapes Go.ChangeAt Go.RowKit Go.Deep
theorem c1:(Rows.faceTextsRow.inPlace==Tryz.pinned.checked.prog.inPlace 14)=true:=by kernel_rfl
theorem c2:(Rows.faceTextsRow.unfollowed==Tryz.pinned.checked.prog.unfollowed 14)=true:=by kernel_rfl
theorem c3:(Rows.faceTextsRow.recurses==Tryz.pinned.checked.prog.recurses 14)=true:=by kernel_rfl
theorem c4:(Rows.faceTextsRow.named==Tryz.pinned.checked.prog.varsNamed 14)=true:=by kernel_rfl
theorem closed:joinedFacts Tryz.pinned.checked.prog 14 Tryz.f14 (OpenSpec.ofChange Rows.faceTextsSpec).bare Rows.faceTextsRow=true:=by
  unfold joinedFacts
  rw[c1,c2,c3,c4]
  kernel_rfl
end Go.Proofs.YtakgjcfkdemipaaGreatDoor.faceTexts
