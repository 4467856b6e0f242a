/-
  The statement FaceExtends: the closed cells of its row are what the program forces. No condition.
-/
import Derived.Test.YtakgjcfkdemipaaGreatDoorZXCExtends1
namespace Go.Proofs.YtakgjcfkdemipaaGreatDoor.faceExtends
open Go.ChangeShapes Go.WideShapes Go.ChangeAt Go.RowKit Go.Deep
theorem c1:(Rows.faceExtendsRow.inPlace==Tryz.pinned.checked.prog.inPlace 11)=true:=by kernel_rfl
theorem c2:(Rows.faceExtendsRow.unfollowed==Tryz.pinned.checked.prog.unfollowed 11)=true:=by kernel_rfl
theorem c3:(Rows.faceExtendsRow.recurses==Tryz.pinned.checked.prog.recurses 11)=true:=by kernel_rfl
theorem c4:(Rows.faceExtendsRow.named==Tryz.pinned.checked.prog.varsNamed 11)=true:=by kernel_rfl
theorem closed:joinedFacts Tryz.pinned.checked.prog 11 Tryz.f11 (OpenSpec.ofChange Rows.faceExtendsSpec).bare Rows.faceExtendsRow=true:=by
  unfold joinedFacts
  rw[c1,c2,c3,c4]
  kernel_rfl
end Go.Proofs.YtakgjcfkdemipaaGreatDoor.faceExtends
