/-
  The statement FaceGoods: the closed cells of its row are what the program forces. No condition.
-/
import Derived.Test.YtakgjcfkdemipaaGreatDoorZGCGoods1
namespace Go.Proofs.YtakgjcfkdemipaaGreatDoor.faceGoods
open Go.ChangeShapes Go.WideShapes Go.ChangeAt Go.RowKit Go.Deep
theorem c1:(Rows.faceGoodsRow.inPlace==Tryz.pinned.checked.prog.inPlace 3)=true:=by kernel_rfl
theorem c2:(Rows.faceGoodsRow.unfollowed==Tryz.pinned.checked.prog.unfollowed 3)=true:=by kernel_rfl
theorem c3:(Rows.faceGoodsRow.recurses==Tryz.pinned.checked.prog.recurses 3)=true:=by kernel_rfl
theorem c4:(Rows.faceGoodsRow.named==Tryz.pinned.checked.prog.varsNamed 3)=true:=by kernel_rfl
theorem closed:joinedFacts Tryz.pinned.checked.prog 3 Tryz.f3 (OpenSpec.ofChange Rows.faceGoodsSpec).bare Rows.faceGoodsRow=true:=by
  unfold joinedFacts
  rw[c1,c2,c3,c4]
  kernel_rfl
end Go.Proofs.YtakgjcfkdemipaaGreatDoor.faceGoods
