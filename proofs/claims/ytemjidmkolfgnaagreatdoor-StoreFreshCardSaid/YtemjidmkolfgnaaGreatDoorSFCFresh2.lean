/-
  The statement StoreFresh: the closed cells of its row are what the program forces. No condition.
-/
import Derived.Test.YtemjidmkolfgnaaGreatDoorSFCFresh1
namespace Go.Proofs.YtemjidmkolfgnaaGreatDoor.storeFresh
open Go.ChangeShapes Go.WideShapes Go.ChangeAt Go.RowKit Go.Deep
theorem c1:(Rows.storeFreshRow.inPlace==Tryz.pinned.checked.prog.inPlace 7)=true:=by kernel_rfl
theorem c2:(Rows.storeFreshRow.unfollowed==Tryz.pinned.checked.prog.unfollowed 7)=true:=by kernel_rfl
theorem c3:(Rows.storeFreshRow.recurses==Tryz.pinned.checked.prog.recurses 7)=true:=by kernel_rfl
theorem c4:(Rows.storeFreshRow.named==Tryz.pinned.checked.prog.varsNamed 7)=true:=by kernel_rfl
theorem closed:joinedFacts Tryz.pinned.checked.prog 7 Tryz.f7 (OpenSpec.ofChange Rows.storeFreshSpec).bare Rows.storeFreshRow=true:=by
  unfold joinedFacts
  rw[c1,c2,c3,c4]
  kernel_rfl
end Go.Proofs.YtemjidmkolfgnaaGreatDoor.storeFresh
