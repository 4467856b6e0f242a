/-
  The statement StoreOrders: the closed cells of its row are what the program forces. No condition.
-/
import Derived.Test.YtemjidmkolfgnaaGreatDoorSOCOrders1
namespace Go.Proofs.YtemjidmkolfgnaaGreatDoor.storeOrders
open Go.ChangeShapes Go.WideShapes Go.ChangeAt Go.RowKit Go.Deep
theorem c1:(Rows.storeOrdersRow.inPlace==Tryz.pinned.checked.prog.inPlace 3)=true:=by kernel_rfl
theorem c2:(Rows.storeOrdersRow.unfollowed==Tryz.pinned.checked.prog.unfollowed 3)=true:=by kernel_rfl
theorem c3:(Rows.storeOrdersRow.recurses==Tryz.pinned.checked.prog.recurses 3)=true:=by kernel_rfl
theorem c4:(Rows.storeOrdersRow.named==Tryz.pinned.checked.prog.varsNamed 3)=true:=by kernel_rfl
theorem closed:joinedFacts Tryz.pinned.checked.prog 3 Tryz.f3 (OpenSpec.ofChange Rows.storeOrdersSpec).bare Rows.storeOrdersRow=true:=by
  unfold joinedFacts
  rw[c1,c2,c3,c4]
  kernel_rfl
end Go.Proofs.YtemjidmkolfgnaaGreatDoor.storeOrders
