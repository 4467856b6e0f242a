/-
  The statement StoreMemory: the closed cells of its row are what the program forces. No condition.
-/
import Derived.Test.YtemjidmkolfgnaaGreatDoorSMCMemory1
namespace Go.Proofs.YtemjidmkolfgnaaGreatDoor.storeMemory
open Go.ChangeShapes Go.WideShapes Go.ChangeAt Go.RowKit Go.Deep
theorem c1:(Rows.storeMemoryRow.inPlace==Tryz.pinned.checked.prog.inPlace 4)=true:=by kernel_rfl
theorem c2:(Rows.storeMemoryRow.unfollowed==Tryz.pinned.checked.prog.unfollowed 4)=true:=by kernel_rfl
theorem c3:(Rows.storeMemoryRow.recurses==Tryz.pinned.checked.prog.recurses 4)=true:=by kernel_rfl
theorem c4:(Rows.storeMemoryRow.named==Tryz.pinned.checked.prog.varsNamed 4)=true:=by kernel_rfl
theorem closed:joinedFacts Tryz.pinned.checked.prog 4 Tryz.f4 (OpenSpec.ofChange Rows.storeMemorySpec).bare Rows.storeMemoryRow=true:=by
  unfold joinedFacts
  rw[c1,c2,c3,c4]
  kernel_rfl
end Go.Proofs.YtemjidmkolfgnaaGreatDoor.storeMemory
