/-
  The statement StoreDisk: the closed cells of its row are what the program forces. No condition.
-/
import Derived.Test.YtemjidmkolfgnaaGreatDoorSDCDisk1
namespace Go.Proofs.YtemjidmkolfgnaaGreatDoor.storeDisk
open Go.ChangeShapes Go.WideShapes Go.ChangeAt Go.RowKit Go.Deep
theorem c1:(Rows.storeDiskRow.inPlace==Tryz.pinned.checked.prog.inPlace 6)=true:=by kernel_rfl
theorem c2:(Rows.storeDiskRow.unfollowed==Tryz.pinned.checked.prog.unfollowed 6)=true:=by kernel_rfl
theorem c3:(Rows.storeDiskRow.recurses==Tryz.pinned.checked.prog.recurses 6)=true:=by kernel_rfl
theorem c4:(Rows.storeDiskRow.named==Tryz.pinned.checked.prog.varsNamed 6)=true:=by kernel_rfl
theorem closed:joinedFacts Tryz.pinned.checked.prog 6 Tryz.f6 (OpenSpec.ofChange Rows.storeDiskSpec).bare Rows.storeDiskRow=true:=by
  unfold joinedFacts
  rw[c1,c2,c3,c4]
  kernel_rfl
end Go.Proofs.YtemjidmkolfgnaaGreatDoor.storeDisk
