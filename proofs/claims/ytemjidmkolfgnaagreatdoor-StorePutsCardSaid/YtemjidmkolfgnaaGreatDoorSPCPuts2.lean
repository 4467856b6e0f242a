/-
  The statement StorePuts: the closed cells of its row are what the program forces. No condition.
-/
import Derived.Test.YtemjidmkolfgnaaGreatDoorSPCPuts1
namespace Go.Proofs.YtemjidmkolfgnaaGreatDoor.storePuts
open Go.ChangeShapes Go.WideShapes Go.ChangeAt Go.RowKit Go.Deep
theorem c1:(Rows.storePutsRow.inPlace==Tryz.pinned.checked.prog.inPlace 5)=true:=by kernel_rfl
theorem c2:(Rows.storePutsRow.unfollowed==Tryz.pinned.checked.prog.unfollowed 5)=true:=by kernel_rfl
theorem c3:(Rows.storePutsRow.recurses==Tryz.pinned.checked.prog.recurses 5)=true:=by kernel_rfl
theorem c4:(Rows.storePutsRow.named==Tryz.pinned.checked.prog.varsNamed 5)=true:=by kernel_rfl
theorem closed:joinedFacts Tryz.pinned.checked.prog 5 Tryz.f5 (OpenSpec.ofChange Rows.storePutsSpec).bare Rows.storePutsRow=true:=by
  unfold joinedFacts
  rw[c1,c2,c3,c4]
  kernel_rfl
end Go.Proofs.YtemjidmkolfgnaaGreatDoor.storePuts
