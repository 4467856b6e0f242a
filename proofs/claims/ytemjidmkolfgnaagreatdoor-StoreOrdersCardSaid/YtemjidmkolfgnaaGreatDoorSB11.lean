/-
  Lemmas for the statement: contract: kind.Inside. Conditions: bounds of lengths; the variable strings.asciiSpace.
-/
import Derived.Maps.OwnIn
import Derived.Test.YtemjidmkolfgnaaGreatDoorSB9
namespace Go.Proofs.YtemjidmkolfgnaaGreatDoor
open Go.RowKit Go.Shelf Go.Maps
attribute [local go_sem] Oper.semAt_some
theorem ef {w:World} {base base':Nat} {e:TypeId} {size n:Nat} {v:Value} {xs:List Value} (h:w.ownsRow base e size v n xs) (hb:base'≤base):w.ownsRow base' e size v n xs:=by
 refine⟨h.1,?_⟩
 rcases h.2 with h2|⟨g,cap,cur,rfl,h3,h4⟩
 · exact .inl h2
 · exact .inr ⟨g,cap,cur,rfl,Nat.le_trans hb h3,h4⟩
end Go.Proofs.YtemjidmkolfgnaaGreatDoor
