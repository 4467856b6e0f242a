/-
  Lemmas for the statement: a forest of types in memory: the cells of the parts, and all that is inside. No condition.
-/
import Derived.Test.YtakgjcfkdemipaaGreatDoorZB3
namespace Go.Proofs.YtakgjcfkdemipaaGreatDoor
open Go.RowKit
theorem jE.length {w:World} {D:Nat→Prop}:∀(fo:Fo) (cs:List Value),jE w D fo cs→cs.length=fo.len * 4
 | .nil,_,h=>by rw[show _=[] from h];simp[Fo.len]
 | .cons _ _ _ _ rest,_,⟨v,cs',sc,e,_,_,_,h4⟩=>by
  have:=jE.length rest cs' h4;rw[e];simp[Fo.len,this];omega
end Go.Proofs.YtakgjcfkdemipaaGreatDoor
