/-
  Lemmas: contracts: sig and raising of the package face, in the words of signatures; rows of operations that the call makes and appends to. Conditions: bounds of lengths; the variable strings.asciiSpace.
-/
import Derived.Test.YtakgjcfkdemipaaGreatDoorZB19
import Derived.Test.YtakgjcfkdemipaaGreatDoorZT0
import Derived.Test.YtakgjcfkdemipaaGreatDoorZT1
import Derived.Test.YtakgjcfkdemipaaGreatDoorZT2
namespace Go.Proofs.YtakgjcfkdemipaaGreatDoor
open Go.RowKit
theorem gx.cells {D:Nat→Prop} {w:World} {v:Value} {x:aL} (h:gx D w v x):∃a s,v=.agg #[str x.name,.bool x.sig.iter,a,str x.sig.res,s]∧bl D w [str x.name,.bool x.sig.iter,a,str x.sig.res,s] [x]:=by
 obtain⟨a,s,h1,h2,h3,h4⟩:=h
 exact⟨a,s,h1,a,s,[],rfl,h2,h3,h4,rfl⟩
