/-
  Lemmas for the statement: the text of a type (plain). Forests that a reader gives (plain): their texts are what was read, and reading their texts gives them back. A type in the place of the parameter, whether the parameter is in a type, what has to be in its place (plain). No condition.
-/
import Derived.Test.YtakgjcfkdemipaaGreatDoorZG3
namespace Go.Proofs.YtakgjcfkdemipaaGreatDoor
end Go.Proofs.YtakgjcfkdemipaaGreatDoor
namespace Go.Proofs.YtakgjcfkdemipaaGreatDoor
end Go.Proofs.YtakgjcfkdemipaaGreatDoor
namespace Go.Proofs.YtakgjcfkdemipaaGreatDoor
theorem Fo.van (a:Tr):∀fo:Fo,fo.pS=false→fo.put a=fo
 | .nil,_=>rfl
 | .cons pn k n sub rest,h=>by
  simp only[Fo.pS,Bool.or_eq_false_iff,decide_eq_false_iff_not] at h;rw[Fo.put,if_neg h.1.1,Fo.van a sub h.1.2,Fo.van a rest h.2]
theorem Tr.van {a t:Tr} (h:t.pS=false):t.put a=t:=by
 simp only[Tr.pS,Bool.or_eq_false_iff,decide_eq_false_iff_not] at h
 unfold Tr.put
 rw[if_neg h.1,Fo.van a _ h.2]
end Go.Proofs.YtakgjcfkdemipaaGreatDoor
