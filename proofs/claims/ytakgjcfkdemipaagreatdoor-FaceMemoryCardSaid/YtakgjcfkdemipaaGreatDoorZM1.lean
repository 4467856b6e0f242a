/-
  Lemmas: signatures, operations, faces (plain): their parts; when two signatures are equal; their types. No condition.
-/
import Derived.Test.YtakgjcfkdemipaaGreatDoorZB0
namespace Go.Proofs.YtakgjcfkdemipaaGreatDoor
theorem vay (a b:bP):pK a b=true↔a=b:=by
 rcases a with⟨i,l,r,s⟩
 rcases b with⟨i',l',r',s'⟩
 simp only[pK,Bool.and_eq_true,decide_eq_true_eq,bP.mk.injEq]
 constructor
 · rintro⟨⟨⟨h1,h2⟩,h3⟩,h4⟩;exact⟨h1,h3,h2,h4⟩
 · rintro⟨h1,h3,h2,h4⟩;exact⟨⟨⟨h1,h2⟩,h3⟩,h4⟩
