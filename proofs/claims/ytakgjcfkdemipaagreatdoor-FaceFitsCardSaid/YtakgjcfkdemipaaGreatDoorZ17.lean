/-
  Contracts: argusref03.Same; the statements' own examples (arguslaw03.kept). Condition: the variable strings.asciiSpace. Contract: the statements' own examples (arguslaw03.kept). Condition: the variable strings.asciiSpace. Contract: whether texts are short enough (arguslaw03.short). No condition.
-/
import Derived.ChangeAlike
import Derived.RegionTactic
import Derived.Test.YtakgjcfkdemipaaGreatDoorZ12
import Derived.Test.YtakgjcfkdemipaaGreatDoorZ14
import Derived.Test.YtakgjcfkdemipaaGreatDoorZ16
namespace Go.Proofs.YtakgjcfkdemipaaGreatDoor
open Go.RowKit
theorem Strs.at {w : World} {p : Option Addr} {n c : Nat} {ss : List (List UInt8)} (h : Strs w (.slice p n c) ss) {k : Nat} {x : List UInt8} (hk : ss[k]? = some x) : ∃ b o, p = some ⟨b, o, none⟩ ∧ w.cell? ⟨b, o + k, none⟩ = some (str x) := by
 obtain ⟨hj, e⟩ := List.getElem?_eq_some_iff.1 hk
 rcases h.shape with ⟨h1, rfl⟩ | ⟨b, o, c', h1, _, h3⟩
 · simp at hj
 · injection h1 with h1
   exact ⟨b, o, h1, by rw [h3 k hj, e]⟩
end Go.Proofs.YtakgjcfkdemipaaGreatDoor
namespace Go.Proofs.YtakgjcfkdemipaaGreatDoor
open Go.RowKit
end Go.Proofs.YtakgjcfkdemipaaGreatDoor
namespace Go.Proofs.YtakgjcfkdemipaaGreatDoor
open Go.RowKit
end Go.Proofs.YtakgjcfkdemipaaGreatDoor
