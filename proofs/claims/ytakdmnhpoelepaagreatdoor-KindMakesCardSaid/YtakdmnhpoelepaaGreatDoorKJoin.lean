/-
  Contract: strings.Join with a comma, in the words of Txt. Condition: the text is not too long.
-/
import Derived.Test.YtakdmnhpoelepaaGreatDoorPlain1
import Derived.Test.YtakdmnhpoelepaaGreatDoorShelf
import Derived.Test.YtakdmnhpoelepaaGreatDoorPlain0
namespace Go.Proofs.YtakdmnhpoelepaaGreatDoor
open Go.RowKit

theorem join_eq : ∀ ss : List (List UInt8), Lib.join ss [44] = joinC ss
  | [] => rfl
  | [a] => by simp [Lib.join, joinC]
  | a :: b :: l => by
    have := join_eq (b :: l)
    rw [joinC, ← this]
    simp [Lib.join, List.intercalate]
theorem join_own (ss : List (List UInt8)) (v : Value) (w : World) (base : Nat) (h : w.ownsRow base 9 1 v ss.length (strsC ss)) (hlen : (joinC ss).length < 140737488355328) :
    Calls Tryz.prog 97 #[v, str [44]] w fun e w' => e = .returned (str (joinC ss)) ∧ Below w.heap.size w w' := by
  rcases h.2 with ⟨rfl, h0⟩ | ⟨g, cap, cur, rfl, hg, hh, h1, h2, h3, h4⟩
  · rw [List.length_eq_zero_iff] at h0
    subst h0
    refine (Tryz.strings_Join_none none 0 ⟨#[44]⟩ w).mono ?_
    rintro e w' ⟨rfl, rfl⟩
    exact ⟨rfl, Below.refl _ _⟩
  · have hm : (ss.map fun s => (⟨s.toArray⟩ : ByteArray)).map (·.data.toList) = ss := by
      rw [List.map_map]
      exact (List.map_congr_left fun _ _ => rfl).trans (List.map_id ss)
    have hj : Lib.join ((ss.map fun s => (⟨s.toArray⟩ : ByteArray)).map (·.data.toList)) (⟨#[44]⟩ : ByteArray).data.toList = joinC ss := by
      rw [hm]; exact join_eq ss
    have hn : ss.length ≤ 140737488355328 := by
      have := joinC_len ss
      omega
    have hcell := h.cells (g := g) rfl
    have := Tryz.strings_Join g 0 cap (ss.map fun s => ⟨s.toArray⟩) ⟨#[44]⟩ w ?_ (Array.getElem?_eq_some_iff.1 hh).1 (by simpa using hn) (by simpa using h1) (by rw [hj]; omega)
    · rw [hj, List.length_map] at this
      exact this
    · intro j x hx
      rw [List.getElem?_map, Option.map_eq_some_iff] at hx
      obtain ⟨s, hs, rfl⟩ := hx
      have := hcell j (str s) (by simp [strsC, hs])
      rwa [show (⟨g, 0, none⟩ : Addr).add j = ⟨g, 0 + j, none⟩ from by unfold Addr.add; simp; omega] at this
end Go.Proofs.YtakdmnhpoelepaaGreatDoor
