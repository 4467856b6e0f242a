/-
  The closure with which the program reads a type (kind.read$3): every text of at most 1000 bytes.
-/
import Derived.Test.YtakdmnhpoelepaaGreatDoorKRead3
import Derived.Test.YtakdmnhpoelepaaGreatDoorKRead5
import Derived.Test.YtakdmnhpoelepaaGreatDoorKRead6
namespace Go.Proofs.YtakdmnhpoelepaaGreatDoor
open Go.RowKit

theorem next_any : ∀ (n : Nat) (s : List UInt8), s.length ≤ n → s.length ≤ 1000 → NextOk s := by
  intro n
  induction n with
  | zero =>
    intro s hs hm
    have hnil : s = [] := by cases s with
      | nil => rfl
      | cons => simp at hs
    subst hnil
    exact next_bad [] hm (fun r e => by cases e) rfl rfl rfl
  | succ n ihn =>
    intro s hs hm
    have ih : ∀ u : List UInt8, u.length < s.length → NextOk u := fun u hu => ihn u (by omega) (by omega)
    by_cases hp : noPar s
    · by_cases h0 : kind0 (s.take (cutN s)) = 0
      · by_cases hb : ∃ s2, s.drop (cutN s) = 91 :: s2
        · obtain ⟨s2, hb⟩ := hb
          have hl : s2.length < s.length := by
            have := congrArg List.length hb
            simp at this
            omega
          rcases kindB_facts (w := s.take (cutN s)) with ⟨k1, _⟩ | ⟨k1, _⟩ | ⟨k1, _⟩ | ⟨k1, _⟩
          all_goals first
            | exact next_arr_arg s s2 hm hp h0 k1 hb (ih s2 hl)
            | exact next_rec5 s s2 hm hp h0 k1 hb ih
            | exact next_rec6 s s2 hm hp h0 k1 hb ih
            | (rcases hn : isName (s.take (cutN s)) with _ | _
               · exact next_bad s hm hp h0 k1 hn
               · exact next_name_arg s s2 hm hp h0 k1 hn hb (ih s2 hl))
        · have hb' : ∀ r, s.drop (cutN s) ≠ 91 :: r := fun r e => hb ⟨r, e⟩
          by_cases hk : kindB (s.take (cutN s)) = 0
          · rcases hn : isName (s.take (cutN s)) with _ | _
            · exact next_bad s hm hp h0 hk hn
            · exact next_name s hm hp h0 hk hn hb'
          · exact next_no_bracket s hm hp h0 hk hb'
      · exact next_word s (by unfold maxLen; omega) hp h0
    · have : ∃ r, s = 63 :: 116 :: r := Classical.byContradiction fun h => hp fun r e => h ⟨r, e⟩
      obtain ⟨r, rfl⟩ := this
      exact next_param r
theorem next_ok (s : List UInt8) (hm : s.length ≤ 1000) : NextOk s := next_any s.length s (Nat.le_refl _) hm
end Go.Proofs.YtakdmnhpoelepaaGreatDoor
