/-
  The statement KindMatched: what Match and With do together (plain), and the walk: it answers true. Condition: the variable strings.asciiSpace; the texts' bound.
-/
import Derived.Test.YtakdmnhpoelepaaGreatDoorLaw0
namespace Go.Proofs.YtakdmnhpoelepaaGreatDoor
open Go.RowKit

theorem matchK_trees {p t a : List UInt8} {is : Bool} (h : matchK p t = (a, is, 0)) : ∃ P T, twoK p t = (P, T, 0) ∧ checkK p = (0, P) ∧ checkK t = (0, T) := by
  rcases hq : twoK p t with ⟨P, T, c⟩
  have hc : c = 0 := by
    unfold matchK at h
    rw [hq] at h
    simp only at h
    split at h
    · rename_i hc; simp only [Prod.mk.injEq] at h; exact absurd h.2.2 hc
    · rename_i hc; omega
  subst hc
  exact ⟨P, T, rfl, twoK_ok hq⟩
theorem openK_of {p : List UInt8} {P : Tr} (h : checkK p = (0, P)) : openK p = P.opn := by unfold openK; rw [h]; rfl
theorem matchK_shut {p t a : List UInt8} {is : Bool} (h : matchK p t = (a, is, 0)) (ho : openK p = false) : a = [] ∧ is = (p == t) := by
  obtain ⟨P, T, h1, h2, h3⟩ := matchK_trees h
  rw [openK_of h2] at ho
  unfold matchK at h
  rw [h1] at h
  simp only [ho, if_true] at h
  rw [if_neg (by simp)] at h
  simp only [Prod.mk.injEq] at h
  exact ⟨h.1.symm, h.2.1.symm⟩
theorem matchK_opened {p t a : List UInt8} {is : Bool} (h : matchK p t = (a, is, 0)) (ho : openK p = true) : ∃ P T, checkK p = (0, P) ∧ checkK t = (0, T) ∧ P.opn = true ∧ foundK P t (P.find T) = (a, is, 0) := by
  obtain ⟨P, T, h1, h2, h3⟩ := matchK_trees h
  rw [openK_of h2] at ho
  have hm := matchK_open (s := p) (u := t) (by rw [h1]) (by rw [h1]; exact ho)
  rw [h1] at hm
  exact ⟨P, T, h2, h3, ho, hm.symm.trans h⟩
theorem matchK_yes {p t a : List UInt8} (h : matchK p t = (a, true, 0)) (ho : openK p = true) : withK p a = (t, 0) ∧ a.length ≤ 100 := by
  obtain ⟨P, T, h2, h3, h4, h5⟩ := matchK_opened h ho
  obtain ⟨o1, _, _, _⟩ := checkK_ok h2
  obtain ⟨o2, e2, l2, v2⟩ := checkK_ok h3
  rcases hf : P.find T with _ | A
  · rw [hf] at h5; simp [foundK] at h5
  · rw [hf] at h5
    unfold foundK at h5
    simp only at h5
    split at h5
    · rename_i hp
      simp only [Prod.mk.injEq, and_true] at h5
      obtain ⟨oA, lA⟩ := Tr.find_ok o2 hf
      have tA := Tr.find_len hf
      rw [e2] at tA
      have hA : checkK a = (0, A) := by rw [← h5, checkK_of oA, if_neg (by omega)]
      have hT : P.put A = T := (Tr.ok.put oA o1).inj o2 (by rw [hp, e2])
      refine ⟨?_, by rw [← h5]; omega⟩
      rw [withK_eq h2 hA, hT, toldK_ok (by rw [e2]; exact l2) v2, e2]
    · simp at h5
theorem matchK_no {p t a : List UInt8} (h : matchK p t = (a, false, 0)) (ho : openK p = true) : a = [] := by
  obtain ⟨P, T, h2, h3, h4, h5⟩ := matchK_opened h ho
  rcases hf : P.find T with _ | A
  · rw [hf] at h5; simp only [foundK, Prod.mk.injEq] at h5; exact h5.1.symm
  · rw [hf] at h5
    unfold foundK at h5
    simp only at h5
    split at h5
    · simp at h5
    · simp only [Prod.mk.injEq] at h5; exact h5.1.symm
theorem matchK_one {p t a o : List UInt8} {is : Bool} (h : matchK p t = (a, is, 0)) (ho : openK p = true) (hw : withK p o = (t, 0)) : is = true ∧ a = o := by
  obtain ⟨P, T, h2, h3, h4, h5⟩ := matchK_opened h ho
  obtain ⟨P', O, k1, k2, k3, k4⟩ := withK_ok hw
  rw [h2] at k1
  rw [h3] at k4
  simp only [Prod.mk.injEq, true_and] at k1 k4
  subst k1 k4
  rw [Tr.find_put h4] at h5
  unfold foundK at h5
  simp only at h5
  rw [if_pos k3.symm] at h5
  simp only [Prod.mk.injEq, and_true] at h5
  exact ⟨h5.2.symm, h5.1.symm.trans (checkK_ok k2).2.1⟩

theorem wm_long (p t o : List UInt8) (w : World) (ht : Tab w) (h : (decide (p.length ≤ 400) && (decide (t.length ≤ 400) && decide (o.length ≤ 400))) = false) :
    Calls Tryz.prog 6 #[str p, str t, str o] w fun e w' => e = .returned (.bool true) ∧ Below w.heap.size w w' := by
  have hs := short3 p t o w false h
  go_enter Tryz.func6, Tryz.ntmps6
  go_wp2_with (first
    | (go_at_call 13; refine hs.mono ?_; clear hs; rintro e wk ⟨rfl, hbk⟩; have hB := hbk)
    | (go_at_call 14; refine (aKept _ (ht.below hB (Nat.le_refl _))).mono ?_; rintro e wk ⟨rfl, hbk⟩; have hB := hB.trans (below_less hbk hB.size)))
  go_ret
  exact ⟨rfl, hB⟩
theorem wm_bad (p t o a : List UInt8) (is : Bool) (c : Nat) (w : World) (ht : Tab w) (h : (decide (p.length ≤ 400) && (decide (t.length ≤ 400) && decide (o.length ≤ 400))) = true)
    (h1 : Ans 17 #[str p, str t] (.tuple #[str a, .bool is, .int .i64 c])) (hc : c ≠ 0) :
    Calls Tryz.prog 6 #[str p, str t, str o] w fun e w' => e = .returned (.bool true) ∧ Below w.heap.size w w' := by
  have hs := short3 p t o w true h
  obtain ⟨g1, g2⟩ := nat_ne0 hc
  go_enter Tryz.func6, Tryz.ntmps6
  go_wp2_with (first
    | (go_at_call 13; refine hs.mono ?_; clear hs; rintro e wk ⟨rfl, hbk⟩; have hB := hbk)
    | (go_at_call 17; refine (h1 _ (ht.below hB (Nat.le_refl _))).mono ?_; clear h1; rintro e wk ⟨rfl, hbk⟩; have hB := hB.trans (below_less hbk hB.size))
    | (go_at_call 14; refine (aKept _ (ht.below hB (Nat.le_refl _))).mono ?_; rintro e wk ⟨rfl, hbk⟩; have hB := hB.trans (below_less hbk hB.size)))
  go_ret
  exact ⟨rfl, hB⟩
theorem wm_shut_true (p t o : List UInt8) (w : World) (ht : Tab w) (h : (decide (p.length ≤ 400) && (decide (t.length ≤ 400) && decide (o.length ≤ 400))) = true)
    (h1 : Ans 17 #[str p, str t] (.tuple #[str [], .bool true, .int .i64 0])) (h2 : Ans 25 #[str p] (.tuple #[.bool false, .int .i64 0])) (hq : (p == t) = true) :
    Calls Tryz.prog 6 #[str p, str t, str o] w fun e w' => e = .returned (.bool true) ∧ Below w.heap.size w w' := by
  have hs := short3 p t o w true h
  go_enter Tryz.func6, Tryz.ntmps6
  go_wp2_with (first
    | (go_at_call 13; refine hs.mono ?_; clear hs; rintro e wk ⟨rfl, hbk⟩; have hB := hbk)
    | (go_at_call 17; refine (h1 _ (ht.below hB (Nat.le_refl _))).mono ?_; clear h1; rintro e wk ⟨rfl, hbk⟩; have hB := hB.trans (below_less hbk hB.size))
    | (go_at_call 25; refine (h2 _ (ht.below hB (Nat.le_refl _))).mono ?_; clear h2; rintro e wk ⟨rfl, hbk⟩; have hB := hB.trans (below_less hbk hB.size))
    | (go_at_call 14; refine (aKept _ (ht.below hB (Nat.le_refl _))).mono ?_; rintro e wk ⟨rfl, hbk⟩; have hB := hB.trans (below_less hbk hB.size)))
  go_ret
  exact ⟨rfl, hB⟩
theorem wm_shut_false (p t o : List UInt8) (w : World) (ht : Tab w) (h : (decide (p.length ≤ 400) && (decide (t.length ≤ 400) && decide (o.length ≤ 400))) = true)
    (h1 : Ans 17 #[str p, str t] (.tuple #[str [], .bool false, .int .i64 0])) (h2 : Ans 25 #[str p] (.tuple #[.bool false, .int .i64 0])) (hq : (p == t) = false) :
    Calls Tryz.prog 6 #[str p, str t, str o] w fun e w' => e = .returned (.bool true) ∧ Below w.heap.size w w' := by
  have hs := short3 p t o w true h
  go_enter Tryz.func6, Tryz.ntmps6
  go_wp2_with (first
    | (go_at_call 13; refine hs.mono ?_; clear hs; rintro e wk ⟨rfl, hbk⟩; have hB := hbk)
    | (go_at_call 17; refine (h1 _ (ht.below hB (Nat.le_refl _))).mono ?_; clear h1; rintro e wk ⟨rfl, hbk⟩; have hB := hB.trans (below_less hbk hB.size))
    | (go_at_call 25; refine (h2 _ (ht.below hB (Nat.le_refl _))).mono ?_; clear h2; rintro e wk ⟨rfl, hbk⟩; have hB := hB.trans (below_less hbk hB.size))
    | (go_at_call 14; refine (aKept _ (ht.below hB (Nat.le_refl _))).mono ?_; rintro e wk ⟨rfl, hbk⟩; have hB := hB.trans (below_less hbk hB.size)))
  go_ret
  exact ⟨rfl, hB⟩
theorem wm_yes_bad (p t o a x : List UInt8) (c : Nat) (w : World) (ht : Tab w) (h : (decide (p.length ≤ 400) && (decide (t.length ≤ 400) && decide (o.length ≤ 400))) = true)
    (h1 : Ans 17 #[str p, str t] (.tuple #[str a, .bool true, .int .i64 0])) (h2 : Ans 25 #[str p] (.tuple #[.bool true, .int .i64 0])) (h3 : Ans 15 #[str p, str a] (.tuple #[str t, .int .i64 0])) (h4 : Ans 15 #[str p, str o] (.tuple #[str x, .int .i64 c])) (hc : c ≠ 0) :
    Calls Tryz.prog 6 #[str p, str t, str o] w fun e w' => e = .returned (.bool true) ∧ Below w.heap.size w w' := by
  have hs := short3 p t o w true h
  obtain ⟨g1, g2⟩ := nat_ne0 hc
  go_enter Tryz.func6, Tryz.ntmps6
  go_wp2_with (first
    | (go_at_call 13; refine hs.mono ?_; clear hs; rintro e wk ⟨rfl, hbk⟩; have hB := hbk)
    | (go_at_call 17; refine (h1 _ (ht.below hB (Nat.le_refl _))).mono ?_; clear h1; rintro e wk ⟨rfl, hbk⟩; have hB := hB.trans (below_less hbk hB.size))
    | (go_at_call 25; refine (h2 _ (ht.below hB (Nat.le_refl _))).mono ?_; clear h2; rintro e wk ⟨rfl, hbk⟩; have hB := hB.trans (below_less hbk hB.size))
    | (go_at_call 15; refine (h3 _ (ht.below hB (Nat.le_refl _))).mono ?_; clear h3; rintro e wk ⟨rfl, hbk⟩; have hB := hB.trans (below_less hbk hB.size))
    | (go_at_call 15; refine (h4 _ (ht.below hB (Nat.le_refl _))).mono ?_; clear h4; rintro e wk ⟨rfl, hbk⟩; have hB := hB.trans (below_less hbk hB.size))
    | (go_at_call 14; refine (aKept _ (ht.below hB (Nat.le_refl _))).mono ?_; rintro e wk ⟨rfl, hbk⟩; have hB := hB.trans (below_less hbk hB.size)))
  go_ret
  exact ⟨rfl, hB⟩
theorem wm_yes_far (p t o a x : List UInt8) (w : World) (ht : Tab w) (h : (decide (p.length ≤ 400) && (decide (t.length ≤ 400) && decide (o.length ≤ 400))) = true)
    (h1 : Ans 17 #[str p, str t] (.tuple #[str a, .bool true, .int .i64 0])) (h2 : Ans 25 #[str p] (.tuple #[.bool true, .int .i64 0])) (h3 : Ans 15 #[str p, str a] (.tuple #[str t, .int .i64 0])) (h4 : Ans 15 #[str p, str o] (.tuple #[str x, .int .i64 0])) (hx : ¬ x = t) :
    Calls Tryz.prog 6 #[str p, str t, str o] w fun e w' => e = .returned (.bool true) ∧ Below w.heap.size w w' := by
  have hs := short3 p t o w true h
  go_enter Tryz.func6, Tryz.ntmps6
  go_wp2_with (first
    | (go_at_call 13; refine hs.mono ?_; clear hs; rintro e wk ⟨rfl, hbk⟩; have hB := hbk)
    | (go_at_call 17; refine (h1 _ (ht.below hB (Nat.le_refl _))).mono ?_; clear h1; rintro e wk ⟨rfl, hbk⟩; have hB := hB.trans (below_less hbk hB.size))
    | (go_at_call 25; refine (h2 _ (ht.below hB (Nat.le_refl _))).mono ?_; clear h2; rintro e wk ⟨rfl, hbk⟩; have hB := hB.trans (below_less hbk hB.size))
    | (go_at_call 15; refine (h3 _ (ht.below hB (Nat.le_refl _))).mono ?_; clear h3; rintro e wk ⟨rfl, hbk⟩; have hB := hB.trans (below_less hbk hB.size))
    | (go_at_call 15; refine (h4 _ (ht.below hB (Nat.le_refl _))).mono ?_; clear h4; rintro e wk ⟨rfl, hbk⟩; have hB := hB.trans (below_less hbk hB.size))
    | (go_at_call 14; refine (aKept _ (ht.below hB (Nat.le_refl _))).mono ?_; rintro e wk ⟨rfl, hbk⟩; have hB := hB.trans (below_less hbk hB.size)))
  go_ret
  exact ⟨rfl, hB⟩
theorem wm_yes_same (p t o : List UInt8) (w : World) (ht : Tab w) (h : (decide (p.length ≤ 400) && (decide (t.length ≤ 400) && decide (o.length ≤ 400))) = true)
    (h1 : Ans 17 #[str p, str t] (.tuple #[str o, .bool true, .int .i64 0])) (h2 : Ans 25 #[str p] (.tuple #[.bool true, .int .i64 0])) (h3 : Ans 15 #[str p, str o] (.tuple #[str t, .int .i64 0])) :
    Calls Tryz.prog 6 #[str p, str t, str o] w fun e w' => e = .returned (.bool true) ∧ Below w.heap.size w w' := by
  have hs := short3 p t o w true h
  go_enter Tryz.func6, Tryz.ntmps6
  go_wp2_with (first
    | (go_at_call 13; refine hs.mono ?_; clear hs; rintro e wk ⟨rfl, hbk⟩; have hB := hbk)
    | (go_at_call 17; refine (h1 _ (ht.below hB (Nat.le_refl _))).mono ?_; clear h1; rintro e wk ⟨rfl, hbk⟩; have hB := hB.trans (below_less hbk hB.size))
    | (go_at_call 25; refine (h2 _ (ht.below hB (Nat.le_refl _))).mono ?_; clear h2; rintro e wk ⟨rfl, hbk⟩; have hB := hB.trans (below_less hbk hB.size))
    | (go_at_call 15; refine (h3 _ (ht.below hB (Nat.le_refl _))).mono ?_; rintro e wk ⟨rfl, hbk⟩; have hB := hB.trans (below_less hbk hB.size))
    | (go_at_call 14; refine (aKept _ (ht.below hB (Nat.le_refl _))).mono ?_; rintro e wk ⟨rfl, hbk⟩; have hB := hB.trans (below_less hbk hB.size)))
  go_ret
  exact ⟨rfl, hB⟩
theorem wm_no_bad (p t o x : List UInt8) (c : Nat) (w : World) (ht : Tab w) (h : (decide (p.length ≤ 400) && (decide (t.length ≤ 400) && decide (o.length ≤ 400))) = true)
    (h1 : Ans 17 #[str p, str t] (.tuple #[str [], .bool false, .int .i64 0])) (h2 : Ans 25 #[str p] (.tuple #[.bool true, .int .i64 0])) (h4 : Ans 15 #[str p, str o] (.tuple #[str x, .int .i64 c])) (hc : c ≠ 0) :
    Calls Tryz.prog 6 #[str p, str t, str o] w fun e w' => e = .returned (.bool true) ∧ Below w.heap.size w w' := by
  have hs := short3 p t o w true h
  obtain ⟨g1, g2⟩ := nat_ne0 hc
  go_enter Tryz.func6, Tryz.ntmps6
  go_wp2_with (first
    | (go_at_call 13; refine hs.mono ?_; clear hs; rintro e wk ⟨rfl, hbk⟩; have hB := hbk)
    | (go_at_call 17; refine (h1 _ (ht.below hB (Nat.le_refl _))).mono ?_; clear h1; rintro e wk ⟨rfl, hbk⟩; have hB := hB.trans (below_less hbk hB.size))
    | (go_at_call 25; refine (h2 _ (ht.below hB (Nat.le_refl _))).mono ?_; clear h2; rintro e wk ⟨rfl, hbk⟩; have hB := hB.trans (below_less hbk hB.size))
    | (go_at_call 15; refine (h4 _ (ht.below hB (Nat.le_refl _))).mono ?_; clear h4; rintro e wk ⟨rfl, hbk⟩; have hB := hB.trans (below_less hbk hB.size))
    | (go_at_call 14; refine (aKept _ (ht.below hB (Nat.le_refl _))).mono ?_; rintro e wk ⟨rfl, hbk⟩; have hB := hB.trans (below_less hbk hB.size)))
  go_ret
  exact ⟨rfl, hB⟩
theorem wm_no_far (p t o x : List UInt8) (w : World) (ht : Tab w) (h : (decide (p.length ≤ 400) && (decide (t.length ≤ 400) && decide (o.length ≤ 400))) = true)
    (h1 : Ans 17 #[str p, str t] (.tuple #[str [], .bool false, .int .i64 0])) (h2 : Ans 25 #[str p] (.tuple #[.bool true, .int .i64 0])) (h4 : Ans 15 #[str p, str o] (.tuple #[str x, .int .i64 0])) (hx : ¬ x = t) :
    Calls Tryz.prog 6 #[str p, str t, str o] w fun e w' => e = .returned (.bool true) ∧ Below w.heap.size w w' := by
  have hs := short3 p t o w true h
  go_enter Tryz.func6, Tryz.ntmps6
  go_wp2_with (first
    | (go_at_call 13; refine hs.mono ?_; clear hs; rintro e wk ⟨rfl, hbk⟩; have hB := hbk)
    | (go_at_call 17; refine (h1 _ (ht.below hB (Nat.le_refl _))).mono ?_; clear h1; rintro e wk ⟨rfl, hbk⟩; have hB := hB.trans (below_less hbk hB.size))
    | (go_at_call 25; refine (h2 _ (ht.below hB (Nat.le_refl _))).mono ?_; clear h2; rintro e wk ⟨rfl, hbk⟩; have hB := hB.trans (below_less hbk hB.size))
    | (go_at_call 15; refine (h4 _ (ht.below hB (Nat.le_refl _))).mono ?_; clear h4; rintro e wk ⟨rfl, hbk⟩; have hB := hB.trans (below_less hbk hB.size))
    | (go_at_call 14; refine (aKept _ (ht.below hB (Nat.le_refl _))).mono ?_; rintro e wk ⟨rfl, hbk⟩; have hB := hB.trans (below_less hbk hB.size)))
  go_ret
  exact ⟨rfl, hB⟩

/-- KindMatched answers true. -/
theorem wmatched (p t o : List UInt8) (w : World) (ht : Tab w) : Calls Tryz.prog 6 #[str p, str t, str o] w fun e w' => e = .returned (.bool true) ∧ Below w.heap.size w w' := by
  rcases h : (decide (p.length ≤ 400) && (decide (t.length ≤ 400) && decide (o.length ≤ 400))) with _ | _
  · exact wm_long p t o w ht h
  · have hl := h
    simp only [Bool.and_eq_true, decide_eq_true_eq] at hl
    obtain ⟨lp, lt, lo⟩ := hl
    have h1 := aMatch lp lt
    rcases hm : matchK p t with ⟨a, is, c⟩
    rw [hm] at h1
    simp only at h1
    by_cases hc : c = 0
    · subst hc
      have h2 := aOpen lp
      obtain ⟨P, T, _, hp, _⟩ := matchK_trees hm
      rw [hp] at h2
      rcases ho : openK p with _ | _
      · rw [ho] at h2
        obtain ⟨rfl, rfl⟩ := matchK_shut hm ho
        rcases hq : (p == t) with _ | _
        · rw [hq] at h1; exact wm_shut_false p t o w ht h h1 h2 hq
        · rw [hq] at h1; exact wm_shut_true p t o w ht h h1 h2 hq
      · rw [ho] at h2
        rcases hw : withK p o with ⟨x, c4⟩
        have h4 := aWith lp lo hw
        cases is with
        | true =>
          obtain ⟨hy, la⟩ := matchK_yes hm ho
          have h3 := aWith lp (by omega) hy
          by_cases hc4 : c4 = 0
          · subst hc4
            by_cases hx : x = t
            · subst hx
              obtain ⟨_, rfl⟩ := matchK_one hm ho hw
              exact wm_yes_same p x a w ht h h1 h2 h3
            · exact wm_yes_far p t o a x w ht h h1 h2 h3 h4 hx
          · exact wm_yes_bad p t o a x c4 w ht h h1 h2 h3 h4 hc4
        | false =>
          obtain rfl := matchK_no hm ho
          by_cases hc4 : c4 = 0
          · subst hc4
            by_cases hx : x = t
            · subst hx
              have := (matchK_one hm ho hw).1
              simp at this
            · exact wm_no_far p t o x w ht h h1 h2 h4 hx
          · exact wm_no_bad p t o x c4 w ht h h1 h2 h4 hc4
    · exact wm_bad p t o a is c w ht h h1 hc
end Go.Proofs.YtakdmnhpoelepaaGreatDoor
