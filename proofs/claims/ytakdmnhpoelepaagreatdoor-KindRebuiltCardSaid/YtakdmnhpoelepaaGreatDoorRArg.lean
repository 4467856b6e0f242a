/-
  Contracts: the reference's arg, Arg, Base, Parts, SameParts (argusref03), in the words of the program's contracts. Condition: the texts' length.
-/
import Derived.Test.YtakdmnhpoelepaaGreatDoorRList
import Derived.Test.YtakdmnhpoelepaaGreatDoorKArg
namespace Go.Proofs.YtakdmnhpoelepaaGreatDoor
open Go.RowKit

theorem ofK_yes {s : List UInt8} {l : List Nat} {T : Tr} (h : checkK s = (0, T)) (hk : l.contains T.k = true) : ofK s l = (0, T) := by unfold ofK; rw [h]; simp only [if_true]; rw [hk]; rfl
theorem ofK_no {s : List UInt8} {l : List Nat} {T : Tr} (h : checkK s = (0, T)) (hk : l.contains T.k = false) : ofK s l = (30, ⟨0, [], .nil⟩) := by unfold ofK; rw [h]; simp only [if_true]; rw [hk]; rfl
theorem ofK_err {s : List UInt8} {l : List Nat} {T : Tr} {c : Nat} (h : checkK s = (c, T)) (hc : c ≠ 0) : ofK s l = (c, ⟨0, [], .nil⟩) := by unfold ofK; rw [h]; simp only; rw [if_neg hc, (checkK_bad h hc).2]
/-- The text between the brackets. -/
theorem arg_txt {T : Tr} (h : T.ok) (hk : T.k = 4 ∨ T.k = 7) : (T.sub.len = 0 ∧ cutN T.txt = T.txt.length) ∨
    (T.sub.len ≠ 0 ∧ cutN T.txt + 2 ≤ T.txt.length ∧ List.drop (cutN T.txt + 1) (List.take (T.txt.length - 1) T.txt) = T.sub.first.txt ∧ T.sub.first.txt ≠ []) := by
  obtain ⟨k, n, sub⟩ := T
  have h' : Wf none (.cons [] k n sub .nil) := h
  have hw := wordK_cut h' (by simp only at hk; omega)
  simp only at hk ⊢
  rw [Tr.txt_eq, Fo.one, Fo.tx_one, cutN_all _ hw _ (br_cut _)]
  have key : ∀ a : Fo, Wf none a → sub = a → sub.len ≠ 0 ∧ (wordK k n).length + 2 ≤ (wordK k n ++ sub.br).length ∧ List.drop ((wordK k n).length + 1) (List.take ((wordK k n ++ sub.br).length - 1) (wordK k n ++ sub.br)) = sub.first.txt ∧ sub.first.txt ≠ [] := by
    intro a ha e
    subst e
    obtain ⟨A, rfl⟩ := ha.one
    have hp : 0 < A.txt.length := by
      have := parseT_le (Tr.ok.reads' (t := A) ha)
      simpa using this
    have hf : (Fo.one A).first = A := rfl
    rw [Fo.br_ne (by simp [Fo.one]), hf, ← Tr.txt_eq]
    refine ⟨by simp [Fo.one, Fo.len], by simp, ?_, fun h => by rw [h] at hp; simp at hp⟩
    rw [show wordK k n ++ 91 :: (A.txt ++ [93]) = (wordK k n ++ 91 :: A.txt) ++ [93] from by simp]
    have e2 : ((wordK k n ++ 91 :: A.txt) ++ [93]).length - 1 = (wordK k n ++ 91 :: A.txt).length := by rw [List.length_append]; simp
    rw [e2, List.take_left, ← List.drop_drop, List.drop_left]
    rfl
  clear h
  cases h' with
  | par => simp at hk
  | word _ h3 => omega
  | arr _ h => exact .inr (key _ h rfl)
  | rcd _ _ _ hk2 => omega
  | nam n hn => exact .inl ⟨rfl, by simp [Fo.br]⟩
  | app _ _ _ h => exact .inr (key _ h rfl)
set_option maxRecDepth 4000 in
set_option maxHeartbeats 3200000 in
theorem rarg0_any (T : Tr) (h : T.ok) (hk : T.k = 4 ∨ T.k = 7) (hm : T.txt.length ≤ 100) (w : World) :
    Calls Tryz.prog 70 #[str T.txt] w fun e w' => e = .returned (str (if T.sub.len = 0 then [] else T.sub.first.txt)) ∧ w = w' := by
  have hc := arg_txt h hk
  have hC := fun W => cut_any T.txt W (by unfold maxLen; omega)
  generalize T.txt = s at *
  generalize T.sub.first.txt = f at *
  have hle := cutN_le s
  generalize cutN s = n at *
  generalize T.sub.len = N at *
  clear h hk
  rcases hc with ⟨h0, h1⟩ | ⟨h0, h1, h2, h3⟩
  · rw [if_pos h0]
    have g : ((n : Int) == (s.length : Int)) = true := by rw [h1]; simp
    clear h0 h1
    go_enter Tryz.func70, Tryz.ntmps70
    go_wp2_with (go_at_call 59; refine (hC _).mono ?_; clear hC; rintro e w1 ⟨rfl, rfl⟩)
    go_ret
    exact ⟨rfl, rfl⟩
  · rw [if_neg h0]
    have g : ((n : Int) == (s.length : Int)) = false := by rw [beq_eq_false_iff_ne]; omega
    have H2 := Lib.hid h2
    have hs1 : 1 ≤ s.length := by omega
    clear h0 h2 h3
    go_enter Tryz.func70, Tryz.ntmps70
    go_wp2_with (go_at_call 59; refine (hC _).mono ?_; clear hC; rintro e w1 ⟨rfl, rfl⟩)
    go_ret
    rw [H2.out]
    exact ⟨rfl, rfl⟩
theorem tr_txt {s : List UInt8} {T : Tr} (h : checkK s = (0, T)) : T.ok ∧ T.txt = s ∧ s.length ≤ 100 ∧ kindT s = T.k := by
  obtain ⟨h1, h2, h3, _⟩ := checkK_ok h
  exact ⟨h1, h2, h3, by rw [← h2, h1.kindT]⟩
set_option maxRecDepth 4000 in
set_option maxHeartbeats 3200000 in
theorem rarg_any (s : List UInt8) (hm : s.length ≤ maxLen) (w : World) : Calls Tryz.prog 42 #[str s] w fun e w' => e = .returned (.tuple #[str (argK s).1, .bool (argK s).2.1, .int .i64 (argK s).2.2]) ∧ Below w.heap.size w w' := by
  have hC := fun W => rcheck_any s hm W
  have hK := fun W => rkind0_any s hm W
  unfold argK
  rcases hq : checkK s with ⟨c, T⟩
  rw [hq] at hC
  by_cases h0 : c = 0
  · subst h0
    obtain ⟨o1, e1, l1, k1⟩ := tr_txt hq
    rw [k1] at hK
    by_cases hk : T.k = 4 ∨ T.k = 7
    · have hA := fun W => rarg0_any T o1 hk (by rw [e1]; exact l1) W
      rw [e1] at hA
      have ha := arg_txt o1 hk
      rw [ofK_yes hq (by rcases hk with h | h <;> rw [h] <;> rfl)]
      simp only
      rcases ha with ⟨n0, _⟩ | ⟨n0, _, _, n1⟩
      · rw [if_neg (by rw [n0]; simp)]
        rw [if_pos n0] at hA
        rcases hk with hk | hk
        all_goals
          rw [hk] at hK
          clear hq o1 e1 l1 k1 hk n0
          go_enter Tryz.func42, Tryz.ntmps42
          go_wp2_with (first
            | (go_at_call 32; refine (hC _).mono ?_; clear hC; rintro e w1 ⟨rfl, hb1⟩)
            | (go_at_call 63; refine (hK _).mono ?_; clear hK; rintro e w2 ⟨rfl, rfl⟩)
            | (go_at_call 70; refine (hA _).mono ?_; clear hA; rintro e w3 ⟨rfl, rfl⟩))
          go_ret3
          exact ⟨rfl, hb1⟩
      · rw [if_pos ⟨trivial, n0⟩]
        rw [if_neg n0] at hA
        generalize T.sub.first.txt = F at hA n1 ⊢
        have g : (F == []) = false := by simpa using n1
        rcases hk with hk | hk
        all_goals
          rw [hk] at hK
          clear hq o1 e1 l1 k1 hk n0 n1
          go_enter Tryz.func42, Tryz.ntmps42
          go_wp2_with (first
            | (go_at_call 32; refine (hC _).mono ?_; clear hC; rintro e w1 ⟨rfl, hb1⟩)
            | (go_at_call 63; refine (hK _).mono ?_; clear hK; rintro e w2 ⟨rfl, rfl⟩)
            | (go_at_call 70; refine (hA _).mono ?_; clear hA; rintro e w3 ⟨rfl, rfl⟩))
          go_ret3
          exact ⟨rfl, hb1⟩
    · have hk4 : T.k ≠ 4 := fun h => hk (.inl h)
      have hk7 : T.k ≠ 7 := fun h => hk (.inr h)
      rw [ofK_no hq (by simp [hk4, hk7])]
      simp only
      rw [if_neg (by simp)]
      generalize T.k = K at hK hk4 hk7
      have g1 : ((K : Int) != 4) = true := by rw [bne_iff_ne]; omega
      have g2 : ((K : Int) != 7) = true := by rw [bne_iff_ne]; omega
      clear hq o1 e1 l1 k1 hk hk4 hk7
      go_enter Tryz.func42, Tryz.ntmps42
      go_wp2_with (first
        | (go_at_call 32; refine (hC _).mono ?_; clear hC; rintro e w1 ⟨rfl, hb1⟩)
        | (go_at_call 63; refine (hK _).mono ?_; clear hK; rintro e w2 ⟨rfl, rfl⟩))
      go_ret3
      exact ⟨rfl, hb1⟩
  · rw [ofK_err hq h0]
    simp only
    rw [if_neg (by simp [h0])]
    obtain ⟨g1, g2⟩ := nat_ne0 h0
    clear hq h0 hK
    go_enter Tryz.func42, Tryz.ntmps42
    go_wp2_with (go_at_call 32; refine (hC _).mono ?_; clear hC; rintro e w1 ⟨rfl, hb1⟩)
    go_ret3
    exact ⟨rfl, hb1⟩
theorem base_name {T : Tr} (h : T.ok) (hk : T.k = 7) : List.take (cutN T.txt) T.txt = T.n := by
  obtain ⟨k, n, sub⟩ := T
  obtain rfl : k = 7 := hk
  have h' : Wf none (.cons [] 7 n sub .nil) := h
  rw [Tr.txt_eq, Fo.one, Fo.tx_one]
  exact (cutN_word (wordK_cut h' (by decide)) (br_cut _)).1
set_option maxRecDepth 4000 in
set_option maxHeartbeats 3200000 in
theorem rbase_any (s : List UInt8) (hm : s.length ≤ maxLen) (w : World) : Calls Tryz.prog 44 #[str s] w fun e w' => e = .returned (.tuple #[str (baseK s).1, .int .i64 (baseK s).2]) ∧ Below w.heap.size w w' := by
  have hC := fun W => rcheck_any s hm W
  have hK := fun W => rkind0_any s hm W
  have hT := fun W => cut_any s W hm
  unfold baseK
  rcases hq : checkK s with ⟨c, T⟩
  rw [hq] at hC
  by_cases h0 : c = 0
  · subst h0
    obtain ⟨o1, e1, l1, k1⟩ := tr_txt hq
    rw [k1] at hK
    by_cases hk : T.k = 7
    · have hn := base_name o1 hk
      rw [e1] at hn
      have HN := Lib.hid hn
      have hle := cutN_le s
      rw [ofK_yes hq (by rw [hk]; rfl)]
      simp only
      rw [hk] at hK
      clear hq o1 e1 k1 hk hn
      go_enter Tryz.func44, Tryz.ntmps44
      go_wp2_with (first
        | (go_at_call 32; refine (hC _).mono ?_; clear hC; rintro e w1 ⟨rfl, hb1⟩)
        | (go_at_call 63; refine (hK _).mono ?_; clear hK; rintro e w2 ⟨rfl, rfl⟩)
        | (go_at_call 59; refine (hT _).mono ?_; clear hT; rintro e w3 ⟨rfl, rfl⟩))
      go_ret2
      rw [← HN.out]
      exact ⟨rfl, hb1⟩
    · rw [ofK_no hq (by simp [hk])]
      generalize T.k = K at hK hk
      have g1 : ((K : Int) != 7) = true := by rw [bne_iff_ne]; omega
      clear hq o1 e1 l1 k1 hk hT
      go_enter Tryz.func44, Tryz.ntmps44
      go_wp2_with (first
        | (go_at_call 32; refine (hC _).mono ?_; clear hC; rintro e w1 ⟨rfl, hb1⟩)
        | (go_at_call 63; refine (hK _).mono ?_; clear hK; rintro e w2 ⟨rfl, rfl⟩))
      go_ret2
      exact ⟨rfl, hb1⟩
  · rw [ofK_err hq h0]
    obtain ⟨g1, g2⟩ := nat_ne0 h0
    clear hq h0 hK hT
    go_enter Tryz.func44, Tryz.ntmps44
    go_wp2_with (go_at_call 32; refine (hC _).mono ?_; clear hC; rintro e w1 ⟨rfl, hb1⟩)
    go_ret2
    exact ⟨rfl, hb1⟩
/-- What Parts answers. -/
def partsK (s : List UInt8) : List (List UInt8 × List UInt8) × Nat := if (ofK s [5, 6]).1 = 0 then ((ofK s [5, 6]).2.sub.pts, 0) else ([], (ofK s [5, 6]).1)
theorem rec_len {T : Tr} (h : T.ok) (hk : T.k = 5 ∨ T.k = 6) : T.sub.len ≤ 6 := by
  obtain ⟨k, n, sub⟩ := T
  have h' : Wf none (.cons [] k n sub .nil) := h
  simp only at hk ⊢
  clear h
  cases h' with
  | par => simp at hk
  | word _ h3 => omega
  | arr _ h => simp at hk
  | rcd _ _ _ hk2 h hl => exact hl
  | nam _ _ => simp at hk
  | app _ _ _ h => simp at hk
set_option maxRecDepth 4000 in
set_option maxHeartbeats 3200000 in
theorem rparts_any (s : List UInt8) (hm : s.length ≤ maxLen) (w : World) : Calls Tryz.prog 46 #[str s] w fun e w' => ∃ v, e = .returned (.tuple #[v, .int .i64 (partsK s).2]) ∧ Pts w' v (partsK s).1 ∧ Below w.heap.size w w' := by
  have hC := fun W => rcheck_any s hm W
  have hK := fun W => rkind0_any s hm W
  unfold partsK
  rcases hq : checkK s with ⟨c, T⟩
  rw [hq] at hC
  by_cases h0 : c = 0
  · subst h0
    obtain ⟨o1, e1, l1, k1⟩ := tr_txt hq
    rw [k1] at hK
    by_cases hk : T.k = 5 ∨ T.k = 6
    · have hA := fun W => rlist_any T o1 hk (by rw [e1]; exact l1) (rec_len o1 hk) W
      rw [e1] at hA
      rw [ofK_yes hq (by rcases hk with h | h <;> rw [h] <;> rfl)]
      simp only [if_true]
      rcases hk with hk | hk
      all_goals
        rw [hk] at hK
        clear hq o1 e1 l1 k1 hk
        go_enter Tryz.func46, Tryz.ntmps46
        go_wp2_with (first
          | (go_at_call 32; refine (hC _).mono ?_; clear hC; rintro e w1 ⟨rfl, hb1⟩)
          | (go_at_call 63; refine (hK _).mono ?_; clear hK; rintro e w2 ⟨rfl, rfl⟩)
          | (go_at_call 71; refine (hA _).mono ?_; clear hA; rintro e w3 ⟨v, rfl, hv, hb3⟩; obtain ⟨p, cc, rfl⟩ := hv.shape))
        go_ret2
        exact ⟨_, rfl, hv, hb1.trans (below_less hb3 hb1.size)⟩
    · have hk4 : T.k ≠ 5 := fun h => hk (.inl h)
      have hk7 : T.k ≠ 6 := fun h => hk (.inr h)
      rw [ofK_no hq (by simp [hk4, hk7])]
      simp only
      rw [if_neg (by simp)]
      generalize T.k = K at hK hk4 hk7
      have g1 : ((K : Int) != 5) = true := by rw [bne_iff_ne]; omega
      have g2 : ((K : Int) != 6) = true := by rw [bne_iff_ne]; omega
      clear hq o1 e1 l1 k1 hk hk4 hk7
      go_enter Tryz.func46, Tryz.ntmps46
      go_wp2_with (first
        | (go_at_call 32; refine (hC _).mono ?_; clear hC; rintro e w1 ⟨rfl, hb1⟩)
        | (go_at_call 63; refine (hK _).mono ?_; clear hK; rintro e w2 ⟨rfl, rfl⟩))
      go_ret2
      exact ⟨_, rfl, .inl ⟨rfl, rfl⟩, hb1⟩
  · rw [ofK_err hq h0]
    simp only
    rw [if_neg h0]
    obtain ⟨g1, g2⟩ := nat_ne0 h0
    clear hq h0 hK
    go_enter Tryz.func46, Tryz.ntmps46
    go_wp2_with (go_at_call 32; refine (hC _).mono ?_; clear hC; rintro e w1 ⟨rfl, hb1⟩)
    go_ret2
    exact ⟨_, rfl, .inl ⟨rfl, rfl⟩, hb1⟩
end Go.Proofs.YtakdmnhpoelepaaGreatDoor
