/-
  The walk of the statement KindNames: it answers true. Condition: the variable strings.asciiSpace; the texts' bound.
-/
import Derived.Test.YtakdmnhpoelepaaGreatDoorPNames
import Derived.RegionTactic
import Derived.ChangeAlike
namespace Go.Proofs.YtakdmnhpoelepaaGreatDoor
open Go.RowKit

set_option maxHeartbeats 400000 in
theorem hasL_any (v : Value) (ss : List (List UInt8)) (s : List UInt8) (w : World) (hv : Strs w v ss) :
    Calls Tryz.prog 26 #[v, str s] w fun e w' => e = .returned (.bool (hasB ss s)) ∧ w = w' := by
  rcases hv.shape with ⟨rfl, rfl⟩ | ⟨b, o, cap, rfl, hm, hc⟩
  · go_enter Tryz.func26, Tryz.ntmps26
    go_wp2
    refine wp_loop_rounds 1 ?_
    rw [rounds_succ]
    go_wp2
    go_ret
    exact ⟨rfl, rfl⟩
  · unfold maxLen at hm
    go_enter Tryz.func26, Tryz.ntmps26
    go_wp2
    go_loop [5] (fun i => ∃ k : Nat, k ≤ ss.length ∧ hasB (ss.take k) s = false ∧ i = .int .i64 k) (fun i => ss.length - (intOf i).toNat)
    case atStart => exact ⟨0, by omega, hasB_zero _ _, rfl⟩
    case round =>
      obtain ⟨k, hk, hn, rfl⟩ := hrel
      have Hn := Lib.hid hn
      clear hn
      by_cases hlt : k < ss.length
      · have hck := hc k hlt
        clear hc
        cases he : (ss[k] == s)
        · have Hs := Lib.hid (hasB_take_succ ss s k hlt Hn.out he)
          go_wp2
          go_round
          case rel => exact ⟨k + 1, by omega, Hs.out, by go_num⟩
          case measure => simp [intOf]; omega
        · have Hs := Lib.hid (hasB_hit ss s k hlt he)
          go_wp2
          go_ret
          exact ⟨ret_bool Hs.out.symm, rfl⟩
      · have Hs := Lib.hid (hasB_end ss s k hlt Hn.out)
        clear hc
        go_wp2
        go_ret
        exact ⟨ret_bool Hs.out.symm, rfl⟩
theorem hasL_at {v : Value} {ss : List (List UInt8)} {s : List UInt8} {w : World} {q : Bool} (hv : Strs w v ss) (h : hasB ss s = q) :
    Calls Tryz.prog 26 #[v, str s] w fun e w' => e = .returned (.bool q) ∧ w = w' := by
  have := hasL_any v ss s w hv
  rwa [h] at this
theorem blwQ {B : Nat} {a w : World} (h : Below B a w) (n : Nat) : Below B a (w.drewN n) := h.trans ⟨rfl, rfl, rfl, Nat.le_refl _, fun _ _ => rfl⟩
/-- Names answers a list. -/
def AnsL (f : FuncId) (args : Array Value) (l : List (List UInt8)) (c : Nat) : Prop := ∀ W, Tab W → Calls Tryz.prog f args W fun e w' => ∃ v, e = .returned (.tuple #[v, .int .i64 c]) ∧ Strs w' v l ∧ Below W.heap.size W w'
theorem aNames {s : List UInt8} (hs : s.length ≤ 400) : AnsL 21 #[str s] (namesK s).1 (namesK s).2 := by
  intro W hW
  exact (knames_any s (small400 hs) W hW).mono fun e w' ⟨v, k1, k2, k3⟩ => ⟨v, k1, Sl.of_own (by simpa [strsC] using k2), k3⟩

theorem wn_long (t a : List UInt8) (w : World) (ht : Tab w) (h : (decide (t.length ≤ 400) && decide (a.length ≤ 400)) = false) :
    Calls Tryz.prog 7 #[str t, str a] w fun e w' => e = .returned (.bool true) ∧ Below w.heap.size w w' := by
  have hs := short2 t a w false h
  go_enter Tryz.func7, Tryz.ntmps7
  go_wp2_with (first
    | (go_at_call 13; refine hs.mono ?_; clear hs; rintro e wk ⟨rfl, hbk⟩; have hB := hbk)
    | (go_at_call 14; refine (aKept _ (ht.below hB (Nat.le_refl _))).mono ?_; rintro e wk ⟨rfl, hbk⟩; have hB := hB.trans (below_less hbk hB.size)))
  go_ret
  exact ⟨rfl, hB⟩
set_option maxRecDepth 4000 in
theorem wn_bad (t a x : List UInt8) (O : Bool) (L M N : List (List UInt8)) (c c2 c3 c4 c5 : Nat) (w : World) (ht : Tab w) (h : (decide (t.length ≤ 400) && decide (a.length ≤ 400)) = true)
    (h1 : Ans 15 #[str t, str a] (.tuple #[str x, .int .i64 c])) (h2 : Ans 25 #[str t] (.tuple #[.bool O, .int .i64 c2])) (h3 : AnsL 21 #[str x] L c3) (h4 : AnsL 21 #[str t] M c4) (h5 : AnsL 21 #[str a] N c5) (hc : c ≠ 0) :
    Calls Tryz.prog 7 #[str t, str a] w fun e w' => e = .returned (.bool true) ∧ Below w.heap.size w w' := by
  have hs := short2 t a w true h
  obtain ⟨g1, g2⟩ := nat_ne0 hc
  go_enter Tryz.func7, Tryz.ntmps7
  go_wp2_with (first
    | (go_at_call 13; refine hs.mono ?_; clear hs; rintro e wk ⟨rfl, hbk⟩; have hB := hbk)
    | (go_at_call 15; refine (h1 _ (ht.below hB (Nat.le_refl _))).mono ?_; clear h1; rintro e wk ⟨rfl, hbk⟩; have hB := hB.trans (below_less hbk hB.size))
    | (go_at_call 25; refine (h2 _ (ht.below hB (Nat.le_refl _))).mono ?_; clear h2; rintro e wk ⟨rfl, hbk⟩; have hB := hB.trans (below_less hbk hB.size))
    | (go_at_call 21; refine (h3 _ (ht.below hB (Nat.le_refl _))).mono ?_; clear h3; rintro e w1 ⟨v1, rfl, hv1, hbk⟩; obtain ⟨p1, c1, rfl⟩ := hv1.sh; have hB := hB.trans (below_less hbk hB.size))
    | (go_at_call 21; refine (h4 _ (ht.below hB (Nat.le_refl _))).mono ?_; clear h4; rintro e w2 ⟨v2, rfl, hv2, hbk⟩; obtain ⟨p2, c2, rfl⟩ := hv2.sh; have hB := hB.trans (below_less hbk hB.size))
    | (go_at_call 21; refine (h5 _ (ht.below hB (Nat.le_refl _))).mono ?_; clear h5; rintro e w3 ⟨v3, rfl, hv3, hbk⟩; obtain ⟨p3, c3, rfl⟩ := hv3.sh; have hB := hB.trans (below_less hbk hB.size))
    | (go_at_call 14; refine (aKept _ (ht.below hB (Nat.le_refl _))).mono ?_; rintro e wk ⟨rfl, hbk⟩; have hB := hB.trans (below_less hbk hB.size)))
  go_ret
  exact ⟨rfl, hB⟩
/-- What the lists of names have to do with each other. -/
structure NamesOk (O : Bool) (L M N : List (List UInt8)) : Prop where
  len : L.length ≤ 1000 ∧ M.length ≤ 1000 ∧ N.length ≤ 1000
  from_ : ∀ s ∈ L, hasB M s = true ∨ (hasB M s = false ∧ O = true ∧ hasB N s = true)
  up : ∀ i s s', L[i]? = some s → L[i + 1]? = some s' → Op.bytesLess s s' = true
  one : ∀ s ∈ M, hasB L s = true
  two : O = true → ∀ s ∈ N, hasB L s = true
set_option maxRecDepth 8000 in
set_option maxHeartbeats 6400000 in
theorem wn_good (t a x : List UInt8) (O : Bool) (L M N : List (List UInt8)) (w : World) (ht : Tab w) (h : (decide (t.length ≤ 400) && decide (a.length ≤ 400)) = true)
    (h1 : Ans 15 #[str t, str a] (.tuple #[str x, .int .i64 0])) (h2 : Ans 25 #[str t] (.tuple #[.bool O, .int .i64 0])) (h3 : AnsL 21 #[str x] L 0) (h4 : AnsL 21 #[str t] M 0) (h5 : AnsL 21 #[str a] N 0) (hok : NamesOk O L M N) :
    Calls Tryz.prog 7 #[str t, str a] w fun e w' => e = .returned (.bool true) ∧ Below w.heap.size w w' := by
  have hs := short2 t a w true h
  obtain ⟨l1, l2, l3⟩ := hok.len
  go_enter Tryz.func7, Tryz.ntmps7
  go_wp2_with (first
    | (go_at_call 13; refine hs.mono ?_; clear hs; rintro e wk ⟨rfl, hbk⟩; have hB := hbk)
    | (go_at_call 15; refine (h1 _ (ht.below hB (Nat.le_refl _))).mono ?_; clear h1; rintro e wk ⟨rfl, hbk⟩; have hB := hB.trans (below_less hbk hB.size))
    | (go_at_call 25; refine (h2 _ (ht.below hB (Nat.le_refl _))).mono ?_; clear h2; rintro e wk ⟨rfl, hbk⟩; have hB := hB.trans (below_less hbk hB.size))
    | (go_at_call 21; refine (h3 _ (ht.below hB (Nat.le_refl _))).mono ?_; clear h3; rintro e w1 ⟨v1, rfl, hv1, hb1⟩; obtain ⟨p1, c1, rfl⟩ := hv1.sh; have hB := hB.trans (below_less hb1 hB.size))
    | (go_at_call 21; refine (h4 _ (ht.below hB (Nat.le_refl _))).mono ?_; clear h4; rintro e w2 ⟨v2, rfl, hv2, hb2⟩; obtain ⟨p2, c2, rfl⟩ := hv2.sh; have hv1 := hv1.below hb2 (Nat.le_refl _); have hB := hB.trans (below_less hb2 hB.size))
    | (go_at_call 21; refine (h5 _ (ht.below hB (Nat.le_refl _))).mono ?_; clear h5; rintro e w3 ⟨v3, rfl, hv3, hb3⟩; obtain ⟨p3, c3, rfl⟩ := hv3.sh; have hv1 := hv1.below hb3 (Nat.le_refl _); have hv2 := hv2.below hb3 (Nat.le_refl _); have hB := hB.trans (below_less hb3 hB.size)))
  have HOK := Lib.hid hok
  clear hok
  go_loopw [15] (fun y wx => ∃ i : Nat, i ≤ L.length ∧ y = .int .i64 i ∧ Below w3.heap.size w3 wx) (fun y _ => L.length - (intOf y).toNat)
  case atStart => exact ⟨0, Nat.zero_le _, by go_num, Below.refl _ _⟩
  case round =>
    obtain ⟨i, hi, rfl, hb⟩ := hrel
    have hv1x := hv1.below hb (Nat.le_refl _)
    have hv2x := hv2.below hb (Nat.le_refl _)
    have hv3x := hv3.below hb (Nat.le_refl _)
    by_cases hlt : i < L.length
    case pos =>
      obtain ⟨s, hks⟩ : ∃ s, L[i]? = some s := ⟨_, List.getElem?_eq_getElem hlt⟩
      obtain ⟨b1, o1, rfl, d1⟩ := hv1x.at hks
      have hf := HOK.out.from_ s (List.mem_of_getElem? hks)
      cases i with
      | zero =>
        rw [Nat.add_zero] at d1
        clear hks
        rcases hf with hf | ⟨hf1, rfl, hf2⟩
        · have HA := Lib.hid hf
          clear hf
          go_upto_region 16 with (go_at_call 26; (with_reducible refine (hasL_at hv2x HA.out).mono ?_); rintro e w4 ⟨rfl, rfl⟩)
          go_quiet (fail)
          go_wp2_with fail
          exact ⟨⟨1, by omega, by go_num, blwQ hb _⟩, by simp only [intOf]; omega⟩
        · have HA := Lib.hid hf1
          have HA2 := Lib.hid hf2
          clear hf1 hf2
          go_upto_region 16 with (first
            | (go_at_call 26; (with_reducible refine (hasL_at hv2x HA.out).mono ?_); rintro e w4 ⟨rfl, rfl⟩)
            | (go_at_call 26; (with_reducible refine (hasL_at hv3x HA2.out).mono ?_); rintro e w4 ⟨rfl, rfl⟩))
          go_quiet (fail)
          go_wp2_with fail
          exact ⟨⟨1, by omega, by go_num, blwQ hb _⟩, by simp only [intOf]; omega⟩
      | succ j =>
        have hj : j < L.length := by omega
        obtain ⟨s', hks'⟩ : ∃ s', L[j]? = some s' := ⟨_, List.getElem?_eq_getElem hj⟩
        obtain ⟨b1', o1', hbe, d2⟩ := hv1x.at hks'
        injection hbe with hbe
        injection hbe with hbe1 hbe2
        subst hbe1 hbe2
        have hup := HOK.out.up j s' s hks' hks
        clear hks hks'
        rcases hf with hf | ⟨hf1, rfl, hf2⟩
        · have HA := Lib.hid hf
          clear hf
          go_upto_region 16 with (go_at_call 26; (with_reducible refine (hasL_at hv2x HA.out).mono ?_); rintro e w4 ⟨rfl, rfl⟩)
          go_quiet (fail)
          go_wp2_with fail
          exact ⟨⟨j + 2, by omega, by go_num, blwQ hb _⟩, by simp only [intOf]; omega⟩
        · have HA := Lib.hid hf1
          have HA2 := Lib.hid hf2
          clear hf1 hf2
          go_upto_region 16 with (first
            | (go_at_call 26; (with_reducible refine (hasL_at hv2x HA.out).mono ?_); rintro e w4 ⟨rfl, rfl⟩)
            | (go_at_call 26; (with_reducible refine (hasL_at hv3x HA2.out).mono ?_); rintro e w4 ⟨rfl, rfl⟩))
          go_quiet (fail)
          go_wp2_with fail
          exact ⟨⟨j + 2, by omega, by go_num, blwQ hb _⟩, by simp only [intOf]; omega⟩
    case neg =>
      go_wp2_with fail
      go_loopw [17] (fun y wx => ∃ i : Nat, i ≤ M.length ∧ y = .int .i64 i ∧ Below wr.heap.size wr wx) (fun y _ => M.length - (intOf y).toNat)
      case atStart => exact ⟨0, Nat.zero_le _, by go_num, Below.refl _ _⟩
      case round =>
        obtain ⟨i2, hi2, rfl, hb4⟩ := hrel
        have hv1y := hv1x.below hb4 (Nat.le_refl _)
        have hv2y := hv2x.below hb4 (Nat.le_refl _)
        have hv3y := hv3x.below hb4 (Nat.le_refl _)
        by_cases hlt2 : i2 < M.length
        case pos =>
          obtain ⟨s, hks⟩ : ∃ s, M[i2]? = some s := ⟨_, List.getElem?_eq_getElem hlt2⟩
          obtain ⟨b2, o2, rfl, d2⟩ := hv2y.at hks
          have HA := Lib.hid (HOK.out.one s (List.mem_of_getElem? hks))
          clear hks
          go_wp2_with (go_at_call 26; (with_reducible refine (hasL_at hv1y HA.out).mono ?_); rintro e w5 ⟨rfl, rfl⟩)
          exact ⟨⟨i2 + 1, by omega, by go_num, hb4⟩, by simp only [intOf]; omega⟩
        case neg =>
          have hbA := hb.trans (below_less hb4 hb.size)
          have hbB := hB.trans (below_less hbA hB.size)
          cases O with
          | false =>
            by_cases hN0 : 0 < N.length
            all_goals
              go_wp2_with fail
              refine wp_loop_rounds 1 ?_
              rw [rounds_succ]
              go_wp2_with (go_at_call 14; refine (aKept _ (ht.below hbB (Nat.le_refl _))).mono ?_; rintro e w6 ⟨rfl, hb6⟩)
              go_ret
              exact ⟨rfl, hbB.trans (below_less hb6 hbB.size)⟩
          | true =>
            go_wp2_with fail
            go_loopw [18] (fun y wx => ∃ i : Nat, i ≤ N.length ∧ y = .int .i64 i ∧ Below w.heap.size w wx ∧ Below w3.heap.size w3 wx) (fun y _ => N.length - (intOf y).toNat)
            case atStart => exact ⟨0, Nat.zero_le _, by go_num, hbB, hbA⟩
            case round =>
              clear hbA hbB
              obtain ⟨i3, hi3, rfl, hbB, hbA⟩ := hrel
              have hv1z := hv1.below hbA (Nat.le_refl _)
              have hv3z := hv3.below hbA (Nat.le_refl _)
              by_cases hlt3 : i3 < N.length
              case pos =>
                obtain ⟨s, hks⟩ : ∃ s, N[i3]? = some s := ⟨_, List.getElem?_eq_getElem hlt3⟩
                obtain ⟨b3, o3, rfl, d3⟩ := hv3z.at hks
                have HA := Lib.hid (HOK.out.two rfl s (List.mem_of_getElem? hks))
                clear hks
                go_wp2_with (go_at_call 26; (with_reducible refine (hasL_at hv1z HA.out).mono ?_); rintro e w5 ⟨rfl, rfl⟩)
                exact ⟨⟨i3 + 1, by omega, by go_num, hbB, hbA⟩, by simp only [intOf]; omega⟩
              case neg =>
                go_wp2_with (go_at_call 14; refine (aKept _ (ht.below hbB (Nat.le_refl _))).mono ?_; rintro e w6 ⟨rfl, hb6⟩)
                go_ret
                exact ⟨rfl, hbB.trans (below_less hb6 hbB.size)⟩
theorem namesK_len (s : List UInt8) : (namesK s).1.length ≤ 100 := by
  rcases hq : checkK s with ⟨c, T⟩
  by_cases hc : c = 0
  · subst hc
    obtain ⟨o1, e1, l1, _⟩ := checkK_ok hq
    rw [show namesK s = (sortU (namF T.ins), 0) by unfold namesK; rw [hq]; rfl]
    have h1 : (sortU (namF T.ins)).length = (onceB (namF T.ins)).length := by unfold sortU; exact List.length_mergeSort _
    have h2 := onceB_len (namF T.ins)
    have h3 : (namF T.ins).length ≤ T.ins.length := by unfold namF; rw [List.length_map]; exact List.length_filter_le _ _
    have h4 := o1.ins_len
    rw [e1] at h4
    show (sortU (namF T.ins)).length ≤ 100
    omega
  · rw [show namesK s = ([], c) by unfold namesK; rw [hq, if_neg hc]]; simp
theorem withK_len2 (t a : List UInt8) : (withK t a).1.length ≤ 100 := by
  rcases h : withK t a with ⟨x, c⟩
  by_cases hc : c = 0
  · subst hc
    obtain ⟨_, _, _, _, _, k⟩ := withK_ok h
    exact (checkK_ok k).2.2.1
  · unfold withK at h
    split at h
    · unfold toldK at h
      split at h
      · simp only [Prod.mk.injEq] at h; rw [← h.1]; simp
      · simp only [Prod.mk.injEq] at h; exact absurd h.2.symm hc
    · simp only [Prod.mk.injEq] at h; rw [← h.1]; simp
theorem hasB_iff {l : List (List UInt8)} {s : List UInt8} : hasB l s = true ↔ s ∈ l := by unfold hasB; rw [List.contains_iff_mem]
/-- The lists of names, where With succeeds. -/
theorem names_ok {t a x : List UInt8} (h : withK t a = (x, 0)) : (checkK t).1 = 0 ∧ (namesK x).2 = 0 ∧ (namesK t).2 = 0 ∧ (namesK a).2 = 0 ∧ NamesOk (openK t) (namesK x).1 (namesK t).1 (namesK a).1 := by
  obtain ⟨T, A, h1, h2, _, h4⟩ := withK_ok h
  obtain ⟨oT, _, _, _⟩ := checkK_ok h1
  have e1 : namesK t = (sortU (namF T.ins), 0) := by unfold namesK; rw [h1]; rfl
  have e2 : namesK a = (sortU (namF A.ins), 0) := by unfold namesK; rw [h2]; rfl
  have e3 : namesK x = (sortU (namF (T.put A).ins), 0) := by unfold namesK; rw [h4]; rfl
  have eo : openK t = T.opn := by unfold openK; rw [h1]; rfl
  have l1 := namesK_len x
  have l2 := namesK_len t
  have l3 := namesK_len a
  refine ⟨by rw [h1], by rw [e3], by rw [e1], by rw [e2], ⟨⟨by omega, by omega, by omega⟩, ?_, ?_, ?_, ?_⟩⟩
  · intro s hs
    rw [e3, sortU_mem, oT.names_put] at hs
    rw [e1, e2, eo]
    rcases hm : hasB (sortU (namF T.ins)) s with _ | _
    · rcases hs with hs | ⟨ho, hs⟩
      · rw [hasB_iff.2 ((sortU_mem _ _).2 hs)] at hm; simp at hm
      · exact .inr ⟨rfl, ho, hasB_iff.2 ((sortU_mem _ _).2 hs)⟩
    · exact .inl rfl
  · intro i s s' h1 h2
    rw [e3] at h1 h2
    obtain ⟨i1, rfl⟩ := List.getElem?_eq_some_iff.1 h1
    obtain ⟨i2, rfl⟩ := List.getElem?_eq_some_iff.1 h2
    exact List.pairwise_iff_getElem.1 (sortU_asc _) i (i + 1) i1 i2 (by omega)
  · intro s hs
    rw [e1, sortU_mem] at hs
    rw [e3, hasB_iff, sortU_mem, oT.names_put]
    exact .inl hs
  · intro ho s hs
    rw [eo] at ho
    rw [e2, sortU_mem] at hs
    rw [e3, hasB_iff, sortU_mem, oT.names_put]
    exact .inr ⟨ho, hs⟩
/-- KindNames answers true. -/
theorem wnames (t a : List UInt8) (w : World) (ht : Tab w) : Calls Tryz.prog 7 #[str t, str a] w fun e w' => e = .returned (.bool true) ∧ Below w.heap.size w w' := by
  rcases h : (decide (t.length ≤ 400) && decide (a.length ≤ 400)) with _ | _
  · exact wn_long t a w ht h
  · have hl := h
    simp only [Bool.and_eq_true, decide_eq_true_eq] at hl
    obtain ⟨lt, la⟩ := hl
    rcases hw : withK t a with ⟨x, c⟩
    have hx := withK_len2 t a
    rw [hw] at hx
    have h1 := aWith lt la hw
    have h2 := aOpen lt
    have h3 := aNames (s := x) (by simp only at hx; omega)
    have h4 := aNames lt
    have h5 := aNames la
    by_cases hc : c = 0
    · subst hc
      obtain ⟨k1, k2, k3, k4, k5⟩ := names_ok hw
      rw [k1] at h2
      rw [k2] at h3
      rw [k3] at h4
      rw [k4] at h5
      exact wn_good t a x _ _ _ _ w ht h h1 h2 h3 h4 h5 k5
    · exact wn_bad t a x _ _ _ _ c _ _ _ _ w ht h h1 h2 h3 h4 h5 hc
end Go.Proofs.YtakdmnhpoelepaaGreatDoor
