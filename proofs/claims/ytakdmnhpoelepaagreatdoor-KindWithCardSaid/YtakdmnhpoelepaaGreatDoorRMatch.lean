/-
  Contract: the reference's Match (argusref03.Match), in the words of the program's contract. Condition: the texts' length.
-/
import Derived.Test.YtakdmnhpoelepaaGreatDoorPMatchR
import Derived.Test.YtakdmnhpoelepaaGreatDoorRWith
import Derived.WalkSmall
import Derived.RegionTactic
import Derived.ChangeAlike
namespace Go.Proofs.YtakdmnhpoelepaaGreatDoor
open Go.RowKit

/-- What the first '?' is. -/
theorem qAt_lt {s : List UInt8} {k : Nat} (hk : k < s.length) (h : k ≤ qAt s) (hc : s[k] ≠ 63) : k + 1 ≤ qAt s := by
  have : ∀ (k : Nat) (s : List UInt8) (hk : k < s.length), k ≤ qAt s → s[k] ≠ 63 → k + 1 ≤ qAt s := by
    intro k
    induction k with
    | zero =>
      intro s hk _ hc
      cases s with
      | nil => simp at hk
      | cons c s => simp at hc; simp [qAt, hc]
    | succ k ih =>
      intro s hk h hc
      cases s with
      | nil => simp at hk
      | cons c s =>
        unfold qAt at h ⊢
        rw [List.takeWhile_cons] at h ⊢
        split at h
        · rename_i h1
          rw [if_pos h1]
          have := ih s (by simpa using hk) (by unfold qAt; simpa using h) (by simpa using hc)
          unfold qAt at this
          simp only [List.length_cons]
          omega
        · simp at h
  exact this k s hk h hc
theorem qAt_here {s : List UInt8} {k : Nat} (hk : k < s.length) (h : k ≤ qAt s) (hc : s[k] = 63) : qAt s = k := by
  have : ∀ (k : Nat) (s : List UInt8) (hk : k < s.length), k ≤ qAt s → s[k] = 63 → qAt s = k := by
    intro k
    induction k with
    | zero =>
      intro s hk _ hc
      cases s with
      | nil => simp at hk
      | cons c s => simp at hc; simp [qAt, hc]
    | succ k ih =>
      intro s hk h hc
      cases s with
      | nil => simp at hk
      | cons c s =>
        unfold qAt at h ⊢
        rw [List.takeWhile_cons] at h ⊢
        split at h
        · rename_i h1
          rw [if_pos h1]
          have := ih s (by simpa using hk) (by unfold qAt; simpa using h) (by simpa using hc)
          unfold qAt at this
          simp only [List.length_cons]
          omega
        · simp at h
  exact this k s hk h hc
theorem qAt_open {p : List UInt8} {P : Tr} (hp : checkK p = (0, P)) (ho : P.opn = true) : qAt p < p.length := by
  obtain ⟨o1, e1, _, _⟩ := checkK_ok hp
  obtain ⟨pre, post, hx, hq, _⟩ := Wf.parAt (fo := .one P) o1 (by rw [Fo.opn_one]; exact ho)
  rw [← Tr.txt_eq, e1] at hx
  rw [hx, qAt_pre hq]
  simp

set_option maxRecDepth 4000 in
set_option maxHeartbeats 3200000 in
theorem rmatch_open (p t : List UInt8) (P T : Tr) (hp : checkK p = (0, P)) (hT : checkK t = (0, T)) (ho : P.opn = true) (w : World) :
    Calls Tryz.prog 18 #[str p, str t] w fun e w' => e = .returned (.tuple #[str (matchK p t).1, .bool (matchK p t).2.1, .int .i64 (matchK p t).2.2]) ∧ Below w.heap.size w w' := by
  obtain ⟨o1, e1, l1, _⟩ := checkK_ok hp
  obtain ⟨o2, e2, l2, _⟩ := checkK_ok hT
  have hC := fun W => rcheck_any p (by unfold maxLen; omega) W
  have hD := fun W => rcheck_any t (by unfold maxLen; omega) W
  have hO := fun W => ropen0_any p (by unfold maxLen; omega) W
  rw [hp] at hC
  rw [hT] at hD
  rw [show hasQ p = true by rw [← e1, o1.hasQ]; exact ho] at hO
  have hq := qAt_open hp ho
  have hfar := refM_far hp hT ho
  have hnear := refM_near hp hT ho
  have hR := fun W => read_any (t.drop (qAt p)) 0 W (Int.le_refl _) (by simp; omega)
  have hW := fun a W ha => rwith_any p a (by unfold maxLen; omega) ha W
  have HQ : ∀ k (hk : k < p.length), k ≤ qAt p → (p[k] ≠ 63 ∧ k + 1 ≤ qAt p) ∨ (p[k] = 63 ∧ k = qAt p) := fun k hk h => by
    by_cases hc : p[k] = 63
    · exact .inr ⟨hc, (qAt_here hk h hc).symm⟩
    · exact .inl ⟨hc, qAt_lt hk h hc⟩
  generalize qAt p = Q at *
  have hdt : ∀ n, List.drop Q (List.take (Q + n) t) = List.take n (List.drop Q t) := fun n => by rw [List.drop_take, show Q + n - Q = n from by omega]
  simp only [← hdt] at hnear
  have HFAR := Lib.hid hfar
  have HNEAR := Lib.hid hnear
  have HQQ := Lib.hid HQ
  have HRR := Lib.hid hR
  clear hp hT ho o1 o2 e1 e2 hfar hnear HQ hdt hR
  go_enter Tryz.func18, Tryz.ntmps18
  go_wp2_with (first
    | (go_at_call 32; refine (hC _).mono ?_; clear hC; rintro e w1 ⟨rfl, hb1⟩)
    | (go_at_call 32; refine (hD _).mono ?_; clear hD; rintro e w2 ⟨rfl, hb2⟩)
    | (go_at_call 55; refine (hO _).mono ?_; clear hO; rintro e w3 ⟨rfl, rfl⟩))
  have hb := hb1.trans (below_less hb2 hb1.size)
  clear hb1 hb2
  go_loop [8] (fun i => ∃ k : Nat, k ≤ Q ∧ i = .int .i64 k) (fun i => Q - (intOf i).toNat)
  case atStart => exact ⟨0, by omega, rfl⟩
  case round =>
    obtain ⟨k, hk, rfl⟩ := hrel
    have hlt : k < p.length := by omega
    rcases HQQ.out k hlt hk with ⟨hc, hk1⟩ | ⟨hc, rfl⟩
    · have g : (((p[k]).toNat : Int) != 63) = true := by rw [bne_iff_ne]; exact u8_ne (d := 63) hc
      clear hc
      go_wp2_with fail
      go_round
      case rel => exact ⟨k + 1, hk1, by go_num⟩
      case measure => simp [intOf]; omega
    · have g : (((p[k]).toNat : Int) != 63) = false := by rw [hc]; rfl
      clear hc hk HQQ
      by_cases h1 : t.length < k
      · have HE := Lib.hid (HFAR.out (.inl h1))
        have h1' : decide (t.length < k) = true := by simpa using h1
        clear h1
        go_upto_region 11 with fail
        go_quiet (fail)
        go_wp2_with fail
        go_ret3
        rw [HE.out]
        exact ⟨rfl, blwN hb _⟩
      · have h1' : decide (t.length < k) = false := by simpa using h1
        by_cases h2 : t.take k = p.take k
        · have h2' : (List.take k t == List.take k p) = true := by simpa using h2
          have hn := HNEAR.out
          have hR := HRR.out
          have hN := rdN_le (t.drop k)
          rw [List.length_drop] at hN
          generalize rdN (List.drop k t) = N at hn hR hN
          have hAl : (List.drop k (List.take (k + N) t)).length ≤ 100 := by simp; omega
          have hWA := fun W => hW (List.drop k (List.take (k + N) t)) W (by unfold maxLen; omega)
          rcases hx : withK p (List.drop k (List.take (k + N) t)) with ⟨x, c⟩
          rw [hx] at hn hWA
          simp only at hn hWA
          obtain ⟨n1, n2⟩ := hn
          have HN1 := Lib.hid n1
          have HN2 := Lib.hid n2
          clear h2 HNEAR HRR HFAR hx n1 n2 hW
          by_cases hN0 : N = 0
          · have HE := Lib.hid (HN1.out (.inl hN0))
            have g3 : ((N : Int) == 0) = true := by rw [hN0]; rfl
            clear hN0 HN1 HN2
            go_upto_region 11 with fail
            go_quiet (fail)
            have hb' := blwN hb nq
            generalize w2.drewN nq = w5 at hb' ⊢
            go_wp2_with (first
            | (go_at_call 56; refine (hR _).mono ?_; clear hR; rintro e w6 ⟨rfl, hb6⟩; have hb7 := hb'.trans (below_less hb6 hb'.size))
            | (go_at_call 16; refine (hWA _).mono ?_; clear hWA; rintro e w7 ⟨rfl, hb8⟩; have hb9 := hb7.trans (below_less hb8 hb7.size)))
            go_ret3
            rw [HE.out]
            exact ⟨rfl, hb9⟩
          · have g3 : ((N : Int) == 0) = false := int_not_zero hN0
            by_cases hc0 : c = 0
            · by_cases hxt : x = t
              · have HE := Lib.hid (HN2.out hN0 (by rw [hxt, hc0]))
                subst hxt hc0
                clear hN0 HN1 HN2
                go_upto_region 11 with fail
                go_quiet (fail)
                have hb' := blwN hb nq
                generalize w2.drewN nq = w5 at hb' ⊢
                go_wp2_with (first
                | (go_at_call 56; refine (hR _).mono ?_; clear hR; rintro e w6 ⟨rfl, hb6⟩; have hb7 := hb'.trans (below_less hb6 hb'.size))
                | (go_at_call 16; refine (hWA _).mono ?_; clear hWA; rintro e w7 ⟨rfl, hb8⟩; have hb9 := hb7.trans (below_less hb8 hb7.size)))
                go_ret3
                rw [HE.out]
                exact ⟨rfl, hb9⟩
              · have HE := Lib.hid (HN1.out (.inr (.inr hxt)))
                have g5 : (x == t) = false := by simpa using hxt
                subst hc0
                clear hN0 HN1 HN2 hxt
                go_upto_region 11 with fail
                go_quiet (fail)
                have hb' := blwN hb nq
                generalize w2.drewN nq = w5 at hb' ⊢
                go_wp2_with (first
                | (go_at_call 56; refine (hR _).mono ?_; clear hR; rintro e w6 ⟨rfl, hb6⟩; have hb7 := hb'.trans (below_less hb6 hb'.size))
                | (go_at_call 16; refine (hWA _).mono ?_; clear hWA; rintro e w7 ⟨rfl, hb8⟩; have hb9 := hb7.trans (below_less hb8 hb7.size)))
                go_ret3
                rw [HE.out]
                exact ⟨rfl, hb9⟩
            · have HE := Lib.hid (HN1.out (.inr (.inl hc0)))
              obtain ⟨g5, g6⟩ := nat_ne0 hc0
              clear hN0 HN1 HN2 hc0
              go_upto_region 11 with fail
              go_quiet (fail)
              have hb' := blwN hb nq
              generalize w2.drewN nq = w5 at hb' ⊢
              go_wp2_with (first
              | (go_at_call 56; refine (hR _).mono ?_; clear hR; rintro e w6 ⟨rfl, hb6⟩; have hb7 := hb'.trans (below_less hb6 hb'.size))
              | (go_at_call 16; refine (hWA _).mono ?_; clear hWA; rintro e w7 ⟨rfl, hb8⟩; have hb9 := hb7.trans (below_less hb8 hb7.size)))
              go_ret3
              rw [HE.out]
              exact ⟨rfl, hb9⟩
        · have HE := Lib.hid (HFAR.out (.inr h2))
          have h2' : (List.take k t == List.take k p) = false := by simpa using h2
          clear h2
          go_upto_region 11 with fail
          go_quiet (fail)
          go_wp2_with fail
          go_ret3
          rw [HE.out]
          exact ⟨rfl, blwN hb _⟩
set_option maxRecDepth 4000 in
set_option maxHeartbeats 3200000 in
theorem rmatch_shut (p t : List UInt8) (P T : Tr) (hp : checkK p = (0, P)) (hT : checkK t = (0, T)) (ho : P.opn = false) (w : World) :
    Calls Tryz.prog 18 #[str p, str t] w fun e w' => e = .returned (.tuple #[str (matchK p t).1, .bool (matchK p t).2.1, .int .i64 (matchK p t).2.2]) ∧ Below w.heap.size w w' := by
  obtain ⟨o1, e1, l1, _⟩ := checkK_ok hp
  obtain ⟨o2, e2, l2, _⟩ := checkK_ok hT
  have hC := fun W => rcheck_any p (by unfold maxLen; omega) W
  have hD := fun W => rcheck_any t (by unfold maxLen; omega) W
  have hO := fun W => ropen0_any p (by unfold maxLen; omega) W
  have h2 : twoK p t = (P, T, 0) := by unfold twoK; rw [hp, hT]; rfl
  have HE := Lib.hid (show matchK p t = ([], p == t, 0) by
    unfold matchK
    rw [h2]
    simp only [ho]
    rfl)
  rw [hp] at hC
  rw [hT] at hD
  rw [show hasQ p = false by rw [← e1, o1.hasQ]; exact ho] at hO
  clear hp hT ho o1 o2 e1 e2 h2
  rcases hq : (p == t) with _ | _
  all_goals
    rw [hq] at HE
    go_enter Tryz.func18, Tryz.ntmps18
    go_wp2_with (first
      | (go_at_call 32; refine (hC _).mono ?_; clear hC; rintro e w1 ⟨rfl, hb1⟩)
      | (go_at_call 32; refine (hD _).mono ?_; clear hD; rintro e w2 ⟨rfl, hb2⟩)
      | (go_at_call 55; refine (hO _).mono ?_; clear hO; rintro e w3 ⟨rfl, rfl⟩))
    go_ret3
    rw [HE.out]
    exact ⟨rfl, hb1.trans (below_less hb2 hb1.size)⟩
set_option maxRecDepth 4000 in
set_option maxHeartbeats 3200000 in
theorem rmatch_bad (s u : List UInt8) (ms : s.length ≤ maxLen) (mu : u.length ≤ maxLen) (c : Nat) (hc : (twoK s u).2.2 = c) (h0 : c ≠ 0) (w : World) :
    Calls Tryz.prog 18 #[str s, str u] w fun e w' => e = .returned (.tuple #[str [], .bool false, .int .i64 c]) ∧ Below w.heap.size w w' := by
  have hC := fun W => rcheck_any s ms W
  have hD := fun W => rcheck_any u mu W
  unfold twoK at hc
  obtain ⟨g1, g2⟩ := nat_ne0 h0
  by_cases h1 : (checkK s).1 = 0
  · rw [if_pos h1] at hc
    rw [h1] at hC
    simp only at hc
    rw [hc] at hD
    clear hc h1 h0
    go_enter Tryz.func18, Tryz.ntmps18
    go_wp2_with (first
      | (go_at_call 32; refine (hC _).mono ?_; clear hC; rintro e w1 ⟨rfl, hb1⟩)
      | (go_at_call 32; refine (hD _).mono ?_; clear hD; rintro e w2 ⟨rfl, hb2⟩))
    go_ret3
    exact ⟨rfl, hb1.trans (below_less hb2 hb1.size)⟩
  · rw [if_neg h1] at hc
    simp only at hc
    rw [hc] at hC
    clear hc h1 h0
    go_enter Tryz.func18, Tryz.ntmps18
    go_wp2_with (go_at_call 32; refine (hC _).mono ?_; clear hC; rintro e w1 ⟨rfl, hb1⟩)
    go_ret3
    exact ⟨rfl, hb1⟩
theorem rmatch_any (s u : List UInt8) (ms : s.length ≤ maxLen) (mu : u.length ≤ maxLen) (w : World) :
    Calls Tryz.prog 18 #[str s, str u] w fun e w' => e = .returned (.tuple #[str (matchK s u).1, .bool (matchK s u).2.1, .int .i64 (matchK s u).2.2]) ∧ Below w.heap.size w w' := by
  by_cases hc : (twoK s u).2.2 = 0
  · rcases hq : twoK s u with ⟨t, a, c⟩
    rw [hq] at hc
    simp only at hc
    subst hc
    obtain ⟨h3, h4⟩ := twoK_ok hq
    rcases ho : t.opn with _ | _
    · exact rmatch_shut s u t a h3 h4 ho w
    · exact rmatch_open s u t a h3 h4 ho w
  · rw [show matchK s u = ([], false, (twoK s u).2.2) by unfold matchK; rw [if_pos hc]]
    exact rmatch_bad s u ms mu _ rfl hc w
end Go.Proofs.YtakdmnhpoelepaaGreatDoor
