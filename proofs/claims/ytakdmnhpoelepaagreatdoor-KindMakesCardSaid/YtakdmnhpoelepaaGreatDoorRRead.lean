/-
  Contracts: the reference reads a type (argusref03.read, argusref03.parts): how many bytes and how many levels. Condition: the text's length and the depth are small.
-/
import Derived.Test.YtakdmnhpoelepaaGreatDoorPlain0
import Derived.Test.YtakdmnhpoelepaaGreatDoorNames
namespace Go.Proofs.YtakdmnhpoelepaaGreatDoor
open Go.RowKit

def rdN (s : List UInt8) : Nat := match parseT s with | some (_, r) => s.length - r.length | none => 0
def rdL (s : List UInt8) : Nat := match parseT s with | some (t, _) => t.level | none => 0
/-- Parts and the bracket behind them, at most m of them; L levels are there already. -/
def ptR (m L : Nat) (b s : List UInt8) : Option (List UInt8 × Nat) :=
  match parseP b s with | some (fo, 93 :: r) => if fo.len ≤ m then some (r, max L fo.level) else none | _ => none
def ptN (s : List UInt8) : Nat := match ptR 6 0 [] s with | some (r, _) => s.length - r.length | none => 0
def ptL (s : List UInt8) : Nat := match ptR 6 0 [] s with | some (_, l) => l | none => 0

def ReadOk (s : List UInt8) : Prop := ∀ (deep : Int) (w : World), 0 ≤ deep → 2 * deep + s.length ≤ 200 →
  Calls Tryz.prog 56 #[str s, .int .i64 deep] w fun e w' => e = .returned (.tuple #[.int .i64 (rdN s), .int .i64 (rdL s)]) ∧ Below w.heap.size w w'
def PartsOk (s : List UInt8) : Prop := ∀ (deep : Int) (w : World), 0 ≤ deep → 2 * deep + s.length ≤ 200 →
  Calls Tryz.prog 75 #[str s, .int .i64 deep] w fun e w' => e = .returned (.tuple #[.int .i64 (ptN s), .int .i64 (ptL s)]) ∧ Below w.heap.size w w'

theorem ret_two {a b c d : Nat} (h : a = c) (h' : b = d) : Ending.returned (.tuple #[.int .i64 a, .int .i64 b]) = .returned (.tuple #[.int .i64 c, .int .i64 d]) := by rw [h, h']
theorem beq_f {α : Type} [BEq α] [LawfulBEq α] {a b : α} (h : a ≠ b) : (a == b) = false := by simpa using h
theorem beq_t {α : Type} [BEq α] [LawfulBEq α] {a b : α} (h : a = b) : (a == b) = true := by simpa using h

theorem noPar_take {s : List UInt8} (h : noPar s) : List.take 2 s ≠ [63, 116] := by
  intro e
  match s, e with
  | [], e => simp at e
  | [a], e => simp at e
  | a :: b :: r, e => simp at e; obtain ⟨rfl, rfl⟩ := e; exact h r rfl

/-- What stands behind the word. -/
theorem behind (s : List UInt8) : (s.length = cutN s ∧ s.drop (cutN s) = []) ∨ (∃ h : cutN s < s.length, s.drop (cutN s) = s[cutN s] :: s.drop (cutN s + 1)) := by
  have := cutN_le s
  by_cases h : cutN s < s.length
  · exact .inr ⟨h, List.drop_eq_getElem_cons h⟩
  · exact .inl ⟨by omega, List.drop_of_length_le (by omega)⟩

set_option maxHeartbeats 1600000 in
theorem read_word (s : List UInt8) (hp : noPar s) (h0 : kind0 (s.take (cutN s)) ≠ 0) : ReadOk s := by
  intro deep w hd0 hd
  have hm : s.length ≤ maxLen := by unfold maxLen; omega
  have e := parseT_word hp h0
  have hN : rdN s = cutN s := by
    unfold rdN; rw [e]; simp; have := cutN_le s; omega
  have hL : rdL s = 1 := by unfold rdL; rw [e]; rfl
  have HN := Lib.hid hN
  have HL := Lib.hid hL
  clear hN hL e
  have h2 := beq_f (noPar_take hp)
  have hcle := cutN_le s
  have hw : s.take (cutN s) = wInt ∨ s.take (cutN s) = wBool ∨ s.take (cutN s) = wNull := by
    unfold kind0 at h0
    by_cases h1 : s.take (cutN s) = wInt
    · exact .inl h1
    · by_cases h2 : s.take (cutN s) = wBool
      · exact .inr (.inl h2)
      · by_cases h3 : s.take (cutN s) = wNull
        · exact .inr (.inr h3)
        · simp [h1, h2, h3] at h0
  clear hp h0
  by_cases hl : 2 ≤ s.length
  all_goals
    rcases hw with hw | hw | hw
    all_goals
      first | unfold wInt at hw | unfold wBool at hw | unfold wNull at hw
      go_enter Tryz.func56, Tryz.ntmps56
      go_wp2_with (go_at_call 59; refine (cut_any _ _ hm).mono ?_; rintro e w1 ⟨rfl, rfl⟩)
      go_ret2
      exact ⟨ret_two HN.out.symm HL.out.symm, Below.refl _ _⟩

theorem kind0_facts {w : List UInt8} (h0 : kind0 w = 0) : (w == [105, 110, 116]) = false ∧ (w == [98, 111, 111, 108]) = false ∧ (w == [110, 117, 108, 108]) = false := by
  unfold kind0 at h0
  refine ⟨beq_f fun e => ?_, beq_f fun e => ?_, beq_f fun e => ?_⟩
  · rw [if_pos (show w = wInt from e)] at h0; omega
  · rw [if_neg (by rw [e]; decide), if_pos (show w = wBool from e)] at h0; omega
  · rw [if_neg (by rw [e]; decide), if_neg (by rw [e]; decide), if_pos (show w = wNull from e)] at h0; omega
theorem kindB_facts {w : List UInt8} : (kindB w = 4 ∧ w = [97, 114, 114, 97, 121]) ∨ (kindB w = 5 ∧ w = [114, 101, 99, 111, 114, 100]) ∨ (kindB w = 6 ∧ w = [111, 110, 101, 111, 102]) ∨
    (kindB w = 0 ∧ (w == [97, 114, 114, 97, 121]) = false ∧ (w == [114, 101, 99, 111, 114, 100]) = false ∧ (w == [111, 110, 101, 111, 102]) = false) := by
  unfold kindB
  by_cases h1 : w = wArray
  · exact .inl ⟨by rw [if_pos h1], h1⟩
  · by_cases h2 : w = wRecord
    · exact .inr (.inl ⟨by rw [if_neg h1, if_pos h2], h2⟩)
    · by_cases h3 : w = wOneof
      · exact .inr (.inr (.inl ⟨by rw [if_neg h1, if_neg h2, if_pos h3], h3⟩))
      · exact .inr (.inr (.inr ⟨by rw [if_neg h1, if_neg h2, if_neg h3], beq_f h1, beq_f h2, beq_f h3⟩))

theorem ptR_none {s : List UInt8} (h : ptR 6 0 [] s = none) : ptN s = 0 ∧ ptL s = 0 := by unfold ptN ptL; rw [h]; exact ⟨rfl, rfl⟩
theorem ptR_some {s r : List UInt8} {l : Nat} (h : ptR 6 0 [] s = some (r, l)) : ptN s = s.length - r.length ∧ ptL s = l ∧ r.length + 1 < s.length := by
  refine ⟨by unfold ptN; rw [h], by unfold ptL; rw [h], ?_⟩
  unfold ptR at h
  split at h
  · rename_i fo r' e
    split at h
    · simp only [Option.some.injEq, Prod.mk.injEq] at h
      have := parseP_le e
      simp at this
      rw [← h.1]; omega
    · simp at h
  · simp at h

theorem rd_rec {s s2 : List UInt8} (hp : noPar s) (h0 : kind0 (s.take (cutN s)) = 0) (hk : kindB (s.take (cutN s)) = 5 ∨ kindB (s.take (cutN s)) = 6) (hb : s.drop (cutN s) = 91 :: s2) :
    (ptN s2 = 0 ∧ rdN s = 0 ∧ rdL s = 0) ∨ (0 < ptN s2 ∧ rdN s = cutN s + 1 + ptN s2 ∧ rdL s = ptL s2 + 1) := by
  have e := parseT_rec hp h0 hk hb
  have hl : s.length = cutN s + 1 + s2.length := by
    have := congrArg List.length hb
    simp at this
    have := cutN_le s
    omega
  cases hq : ptR 6 0 [] s2 with
  | none =>
    refine .inl ⟨(ptR_none hq).1, ?_⟩
    have : parseT s = none := by
      rw [e]
      unfold ptR at hq
      split at hq
      · rename_i fo r e2
        rw [e2]
        split at hq
        · simp at hq
        · rename_i h6; simp only [h6, if_false]
      · rename_i h3
        split
        · rename_i fo r e2; exact absurd e2 (h3 fo r)
        · rfl
    unfold rdN rdL
    rw [this]; exact ⟨rfl, rfl⟩
  | some x =>
    obtain ⟨r, l⟩ := x
    obtain ⟨h1, h2, h3⟩ := ptR_some hq
    refine .inr ⟨by omega, ?_⟩
    have : ∃ fo, parseT s = some (⟨kindB (s.take (cutN s)), s.take (cutN s), fo⟩, r) ∧ fo.level = l := by
      rw [e]
      unfold ptR at hq
      split at hq
      · rename_i fo r' e2
        rw [e2]
        split at hq
        · rename_i h6
          simp only [Option.some.injEq, Prod.mk.injEq] at hq
          obtain ⟨rfl, rfl⟩ := hq
          simp only [h6, if_true]
          exact ⟨fo, rfl, by simp⟩
        · simp at hq
      · simp at hq
    obtain ⟨fo, e2, rfl⟩ := this
    unfold rdN rdL
    rw [e2, h1, h2]
    exact ⟨by simp; omega, rfl⟩

theorem ptN_le (s : List UInt8) : ptN s ≤ s.length := by unfold ptN; split <;> omega
theorem ptL_le (s : List UInt8) : ptL s ≤ s.length := by
  unfold ptL ptR
  split
  · rename_i r l h
    split at h
    · rename_i fo r' e
      split at h
      · simp only [Option.some.injEq, Prod.mk.injEq] at h
        have := fo_level _ _ _ _ _ e
        simp at this
        omega
      · simp at h
    · simp at h
  · omega
theorem rdN_le (s : List UInt8) : rdN s ≤ s.length := by unfold rdN; split <;> omega
theorem rdL_le (s : List UInt8) : rdL s ≤ s.length := by
  unfold rdL
  split
  · rename_i t r h
    have := fo_level (s.length + 1) none s (.one t) r (by rw [pA_parseT (by omega), h]; rfl)
    simp [Fo.one, Fo.level, Tr.level] at this ⊢
    omega
  · omega
theorem w_two {s : List UInt8} {a b : UInt8} {r : List UInt8} (h : s.take (cutN s) = a :: b :: r) : 2 ≤ s.length := by
  have := congrArg List.length h
  simp at this
  omega
theorem w_one {s : List UInt8} {a b : UInt8} {r : List UInt8} (h : s.take (cutN s) = a :: b :: r) : 1 ≤ cutN s := by
  have := congrArg List.length h
  simp at this
  omega

set_option maxHeartbeats 3200000 in
theorem read_rec (s : List UInt8) (hp : noPar s) (h0 : kind0 (s.take (cutN s)) = 0) (hk : kindB (s.take (cutN s)) = 5 ∨ kindB (s.take (cutN s)) = 6)
    (ih : ∀ s', s'.length < s.length → PartsOk s') : ReadOk s := by
  intro deep w hd0 hd
  have hm : s.length ≤ maxLen := by unfold maxLen; omega
  have h2 := beq_f (noPar_take hp)
  have hcle := cutN_le s
  rcases behind s with ⟨hb, hb2⟩ | ⟨hb, hb2⟩
  · have e := parseT_rec_no hp h0 hk (by rw [hb2]; intro r; simp)
    have HN : Hid (rdN s = 0) := by show _ = _; unfold rdN; rw [e]
    have HL : Hid (rdL s = 0) := by show _ = _; unfold rdL; rw [e]
    clear hp h0 e hb2 ih
    have hb' : ¬ cutN s < s.length := by omega
    clear hb
    rcases kindB_facts (w := s.take (cutN s)) with ⟨k1, k2⟩ | ⟨k1, k2⟩ | ⟨k1, k2⟩ | ⟨k1, k2⟩
    · omega
    · clear hk k1
      have hl := w_two k2
      have hn1 := w_one k2
      go_enter Tryz.func56, Tryz.ntmps56
      go_wp2_with (go_at_call 59; refine (cut_any _ _ hm).mono ?_; rintro e w1 ⟨rfl, rfl⟩)
      go_ret2
      exact ⟨ret_two HN.out.symm HL.out.symm, Below.refl _ _⟩
    · clear hk k1
      have hl := w_two k2
      have hn1 := w_one k2
      go_enter Tryz.func56, Tryz.ntmps56
      go_wp2_with (go_at_call 59; refine (cut_any _ _ hm).mono ?_; rintro e w1 ⟨rfl, rfl⟩)
      go_ret2
      exact ⟨ret_two HN.out.symm HL.out.symm, Below.refl _ _⟩
    · omega
  · by_cases hc : s[cutN s] = 91
    · rw [hc] at hb2
      have hr := rd_rec hp h0 hk hb2
      have hs2 : (s.drop (cutN s + 1)).length = s.length - (cutN s + 1) := by simp
      have HS := Lib.hid hs2
      have hc' : (((s[cutN s]).toNat : Int) == 91) = true := by rw [hc]; rfl
      clear hp h0 hb2 hc hs2
      have hq : (cutN s : Int) < (s.length : Int) := by omega
      rcases hr with ⟨hz, hN, hL⟩ | ⟨hz, hN, hL⟩
      · have HN := Lib.hid hN
        have HL := Lib.hid hL
        have hz' : ((ptN (s.drop (cutN s + 1)) : Int) == 0) = true := by simp [hz]
        clear hN hL hz
        rcases kindB_facts (w := s.take (cutN s)) with ⟨k1, k2⟩ | ⟨k1, k2⟩ | ⟨k1, k2⟩ | ⟨k1, k2⟩
        · omega
        · clear hk k1
          have hl := w_two k2
          have hn1 := w_one k2
          go_enter Tryz.func56, Tryz.ntmps56
          go_wp2_with (first | (go_at_call 59; refine (cut_any _ _ hm).mono ?_; rintro e w1 ⟨rfl, rfl⟩) | (go_at_call 75; refine (ih _ (by rw [HS.out]; omega) _ _ (by omega) (by rw [HS.out]; omega)).mono ?_; rintro e w1 ⟨rfl, hb1⟩))
          go_ret2
          exact ⟨ret_two HN.out.symm HL.out.symm, hb1⟩
        · clear hk k1
          have hl := w_two k2
          have hn1 := w_one k2
          go_enter Tryz.func56, Tryz.ntmps56
          go_wp2_with (first | (go_at_call 59; refine (cut_any _ _ hm).mono ?_; rintro e w1 ⟨rfl, rfl⟩) | (go_at_call 75; refine (ih _ (by rw [HS.out]; omega) _ _ (by omega) (by rw [HS.out]; omega)).mono ?_; rintro e w1 ⟨rfl, hb1⟩))
          go_ret2
          exact ⟨ret_two HN.out.symm HL.out.symm, hb1⟩
        · omega
      · have HN := Lib.hid hN
        have HL := Lib.hid hL
        have hz' : ((ptN (s.drop (cutN s + 1)) : Int) == 0) = false := by simp; omega
        have hbd := ptN_le (s.drop (cutN s + 1))
        have hbl := ptL_le (s.drop (cutN s + 1))
        rw [HS.out] at hbd hbl
        clear hN hL hz
        rcases kindB_facts (w := s.take (cutN s)) with ⟨k1, k2⟩ | ⟨k1, k2⟩ | ⟨k1, k2⟩ | ⟨k1, k2⟩
        · omega
        · clear hk k1
          have hl := w_two k2
          have hn1 := w_one k2
          go_enter Tryz.func56, Tryz.ntmps56
          go_wp2_with (first | (go_at_call 59; refine (cut_any _ _ hm).mono ?_; rintro e w1 ⟨rfl, rfl⟩) | (go_at_call 75; refine (ih _ (by rw [HS.out]; omega) _ _ (by omega) (by rw [HS.out]; omega)).mono ?_; rintro e w1 ⟨rfl, hb1⟩))
          go_ret2
          exact ⟨ret_two HN.out.symm HL.out.symm, hb1⟩
        · clear hk k1
          have hl := w_two k2
          have hn1 := w_one k2
          go_enter Tryz.func56, Tryz.ntmps56
          go_wp2_with (first | (go_at_call 59; refine (cut_any _ _ hm).mono ?_; rintro e w1 ⟨rfl, rfl⟩) | (go_at_call 75; refine (ih _ (by rw [HS.out]; omega) _ _ (by omega) (by rw [HS.out]; omega)).mono ?_; rintro e w1 ⟨rfl, hb1⟩))
          go_ret2
          exact ⟨ret_two HN.out.symm HL.out.symm, hb1⟩
        · omega
    · have e := parseT_rec_no hp h0 hk (by intro r e; rw [hb2] at e; injection e with e1 _; exact hc e1)
      have HN : Hid (rdN s = 0) := by show _ = _; unfold rdN; rw [e]
      have HL : Hid (rdL s = 0) := by show _ = _; unfold rdL; rw [e]
      have hc' : (((s[cutN s]).toNat : Int) == 91) = false := by
        rw [beq_eq_false_iff_ne]; intro h; exact hc (UInt8.toNat_inj.1 (by simp; omega))
      have hq : (cutN s : Int) < (s.length : Int) := by omega
      clear hp h0 e hb2 ih hc
      rcases kindB_facts (w := s.take (cutN s)) with ⟨k1, k2⟩ | ⟨k1, k2⟩ | ⟨k1, k2⟩ | ⟨k1, k2⟩
      · omega
      · clear hk k1
        have hl := w_two k2
        have hn1 := w_one k2
        go_enter Tryz.func56, Tryz.ntmps56
        go_wp2_with (go_at_call 59; refine (cut_any _ _ hm).mono ?_; rintro e w1 ⟨rfl, rfl⟩)
        go_ret2
        exact ⟨ret_two HN.out.symm HL.out.symm, Below.refl _ _⟩
      · clear hk k1
        have hl := w_two k2
        have hn1 := w_one k2
        go_enter Tryz.func56, Tryz.ntmps56
        go_wp2_with (go_at_call 59; refine (cut_any _ _ hm).mono ?_; rintro e w1 ⟨rfl, rfl⟩)
        go_ret2
        exact ⟨ret_two HN.out.symm HL.out.symm, Below.refl _ _⟩
      · omega

theorem rd_arg {s s2 : List UInt8} (hp : noPar s) (h0 : kind0 (s.take (cutN s)) = 0) (hk : kindB (s.take (cutN s)) = 4 ∨ (kindB (s.take (cutN s)) = 0 ∧ isName (s.take (cutN s)) = true)) (hb : s.drop (cutN s) = 91 :: s2) :
    (rdN s2 = 0 ∧ rdN s = 0 ∧ rdL s = 0) ∨ (0 < rdN s2 ∧ s.length ≤ cutN s + 1 + rdN s2 ∧ rdN s = 0 ∧ rdL s = 0) ∨
    (0 < rdN s2 ∧ ∃ h : cutN s + 1 + rdN s2 < s.length, s[cutN s + 1 + rdN s2] ≠ 93 ∧ rdN s = 0 ∧ rdL s = 0) ∨
    (0 < rdN s2 ∧ ∃ h : cutN s + 1 + rdN s2 < s.length, s[cutN s + 1 + rdN s2] = 93 ∧ rdN s = cutN s + rdN s2 + 2 ∧ rdL s = rdL s2 + 1) := by
  have e := parseT_arg hp h0 hk hb
  have hl : s.length = cutN s + 1 + s2.length := by
    have := congrArg List.length hb
    simp at this
    have := cutN_le s
    omega
  have hs2 : s.drop (cutN s + 1) = s2 := by rw [← List.drop_drop, hb]; rfl
  cases hq : parseT s2 with
  | none =>
    rw [hq] at e
    refine .inl ⟨by unfold rdN; rw [hq], by unfold rdN; rw [e], by unfold rdL; rw [e]⟩
  | some x =>
    obtain ⟨t, r⟩ := x
    have hr := parseT_le hq
    have hdr := parseT_drop hq
    have hn : rdN s2 = s2.length - r.length := by unfold rdN; rw [hq]
    have hL : rdL s2 = t.level := by unfold rdL; rw [hq]
    rw [hq] at e
    have hsr : s.drop (cutN s + 1 + rdN s2) = r := by rw [← List.drop_drop, hs2, hn, hdr]
    cases r with
    | nil =>
      refine .inr (.inl ⟨by omega, by simp at hn; omega, by unfold rdN; rw [e], by unfold rdL; rw [e]⟩)
    | cons c r =>
      simp only [List.length_cons] at hn hr
      have hlt : cutN s + 1 + rdN s2 < s.length := by omega
      have hget : s[cutN s + 1 + rdN s2] = c := by
        have := List.drop_eq_getElem_cons hlt
        rw [hsr] at this
        injection this with h1 _
        exact h1.symm
      by_cases hc : c = 93
      · subst hc
        refine .inr (.inr (.inr ⟨by omega, hlt, hget, ?_, ?_⟩))
        · unfold rdN at *; rw [e]; simp only; omega
        · rw [hL]; unfold rdL; rw [e]; simp [Tr.level, Fo.one, Fo.level]
      · refine .inr (.inr (.inl ⟨by omega, hlt, by rw [hget]; exact hc, ?_, ?_⟩))
        · unfold rdN; rw [e]; split
          · rename_i h; split at h
            · rename_i h2; simp only [Option.some.injEq, Prod.mk.injEq, List.cons.injEq] at h2; exact absurd h2.2.1 hc
            · simp at h
          · rfl
        · unfold rdL; rw [e]; split
          · rename_i h; split at h
            · rename_i h2; simp only [Option.some.injEq, Prod.mk.injEq, List.cons.injEq] at h2; exact absurd h2.2.1 hc
            · simp at h
          · rfl

theorem name_pos {w : List UInt8} (h : isName w = true) : 1 ≤ w.length := by
  cases w with
  | nil => simp [isName] at h
  | cons => simp

set_option maxHeartbeats 3200000 in
theorem read_arr (s : List UInt8) (hp : noPar s) (h0 : kind0 (s.take (cutN s)) = 0) (hk : kindB (s.take (cutN s)) = 4)
    (ih : ∀ s', s'.length < s.length → ReadOk s') : ReadOk s := by
  intro deep w hd0 hd
  have hm : s.length ≤ maxLen := by unfold maxLen; omega
  have h2 := beq_f (noPar_take hp)
  have hcle := cutN_le s
  have k2 : s.take (cutN s) = [97, 114, 114, 97, 121] := by
    rcases kindB_facts (w := s.take (cutN s)) with ⟨k1, k2⟩ | ⟨k1, k2⟩ | ⟨k1, k2⟩ | ⟨k1, k2⟩
    · exact k2
    all_goals omega
  have hl := w_two k2
  have hn1 := w_one k2
  rcases behind s with ⟨hb, hb2⟩ | ⟨hb, hb2⟩
  · have e := parseT_arr_no hp h0 hk (by rw [hb2]; intro r; simp)
    have HN : Hid (rdN s = 0) := by show _ = _; unfold rdN; rw [e]
    have HL : Hid (rdL s = 0) := by show _ = _; unfold rdL; rw [e]
    clear hp h0 e hb2 ih hk
    have hb' : ¬ cutN s < s.length := by omega
    clear hb
    go_enter Tryz.func56, Tryz.ntmps56
    go_wp2_with (go_at_call 59; refine (cut_any _ _ hm).mono ?_; rintro e w1 ⟨rfl, rfl⟩)
    go_ret2
    exact ⟨ret_two HN.out.symm HL.out.symm, Below.refl _ _⟩
  · by_cases hc : s[cutN s] = 91
    · rw [hc] at hb2
      have hr := rd_arg hp h0 (.inl hk) hb2
      have hs2 : (s.drop (cutN s + 1)).length = s.length - (cutN s + 1) := by simp
      have HS := Lib.hid hs2
      have hrn := rdN_le (s.drop (cutN s + 1))
      have hrl := rdL_le (s.drop (cutN s + 1))
      rw [hs2] at hrn hrl
      have hc' : (((s[cutN s]).toNat : Int) == 91) = true := by rw [hc]; rfl
      clear hp h0 hb2 hc hs2 hk
      have hq : (cutN s : Int) < (s.length : Int) := by omega
      rcases hr with ⟨hz, hN, hL⟩ | ⟨hz, hz2, hN, hL⟩ | ⟨hz, hz2, hz3, hN, hL⟩ | ⟨hz, hz2, hz3, hN, hL⟩
      · have HN := Lib.hid hN
        have HL := Lib.hid hL
        have hz' : ((rdN (s.drop (cutN s + 1)) : Int) == 0) = true := by simp [hz]
        clear hN hL hz
        go_enter Tryz.func56, Tryz.ntmps56
        go_wp2_with (first | (go_at_call 59; refine (cut_any _ _ hm).mono ?_; rintro e w1 ⟨rfl, rfl⟩) | (go_at_call 56; refine (ih _ (by rw [HS.out]; omega) _ _ (by omega) (by rw [HS.out]; omega)).mono ?_; rintro e w2 ⟨rfl, hb3⟩))
        go_ret2
        exact ⟨ret_two HN.out.symm HL.out.symm, hb3⟩
      · have HN := Lib.hid hN
        have HL := Lib.hid hL
        have hz' : ((rdN (s.drop (cutN s + 1)) : Int) == 0) = false := by simp; omega
        clear hN hL hz
        go_enter Tryz.func56, Tryz.ntmps56
        go_wp2_with (first | (go_at_call 59; refine (cut_any _ _ hm).mono ?_; rintro e w1 ⟨rfl, rfl⟩) | (go_at_call 56; refine (ih _ (by rw [HS.out]; omega) _ _ (by omega) (by rw [HS.out]; omega)).mono ?_; rintro e w2 ⟨rfl, hb3⟩))
        go_ret2
        exact ⟨ret_two HN.out.symm HL.out.symm, hb3⟩
      · have HN := Lib.hid hN
        have HL := Lib.hid hL
        have hz' : ((rdN (s.drop (cutN s + 1)) : Int) == 0) = false := by simp; omega
        have hz4 : (((s[cutN s + 1 + rdN (s.drop (cutN s + 1))]).toNat : Int) != 93) = true := by
          rw [bne_iff_ne]; intro h; exact hz3 (UInt8.toNat_inj.1 (by simp; omega))
        clear hN hL hz hz3
        go_enter Tryz.func56, Tryz.ntmps56
        go_wp2_with (first | (go_at_call 59; refine (cut_any _ _ hm).mono ?_; rintro e w1 ⟨rfl, rfl⟩) | (go_at_call 56; refine (ih _ (by rw [HS.out]; omega) _ _ (by omega) (by rw [HS.out]; omega)).mono ?_; rintro e w2 ⟨rfl, hb3⟩))
        go_ret2
        exact ⟨ret_two HN.out.symm HL.out.symm, hb3⟩
      · have HN := Lib.hid hN
        have HL := Lib.hid hL
        have hz' : ((rdN (s.drop (cutN s + 1)) : Int) == 0) = false := by simp; omega
        have hz4 : (((s[cutN s + 1 + rdN (s.drop (cutN s + 1))]).toNat : Int) != 93) = false := by rw [hz3]; rfl
        clear hN hL hz hz3
        go_enter Tryz.func56, Tryz.ntmps56
        go_wp2_with (first | (go_at_call 59; refine (cut_any _ _ hm).mono ?_; rintro e w1 ⟨rfl, rfl⟩) | (go_at_call 56; refine (ih _ (by rw [HS.out]; omega) _ _ (by omega) (by rw [HS.out]; omega)).mono ?_; rintro e w2 ⟨rfl, hb3⟩))
        go_ret2
        exact ⟨ret_two HN.out.symm HL.out.symm, hb3⟩
    · have e := parseT_arr_no hp h0 hk (by intro r e; rw [hb2] at e; injection e with e1 _; exact hc e1)
      have HN : Hid (rdN s = 0) := by show _ = _; unfold rdN; rw [e]
      have HL : Hid (rdL s = 0) := by show _ = _; unfold rdL; rw [e]
      have hc' : (((s[cutN s]).toNat : Int) == 91) = false := by
        rw [beq_eq_false_iff_ne]; intro h; exact hc (UInt8.toNat_inj.1 (by simp; omega))
      have hq : (cutN s : Int) < (s.length : Int) := by omega
      clear hp h0 e hb2 ih hc hk
      go_enter Tryz.func56, Tryz.ntmps56
      go_wp2_with (go_at_call 59; refine (cut_any _ _ hm).mono ?_; rintro e w1 ⟨rfl, rfl⟩)
      go_ret2
      exact ⟨ret_two HN.out.symm HL.out.symm, Below.refl _ _⟩

set_option maxHeartbeats 3200000 in
theorem read_name (s : List UInt8) (hp : noPar s) (h0 : kind0 (s.take (cutN s)) = 0) (hk : kindB (s.take (cutN s)) = 0) (hn : isName (s.take (cutN s)) = true)
    (ih : ∀ s', s'.length < s.length → ReadOk s') : ReadOk s := by
  intro deep w hd0 hd
  have hm : s.length ≤ maxLen := by unfold maxLen; omega
  have h2 := beq_f (noPar_take hp)
  have hcle := cutN_le s
  have HW : Hid ((s.take (cutN s)).length = cutN s) := by show _ = _; simp; omega
  have h4 : (s.take (cutN s) == [97, 114, 114, 97, 121]) = false ∧ (s.take (cutN s) == [114, 101, 99, 111, 114, 100]) = false ∧ (s.take (cutN s) == [111, 110, 101, 111, 102]) = false := by
    rcases kindB_facts (w := s.take (cutN s)) with ⟨k1, k2⟩ | ⟨k1, k2⟩ | ⟨k1, k2⟩ | ⟨k1, k2⟩
    all_goals first | omega | exact k2
  obtain ⟨h4, h5, h6⟩ := h4
  obtain ⟨f1, f2, f3⟩ := kind0_facts h0
  have hn1 : 1 ≤ cutN s := by have := name_pos hn; rw [HW.out] at this; exact this
  rcases behind s with ⟨hb, hb2⟩ | ⟨hb, hb2⟩
  · have e := parseT_name hp h0 hk hn (by rw [hb2]; intro r; simp)
    have HN : Hid (rdN s = cutN s) := by show _ = _; unfold rdN; rw [e]; simp; omega
    have HL : Hid (rdL s = 1) := by show _ = _; unfold rdL; rw [e]; rfl
    clear hp h0 e hb2 ih hk
    have hb' : ¬ cutN s < s.length := by omega
    clear hb
    by_cases hl : 2 ≤ s.length
    all_goals
      go_enter Tryz.func56, Tryz.ntmps56
      go_wp2_with (first | (go_at_call 59; refine (cut_any _ _ hm).mono ?_; rintro e w1 ⟨rfl, rfl⟩) | (go_at_call 66; refine (rIsName_any _ _ (by rw [HW.out]; omega)).mono ?_; rintro e w1 ⟨rfl, hb1⟩))
      go_ret2
      exact ⟨ret_two HN.out.symm HL.out.symm, hb1⟩
  · by_cases hc : s[cutN s] = 91
    · rw [hc] at hb2
      have hr := rd_arg hp h0 (.inr ⟨hk, hn⟩) hb2
      have hs2 : (s.drop (cutN s + 1)).length = s.length - (cutN s + 1) := by simp
      have HS := Lib.hid hs2
      have hrn := rdN_le (s.drop (cutN s + 1))
      have hrl := rdL_le (s.drop (cutN s + 1))
      rw [hs2] at hrn hrl
      have hc' : (((s[cutN s]).toNat : Int) == 91) = true := by rw [hc]; rfl
      clear hp h0 hb2 hc hs2 hk
      have hq : (cutN s : Int) < (s.length : Int) := by omega
      rcases hr with ⟨hz, hN, hL⟩ | ⟨hz, hz2, hN, hL⟩ | ⟨hz, hz2, hz3, hN, hL⟩ | ⟨hz, hz2, hz3, hN, hL⟩
      · have HN := Lib.hid hN
        have HL := Lib.hid hL
        have hz' : ((rdN (s.drop (cutN s + 1)) : Int) == 0) = true := by simp [hz]
        clear hN hL hz
        have hl : 2 ≤ s.length := by omega
        go_enter Tryz.func56, Tryz.ntmps56
        go_wp2_with (first | (go_at_call 59; refine (cut_any _ _ hm).mono ?_; rintro e w1 ⟨rfl, rfl⟩) | (go_at_call 66; refine (rIsName_any _ _ (by rw [HW.out]; omega)).mono ?_; rintro e w1 ⟨rfl, hb1⟩) | (go_at_call 56; refine (ih _ (by rw [HS.out]; omega) _ _ (by omega) (by rw [HS.out]; omega)).mono ?_; rintro e w2 ⟨rfl, hb3⟩))
        go_ret2
        exact ⟨ret_two HN.out.symm HL.out.symm, hb1.trans (hb3.mono hb1.size)⟩
      · have HN := Lib.hid hN
        have HL := Lib.hid hL
        have hz' : ((rdN (s.drop (cutN s + 1)) : Int) == 0) = false := by simp; omega
        clear hN hL hz
        have hl : 2 ≤ s.length := by omega
        go_enter Tryz.func56, Tryz.ntmps56
        go_wp2_with (first | (go_at_call 59; refine (cut_any _ _ hm).mono ?_; rintro e w1 ⟨rfl, rfl⟩) | (go_at_call 66; refine (rIsName_any _ _ (by rw [HW.out]; omega)).mono ?_; rintro e w1 ⟨rfl, hb1⟩) | (go_at_call 56; refine (ih _ (by rw [HS.out]; omega) _ _ (by omega) (by rw [HS.out]; omega)).mono ?_; rintro e w2 ⟨rfl, hb3⟩))
        go_ret2
        exact ⟨ret_two HN.out.symm HL.out.symm, hb1.trans (hb3.mono hb1.size)⟩
      · have HN := Lib.hid hN
        have HL := Lib.hid hL
        have hz' : ((rdN (s.drop (cutN s + 1)) : Int) == 0) = false := by simp; omega
        have hz4 : (((s[cutN s + 1 + rdN (s.drop (cutN s + 1))]).toNat : Int) != 93) = true := by
          rw [bne_iff_ne]; intro h; exact hz3 (UInt8.toNat_inj.1 (by simp; omega))
        clear hN hL hz hz3
        have hl : 2 ≤ s.length := by omega
        go_enter Tryz.func56, Tryz.ntmps56
        go_wp2_with (first | (go_at_call 59; refine (cut_any _ _ hm).mono ?_; rintro e w1 ⟨rfl, rfl⟩) | (go_at_call 66; refine (rIsName_any _ _ (by rw [HW.out]; omega)).mono ?_; rintro e w1 ⟨rfl, hb1⟩) | (go_at_call 56; refine (ih _ (by rw [HS.out]; omega) _ _ (by omega) (by rw [HS.out]; omega)).mono ?_; rintro e w2 ⟨rfl, hb3⟩))
        go_ret2
        exact ⟨ret_two HN.out.symm HL.out.symm, hb1.trans (hb3.mono hb1.size)⟩
      · have HN := Lib.hid hN
        have HL := Lib.hid hL
        have hz' : ((rdN (s.drop (cutN s + 1)) : Int) == 0) = false := by simp; omega
        have hz4 : (((s[cutN s + 1 + rdN (s.drop (cutN s + 1))]).toNat : Int) != 93) = false := by rw [hz3]; rfl
        clear hN hL hz hz3
        have hl : 2 ≤ s.length := by omega
        go_enter Tryz.func56, Tryz.ntmps56
        go_wp2_with (first | (go_at_call 59; refine (cut_any _ _ hm).mono ?_; rintro e w1 ⟨rfl, rfl⟩) | (go_at_call 66; refine (rIsName_any _ _ (by rw [HW.out]; omega)).mono ?_; rintro e w1 ⟨rfl, hb1⟩) | (go_at_call 56; refine (ih _ (by rw [HS.out]; omega) _ _ (by omega) (by rw [HS.out]; omega)).mono ?_; rintro e w2 ⟨rfl, hb3⟩))
        go_ret2
        exact ⟨ret_two HN.out.symm HL.out.symm, hb1.trans (hb3.mono hb1.size)⟩
    · have e := parseT_name hp h0 hk hn (by intro r e; rw [hb2] at e; injection e with e1 _; exact hc e1)
      have HN : Hid (rdN s = cutN s) := by show _ = _; unfold rdN; rw [e]; simp; omega
      have HL : Hid (rdL s = 1) := by show _ = _; unfold rdL; rw [e]; rfl
      have hc' : (((s[cutN s]).toNat : Int) == 91) = false := by
        rw [beq_eq_false_iff_ne]; intro h; exact hc (UInt8.toNat_inj.1 (by simp; omega))
      have hq : (cutN s : Int) < (s.length : Int) := by omega
      clear hp h0 e hb2 ih hc hk
      have hl : 2 ≤ s.length := by omega
      go_enter Tryz.func56, Tryz.ntmps56
      go_wp2_with (first | (go_at_call 59; refine (cut_any _ _ hm).mono ?_; rintro e w1 ⟨rfl, rfl⟩) | (go_at_call 66; refine (rIsName_any _ _ (by rw [HW.out]; omega)).mono ?_; rintro e w1 ⟨rfl, hb1⟩))
      go_ret2
      exact ⟨ret_two HN.out.symm HL.out.symm, hb1⟩

set_option maxHeartbeats 3200000 in
theorem read_bad (s : List UInt8) (hp : noPar s) (h0 : kind0 (s.take (cutN s)) = 0) (hk : kindB (s.take (cutN s)) = 0) (hn : isName (s.take (cutN s)) = false) : ReadOk s := by
  intro deep w hd0 hd
  have hm : s.length ≤ maxLen := by unfold maxLen; omega
  have h2 := beq_f (noPar_take hp)
  have hcle := cutN_le s
  have HW : Hid ((s.take (cutN s)).length = cutN s) := by show _ = _; simp; omega
  have h4 : (s.take (cutN s) == [97, 114, 114, 97, 121]) = false ∧ (s.take (cutN s) == [114, 101, 99, 111, 114, 100]) = false ∧ (s.take (cutN s) == [111, 110, 101, 111, 102]) = false := by
    rcases kindB_facts (w := s.take (cutN s)) with ⟨k1, k2⟩ | ⟨k1, k2⟩ | ⟨k1, k2⟩ | ⟨k1, k2⟩
    all_goals first | omega | exact k2
  obtain ⟨h4, h5, h6⟩ := h4
  obtain ⟨f1, f2, f3⟩ := kind0_facts h0
  have e := parseT_bad hp h0 hk hn
  have HN : Hid (rdN s = 0) := by show _ = _; unfold rdN; rw [e]
  have HL : Hid (rdL s = 0) := by show _ = _; unfold rdL; rw [e]
  clear hp h0 e hk
  by_cases hl : 2 ≤ s.length
  all_goals
    go_enter Tryz.func56, Tryz.ntmps56
    go_wp2_with (first | (go_at_call 59; refine (cut_any _ _ hm).mono ?_; rintro e w1 ⟨rfl, rfl⟩) | (go_at_call 66; refine (rIsName_any _ _ (by rw [HW.out]; omega)).mono ?_; rintro e w1 ⟨rfl, hb1⟩))
    all_goals
      go_ret2
      exact ⟨ret_two HN.out.symm HL.out.symm, hb1⟩

set_option maxHeartbeats 3200000 in
theorem read_param (r : List UInt8) : ReadOk (63 :: 116 :: r) := by
  intro deep w hd0 hd
  simp only [List.length_cons] at hd
  have e := parseT_param r
  have HN : Hid (rdN (63 :: 116 :: r) = 2) := by show _ = _; unfold rdN; rw [e]; simp; omega
  have HL : Hid (rdL (63 :: 116 :: r) = 1) := by show _ = _; unfold rdL; rw [e]; rfl
  clear e
  go_enter Tryz.func56, Tryz.ntmps56
  go_wp2_with fail
  go_ret2
  exact ⟨ret_two HN.out.symm HL.out.symm, Below.refl _ _⟩

theorem read_step (s : List UInt8) (ihP : ∀ s', s'.length < s.length → PartsOk s') (ih : ∀ s', s'.length < s.length → ReadOk s') : ReadOk s := by
  by_cases hp : noPar s
  · by_cases h0 : kind0 (s.take (cutN s)) = 0
    · rcases kindB_facts (w := s.take (cutN s)) with ⟨k1, _⟩ | ⟨k1, _⟩ | ⟨k1, _⟩ | ⟨k1, _⟩
      · exact read_arr s hp h0 k1 ih
      · exact read_rec s hp h0 (.inl k1) ihP
      · exact read_rec s hp h0 (.inr k1) ihP
      · cases hn : isName (s.take (cutN s))
        · exact read_bad s hp h0 k1 hn
        · exact read_name s hp h0 k1 hn ih
    · exact read_word s hp h0
  · unfold noPar at hp
    simp only [ne_eq, Classical.not_forall, Decidable.not_not] at hp
    obtain ⟨r', rfl⟩ := hp
    exact read_param r'
end Go.Proofs.YtakdmnhpoelepaaGreatDoor
