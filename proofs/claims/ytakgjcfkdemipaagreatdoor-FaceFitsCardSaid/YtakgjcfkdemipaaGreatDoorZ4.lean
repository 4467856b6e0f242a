/-
  Contracts: the reference reads a type (argusref03.read, argusref03.parts): how many bytes and how many levels. Condition: the text's length and the depth are small.
  The closure with which the program reads a type (kind.read$3): the loop over parts: what holds at its head (plain).
  Contract: the program's tree.level.
  Contract: the program's tree.word.
  Contract: strings.Join with a comma, in the words of Txt. Condition: the text is not too long.
  The parts of a type while the parameter's place is filled, part by part (plain, and in memory). No condition.
  The deferred closure of kind.read (kind.read$1): a text that is no type leaves the zero type and false.
-/
import Derived.Defers
import Derived.Laws.OwnMore
import Derived.Recover
import Derived.Tactics
import Derived.Tactics2
import Derived.Test.YtakgjcfkdemipaaGreatDoorZn
import Derived.Test.YtakgjcfkdemipaaGreatDoorZ0
import Derived.Test.YtakgjcfkdemipaaGreatDoorZ1
import Derived.Test.YtakgjcfkdemipaaGreatDoorZ2
import Derived.Test.YtakgjcfkdemipaaGreatDoorZ3
namespace Go.Proofs.YtakgjcfkdemipaaGreatDoor
open Go.RowKit
def rdN (s : List UInt8) : Nat := match parseT s with | some (_, r) => s.length - r.length | none => 0
def rdL (s : List UInt8) : Nat := match parseT s with | some (t, _) => t.level | none => 0
def ptR (m L : Nat) (b s : List UInt8) : Option (List UInt8 × Nat) :=
 match parseP b s with | some (fo, 93 :: r) => if fo.len ≤ m then some (r, max L fo.level) else none | _ => none
def ptN (s : List UInt8) : Nat := match ptR 6 0 [] s with | some (r, _) => s.length - r.length | none => 0
def ptL (s : List UInt8) : Nat := match ptR 6 0 [] s with | some (_, l) => l | none => 0
def ReadOk (s : List UInt8) : Prop := ∀ (deep : Int) (w : World), 0 ≤ deep → 2 * deep + s.length ≤ 200 →
 Calls Tryz.prog 140 #[str s, .int .i64 deep] w fun e w' => e = .returned (.tuple #[.int .i64 (rdN s), .int .i64 (rdL s)]) ∧ Below w.heap.size w w'
def PartsOk (s : List UInt8) : Prop := ∀ (deep : Int) (w : World), 0 ≤ deep → 2 * deep + s.length ≤ 200 →
 Calls Tryz.prog 202 #[str s, .int .i64 deep] w fun e w' => e = .returned (.tuple #[.int .i64 (ptN s), .int .i64 (ptL s)]) ∧ Below w.heap.size w w'
theorem ret_two {a b c d : Nat} (h : a = c) (h' : b = d) : Ending.returned (.tuple #[.int .i64 a, .int .i64 b]) = .returned (.tuple #[.int .i64 c, .int .i64 d]) := by rw [h, h']
theorem beq_f {α : Type} [BEq α] [LawfulBEq α] {a b : α} (h : a ≠ b) : (a == b) = false := by simpa using h
theorem noPar_take {s : List UInt8} (h : noPar s) : List.take 2 s ≠ [63, 116] := by
 intro e
 match s, e with
 | [], e => simp at e
 | [a], e => simp at e
 | a :: b :: r, e => simp at e; obtain ⟨rfl, rfl⟩ := e; exact h r rfl
theorem behind (s : List UInt8) : (s.length = cutN s ∧ s.drop (cutN s) = []) ∨ (∃ h : cutN s < s.length, s.drop (cutN s) = s[cutN s] :: s.drop (cutN s + 1)) := by
 have := cutN_le s
 by_cases h : cutN s < s.length
 · exact .inr ⟨h, List.drop_eq_getElem_cons h⟩
 · exact .inl ⟨by omega, List.drop_of_length_le (by omega)⟩
set_option maxHeartbeats 1600000 in
theorem read_word (s : List UInt8) (hp : noPar s) (h0 : kind0 (s.take (cutN s)) ≠ 0) : ReadOk s := by
 intro deep w hd0 hd
 have hm : s.length ≤ maxLen := by unfold maxLen; omega
 have e := parseT_word hp h0
 have hN : rdN s = cutN s := by
  unfold rdN; rw [e]; simp; have := cutN_le s; omega
 have hL : rdL s = 1 := by unfold rdL; rw [e]; rfl
 have HN := Lib.hid hN
 have HL := Lib.hid hL
 clear hN hL e
 have h2 := beq_f (noPar_take hp)
 have hcle := cutN_le s
 have hw : s.take (cutN s) = wInt ∨ s.take (cutN s) = wBool ∨ s.take (cutN s) = wNull := by
  unfold kind0 at h0
  by_cases h1 : s.take (cutN s) = wInt
  · exact .inl h1
  · by_cases h2 : s.take (cutN s) = wBool
    · exact .inr (.inl h2)
    · by_cases h3 : s.take (cutN s) = wNull
      · exact .inr (.inr h3)
      · simp [h1, h2, h3] at h0
 clear hp h0
 by_cases hl : 2 ≤ s.length
 all_goals
  rcases hw with hw | hw | hw
  all_goals
   first | unfold wInt at hw | unfold wBool at hw | unfold wNull at hw
   go_enter Tryz.func140, Tryz.ntmps140;go_wp2_with (go_at_call 162; refine (cut_any _ _ hm).mono ?_; rintro e w1 ⟨rfl, rfl⟩);go_ret2;exact ⟨ret_two HN.out.symm HL.out.symm, Below.refl _ _⟩
theorem kind0_facts {w : List UInt8} (h0 : kind0 w = 0) : (w == [105, 110, 116]) = false ∧ (w == [98, 111, 111, 108]) = false ∧ (w == [110, 117, 108, 108]) = false := by
 unfold kind0 at h0
 refine ⟨beq_f fun e => ?_, beq_f fun e => ?_, beq_f fun e => ?_⟩
 · rw [if_pos (show w = wInt from e)] at h0; omega
 · rw [if_neg (by rw [e]; decide), if_pos (show w = wBool from e)] at h0; omega
 · rw [if_neg (by rw [e]; decide), if_neg (by rw [e]; decide), if_pos (show w = wNull from e)] at h0; omega
theorem kindB_facts {w : List UInt8} : (kindB w = 4 ∧ w = [97, 114, 114, 97, 121]) ∨ (kindB w = 5 ∧ w = [114, 101, 99, 111, 114, 100]) ∨ (kindB w = 6 ∧ w = [111, 110, 101, 111, 102]) ∨
 (kindB w = 0 ∧ (w == [97, 114, 114, 97, 121]) = false ∧ (w == [114, 101, 99, 111, 114, 100]) = false ∧ (w == [111, 110, 101, 111, 102]) = false) := by
 unfold kindB
 by_cases h1 : w = wArray
 · exact .inl ⟨by rw [if_pos h1], h1⟩
 · by_cases h2 : w = wRecord
   · exact .inr (.inl ⟨by rw [if_neg h1, if_pos h2], h2⟩)
   · by_cases h3 : w = wOneof
     · exact .inr (.inr (.inl ⟨by rw [if_neg h1, if_neg h2, if_pos h3], h3⟩))
     · exact .inr (.inr (.inr ⟨by rw [if_neg h1, if_neg h2, if_neg h3], beq_f h1, beq_f h2, beq_f h3⟩))
theorem ptR_none {s : List UInt8} (h : ptR 6 0 [] s = none) : ptN s = 0 ∧ ptL s = 0 := by unfold ptN ptL; rw [h]; exact ⟨rfl, rfl⟩
theorem ptR_some {s r : List UInt8} {l : Nat} (h : ptR 6 0 [] s = some (r, l)) : ptN s = s.length - r.length ∧ ptL s = l ∧ r.length + 1 < s.length := by
 refine ⟨by unfold ptN; rw [h], by unfold ptL; rw [h], ?_⟩
 unfold ptR at h
 split at h
 · rename_i fo r' e
   split at h
   · simp only [Option.some.injEq, Prod.mk.injEq] at h
     have := parseP_le e;simp at this;rw [← h.1]; omega
   · simp at h
 · simp at h
theorem rd_rec {s s2 : List UInt8} (hp : noPar s) (h0 : kind0 (s.take (cutN s)) = 0) (hk : kindB (s.take (cutN s)) = 5 ∨ kindB (s.take (cutN s)) = 6) (hb : s.drop (cutN s) = 91 :: s2) :
 (ptN s2 = 0 ∧ rdN s = 0 ∧ rdL s = 0) ∨ (0 < ptN s2 ∧ rdN s = cutN s + 1 + ptN s2 ∧ rdL s = ptL s2 + 1) := by
 have e := parseT_rec hp h0 hk hb
 have hl : s.length = cutN s + 1 + s2.length := by
  have := congrArg List.length hb;simp at this;have := cutN_le s;omega
 cases hq : ptR 6 0 [] s2 with
 | none =>
  refine .inl ⟨(ptR_none hq).1, ?_⟩;have : parseT s = none := by
   rw [e];unfold ptR at hq;split at hq
   · rename_i fo r e2
     rw [e2];split at hq
     · simp at hq
     · rename_i h6; simp only [h6, if_false]
   · rename_i h3
     split
     · rename_i fo r e2; exact absurd e2 (h3 fo r)
     · rfl
  unfold rdN rdL;rw [this]; exact ⟨rfl, rfl⟩
 | some x =>
  obtain ⟨r, l⟩ := x;obtain ⟨h1, h2, h3⟩ := ptR_some hq;refine .inr ⟨by omega, ?_⟩;have : ∃ fo, parseT s = some (⟨kindB (s.take (cutN s)), s.take (cutN s), fo⟩, r) ∧ fo.level = l := by
   rw [e];unfold ptR at hq;split at hq
   · rename_i fo r' e2
     rw [e2];split at hq
     · rename_i h6
       simp only [Option.some.injEq, Prod.mk.injEq] at hq;obtain ⟨rfl, rfl⟩ := hq;simp only [h6, if_true];exact ⟨fo, rfl, by simp⟩
     · simp at hq
   · simp at hq
  obtain ⟨fo, e2, rfl⟩ := this;unfold rdN rdL;rw [e2, h1, h2];exact ⟨by simp; omega, rfl⟩
theorem ptN_le (s : List UInt8) : ptN s ≤ s.length := by unfold ptN; split <;> omega
theorem ptL_le (s : List UInt8) : ptL s ≤ s.length := by
 unfold ptL ptR
 split
 · rename_i r l h
   split at h
   · rename_i fo r' e
     split at h
     · simp only [Option.some.injEq, Prod.mk.injEq] at h
       have := fo_level _ _ _ _ _ e;simp at this;omega
     · simp at h
   · simp at h
 · omega
theorem rdN_le (s : List UInt8) : rdN s ≤ s.length := by unfold rdN; split <;> omega
theorem rdL_le (s : List UInt8) : rdL s ≤ s.length := by
 unfold rdL
 split
 · rename_i t r h
   have := fo_level (s.length + 1) none s (.one t) r (by rw [pA_parseT (by omega), h]; rfl);simp [Fo.one, Fo.level, Tr.level] at this ⊢;omega
 · omega
theorem w_two {s : List UInt8} {a b : UInt8} {r : List UInt8} (h : s.take (cutN s) = a :: b :: r) : 2 ≤ s.length := by
 have := congrArg List.length h
 simp at this
 omega
theorem w_one {s : List UInt8} {a b : UInt8} {r : List UInt8} (h : s.take (cutN s) = a :: b :: r) : 1 ≤ cutN s := by
 have := congrArg List.length h
 simp at this
 omega
set_option maxHeartbeats 3200000 in
theorem read_rec (s : List UInt8) (hp : noPar s) (h0 : kind0 (s.take (cutN s)) = 0) (hk : kindB (s.take (cutN s)) = 5 ∨ kindB (s.take (cutN s)) = 6)
 (ih : ∀ s', s'.length < s.length → PartsOk s') : ReadOk s := by
 intro deep w hd0 hd
 have hm : s.length ≤ maxLen := by unfold maxLen; omega
 have h2 := beq_f (noPar_take hp)
 have hcle := cutN_le s
 rcases behind s with ⟨hb, hb2⟩ | ⟨hb, hb2⟩
 · have e := parseT_rec_no hp h0 hk (by rw [hb2]; intro r; simp)
   have HN : Hid (rdN s = 0) := by show _ = _; unfold rdN; rw [e]
   have HL : Hid (rdL s = 0) := by show _ = _; unfold rdL; rw [e]
   clear hp h0 e hb2 ih;have hb' : ¬ cutN s < s.length := by omega
   clear hb;rcases kindB_facts (w := s.take (cutN s)) with ⟨k1, k2⟩ | ⟨k1, k2⟩ | ⟨k1, k2⟩ | ⟨k1, k2⟩
   · omega
   · clear hk k1
     have hl := w_two k2;have hn1 := w_one k2;go_enter Tryz.func140, Tryz.ntmps140;go_wp2_with (go_at_call 162; refine (cut_any _ _ hm).mono ?_; rintro e w1 ⟨rfl, rfl⟩);go_ret2;exact ⟨ret_two HN.out.symm HL.out.symm, Below.refl _ _⟩
   · clear hk k1
     have hl := w_two k2;have hn1 := w_one k2;go_enter Tryz.func140, Tryz.ntmps140;go_wp2_with (go_at_call 162; refine (cut_any _ _ hm).mono ?_; rintro e w1 ⟨rfl, rfl⟩);go_ret2;exact ⟨ret_two HN.out.symm HL.out.symm, Below.refl _ _⟩
   · omega
 · by_cases hc : s[cutN s] = 91
   · rw [hc] at hb2
     have hr := rd_rec hp h0 hk hb2;have hs2 : (s.drop (cutN s + 1)).length = s.length - (cutN s + 1) := by simp
     have HS := Lib.hid hs2;have hc' : (((s[cutN s]).toNat : Int) == 91) = true := by rw [hc]; rfl
     clear hp h0 hb2 hc hs2;have hq : (cutN s : Int) < (s.length : Int) := by omega
     rcases hr with ⟨hz, hN, hL⟩ | ⟨hz, hN, hL⟩
     · have HN := Lib.hid hN
       have HL := Lib.hid hL;have hz' : ((ptN (s.drop (cutN s + 1)) : Int) == 0) = true := by simp [hz]
       clear hN hL hz;rcases kindB_facts (w := s.take (cutN s)) with ⟨k1, k2⟩ | ⟨k1, k2⟩ | ⟨k1, k2⟩ | ⟨k1, k2⟩
       · omega
       · clear hk k1
         have hl := w_two k2;have hn1 := w_one k2;go_enter Tryz.func140, Tryz.ntmps140;go_wp2_with (first | (go_at_call 162; refine (cut_any _ _ hm).mono ?_; rintro e w1 ⟨rfl, rfl⟩) | (go_at_call 202; refine (ih _ (by rw [HS.out]; omega) _ _ (by omega) (by rw [HS.out]; omega)).mono ?_; rintro e w1 ⟨rfl, hb1⟩));go_ret2;exact ⟨ret_two HN.out.symm HL.out.symm, hb1⟩
       · clear hk k1
         have hl := w_two k2;have hn1 := w_one k2;go_enter Tryz.func140, Tryz.ntmps140;go_wp2_with (first | (go_at_call 162; refine (cut_any _ _ hm).mono ?_; rintro e w1 ⟨rfl, rfl⟩) | (go_at_call 202; refine (ih _ (by rw [HS.out]; omega) _ _ (by omega) (by rw [HS.out]; omega)).mono ?_; rintro e w1 ⟨rfl, hb1⟩));go_ret2;exact ⟨ret_two HN.out.symm HL.out.symm, hb1⟩
       · omega
     · have HN := Lib.hid hN
       have HL := Lib.hid hL;have hz' : ((ptN (s.drop (cutN s + 1)) : Int) == 0) = false := by simp; omega
       have hbd := ptN_le (s.drop (cutN s + 1));have hbl := ptL_le (s.drop (cutN s + 1));rw [HS.out] at hbd hbl;clear hN hL hz;rcases kindB_facts (w := s.take (cutN s)) with ⟨k1, k2⟩ | ⟨k1, k2⟩ | ⟨k1, k2⟩ | ⟨k1, k2⟩
       · omega
       · clear hk k1
         have hl := w_two k2;have hn1 := w_one k2;go_enter Tryz.func140, Tryz.ntmps140;go_wp2_with (first | (go_at_call 162; refine (cut_any _ _ hm).mono ?_; rintro e w1 ⟨rfl, rfl⟩) | (go_at_call 202; refine (ih _ (by rw [HS.out]; omega) _ _ (by omega) (by rw [HS.out]; omega)).mono ?_; rintro e w1 ⟨rfl, hb1⟩));go_ret2;exact ⟨ret_two HN.out.symm HL.out.symm, hb1⟩
       · clear hk k1
         have hl := w_two k2;have hn1 := w_one k2;go_enter Tryz.func140, Tryz.ntmps140;go_wp2_with (first | (go_at_call 162; refine (cut_any _ _ hm).mono ?_; rintro e w1 ⟨rfl, rfl⟩) | (go_at_call 202; refine (ih _ (by rw [HS.out]; omega) _ _ (by omega) (by rw [HS.out]; omega)).mono ?_; rintro e w1 ⟨rfl, hb1⟩));go_ret2;exact ⟨ret_two HN.out.symm HL.out.symm, hb1⟩
       · omega
   · have e := parseT_rec_no hp h0 hk (by intro r e; rw [hb2] at e; injection e with e1 _; exact hc e1)
     have HN : Hid (rdN s = 0) := by show _ = _; unfold rdN; rw [e]
     have HL : Hid (rdL s = 0) := by show _ = _; unfold rdL; rw [e]
     have hc' : (((s[cutN s]).toNat : Int) == 91) = false := by
      rw [beq_eq_false_iff_ne]; intro h; exact hc (UInt8.toNat_inj.1 (by simp; omega))
     have hq : (cutN s : Int) < (s.length : Int) := by omega
     clear hp h0 e hb2 ih hc;rcases kindB_facts (w := s.take (cutN s)) with ⟨k1, k2⟩ | ⟨k1, k2⟩ | ⟨k1, k2⟩ | ⟨k1, k2⟩
     · omega
     · clear hk k1
       have hl := w_two k2;have hn1 := w_one k2;go_enter Tryz.func140, Tryz.ntmps140;go_wp2_with (go_at_call 162; refine (cut_any _ _ hm).mono ?_; rintro e w1 ⟨rfl, rfl⟩);go_ret2;exact ⟨ret_two HN.out.symm HL.out.symm, Below.refl _ _⟩
     · clear hk k1
       have hl := w_two k2;have hn1 := w_one k2;go_enter Tryz.func140, Tryz.ntmps140;go_wp2_with (go_at_call 162; refine (cut_any _ _ hm).mono ?_; rintro e w1 ⟨rfl, rfl⟩);go_ret2;exact ⟨ret_two HN.out.symm HL.out.symm, Below.refl _ _⟩
     · omega
theorem rd_arg {s s2 : List UInt8} (hp : noPar s) (h0 : kind0 (s.take (cutN s)) = 0) (hk : kindB (s.take (cutN s)) = 4 ∨ (kindB (s.take (cutN s)) = 0 ∧ isName (s.take (cutN s)) = true)) (hb : s.drop (cutN s) = 91 :: s2) :
 (rdN s2 = 0 ∧ rdN s = 0 ∧ rdL s = 0) ∨ (0 < rdN s2 ∧ s.length ≤ cutN s + 1 + rdN s2 ∧ rdN s = 0 ∧ rdL s = 0) ∨
 (0 < rdN s2 ∧ ∃ h : cutN s + 1 + rdN s2 < s.length, s[cutN s + 1 + rdN s2] ≠ 93 ∧ rdN s = 0 ∧ rdL s = 0) ∨
 (0 < rdN s2 ∧ ∃ h : cutN s + 1 + rdN s2 < s.length, s[cutN s + 1 + rdN s2] = 93 ∧ rdN s = cutN s + rdN s2 + 2 ∧ rdL s = rdL s2 + 1) := by
 have e := parseT_arg hp h0 hk hb
 have hl : s.length = cutN s + 1 + s2.length := by
  have := congrArg List.length hb;simp at this;have := cutN_le s;omega
 have hs2 : s.drop (cutN s + 1) = s2 := by rw [← List.drop_drop, hb]; rfl
 cases hq : parseT s2 with
 | none =>
  rw [hq] at e;refine .inl ⟨by unfold rdN; rw [hq], by unfold rdN; rw [e], by unfold rdL; rw [e]⟩
 | some x =>
  obtain ⟨t, r⟩ := x;have hr := parseT_le hq;have hdr := parseT_drop hq;have hn : rdN s2 = s2.length - r.length := by unfold rdN; rw [hq]
  have hL : rdL s2 = t.level := by unfold rdL; rw [hq]
  rw [hq] at e;have hsr : s.drop (cutN s + 1 + rdN s2) = r := by rw [← List.drop_drop, hs2, hn, hdr]
  cases r with
  | nil =>
   refine .inr (.inl ⟨by omega, by simp at hn; omega, by unfold rdN; rw [e], by unfold rdL; rw [e]⟩)
  | cons c r =>
   simp only [List.length_cons] at hn hr;have hlt : cutN s + 1 + rdN s2 < s.length := by omega
   have hget : s[cutN s + 1 + rdN s2] = c := by
    have := List.drop_eq_getElem_cons hlt;rw [hsr] at this;injection this with h1 _;exact h1.symm
   by_cases hc : c = 93
   · subst hc
     refine .inr (.inr (.inr ⟨by omega, hlt, hget, ?_, ?_⟩))
     · unfold rdN at *; rw [e]; simp only; omega
     · rw [hL]; unfold rdL; rw [e]; simp [Tr.level, Fo.one, Fo.level]
   · refine .inr (.inr (.inl ⟨by omega, hlt, by rw [hget]; exact hc, ?_, ?_⟩))
     · unfold rdN; rw [e]; split
       · rename_i h; split at h
         · rename_i h2; simp only [Option.some.injEq, Prod.mk.injEq, List.cons.injEq] at h2; exact absurd h2.2.1 hc
         · simp at h
       · rfl
     · unfold rdL; rw [e]; split
       · rename_i h; split at h
         · rename_i h2; simp only [Option.some.injEq, Prod.mk.injEq, List.cons.injEq] at h2; exact absurd h2.2.1 hc
         · simp at h
       · rfl
theorem name_pos {w : List UInt8} (h : isName w = true) : 1 ≤ w.length := by
 cases w with
 | nil => simp [isName] at h
 | cons => simp
set_option maxHeartbeats 3200000 in
theorem read_arr (s : List UInt8) (hp : noPar s) (h0 : kind0 (s.take (cutN s)) = 0) (hk : kindB (s.take (cutN s)) = 4)
 (ih : ∀ s', s'.length < s.length → ReadOk s') : ReadOk s := by
 intro deep w hd0 hd
 have hm : s.length ≤ maxLen := by unfold maxLen; omega
 have h2 := beq_f (noPar_take hp)
 have hcle := cutN_le s
 have k2 : s.take (cutN s) = [97, 114, 114, 97, 121] := by
  rcases kindB_facts (w := s.take (cutN s)) with ⟨k1, k2⟩ | ⟨k1, k2⟩ | ⟨k1, k2⟩ | ⟨k1, k2⟩
  · exact k2
  all_goals omega
 have hl := w_two k2
 have hn1 := w_one k2
 rcases behind s with ⟨hb, hb2⟩ | ⟨hb, hb2⟩
 · have e := parseT_arr_no hp h0 hk (by rw [hb2]; intro r; simp)
   have HN : Hid (rdN s = 0) := by show _ = _; unfold rdN; rw [e]
   have HL : Hid (rdL s = 0) := by show _ = _; unfold rdL; rw [e]
   clear hp h0 e hb2 ih hk;have hb' : ¬ cutN s < s.length := by omega
   clear hb;go_enter Tryz.func140, Tryz.ntmps140;go_wp2_with (go_at_call 162; refine (cut_any _ _ hm).mono ?_; rintro e w1 ⟨rfl, rfl⟩);go_ret2;exact ⟨ret_two HN.out.symm HL.out.symm, Below.refl _ _⟩
 · by_cases hc : s[cutN s] = 91
   · rw [hc] at hb2
     have hr := rd_arg hp h0 (.inl hk) hb2;have hs2 : (s.drop (cutN s + 1)).length = s.length - (cutN s + 1) := by simp
     have HS := Lib.hid hs2;have hrn := rdN_le (s.drop (cutN s + 1));have hrl := rdL_le (s.drop (cutN s + 1));rw [hs2] at hrn hrl;have hc' : (((s[cutN s]).toNat : Int) == 91) = true := by rw [hc]; rfl
     clear hp h0 hb2 hc hs2 hk;have hq : (cutN s : Int) < (s.length : Int) := by omega
     rcases hr with ⟨hz, hN, hL⟩ | ⟨hz, hz2, hN, hL⟩ | ⟨hz, hz2, hz3, hN, hL⟩ | ⟨hz, hz2, hz3, hN, hL⟩
     · have HN := Lib.hid hN
       have HL := Lib.hid hL;have hz' : ((rdN (s.drop (cutN s + 1)) : Int) == 0) = true := by simp [hz]
       clear hN hL hz;go_enter Tryz.func140, Tryz.ntmps140;go_wp2_with (first | (go_at_call 162; refine (cut_any _ _ hm).mono ?_; rintro e w1 ⟨rfl, rfl⟩) | (go_at_call 140; refine (ih _ (by rw [HS.out]; omega) _ _ (by omega) (by rw [HS.out]; omega)).mono ?_; rintro e w2 ⟨rfl, hb3⟩));go_ret2;exact ⟨ret_two HN.out.symm HL.out.symm, hb3⟩
     · have HN := Lib.hid hN
       have HL := Lib.hid hL;have hz' : ((rdN (s.drop (cutN s + 1)) : Int) == 0) = false := by simp; omega
       clear hN hL hz;go_enter Tryz.func140, Tryz.ntmps140;go_wp2_with (first | (go_at_call 162; refine (cut_any _ _ hm).mono ?_; rintro e w1 ⟨rfl, rfl⟩) | (go_at_call 140; refine (ih _ (by rw [HS.out]; omega) _ _ (by omega) (by rw [HS.out]; omega)).mono ?_; rintro e w2 ⟨rfl, hb3⟩));go_ret2;exact ⟨ret_two HN.out.symm HL.out.symm, hb3⟩
     · have HN := Lib.hid hN
       have HL := Lib.hid hL;have hz' : ((rdN (s.drop (cutN s + 1)) : Int) == 0) = false := by simp; omega
       have hz4 : (((s[cutN s + 1 + rdN (s.drop (cutN s + 1))]).toNat : Int) != 93) = true := by
        rw [bne_iff_ne]; intro h; exact hz3 (UInt8.toNat_inj.1 (by simp; omega))
       clear hN hL hz hz3;go_enter Tryz.func140, Tryz.ntmps140;go_wp2_with (first | (go_at_call 162; refine (cut_any _ _ hm).mono ?_; rintro e w1 ⟨rfl, rfl⟩) | (go_at_call 140; refine (ih _ (by rw [HS.out]; omega) _ _ (by omega) (by rw [HS.out]; omega)).mono ?_; rintro e w2 ⟨rfl, hb3⟩));go_ret2;exact ⟨ret_two HN.out.symm HL.out.symm, hb3⟩
     · have HN := Lib.hid hN
       have HL := Lib.hid hL;have hz' : ((rdN (s.drop (cutN s + 1)) : Int) == 0) = false := by simp; omega
       have hz4 : (((s[cutN s + 1 + rdN (s.drop (cutN s + 1))]).toNat : Int) != 93) = false := by rw [hz3]; rfl
       clear hN hL hz hz3;go_enter Tryz.func140, Tryz.ntmps140;go_wp2_with (first | (go_at_call 162; refine (cut_any _ _ hm).mono ?_; rintro e w1 ⟨rfl, rfl⟩) | (go_at_call 140; refine (ih _ (by rw [HS.out]; omega) _ _ (by omega) (by rw [HS.out]; omega)).mono ?_; rintro e w2 ⟨rfl, hb3⟩));go_ret2;exact ⟨ret_two HN.out.symm HL.out.symm, hb3⟩
   · have e := parseT_arr_no hp h0 hk (by intro r e; rw [hb2] at e; injection e with e1 _; exact hc e1)
     have HN : Hid (rdN s = 0) := by show _ = _; unfold rdN; rw [e]
     have HL : Hid (rdL s = 0) := by show _ = _; unfold rdL; rw [e]
     have hc' : (((s[cutN s]).toNat : Int) == 91) = false := by
      rw [beq_eq_false_iff_ne]; intro h; exact hc (UInt8.toNat_inj.1 (by simp; omega))
     have hq : (cutN s : Int) < (s.length : Int) := by omega
     clear hp h0 e hb2 ih hc hk;go_enter Tryz.func140, Tryz.ntmps140;go_wp2_with (go_at_call 162; refine (cut_any _ _ hm).mono ?_; rintro e w1 ⟨rfl, rfl⟩);go_ret2;exact ⟨ret_two HN.out.symm HL.out.symm, Below.refl _ _⟩
set_option maxHeartbeats 3200000 in
theorem read_name (s : List UInt8) (hp : noPar s) (h0 : kind0 (s.take (cutN s)) = 0) (hk : kindB (s.take (cutN s)) = 0) (hn : isName (s.take (cutN s)) = true)
 (ih : ∀ s', s'.length < s.length → ReadOk s') : ReadOk s := by
 intro deep w hd0 hd
 have hm : s.length ≤ maxLen := by unfold maxLen; omega
 have h2 := beq_f (noPar_take hp)
 have hcle := cutN_le s
 have HW : Hid ((s.take (cutN s)).length = cutN s) := by show _ = _; simp; omega
 have h4 : (s.take (cutN s) == [97, 114, 114, 97, 121]) = false ∧ (s.take (cutN s) == [114, 101, 99, 111, 114, 100]) = false ∧ (s.take (cutN s) == [111, 110, 101, 111, 102]) = false := by
  rcases kindB_facts (w := s.take (cutN s)) with ⟨k1, k2⟩ | ⟨k1, k2⟩ | ⟨k1, k2⟩ | ⟨k1, k2⟩
  all_goals first | omega | exact k2
 obtain ⟨h4, h5, h6⟩ := h4
 obtain ⟨f1, f2, f3⟩ := kind0_facts h0
 have hn1 : 1 ≤ cutN s := by have := name_pos hn; rw [HW.out] at this; exact this
 rcases behind s with ⟨hb, hb2⟩ | ⟨hb, hb2⟩
 · have e := parseT_name hp h0 hk hn (by rw [hb2]; intro r; simp)
   have HN : Hid (rdN s = cutN s) := by show _ = _; unfold rdN; rw [e]; simp; omega
   have HL : Hid (rdL s = 1) := by show _ = _; unfold rdL; rw [e]; rfl
   clear hp h0 e hb2 ih hk;have hb' : ¬ cutN s < s.length := by omega
   clear hb
   by_cases hl : 2 ≤ s.length
   all_goals
    go_enter Tryz.func140, Tryz.ntmps140;go_wp2_with (first | (go_at_call 162; refine (cut_any _ _ hm).mono ?_; rintro e w1 ⟨rfl, rfl⟩) | (go_at_call 87; refine (rIsName_any _ _ (by rw [HW.out]; omega)).mono ?_; rintro e w1 ⟨rfl, hb1⟩));go_ret2;exact ⟨ret_two HN.out.symm HL.out.symm, hb1⟩
 · by_cases hc : s[cutN s] = 91
   · rw [hc] at hb2
     have hr := rd_arg hp h0 (.inr ⟨hk, hn⟩) hb2;have hs2 : (s.drop (cutN s + 1)).length = s.length - (cutN s + 1) := by simp
     have HS := Lib.hid hs2;have hrn := rdN_le (s.drop (cutN s + 1));have hrl := rdL_le (s.drop (cutN s + 1));rw [hs2] at hrn hrl;have hc' : (((s[cutN s]).toNat : Int) == 91) = true := by rw [hc]; rfl
     clear hp h0 hb2 hc hs2 hk;have hq : (cutN s : Int) < (s.length : Int) := by omega
     rcases hr with ⟨hz, hN, hL⟩ | ⟨hz, hz2, hN, hL⟩ | ⟨hz, hz2, hz3, hN, hL⟩ | ⟨hz, hz2, hz3, hN, hL⟩
     · have HN := Lib.hid hN
       have HL := Lib.hid hL;have hz' : ((rdN (s.drop (cutN s + 1)) : Int) == 0) = true := by simp [hz]
       clear hN hL hz;have hl : 2 ≤ s.length := by omega
       go_enter Tryz.func140, Tryz.ntmps140;go_wp2_with (first | (go_at_call 162; refine (cut_any _ _ hm).mono ?_; rintro e w1 ⟨rfl, rfl⟩) | (go_at_call 87; refine (rIsName_any _ _ (by rw [HW.out]; omega)).mono ?_; rintro e w1 ⟨rfl, hb1⟩) | (go_at_call 140; refine (ih _ (by rw [HS.out]; omega) _ _ (by omega) (by rw [HS.out]; omega)).mono ?_; rintro e w2 ⟨rfl, hb3⟩));go_ret2;exact ⟨ret_two HN.out.symm HL.out.symm, hb1.trans (hb3.mono hb1.size)⟩
     · have HN := Lib.hid hN
       have HL := Lib.hid hL;have hz' : ((rdN (s.drop (cutN s + 1)) : Int) == 0) = false := by simp; omega
       clear hN hL hz;have hl : 2 ≤ s.length := by omega
       go_enter Tryz.func140, Tryz.ntmps140;go_wp2_with (first | (go_at_call 162; refine (cut_any _ _ hm).mono ?_; rintro e w1 ⟨rfl, rfl⟩) | (go_at_call 87; refine (rIsName_any _ _ (by rw [HW.out]; omega)).mono ?_; rintro e w1 ⟨rfl, hb1⟩) | (go_at_call 140; refine (ih _ (by rw [HS.out]; omega) _ _ (by omega) (by rw [HS.out]; omega)).mono ?_; rintro e w2 ⟨rfl, hb3⟩));go_ret2;exact ⟨ret_two HN.out.symm HL.out.symm, hb1.trans (hb3.mono hb1.size)⟩
     · have HN := Lib.hid hN
       have HL := Lib.hid hL;have hz' : ((rdN (s.drop (cutN s + 1)) : Int) == 0) = false := by simp; omega
       have hz4 : (((s[cutN s + 1 + rdN (s.drop (cutN s + 1))]).toNat : Int) != 93) = true := by
        rw [bne_iff_ne]; intro h; exact hz3 (UInt8.toNat_inj.1 (by simp; omega))
       clear hN hL hz hz3;have hl : 2 ≤ s.length := by omega
       go_enter Tryz.func140, Tryz.ntmps140;go_wp2_with (first | (go_at_call 162; refine (cut_any _ _ hm).mono ?_; rintro e w1 ⟨rfl, rfl⟩) | (go_at_call 87; refine (rIsName_any _ _ (by rw [HW.out]; omega)).mono ?_; rintro e w1 ⟨rfl, hb1⟩) | (go_at_call 140; refine (ih _ (by rw [HS.out]; omega) _ _ (by omega) (by rw [HS.out]; omega)).mono ?_; rintro e w2 ⟨rfl, hb3⟩));go_ret2;exact ⟨ret_two HN.out.symm HL.out.symm, hb1.trans (hb3.mono hb1.size)⟩
     · have HN := Lib.hid hN
       have HL := Lib.hid hL;have hz' : ((rdN (s.drop (cutN s + 1)) : Int) == 0) = false := by simp; omega
       have hz4 : (((s[cutN s + 1 + rdN (s.drop (cutN s + 1))]).toNat : Int) != 93) = false := by rw [hz3]; rfl
       clear hN hL hz hz3;have hl : 2 ≤ s.length := by omega
       go_enter Tryz.func140, Tryz.ntmps140;go_wp2_with (first | (go_at_call 162; refine (cut_any _ _ hm).mono ?_; rintro e w1 ⟨rfl, rfl⟩) | (go_at_call 87; refine (rIsName_any _ _ (by rw [HW.out]; omega)).mono ?_; rintro e w1 ⟨rfl, hb1⟩) | (go_at_call 140; refine (ih _ (by rw [HS.out]; omega) _ _ (by omega) (by rw [HS.out]; omega)).mono ?_; rintro e w2 ⟨rfl, hb3⟩));go_ret2;exact ⟨ret_two HN.out.symm HL.out.symm, hb1.trans (hb3.mono hb1.size)⟩
   · have e := parseT_name hp h0 hk hn (by intro r e; rw [hb2] at e; injection e with e1 _; exact hc e1)
     have HN : Hid (rdN s = cutN s) := by show _ = _; unfold rdN; rw [e]; simp; omega
     have HL : Hid (rdL s = 1) := by show _ = _; unfold rdL; rw [e]; rfl
     have hc' : (((s[cutN s]).toNat : Int) == 91) = false := by
      rw [beq_eq_false_iff_ne]; intro h; exact hc (UInt8.toNat_inj.1 (by simp; omega))
     have hq : (cutN s : Int) < (s.length : Int) := by omega
     clear hp h0 e hb2 ih hc hk;have hl : 2 ≤ s.length := by omega
     go_enter Tryz.func140, Tryz.ntmps140;go_wp2_with (first | (go_at_call 162; refine (cut_any _ _ hm).mono ?_; rintro e w1 ⟨rfl, rfl⟩) | (go_at_call 87; refine (rIsName_any _ _ (by rw [HW.out]; omega)).mono ?_; rintro e w1 ⟨rfl, hb1⟩));go_ret2;exact ⟨ret_two HN.out.symm HL.out.symm, hb1⟩
set_option maxHeartbeats 3200000 in
theorem read_bad (s : List UInt8) (hp : noPar s) (h0 : kind0 (s.take (cutN s)) = 0) (hk : kindB (s.take (cutN s)) = 0) (hn : isName (s.take (cutN s)) = false) : ReadOk s := by
 intro deep w hd0 hd
 have hm : s.length ≤ maxLen := by unfold maxLen; omega
 have h2 := beq_f (noPar_take hp)
 have hcle := cutN_le s
 have HW : Hid ((s.take (cutN s)).length = cutN s) := by show _ = _; simp; omega
 have h4 : (s.take (cutN s) == [97, 114, 114, 97, 121]) = false ∧ (s.take (cutN s) == [114, 101, 99, 111, 114, 100]) = false ∧ (s.take (cutN s) == [111, 110, 101, 111, 102]) = false := by
  rcases kindB_facts (w := s.take (cutN s)) with ⟨k1, k2⟩ | ⟨k1, k2⟩ | ⟨k1, k2⟩ | ⟨k1, k2⟩
  all_goals first | omega | exact k2
 obtain ⟨h4, h5, h6⟩ := h4
 obtain ⟨f1, f2, f3⟩ := kind0_facts h0
 have e := parseT_bad hp h0 hk hn
 have HN : Hid (rdN s = 0) := by show _ = _; unfold rdN; rw [e]
 have HL : Hid (rdL s = 0) := by show _ = _; unfold rdL; rw [e]
 clear hp h0 e hk
 by_cases hl : 2 ≤ s.length
 all_goals
  go_enter Tryz.func140, Tryz.ntmps140;go_wp2_with (first | (go_at_call 162; refine (cut_any _ _ hm).mono ?_; rintro e w1 ⟨rfl, rfl⟩) | (go_at_call 87; refine (rIsName_any _ _ (by rw [HW.out]; omega)).mono ?_; rintro e w1 ⟨rfl, hb1⟩))
  all_goals
   go_ret2;exact ⟨ret_two HN.out.symm HL.out.symm, hb1⟩
set_option maxHeartbeats 3200000 in
theorem read_param (r : List UInt8) : ReadOk (63 :: 116 :: r) := by
 intro deep w hd0 hd
 simp only [List.length_cons] at hd
 have e := parseT_param r
 have HN : Hid (rdN (63 :: 116 :: r) = 2) := by show _ = _; unfold rdN; rw [e]; simp; omega
 have HL : Hid (rdL (63 :: 116 :: r) = 1) := by show _ = _; unfold rdL; rw [e]; rfl
 clear e
 go_enter Tryz.func140, Tryz.ntmps140
 go_wp2_with fail
 go_ret2
 exact ⟨ret_two HN.out.symm HL.out.symm, Below.refl _ _⟩
theorem read_step (s : List UInt8) (ihP : ∀ s', s'.length < s.length → PartsOk s') (ih : ∀ s', s'.length < s.length → ReadOk s') : ReadOk s := by
 by_cases hp : noPar s
 · by_cases h0 : kind0 (s.take (cutN s)) = 0
   · rcases kindB_facts (w := s.take (cutN s)) with ⟨k1, _⟩ | ⟨k1, _⟩ | ⟨k1, _⟩ | ⟨k1, _⟩
     · exact read_arr s hp h0 k1 ih
     · exact read_rec s hp h0 (.inl k1) ihP
     · exact read_rec s hp h0 (.inr k1) ihP
     · cases hn : isName (s.take (cutN s))
       · exact read_bad s hp h0 k1 hn
       · exact read_name s hp h0 k1 hn ih
   · exact read_word s hp h0
 · unfold noPar at hp
   simp only [ne_eq, Classical.not_forall, Decidable.not_not] at hp;obtain ⟨r', rfl⟩ := hp;exact read_param r'
end Go.Proofs.YtakgjcfkdemipaaGreatDoor
namespace Go.Proofs.YtakgjcfkdemipaaGreatDoor
open Go.RowKit
theorem FoV.shape {w : World} {D : Nat → Prop} {fo : Fo} {v : Value} (h : FoV w D fo v) : ∃ p c, v = .slice p fo.len c ∧ (fo.len ≠ 0 → ∃ g, p = some ⟨g, 0, none⟩ ∧ D g ∧ g < w.heap.size ∧ fo.len ≤ c ∧ w.cell? ⟨g, (fo.len - 1) * 4, none⟩ = some (str fo.last)) := by
 obtain ⟨sc, h1, h2, h3⟩ := h
 rcases h1.2 with ⟨rfl, hz⟩ | ⟨g, cap, cur, rfl, _, _, h4, _⟩
 · exact ⟨none, 0, by rw [hz], fun hne => absurd hz hne⟩
 · refine ⟨some ⟨g, 0, none⟩, cap, rfl, fun hne => ⟨g, rfl, h2 g rfl, ownsRow_lt h1 rfl, h4, ?_⟩⟩
   have := h1.cells (g := g) rfl _ _ (FoC.last fo sc h3 hne);simp only [Addr.add] at this;split at this
   · rename_i e; rw [e]; exact this
   · simpa using this
theorem int_zero {n : Nat} (h : n = 0) : ((n : Int) == 0) = true := by subst h; rfl
theorem int_not_zero {n : Nat} (h : n ≠ 0) : ((n : Int) == 0) = false := by rw [beq_eq_false_iff_ne]; omega
theorem wrap_pred {n : Nat} (h : n ≠ 0) (hm : n ≤ 1000) : IntKind.i64.wrap ((n : Int) - 1) = ((n - 1 : Nat) : Int) := by rw [IntKind.wrap_i64]; omega
def FoR (w : World) (D : Nat → Prop) (fo : Fo) (v : Value) : Prop := ∃ sc, w.ownsRow 0 192 4 v fo.len sc ∧ (∀ b, v.ownBlock = some b → D b) ∧ FoC w (fun b => D b ∧ v.ownBlock ≠ some b) fo sc
theorem FoR.foV {w : World} {D : Nat → Prop} {fo : Fo} {v : Value} (h : FoR w D fo v) : FoV w D fo v := by
 obtain ⟨sc, h1, h2, h3⟩ := h
 exact ⟨sc, h1, h2, h3.mono fun b hb _ => hb.1⟩
theorem FoR.nil (w : World) (D : Nat → Prop) : FoR w D .nil (.slice none 0 0) := ⟨[], World.ownsRow_nil _ _ _ _, by intro b h; simp [Value.ownBlock] at h, rfl⟩
theorem FoR.kept {w w' : World} {D : Nat → Prop} (hb : ∀ b, D b → b < w.heap.size → w'.heap[b]? = w.heap[b]?) {fo : Fo} {v : Value} (h : FoR w D fo v) : FoR w' D fo v := by
 obtain ⟨sc, h1, h2, h3⟩ := h
 exact ⟨sc, ownsRow_of_block h1 (fun b e => hb b (h2 b e) (ownsRow_lt h1 e)), h2, h3.kept fun b hD => hb b hD.1⟩
theorem FoR.mono {w : World} {D D' : Nat → Prop} (hD : ∀ b, D b → b < w.heap.size → D' b) {fo : Fo} {v : Value} (h : FoR w D fo v) : FoR w D' fo v := by
 obtain ⟨sc, h1, h2, h3⟩ := h
 exact ⟨sc, h1, fun b e => hD b (h2 b e) (ownsRow_lt h1 e), h3.mono fun b hb hlt => ⟨hD b hb.1 hlt, hb.2⟩⟩
theorem FoR.grow {W W' : World} {D : Nat → Prop} {fo sub : Fo} {v v' vt : Value} {sc : List Value} {pn n : List UInt8} {k : Nat} (h2 : ∀ b, v.ownBlock = some b → D b) (h3 : FoC W (fun b => D b ∧ v.ownBlock ≠ some b) fo sc)
 (ht : FoV W (fun b => D b ∧ v.ownBlock ≠ some b) sub vt) (hN : D W.heap.size) (h' : W'.ownsRow 0 192 4 v' (fo.len + 1) (sc ++ [str pn, .int .u8 k, str n, vt])) (hg : W.grownBy W' v.ownBlock)
 (ho : v'.ownBlock = v.ownBlock ∨ v'.ownBlock = some W.heap.size) : FoR W' D (fo.app (.cons pn k n sub .nil)) v' := by
 refine ⟨_, by rw [Fo.len_app]; exact h', ?_, ?_⟩
 · intro b hb
   rcases ho with ho | ho
   · exact h2 b (ho ▸ hb)
   · rw [ho] at hb
     injection hb with hb;exact hb ▸ hN
 · have hall := (FoC.single (pn := pn) (k := k) (n := n) ht).app fo sc h3
   refine ((hall.mono (D' := fun b => D b ∧ v'.ownBlock ≠ some b ∧ v.ownBlock ≠ some b) fun b hb hlt => ⟨hb.1, ?_, hb.2⟩).kept (w' := W') fun b hb hlt => hg.block b hlt (fun e => hb.2.2 e.symm)).mono fun b hb _ => ⟨hb.1, hb.2.1⟩
   rcases ho with ho | ho
   · rw [ho]; exact hb.2
   · rw [ho]
     intro e;injection e with e;omega
theorem infoPart : (Tryz.prog.info? 192).map (fun i => (i.zero, i.size, i.bytes)) = some (some (.agg #[.string ⟨#[]⟩, .int .u8 0, .string ⟨#[]⟩, .slice none 0 0]), 4, 64) := by kernel_rfl
theorem underPart : Tryz.prog.underlying 172 = some (.slice 192) := by kernel_rfl
theorem fo_zero {fo : Fo} (h : fo.len = 0) : fo = .nil := by
 cases fo with
 | nil => rfl
 | cons => simp [Fo.len] at h
structure Lp (w : World) (R Nd X rb B1 KN : Nat) (nm s2 : List UInt8) (wr : World) (dn : Fo) (u : List UInt8) : Prop where
 st : St w wr R Nd X rb u
 lo : w.heap.size < B1
 len : dn.len + u.length ≤ s2.length
 row : ∃ v, wr.heap[B1]? = some (.cells #[.int .u8 KN, str nm, v] 174 (0, 0)) ∧ FoR wr (fun b => B1 < b) dn v
 eq : Hid (parseP [] s2 = (parseP dn.last u).map fun p => (dn.app p.1, p.2))
section
variable {w wr : World} {R Nd X rb B1 KN : Nat} {nm s2 : List UInt8} {dn : Fo} {u : List UInt8}
theorem Lp.no_parse (h : Lp w R Nd X rb B1 KN nm s2 wr dn u) (hn : parseP dn.last u = none) : parseP [] s2 = none := by
 rw [h.eq.out, hn]; rfl
theorem Lp.start (h : St w wr R Nd X rb s2) (hB : w.heap.size < B1) (hx : wr.heap[B1]? = some (.cells #[.int .u8 KN, str nm, .slice none 0 0] 174 (0, 0))) : Lp w R Nd X rb B1 KN nm s2 wr .nil s2 := by
 refine ⟨h, hB, by simp [Fo.len], ⟨_, hx, FoR.nil wr _⟩, ?_⟩
 show parseP [] s2 = (parseP [] s2).map _
 rcases parseP [] s2 with _ | ⟨a, b⟩
 · rfl
 · rfl
def okName (dn : Fo) (n : List UInt8) : Prop := isName n = true ∧ (dn.len = 0 ∨ Op.bytesLess dn.last n = true)
theorem okName_iff {dn : Fo} {n : List UInt8} : okName dn n ↔ (isName n = true ∧ Op.bytesLess dn.last n = true) := by
 unfold okName
 constructor
 · rintro ⟨h1, h2⟩
   refine ⟨h1, ?_⟩;rcases h2 with h2 | h2
   · rw [fo_zero h2]
     have := name_pos h1;cases n with
     | nil => simp at this
     | cons => rfl
   · exact h2
 · rintro ⟨h1, h2⟩
   exact ⟨h1, .inr h2⟩
theorem round_bad (h : ¬ okName dn (u.take (cutN u))) : parseP dn.last u = none := parseP_bad fun e => h (okName_iff.2 e)
theorem round_ok (h : okName dn (u.take (cutN u))) {u2 : List UInt8} (hb : u.drop (cutN u) = 58 :: u2) :
 parseP dn.last u = match parseT u2 with
  | some (t, r) => match r with
   | 44 :: r2 => match parseP (u.take (cutN u)) r2 with
    | some (fo, r3) => some (.cons (u.take (cutN u)) t.k t.n t.sub fo, r3)
    | none => none
   | _ => some (.cons (u.take (cutN u)) t.k t.n t.sub .nil, r)
  | none => none := parseP_ok (okName_iff.1 h).1 (okName_iff.1 h).2 hb
def Fo.snoc (dn : Fo) (n : List UInt8) (t : Tr) : Fo := dn.app (.cons n t.k t.n t.sub .nil)
theorem Fo.len_snoc (dn : Fo) (n : List UInt8) (t : Tr) : (dn.snoc n t).len = dn.len + 1 := by unfold Fo.snoc; rw [Fo.len_app]; rfl
theorem Fo.last_snoc' (dn : Fo) (n : List UInt8) (t : Tr) : (dn.snoc n t).last = n := Fo.last_snoc _ _ _ _ _
theorem Lp.end_eq (h : Lp w R Nd X rb B1 KN nm s2 wr dn u) (hn : okName dn (u.take (cutN u))) {u2 r : List UInt8} {t : Tr} (hb : u.drop (cutN u) = 58 :: u2) (hq : parseT u2 = some (t, r)) (hr : ∀ r', r ≠ 44 :: r') : parseP [] s2 = some (dn.snoc (u.take (cutN u)) t, r) := by
 rw [h.eq.out, round_ok hn hb, hq]
 simp only
 rfl
theorem Lp.step_eq (h : Lp w R Nd X rb B1 KN nm s2 wr dn u) (hn : okName dn (u.take (cutN u))) {u2 r : List UInt8} {t : Tr} (hb : u.drop (cutN u) = 58 :: u2) (hq : parseT u2 = some (t, 44 :: r)) : parseP [] s2 = (parseP (dn.snoc (u.take (cutN u)) t).last r).map fun p => ((dn.snoc (u.take (cutN u)) t).app p.1, p.2) := by
 rw [h.eq.out, round_ok hn hb, hq, Fo.last_snoc']
 simp only
 rcases parseP (u.take (cutN u)) r with _ | ⟨fo, r3⟩
 · rfl
 · simp only [Option.map_some, Option.some.injEq, Prod.mk.injEq, and_true]
   unfold Fo.snoc;rw [Fo.app_assoc]
   rfl
end
end Go.Proofs.YtakgjcfkdemipaaGreatDoor
namespace Go.Proofs.YtakgjcfkdemipaaGreatDoor
open Go.RowKit
theorem FoV.at {w : World} {D : Nat → Prop} {fo : Fo} {v : Value} (h : FoV w D fo v) {i : Nat} (hi : i < fo.len) : ∃ g c pn t u, v = .slice (some ⟨g, 0, none⟩) fo.len c ∧ D g ∧ g < w.heap.size ∧ fo.at i = some (pn, t) ∧
 w.cell? ⟨g, i * 4, none⟩ = some (str pn) ∧ w.cell? ⟨g, i * 4 + 1, none⟩ = some (.int .u8 t.k) ∧ w.cell? ⟨g, i * 4 + 2, none⟩ = some (str t.n) ∧ w.cell? ⟨g, i * 4 + 3, none⟩ = some u ∧ FoV w D t.sub u := by
 obtain ⟨sc, h1, h2, h3⟩ := h
 obtain ⟨pn, t, u, a, b0, b1, b2, b3, c⟩ := h3.at fo sc i hi
 rcases h1.2 with ⟨rfl, hz⟩ | ⟨g, cap, cur, rfl, _, _, h4, _⟩
 · omega
 · have hc : ∀ j x, sc[j]? = some x → w.cell? ⟨g, j, none⟩ = some x := by
    intro j x hx;have := h1.cells (g := g) rfl _ _ hx;simp only [Addr.add] at this;split at this
    · rename_i e; rw [e]; exact this
    · simpa using this
   exact ⟨g, cap, pn, t, u, rfl, h2 g rfl, ownsRow_lt h1 rfl, a, hc _ _ b0, hc _ _ b1, hc _ _ b2, hc _ _ b3, c⟩
theorem FoV.len_le {w : World} {D : Nat → Prop} {fo : Fo} {v : Value} (h : FoV w D fo v) : fo.len ≤ maxLen := by
 obtain ⟨sc, h1, h2, h3⟩ := h
 rcases h1.2 with ⟨rfl, hz⟩ | ⟨g, cap, cur, rfl, _, _, h4, h5, _⟩
 · omega
 · omega
set_option maxRecDepth 4000 in
set_option maxHeartbeats 3200000 in
theorem level_any : ∀ (m : Nat) (fo : Fo), fo.level ≤ m → m ≤ 1000 → ∀ (w : World) (D : Nat → Prop) (v : Value) (k : Nat) (n : List UInt8), FoV w D fo v → Calls Tryz.prog 212 #[.agg #[.int .u8 k, str n, v]] w fun e w' => e = .returned (.int .i64 ((fo.level + 1 : Nat) : Int)) ∧ Below w.heap.size w w' := by
 intro m
 induction m with
 | zero =>
  intro fo hl hm w D v k n hv;have hz : fo = .nil := by
   cases fo with
   | nil => rfl
   | cons pn k n sub rest => simp only [Fo.level] at hl; omega
  subst hz;obtain ⟨p, c, rfl, _⟩ := hv.shape;go_enter Tryz.func212, Tryz.ntmps212;go_wp2_with fail;have hbel := (Below.refl w.heap.size w).alloc (nl _) (.cells #[.int .u8 k, str n, .slice p Fo.nil.len c] 174);generalize w.alloc (.cells #[.int .u8 k, str n, .slice p Fo.nil.len c] 174) = W1 at *;go_loopw [3, 9] (fun a b wr => a = .int .i64 0 ∧ b = .int .i64 0 ∧ wr = W1) (fun _ _ _ => 0)
  case atStart => exact ⟨rfl, rfl, rfl⟩
  case round =>
   obtain ⟨rfl, rfl, rfl⟩ := hrel;go_wp2_with fail;exact bodyPost_ret (v := .int .i64 1) (by simp [results, Tryz.results212]) rfl ⟨rfl, hbel⟩
 | succ m ih =>
  intro fo hl hm w D v k n hv;have hlen := hv.len_le;obtain ⟨p, c, rfl, _⟩ := hv.shape;have IH := Lib.hid ih;clear ih;go_enter Tryz.func212, Tryz.ntmps212;go_wp2_with fail;have hbel := (Below.refl w.heap.size w).alloc (nl _) (.cells #[.int .u8 k, str n, .slice p fo.len c] 174);generalize w.alloc (.cells #[.int .u8 k, str n, .slice p fo.len c] 174) = W1 at *;go_loopw [3, 9] (fun a b wr => ∃ i : Nat, i ≤ fo.len ∧ a = .int .i64 (fo.levTo i) ∧ b = .int .i64 i ∧ Below w.heap.size w wr) (fun _ b _ => fo.len - (intOf b).toNat)
  case atStart => exact ⟨0, Nat.zero_le _, by cases fo <;> rfl, rfl, hbel⟩
  case round =>
   obtain ⟨i, hi, rfl, rfl, hb⟩ := hrel
   by_cases hlt : i < fo.len
   case pos =>
    obtain ⟨g, c', pn, t, u, e, _, hg, hat, x0, x1, x2, x3, hu⟩ := hv.at hlt;injection e with e1 _ e2;subst e1 e2;obtain ⟨p', c', rfl, _⟩ := hu.shape;have y0 := (hb.cell (by exact hg)).trans x0;have y1 := (hb.cell (by exact hg)).trans x1;have y2 := (hb.cell (by exact hg)).trans x2;have y3 := (hb.cell (by exact hg)).trans x3;clear x0 x1 x2 x3;have hlv := fo.at_level i pn t hat;have HS := Lib.hid (fo.levTo_succ i pn t hat);have hle := fo.levTo_le i;have hbA := hb.alloc hb.size (.cells #[.string ⟨pn.toArray⟩, .int .u8 t.k, .string ⟨t.n.toArray⟩, .slice p' t.sub.len c'] 192);go_wp2_with fail;refine (IH.out t.sub (by omega) (by omega) _ D _ t.k t.n (hu.below hbA (nl _))).mono ?_;rintro e w2 ⟨rfl, hb2⟩;have hb3 := hbA.trans (⟨hb2.os, hb2.tape, hb2.output, hb2.size, fun k hk => hb2.block k (by have := hbA.size; omega)⟩ : Below w.heap.size _ _);clear y0 y1 y2 y3 hb2 hbA;go_wp2_with fail;have hwi : wrap64 ((i : Int) + 1) = ((i + 1 : Nat) : Int) := by unfold wrap64; unfold maxLen at hlen; omega
    rw [hwi];refine ⟨⟨i + 1, hlt, ?_, rfl, hb3⟩, ?_⟩
    · rw [HS.out]; congr 1; omega
    · simp only [intOf, Int.toNat_natCast]; omega
   case neg =>
    have hie : i = fo.len := by omega
    have HL := Lib.hid (show fo.levTo i = fo.level by rw [hie]; exact fo.levTo_all);clear hie;go_wp2_with fail;refine bodyPost_ret (v := .int .i64 (wrap64 ((fo.levTo i : Int) + 1))) (by simp [results, Tryz.results212]) rfl ⟨?_, hb⟩;rw [HL.out];have : wrap64 ((fo.level : Int) + 1) = ((fo.level + 1 : Nat) : Int) := by unfold wrap64; omega
    rw [this]
end Go.Proofs.YtakgjcfkdemipaaGreatDoor
namespace Go.Proofs.YtakgjcfkdemipaaGreatDoor
open Go.RowKit
set_option maxRecDepth 4000 in
set_option maxHeartbeats 3200000 in
theorem kword_any (k : Nat) (n : List UInt8) (p : Option Addr) (l c : Nat) (w : World) : Calls Tryz.prog 235 #[.agg #[.int .u8 k, str n, .slice p l c]] w fun e w' => e = .returned (str (wordK k n)) ∧ Below w.heap.size w w' := by
 have hbel := (Below.refl w.heap.size w).alloc (nl _) (.cells #[.int .u8 k, str n, .slice p l c] 174)
 have e1 : ((k : Int) == 1) = decide (k = 1) := by rw [Bool.eq_iff_iff]; simp; omega
 have e2 : ((k : Int) == 2) = decide (k = 2) := by rw [Bool.eq_iff_iff]; simp; omega
 have e3 : ((k : Int) == 3) = decide (k = 3) := by rw [Bool.eq_iff_iff]; simp; omega
 have e4 : ((k : Int) == 4) = decide (k = 4) := by rw [Bool.eq_iff_iff]; simp; omega
 have e5 : ((k : Int) == 5) = decide (k = 5) := by rw [Bool.eq_iff_iff]; simp; omega
 have e6 : ((k : Int) == 6) = decide (k = 6) := by rw [Bool.eq_iff_iff]; simp; omega
 have e8 : ((k : Int) == 8) = decide (k = 8) := by rw [Bool.eq_iff_iff]; simp; omega
 go_enter Tryz.func235, Tryz.ntmps235
 go_wp2_with fail
 all_goals refine bodyPost_ret (v := str (wordK k n)) ?_ rfl ⟨rfl, hbel⟩
 all_goals simp [results, Tryz.results235, wordK, wInt, wBool, wNull, wArray, wRecord, wOneof, *]
end Go.Proofs.YtakgjcfkdemipaaGreatDoor
namespace Go.Proofs.YtakgjcfkdemipaaGreatDoor
open Go.RowKit
theorem join_eq : ∀ ss : List (List UInt8), Lib.join ss [44] = joinC ss
 | [] => rfl
 | [a] => by simp [Lib.join, joinC]
 | a :: b :: l => by
  have := join_eq (b :: l);rw [joinC, ← this];simp [Lib.join, List.intercalate]
theorem join_own (ss : List (List UInt8)) (v : Value) (w : World) (base : Nat) (h : w.ownsRow base 9 1 v ss.length (strsC ss)) (hlen : (joinC ss).length < 140737488355328) :
 Calls Tryz.prog 165 #[v, str [44]] w fun e w' => e = .returned (str (joinC ss)) ∧ Below w.heap.size w w' := by
 rcases h.2 with ⟨rfl, h0⟩ | ⟨g, cap, cur, rfl, hg, hh, h1, h2, h3, h4⟩
 · rw [List.length_eq_zero_iff] at h0
   subst h0;refine (Tryz.strings_Join_none none 0 ⟨#[44]⟩ w).mono ?_;rintro e w' ⟨rfl, rfl⟩;exact ⟨rfl, Below.refl _ _⟩
 · have hm : (ss.map fun s => (⟨s.toArray⟩ : ByteArray)).map (·.data.toList) = ss := by
    rw [List.map_map];exact (List.map_congr_left fun _ _ => rfl).trans (List.map_id ss)
   have hj : Lib.join ((ss.map fun s => (⟨s.toArray⟩ : ByteArray)).map (·.data.toList)) (⟨#[44]⟩ : ByteArray).data.toList = joinC ss := by
    rw [hm]; exact join_eq ss
   have hn : ss.length ≤ 140737488355328 := by
    have := joinC_len ss;omega
   have hcell := h.cells (g := g) rfl;have := Tryz.strings_Join g 0 cap (ss.map fun s => ⟨s.toArray⟩) ⟨#[44]⟩ w ?_ (Array.getElem?_eq_some_iff.1 hh).1 (by simpa using hn) (by simpa using h1) (by rw [hj]; omega)
   · rw [hj, List.length_map] at this
     exact this
   · intro j x hx
     rw [List.getElem?_map, Option.map_eq_some_iff] at hx;obtain ⟨s, hs, rfl⟩ := hx;have := hcell j (str s) (by simp [strsC, hs])
     rwa [show (⟨g, 0, none⟩ : Addr).add j = ⟨g, 0 + j, none⟩ from by unfold Addr.add; simp; omega] at this
end Go.Proofs.YtakgjcfkdemipaaGreatDoor
namespace Go.Proofs.YtakgjcfkdemipaaGreatDoor
open Go.RowKit
theorem Fo.put_cons (a : Tr) (pn : List UInt8) (k : Nat) (n : List UInt8) (sub rest : Fo) : (Fo.cons pn k n sub rest).put a = .cons pn ((Tr.mk k n sub).put a).k ((Tr.mk k n sub).put a).n ((Tr.mk k n sub).put a).sub (rest.put a) := by
 rw [Fo.put]
 unfold Tr.put
 split <;> rfl
def Fo.putTo (a : Tr) : Fo → Nat → Fo
 | fo, 0 => fo
 | .nil, _ + 1 => .nil
 | .cons pn k n sub rest, i + 1 => .cons pn ((Tr.mk k n sub).put a).k ((Tr.mk k n sub).put a).n ((Tr.mk k n sub).put a).sub (rest.putTo a i)
theorem Fo.putTo_all (a : Tr) : ∀ fo : Fo, fo.putTo a fo.len = fo.put a
 | .nil => rfl
 | .cons pn k n sub rest => by rw [Fo.len, Fo.putTo, Fo.putTo_all a rest, Fo.put_cons]
theorem Fo.putTo_len (a : Tr) : ∀ (fo : Fo) (i : Nat), (fo.putTo a i).len = fo.len
 | .nil, 0 => rfl
 | .nil, _ + 1 => rfl
 | .cons pn k n sub rest, 0 => rfl
 | .cons pn k n sub rest, i + 1 => by rw [Fo.putTo, Fo.len, Fo.putTo_len a rest i, Fo.len]
theorem Fo.putTo_at (a : Tr) : ∀ (fo : Fo) (i : Nat), (fo.putTo a i).at i = fo.at i
 | .nil, 0 => rfl
 | .nil, _ + 1 => rfl
 | .cons pn k n sub rest, 0 => rfl
 | .cons pn k n sub rest, i + 1 => by rw [Fo.putTo, Fo.at, Fo.putTo_at a rest i, Fo.at]
def Fo.setAt (t : Tr) : Fo → Nat → Fo
 | .nil, _ => .nil
 | .cons pn _ _ _ rest, 0 => .cons pn t.k t.n t.sub rest
 | .cons pn k n sub rest, i + 1 => .cons pn k n sub (rest.setAt t i)
theorem Fo.putTo_succ (a : Tr) : ∀ (fo : Fo) (i : Nat) (pn : List UInt8) (t : Tr), fo.at i = some (pn, t) → fo.putTo a (i + 1) = (fo.putTo a i).setAt (t.put a) i
 | .nil, _, _, _, h => by simp [Fo.at] at h
 | .cons pn' k n sub rest, 0, pn, t, h => by
  simp only [Fo.at, Option.some.injEq, Prod.mk.injEq] at h;obtain ⟨rfl, rfl⟩ := h;simp only [Fo.putTo, Fo.setAt]
 | .cons pn' k n sub rest, i + 1, pn, t, h => by
  rw [Fo.putTo, Fo.putTo_succ a rest i pn t h, Fo.putTo, Fo.setAt]
theorem FoC.setAt {w : World} {D : Nat → Prop} {t : Tr} {v : Value} (ht : FoV w D t.sub v) : ∀ (fo : Fo) (cs : List Value) (i : Nat), FoC w D fo cs → i < fo.len →
 FoC w D (fo.setAt t i) (((cs.set (i * 4 + 1) (.int .u8 t.k)).set (i * 4 + 2) (str t.n)).set (i * 4 + 3) v)
 | .nil, _, _, _, h => by simp [Fo.len] at h
 | .cons pn k n sub rest, _, 0, ⟨v', cs', sc, e, h1, h2, h3, h4⟩, _ => by
  obtain ⟨sc', g1, g2, g3⟩ := ht;rw [e];exact ⟨v, cs', sc', rfl, g1, g2, g3, h4⟩
 | .cons pn k n sub rest, _, i + 1, ⟨v', cs', sc, e, h1, h2, h3, h4⟩, hi => by
  have := FoC.setAt ht rest cs' i h4 (by simp only [Fo.len] at hi; omega);refine ⟨v', _, sc, ?_, h1, h2, h3, this⟩;rw [e];rw [show (i + 1) * 4 + 1 = (i * 4 + 1) + 1 + 1 + 1 + 1 from by omega, show (i + 1) * 4 + 2 = (i * 4 + 2) + 1 + 1 + 1 + 1 from by omega, show (i + 1) * 4 + 3 = (i * 4 + 3) + 1 + 1 + 1 + 1 from by omega];simp only [List.set_cons_succ]
def RowAt (wr : World) (base : Nat) (D : Nat → Prop) (fo : Fo) (v : Value) : Prop :=
 ∃ cs, wr.ownsRow base 192 4 v fo.len cs ∧ FoC wr (fun b => D b ∧ v.ownBlock ≠ some b) fo cs
theorem RowAt.kept {w w' : World} {base : Nat} {D : Nat → Prop} {fo : Fo} {v : Value} (h : RowAt w base D fo v) (hb : ∀ b, (D b ∨ base ≤ b) → b < w.heap.size → w'.heap[b]? = w.heap[b]?) : RowAt w' base D fo v := by
 obtain ⟨cs, h1, h2⟩ := h
 exact ⟨cs, ownsRow_of_block h1 (fun b e => hb b (.inr (h1.lt b e).1) (ownsRow_lt h1 e)), h2.kept fun b hb' hlt => hb b (.inl hb'.1) hlt⟩
theorem RowAt.below {B : Nat} {w w' : World} {base : Nat} {D : Nat → Prop} {fo : Fo} {v : Value} (h : RowAt w base D fo v) (hb : Below B w w') (hB : w.heap.size ≤ B) : RowAt w' base D fo v :=
 h.kept fun b _ hlt => hb.block b (by omega)
theorem RowAt.shape {w : World} {base : Nat} {D : Nat → Prop} {fo : Fo} {v : Value} (h : RowAt w base D fo v) : ∃ p c, v = .slice p fo.len c := by
 obtain ⟨cs, h1, h2⟩ := h
 exact row_shape h1
theorem RowAt.at {w : World} {base : Nat} {D : Nat → Prop} {fo : Fo} {v : Value} (h : RowAt w base D fo v) {i : Nat} (hi : i < fo.len) : ∃ g c pn t u, v = .slice (some ⟨g, 0, none⟩) fo.len c ∧ base ≤ g ∧ g < w.heap.size ∧ fo.at i = some (pn, t) ∧
 w.cell? ⟨g, i * 4, none⟩ = some (str pn) ∧ w.cell? ⟨g, i * 4 + 1, none⟩ = some (.int .u8 t.k) ∧ w.cell? ⟨g, i * 4 + 2, none⟩ = some (str t.n) ∧ w.cell? ⟨g, i * 4 + 3, none⟩ = some u ∧ FoV w (fun b => D b ∧ b ≠ g) t.sub u ∧ (∀ j, w.frozen? ⟨g, j, none⟩ = false) := by
 obtain ⟨cs, h1, h2⟩ := h
 obtain ⟨pn, t, u, a, b0, b1, b2, b3, c⟩ := h2.at fo cs i hi
 rcases h1.2 with ⟨rfl, hz⟩ | ⟨g, cap, cur, rfl, hb, hh, _, _⟩
 · omega
 · have hc : ∀ j x, cs[j]? = some x → w.cell? ⟨g, j, none⟩ = some x := by
    intro j x hx;have := h1.cells (g := g) rfl _ _ hx;simp only [Addr.add] at this;split at this
    · rename_i e; rw [e]; exact this
    · simpa using this
   exact ⟨g, cap, pn, t, u, rfl, hb, ownsRow_lt h1 rfl, a, hc _ _ b0, hc _ _ b1, hc _ _ b2, hc _ _ b3, c.mono (fun b hb _ => ⟨hb.1, fun e => hb.2 (by rw [e]; rfl)⟩), fun j => free_at hh j⟩
theorem RowAt.set {w : World} {base : Nat} {D : Nat → Prop} {fo : Fo} {g c : Nat} (h : RowAt w base D fo (.slice (some ⟨g, 0, none⟩) fo.len c)) {i : Nat} (hi : i < fo.len) {t : Tr} {v : Value} (ht : FoV w (fun b => D b ∧ b ≠ g) t.sub v) (_hn : base ≤ g) :
 RowAt (((w.setCell ⟨g, i * 4 + 1, none⟩ (.int .u8 t.k)).setCell ⟨g, i * 4 + 2, none⟩ (str t.n)).setCell ⟨g, i * 4 + 3, none⟩ v) base D (fo.setAt t i) (.slice (some ⟨g, 0, none⟩) fo.len c) := by
 obtain ⟨cs, h1, h2⟩ := h
 have hl : (fo.setAt t i).len = fo.len := by
  have : ∀ (fo : Fo) (i : Nat), (fo.setAt t i).len = fo.len := by
   intro fo
   induction fo with
   | nil => intro i; rfl
   | cons pn k n sub rest _ ih =>
    intro i;cases i with
    | zero => rfl
    | succ i => rw [Fo.setAt, Fo.len, ih, Fo.len]
  exact this fo i
 refine ⟨_, by rw [hl]; exact (((h1.stored (i * 4 + 1) (.int .u8 t.k)).1.stored (i * 4 + 2) (str t.n)).1.stored (i * 4 + 3) v).1, ?_⟩
 have h3 := FoC.setAt (t := t) (v := v) (ht.mono (D' := fun b => D b ∧ (Value.slice (some ⟨g, 0, none⟩) fo.len c).ownBlock ≠ some b) fun b hb _ => ⟨hb.1, fun e => hb.2 (by simpa [Value.ownBlock] using e.symm)⟩) fo cs i h2 hi
 refine h3.kept fun b hb _ => ?_
 have hne : b ≠ g := fun e => hb.2 (by rw [e]; rfl)
 rw [Below.heap_setCell _ _ _ _ hne, Below.heap_setCell _ _ _ _ hne, Below.heap_setCell _ _ _ _ hne]
end Go.Proofs.YtakgjcfkdemipaaGreatDoor
namespace Go.Proofs.YtakgjcfkdemipaaGreatDoor
open Go.RowKit
set_option maxRecDepth 4000 in
theorem catch_none (pb qb : Nat) (x0 x1 x2 y : Value) (tq : TypeId) (older : List PanicEntry) (w : World) (hP : w.heap[pb]? = some (.cells #[x0, x1, x2] 174 (0, 0))) (hQ : w.heap[qb]? = some (.cells #[y] tq (0, 0))) (hne : pb ≠ qb) :
 CallsD Tryz.prog 250 #[.pointer (some ⟨pb, 0, none⟩), .pointer (some ⟨qb, 0, none⟩)] (.panicking ({ v := .iface 250 (.agg #[]), recovered := false } :: older)) w fun e u' w' =>
  e = .returned (.tuple #[]) ∧ u' = .panicking ({ v := .iface 250 (.agg #[]), recovered := true } :: older) ∧ w' = ((((w.setCell ⟨pb, 0, none⟩ (.int .u8 0)).setCell ⟨pb, 1, none⟩ (str [])).setCell ⟨pb, 2, none⟩ (.slice none 0 0)).setCell ⟨qb, 0, none⟩ (.bool false)).alloc (.cells #[] 250) := by
 have hlP := (Array.getElem?_eq_some_iff.1 hP).1
 have hlQ := (Array.getElem?_eq_some_iff.1 hQ).1
 have c0 := (cells_at hP 0).trans rfl
 have c1 := (cells_at hP 1).trans rfl
 have c2 := (cells_at hP 2).trans rfl
 have d0 := (cells_at hQ 0).trans rfl
 have f0 := free_at hP 0
 have f1 := free_at hP 1
 have f2 := free_at hP 2
 have g0 := free_at hQ 0
 clear hP hQ
 have hta : ∀ w : World, Sem.run Tryz.prog (Instr.typeAssert (.iface 250 (.agg #[])) 20 250 true) w = .ok (.tuple #[.agg #[], .bool true]) w := fun _ => rfl
 refine callsD_of_wpS Tryz.func250 rfl fun c₀ cs hu => ?_
 apply wpS_seq
 apply wpS_region
 simp [wpOpsS, go_sem, recoverD, hu, Tryz.ntmps250, Exit.thenS]
 refine wpS_of_wp ?_
 simp only [List.replicate, Array.replicate, List.append_toArray, List.cons_append, List.nil_append, List.setIfInBounds_toArray, List.set_cons_zero, List.set_cons_succ]
 go_wp2
 exact ⟨rfl, _, rfl, _, by simp [results, Tryz.results250], rfl, rfl, rfl⟩
theorem catch_idle (pb qb : Nat) (w : World) :
 CallsD Tryz.prog 250 #[.pointer (some ⟨pb, 0, none⟩), .pointer (some ⟨qb, 0, none⟩)] .returning w fun e u' w' => e = .returned (.tuple #[]) ∧ u' = .returning ∧ w' = w := by
 refine callsD_of_wpS Tryz.func250 rfl fun c₀ cs hu => ?_
 apply wpS_seq
 apply wpS_region
 simp [wpOpsS, go_sem, recoverD, hu, Tryz.ntmps250, Exit.thenS]
 refine wpS_of_wp ?_
 simp only [List.replicate, Array.replicate, List.append_toArray, List.cons_append, List.nil_append, List.setIfInBounds_toArray, List.set_cons_zero, List.set_cons_succ]
 go_wp2
 exact ⟨rfl, _, by cases c₀; simp_all, _, by simp [results, Tryz.results250], rfl, rfl, rfl⟩
end Go.Proofs.YtakgjcfkdemipaaGreatDoor
