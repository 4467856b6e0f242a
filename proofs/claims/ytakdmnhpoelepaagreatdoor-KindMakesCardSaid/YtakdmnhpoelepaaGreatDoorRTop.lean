/-
  Contracts: the reference's Check, kind, Kind, Level, open, Open (argusref03), in the words of the program's contracts. Condition: the texts' length.
-/
import Derived.Test.YtakdmnhpoelepaaGreatDoorRParts
import Derived.Test.YtakdmnhpoelepaaGreatDoorKTop
namespace Go.Proofs.YtakdmnhpoelepaaGreatDoor
open Go.RowKit

/-- What the reader gives, where the text is short: the four ways of Check. -/
theorem refC (s : List UInt8) (hl : ¬ 100 < s.length) :
    (rdN s = 0 ∧ (checkK s).1 = 4) ∨ (0 < rdN s ∧ rdN s ≠ s.length ∧ (checkK s).1 = 4) ∨ (0 < rdN s ∧ rdN s = s.length ∧ 6 < rdL s ∧ (checkK s).1 = 2) ∨
    (0 < rdN s ∧ rdN s = s.length ∧ ¬ 6 < rdL s ∧ (checkK s).1 = 0 ∧ (checkK s).2.level = rdL s) := by
  unfold rdN rdL checkK
  rw [if_neg hl]
  rcases hp : parseT s with _ | ⟨t, r⟩
  · exact .inl ⟨rfl, rfl⟩
  · have hr := parseT_le hp
    cases r with
    | nil =>
      simp only [List.length_nil] at hr ⊢
      by_cases hv : 6 < t.level
      · rw [if_pos hv]; exact .inr (.inr (.inl ⟨by omega, by omega, hv, by simp⟩))
      · rw [if_neg hv]; exact .inr (.inr (.inr ⟨by omega, by omega, hv, by simp, by simp⟩))
    | cons c r =>
      simp only [List.length_cons] at hr ⊢
      exact .inr (.inl ⟨by omega, by omega, by simp⟩)
theorem checkK_long {s : List UInt8} (hl : 100 < s.length) : checkK s = (2, ⟨0, [], .nil⟩) := by unfold checkK; rw [if_pos hl]
theorem ret_i64 {a b : Int} (h : a = b) : Ending.returned (.int .i64 a) = .returned (.int .i64 b) := by rw [h]

set_option maxRecDepth 4000 in
set_option maxHeartbeats 3200000 in
theorem rcheck_any (s : List UInt8) (hm : s.length ≤ maxLen) (w : World) : Calls Tryz.prog 32 #[str s] w fun e w' => e = .returned (.int .i64 (checkK s).1) ∧ Below w.heap.size w w' := by
  unfold maxLen at hm
  by_cases hl : 100 < s.length
  · have HC := Lib.hid (show (checkK s).1 = 2 by rw [checkK_long hl])
    have hl' : (100 : Int) < (s.length : Int) := by omega
    clear hl
    go_enter Tryz.func32, Tryz.ntmps32
    go_wp2_with fail
    go_ret
    exact ⟨by rw [HC.out]; rfl, Below.refl _ _⟩
  · have hl' : ¬ (100 : Int) < (s.length : Int) := by omega
    have hc := refC s hl
    have hr := read_any s 0 w (Int.le_refl _) (by omega)
    generalize rdN s = N at hc hr
    generalize rdL s = L at hc hr
    clear hl
    rcases hc with ⟨h1, h2⟩ | ⟨h1, h2, h3⟩ | ⟨h1, h2, h3, h4⟩ | ⟨h1, h2, h3, h4, _⟩
    · have HC := Lib.hid h2
      subst h1
      clear h2
      go_enter Tryz.func32, Tryz.ntmps32
      go_wp2_with (go_at_call 56; refine hr.mono ?_; clear hr; rintro e w1 ⟨rfl, hb1⟩)
      go_ret
      exact ⟨by rw [HC.out]; rfl, hb1⟩
    · have HC := Lib.hid h3
      have g1 : ((N : Int) == 0) = false := by rw [beq_eq_false_iff_ne]; omega
      have g2 : ((N : Int) != (s.length : Int)) = true := by rw [bne_iff_ne]; omega
      clear h1 h2 h3
      go_enter Tryz.func32, Tryz.ntmps32
      go_wp2_with (go_at_call 56; refine hr.mono ?_; clear hr; rintro e w1 ⟨rfl, hb1⟩)
      go_ret
      exact ⟨by rw [HC.out]; rfl, hb1⟩
    · have HC := Lib.hid h4
      have g1 : ((N : Int) == 0) = false := by rw [beq_eq_false_iff_ne]; omega
      have g2 : ((N : Int) != (s.length : Int)) = false := by rw [h2]; simp
      have g3 : (6 : Int) < (L : Int) := by omega
      clear h1 h2 h3 h4
      go_enter Tryz.func32, Tryz.ntmps32
      go_wp2_with (go_at_call 56; refine hr.mono ?_; clear hr; rintro e w1 ⟨rfl, hb1⟩)
      go_ret
      exact ⟨by rw [HC.out]; rfl, hb1⟩
    · have HC := Lib.hid h4
      have g1 : ((N : Int) == 0) = false := by rw [beq_eq_false_iff_ne]; omega
      have g2 : ((N : Int) != (s.length : Int)) = false := by rw [h2]; simp
      have g3 : ¬ (6 : Int) < (L : Int) := by omega
      clear h1 h2 h3 h4
      go_enter Tryz.func32, Tryz.ntmps32
      go_wp2_with (go_at_call 56; refine hr.mono ?_; clear hr; rintro e w1 ⟨rfl, hb1⟩)
      go_ret
      exact ⟨by rw [HC.out]; rfl, hb1⟩

/-- The kind of a text that is a type, by its first word. -/
def kindT (s : List UInt8) : Nat :=
  if s.take (cutN s) = [] then 8 else if s.take (cutN s) = wInt then 1 else if s.take (cutN s) = wBool then 2 else if s.take (cutN s) = wNull then 3 else if s.take (cutN s) = wArray then 4 else if s.take (cutN s) = wRecord then 5 else if s.take (cutN s) = wOneof then 6 else 7
theorem kindT_word {w r : List UInt8} (hw : cutN w = w.length) (hr : cutN r = 0) : kindT (w ++ r) = if w = [] then 8 else if w = wInt then 1 else if w = wBool then 2 else if w = wNull then 3 else if w = wArray then 4 else if w = wRecord then 5 else if w = wOneof then 6 else 7 := by
  unfold kindT
  rw [(cutN_word hw hr).1]
theorem br_cut (fo : Fo) : cutN fo.br = 0 := by cases fo <;> simp [Fo.br, cutN_cons, alnum, show cutN [] = 0 from rfl]
theorem name_kinds {n : List UInt8} (h : isName n = true) : n ≠ [] ∧ n ≠ wInt ∧ n ≠ wBool ∧ n ≠ wNull ∧ n ≠ wArray ∧ n ≠ wRecord ∧ n ≠ wOneof := by
  refine ⟨name_ne h, ?_, ?_, ?_, ?_, ?_, ?_⟩ <;> (rintro rfl; revert h; decide)
theorem kindT_name {n r : List UInt8} (h : isName n = true) (hr : cutN r = 0) : kindT (n ++ r) = 7 := by
  obtain ⟨h1, h2, h3, h4, h5, h6, h7⟩ := name_kinds h
  rw [kindT_word (name_cut h) hr, if_neg h1, if_neg h2, if_neg h3, if_neg h4, if_neg h5, if_neg h6, if_neg h7]
theorem Tr.ok.kindT {t : Tr} (h : t.ok) : kindT t.txt = t.k := by
  obtain ⟨k, n, sub⟩ := t
  have h' : Wf none (.cons [] k n sub .nil) := h
  clear h
  rw [Tr.txt_eq, Fo.one, Fo.tx_one]
  cases h' with
  | par => rfl
  | word _ h3 => rcases h3 with rfl | rfl | rfl <;> rfl
  | arr a h => rw [show wordK 4 wArray = wArray from rfl, kindT_word (by decide) (br_cut _)]; rfl
  | rcd k w fo hk h hl =>
    rcases hk with ⟨rfl, rfl⟩ | ⟨rfl, rfl⟩
    · rw [show wordK 5 wRecord = wRecord from rfl, kindT_word (by decide) (br_cut _)]; rfl
    · rw [show wordK 6 wOneof = wOneof from rfl, kindT_word (by decide) (br_cut _)]; rfl
  | nam n hn => rw [show wordK 7 n = n from rfl]; exact kindT_name hn (br_cut _)
  | app n a hn h => rw [show wordK 7 n = n from rfl]; exact kindT_name hn (br_cut _)

set_option maxRecDepth 4000 in
set_option maxHeartbeats 3200000 in
theorem rkind0_any (s : List UInt8) (hm : s.length ≤ maxLen) (w : World) : Calls Tryz.prog 63 #[str s] w fun e w' => e = .returned (.int .u8 (kindT s)) ∧ w = w' := by
  have hle := cutN_le s
  have hh := hm
  unfold maxLen at hh
  have HK : ∀ k : Nat, kindT s = k → Hid (kindT s = k) := fun _ h => h
  have hk : ∀ x, s.take (cutN s) = x → kindT s = if x = [] then 8 else if x = wInt then 1 else if x = wBool then 2 else if x = wNull then 3 else if x = wArray then 4 else if x = wRecord then 5 else if x = wOneof then 6 else 7 := by intro x h; unfold kindT; rw [h]
  rcases hx : s.take (cutN s) with _ | ⟨c0, x0⟩
  · have HE := HK _ (hk _ hx)
    clear hk HK
    go_enter Tryz.func63, Tryz.ntmps63
    go_wp2_with (go_at_call 59; refine (cut_any _ _ hm).mono ?_; rintro e w1 ⟨rfl, rfl⟩)
    go_ret
    exact ⟨by rw [HE.out]; rfl, rfl⟩
  · generalize hX : c0 :: x0 = X at hx
    have hne : (X == []) = false := by rw [← hX]; rfl
    have hX0 : X ≠ [] := by rw [← hX]; simp
    clear hX c0 x0
    have HE := HK _ (hk _ hx)
    rw [if_neg hX0] at HE
    clear hk HK hX0
    by_cases h1 : X = [105, 110, 116]
    · subst h1
      go_enter Tryz.func63, Tryz.ntmps63
      go_wp2_with (go_at_call 59; refine (cut_any _ _ hm).mono ?_; rintro e w1 ⟨rfl, rfl⟩)
      go_ret
      exact ⟨by rw [HE.out]; rfl, rfl⟩
    by_cases h2 : X = [98, 111, 111, 108]
    · subst h2
      go_enter Tryz.func63, Tryz.ntmps63
      go_wp2_with (go_at_call 59; refine (cut_any _ _ hm).mono ?_; rintro e w1 ⟨rfl, rfl⟩)
      go_ret
      exact ⟨by rw [HE.out]; rfl, rfl⟩
    by_cases h3 : X = [110, 117, 108, 108]
    · subst h3
      go_enter Tryz.func63, Tryz.ntmps63
      go_wp2_with (go_at_call 59; refine (cut_any _ _ hm).mono ?_; rintro e w1 ⟨rfl, rfl⟩)
      go_ret
      exact ⟨by rw [HE.out]; rfl, rfl⟩
    by_cases h4 : X = [97, 114, 114, 97, 121]
    · subst h4
      go_enter Tryz.func63, Tryz.ntmps63
      go_wp2_with (go_at_call 59; refine (cut_any _ _ hm).mono ?_; rintro e w1 ⟨rfl, rfl⟩)
      go_ret
      exact ⟨by rw [HE.out]; rfl, rfl⟩
    by_cases h5 : X = [114, 101, 99, 111, 114, 100]
    · subst h5
      go_enter Tryz.func63, Tryz.ntmps63
      go_wp2_with (go_at_call 59; refine (cut_any _ _ hm).mono ?_; rintro e w1 ⟨rfl, rfl⟩)
      go_ret
      exact ⟨by rw [HE.out]; rfl, rfl⟩
    by_cases h6 : X = [111, 110, 101, 111, 102]
    · subst h6
      go_enter Tryz.func63, Tryz.ntmps63
      go_wp2_with (go_at_call 59; refine (cut_any _ _ hm).mono ?_; rintro e w1 ⟨rfl, rfl⟩)
      go_ret
      exact ⟨by rw [HE.out]; rfl, rfl⟩
    rw [show wInt = [105, 110, 116] from rfl, if_neg h1, show wBool = [98, 111, 111, 108] from rfl, if_neg h2, show wNull = [110, 117, 108, 108] from rfl, if_neg h3, show wArray = [97, 114, 114, 97, 121] from rfl, if_neg h4, show wRecord = [114, 101, 99, 111, 114, 100] from rfl, if_neg h5, show wOneof = [111, 110, 101, 111, 102] from rfl, if_neg h6] at HE
    have g1 := beq_f h1
    have g2 := beq_f h2
    have g3 := beq_f h3
    have g4 := beq_f h4
    have g5 := beq_f h5
    have g6 := beq_f h6
    clear h1 h2 h3 h4 h5 h6
    go_enter Tryz.func63, Tryz.ntmps63
    go_wp2_with (go_at_call 59; refine (cut_any _ _ hm).mono ?_; rintro e w1 ⟨rfl, rfl⟩)
    go_ret
    exact ⟨by rw [HE.out]; rfl, rfl⟩

/-- The kind of a checked text. -/
theorem checkK_kind {s : List UInt8} (h : (checkK s).1 = 0) : kindT s = (checkK s).2.k := by
  rcases hq : checkK s with ⟨c, T⟩
  rw [hq] at h
  simp only at h
  subst h
  obtain ⟨h1, h2, _, _⟩ := checkK_ok hq
  rw [← h2, h1.kindT]
theorem checkK_kind0 {s : List UInt8} (h : (checkK s).1 ≠ 0) : (checkK s).2.k = 0 := by
  rcases hq : checkK s with ⟨c, T⟩
  rw [hq] at h
  rw [(checkK_bad hq h).2]
set_option maxRecDepth 4000 in
set_option maxHeartbeats 3200000 in
theorem rkind_any (s : List UInt8) (hm : s.length ≤ maxLen) (w : World) : Calls Tryz.prog 29 #[str s] w fun e w' => e = .returned (.tuple #[.int .u8 (checkK s).2.k, .int .i64 (checkK s).1]) ∧ Below w.heap.size w w' := by
  have hC := rcheck_any s hm w
  have hk := @checkK_kind s
  have hk0 := @checkK_kind0 s
  generalize (checkK s).1 = C at hC hk hk0 ⊢
  generalize (checkK s).2.k = K at hk hk0 ⊢
  by_cases hc : C = 0
  · subst hc
    have HK := Lib.hid (hk rfl)
    clear hk hk0
    go_enter Tryz.func29, Tryz.ntmps29
    go_wp2_with (first
      | (go_at_call 32; refine hC.mono ?_; clear hC; rintro e w1 ⟨rfl, hb1⟩)
      | (go_at_call 63; refine (rkind0_any s hm _).mono ?_; rintro e w2 ⟨rfl, rfl⟩))
    go_ret2
    exact ⟨by rw [HK.out]; rfl, hb1⟩
  · obtain rfl := hk0 hc
    obtain ⟨g1, g2⟩ := nat_ne0 hc
    clear hc hk hk0
    go_enter Tryz.func29, Tryz.ntmps29
    go_wp2_with (go_at_call 32; refine hC.mono ?_; clear hC; rintro e w1 ⟨rfl, hb1⟩)
    go_ret2
    exact ⟨rfl, hb1⟩
set_option maxRecDepth 4000 in
set_option maxHeartbeats 3200000 in
theorem rlevel_any (s : List UInt8) (hm : s.length ≤ maxLen) (w : World) : Calls Tryz.prog 30 #[str s] w fun e w' => e = .returned (.tuple #[.int .i64 (levelK s), .int .i64 (checkK s).1]) ∧ Below w.heap.size w w' := by
  have hC := rcheck_any s hm w
  by_cases hc : (checkK s).1 = 0
  · have hl : ¬ 100 < s.length := by intro h; rw [checkK_long h] at hc; simp at hc
    have hv : levelK s = rdL s := by
      unfold levelK
      rw [if_pos hc]
      rcases refC s hl with h | h | h | h
      · omega
      · omega
      · omega
      · exact h.2.2.2.2
    have hr := fun W => read_any s 0 W (Int.le_refl _) (by omega)
    have HV := Lib.hid hv
    rw [hc] at hC ⊢
    clear hc hv
    go_enter Tryz.func30, Tryz.ntmps30
    go_wp2_with (first
      | (go_at_call 32; refine hC.mono ?_; clear hC; rintro e w1 ⟨rfl, hb1⟩)
      | (go_at_call 56; refine (hr _).mono ?_; clear hr; rintro e w2 ⟨rfl, hb2⟩))
    go_ret2
    exact ⟨by rw [HV.out]; rfl, hb1.trans (hb2.mono hb1.size)⟩
  · have HL := Lib.hid (show levelK s = 0 by unfold levelK; rw [if_neg hc])
    generalize (checkK s).1 = C at hC hc ⊢
    obtain ⟨g1, g2⟩ := nat_ne0 hc
    clear hc
    go_enter Tryz.func30, Tryz.ntmps30
    go_wp2_with (go_at_call 32; refine hC.mono ?_; clear hC; rintro e w1 ⟨rfl, hb1⟩)
    go_ret2
    exact ⟨by rw [HL.out]; rfl, hb1⟩

theorem hasQ_step {s : List UInt8} {k : Nat} (hk : k < s.length) (h : hasQ s = hasQ (s.drop k)) (hc : s[k] ≠ 63) : hasQ s = hasQ (s.drop (k + 1)) := by
  rw [h, List.drop_eq_getElem_cons hk, hasQ_cons _ _ hc]
theorem hasQ_hit {s : List UInt8} {k : Nat} (hk : k < s.length) (h : hasQ s = hasQ (s.drop k)) (hc : s[k] = 63) : hasQ s = true := by
  rw [h, List.drop_eq_getElem_cons hk]
  simp [hasQ, hc]
set_option maxRecDepth 4000 in
set_option maxHeartbeats 3200000 in
theorem ropen0_any (s : List UInt8) (hm : s.length ≤ maxLen) (w : World) : Calls Tryz.prog 55 #[str s] w fun e w' => e = .returned (.bool (hasQ s)) ∧ w = w' := by
  unfold maxLen at hm
  go_enter Tryz.func55, Tryz.ntmps55
  go_wp2_with fail
  go_loop [3] (fun i => ∃ k : Nat, k ≤ s.length ∧ Hid (hasQ s = hasQ (s.drop k)) ∧ i = .int .i64 k) (fun i => s.length - (intOf i).toNat)
  case atStart => exact ⟨0, by omega, rfl, rfl⟩
  case round =>
    obtain ⟨k, hk, HN, rfl⟩ := hrel
    by_cases hlt : k < s.length
    · by_cases hc : s[k] = 63
      · have HS := Lib.hid (hasQ_hit hlt HN.out hc)
        have g : (((s[k]).toNat : Int) == 63) = true := by rw [hc]; rfl
        clear hc
        go_wp2_with fail
        go_ret
        exact ⟨ret_bool HS.out.symm, rfl⟩
      · have HS := Lib.hid (hasQ_step hlt HN.out hc)
        have g : (((s[k]).toNat : Int) == 63) = false := by rw [beq_eq_false_iff_ne]; exact u8_ne (d := 63) hc
        clear hc
        go_wp2_with fail
        go_round
        case rel => exact ⟨k + 1, by omega, HS.out, by go_num⟩
        case measure => simp [intOf]; omega
    · have HS := Lib.hid (show hasQ s = false by rw [HN.out, List.drop_of_length_le (by omega)]; rfl)
      go_wp2_with fail
      go_ret
      exact ⟨ret_bool HS.out.symm, rfl⟩
theorem openK_hasQ {s : List UInt8} (h : (checkK s).1 = 0) : openK s = hasQ s := by
  rcases hq : checkK s with ⟨c, T⟩
  have h' := h
  rw [hq] at h'
  simp only at h'
  subst h'
  obtain ⟨h1, h2, _, _⟩ := checkK_ok hq
  unfold openK
  rw [if_pos h, hq, ← h2, h1.hasQ]
set_option maxRecDepth 4000 in
set_option maxHeartbeats 3200000 in
theorem ropen_any (s : List UInt8) (hm : s.length ≤ maxLen) (w : World) : Calls Tryz.prog 31 #[str s] w fun e w' => e = .returned (.tuple #[.bool (openK s), .int .i64 (checkK s).1]) ∧ Below w.heap.size w w' := by
  have hC := rcheck_any s hm w
  have hO := fun W => ropen0_any s hm W
  have hk := @openK_hasQ s
  have hk0 : (checkK s).1 ≠ 0 → openK s = false := fun h => by unfold openK; rw [if_neg h]
  generalize (checkK s).1 = C at hC hk hk0 ⊢
  generalize openK s = O at hk hk0 ⊢
  by_cases hc : C = 0
  · subst hc
    obtain rfl := hk rfl
    clear hk hk0
    generalize hasQ s = O at hO ⊢
    cases O
    all_goals
      go_enter Tryz.func31, Tryz.ntmps31
      go_wp2_with (first
        | (go_at_call 32; refine hC.mono ?_; clear hC; rintro e w1 ⟨rfl, hb1⟩)
        | (go_at_call 55; refine (hO _).mono ?_; clear hO; rintro e w2 ⟨rfl, rfl⟩))
      go_ret2
      exact ⟨rfl, hb1⟩
  · obtain rfl := hk0 hc
    obtain ⟨g1, g2⟩ := nat_ne0 hc
    clear hc hk hk0
    go_enter Tryz.func31, Tryz.ntmps31
    go_wp2_with (go_at_call 32; refine hC.mono ?_; clear hC; rintro e w1 ⟨rfl, hb1⟩)
    go_ret2
    exact ⟨rfl, hb1⟩
end Go.Proofs.YtakdmnhpoelepaaGreatDoor
