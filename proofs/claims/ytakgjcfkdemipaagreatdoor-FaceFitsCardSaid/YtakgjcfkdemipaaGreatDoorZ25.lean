/-
  Contracts: the reference reads a type and parts, whole (argusref03.read, argusref03.parts). Condition: the text's length and the depth are small.
-/
import Derived.Test.YtakgjcfkdemipaaGreatDoorZn
import Derived.Test.YtakgjcfkdemipaaGreatDoorZ0
import Derived.Test.YtakgjcfkdemipaaGreatDoorZ4
namespace Go.Proofs.YtakgjcfkdemipaaGreatDoor
open Go.RowKit
theorem ptR_zero (L : Nat) (b u : List UInt8) : ptR 0 L b u = none := by
 unfold ptR
 split
 · rename_i fo r e
   have := parseP_len e;rw [if_neg (by omega)]
 · rfl
theorem ptR_of_none {m L : Nat} {b u : List UInt8} (h : parseP b u = none) : ptR m L b u = none := by unfold ptR; rw [h]
theorem pt_cases (m L : Nat) (b u : List UInt8) (hm : 1 ≤ m) :
 (isName (u.take (cutN u)) = false ∧ ptR m L b u = none) ∨
 (isName (u.take (cutN u)) = true ∧ Op.bytesLess b (u.take (cutN u)) = false ∧ ptR m L b u = none) ∨
 (isName (u.take (cutN u)) = true ∧ Op.bytesLess b (u.take (cutN u)) = true ∧ u.length ≤ cutN u ∧ ptR m L b u = none) ∨
 (isName (u.take (cutN u)) = true ∧ Op.bytesLess b (u.take (cutN u)) = true ∧ ∃ h : cutN u < u.length, u[cutN u] ≠ 58 ∧ ptR m L b u = none) ∨
 (isName (u.take (cutN u)) = true ∧ Op.bytesLess b (u.take (cutN u)) = true ∧ ∃ h : cutN u < u.length, u[cutN u] = 58 ∧
  ((rdN (u.drop (cutN u + 1)) = 0 ∧ ptR m L b u = none) ∨
   (0 < rdN (u.drop (cutN u + 1)) ∧ u.length ≤ cutN u + 1 + rdN (u.drop (cutN u + 1)) ∧ ptR m L b u = none) ∨
   (0 < rdN (u.drop (cutN u + 1)) ∧ ∃ h2 : cutN u + 1 + rdN (u.drop (cutN u + 1)) < u.length,
    ((u[cutN u + 1 + rdN (u.drop (cutN u + 1))] = 93 ∧ ptR m L b u = some (u.drop (cutN u + 1 + rdN (u.drop (cutN u + 1)) + 1), max L (rdL (u.drop (cutN u + 1))))) ∨
     (u[cutN u + 1 + rdN (u.drop (cutN u + 1))] = 44 ∧ ptR m L b u = ptR (m - 1) (max L (rdL (u.drop (cutN u + 1)))) (u.take (cutN u)) (u.drop (cutN u + 1 + rdN (u.drop (cutN u + 1)) + 1))) ∨
     (u[cutN u + 1 + rdN (u.drop (cutN u + 1))] ≠ 93 ∧ u[cutN u + 1 + rdN (u.drop (cutN u + 1))] ≠ 44 ∧ ptR m L b u = none))))) := by
 cases h1 : isName (u.take (cutN u))
 · exact .inl ⟨rfl, ptR_of_none (parseP_bad (by simp [h1]))⟩
 refine .inr ?_
 cases h2 : Op.bytesLess b (u.take (cutN u))
 · exact .inl ⟨rfl, rfl, ptR_of_none (parseP_bad (by simp [h2]))⟩
 refine .inr ?_
 rcases behind u with ⟨hb, hb2⟩ | ⟨hb, hb2⟩
 · exact .inl ⟨rfl, rfl, by omega, ptR_of_none (parseP_colon (by rw [hb2]; intro r; simp))⟩
 refine .inr ?_
 by_cases hc : u[cutN u] = 58
 · refine .inr ⟨rfl, rfl, hb, hc, ?_⟩
   rw [hc] at hb2;have e := parseP_ok h1 h2 hb2;have hul : (u.drop (cutN u + 1)).length = u.length - (cutN u + 1) := by simp
   generalize hu2 : u.drop (cutN u + 1) = u2 at *;cases hq : parseT u2 with
   | none =>
    rw [hq] at e;exact .inl ⟨by unfold rdN; rw [hq], ptR_of_none e⟩
   | some x =>
    obtain ⟨t, r⟩ := x;have hr := parseT_le hq;have hdr := parseT_drop hq;have hn : rdN u2 = u2.length - r.length := by unfold rdN; rw [hq]
    have hL : rdL u2 = t.level := by unfold rdL; rw [hq]
    have hsr : u.drop (cutN u + 1 + rdN u2) = r := by rw [← List.drop_drop, hu2, hn, hdr]
    rw [hq] at e;dsimp only at e;cases r with
    | nil =>
     refine .inr (.inl ⟨by omega, by simp at hn; omega, ?_⟩);unfold ptR; rw [e]
    | cons c r =>
     simp only [List.length_cons] at hn hr;have hlt : cutN u + 1 + rdN u2 < u.length := by omega
     have hds := List.drop_eq_getElem_cons hlt;rw [hsr] at hds;injection hds with hget hrest;refine .inr (.inr ⟨by omega, hlt, ?_⟩);rw [← hget, ← hrest, hL]
     by_cases h93 : c = 93
     · subst h93
       refine .inl ⟨rfl, ?_⟩;unfold ptR; rw [e];simp [Fo.len, Fo.level, Tr.level];omega
     · by_cases h44 : c = 44
       · subst h44
         refine .inr (.inl ⟨rfl, ?_⟩)
         replace e : parseP b u = (match parseP (u.take (cutN u)) r with
          | some (fo, r3) => some (.cons (u.take (cutN u)) t.k t.n t.sub fo, r3)
          | none => none) := e
         unfold ptR;cases hp : parseP (u.take (cutN u)) r with
         | none => rw [hp] at e; rw [e]
         | some y =>
          obtain ⟨fo, r3⟩ := y;rw [hp] at e;rw [e];rcases r3 with _ | ⟨c3, r3⟩
          · rfl
          · by_cases hc3 : c3 = 93
            · subst hc3
              show (if (Fo.cons (u.take (cutN u)) t.k t.n t.sub fo).len ≤ m then some (r3, max L (Fo.cons (u.take (cutN u)) t.k t.n t.sub fo).level) else none) = if fo.len ≤ m - 1 then some (r3, max (max L t.level) fo.level) else none
              have e1 : (Fo.cons (u.take (cutN u)) t.k t.n t.sub fo).len = fo.len + 1 := rfl;have e2 : (Fo.cons (u.take (cutN u)) t.k t.n t.sub fo).level = max (t.level) fo.level := rfl
              by_cases hle : fo.len + 1 ≤ m
              · rw [if_pos (by rw [e1]; exact hle), if_pos (by omega), e2]
                simp
              · rw [if_neg (by rw [e1]; exact hle), if_neg (by omega)]
            · split
              · rename_i h; simp only [Option.some.injEq, Prod.mk.injEq, List.cons.injEq] at h; exact absurd h.2.1 hc3
              · split
                · rename_i h; simp only [Option.some.injEq, Prod.mk.injEq, List.cons.injEq] at h; exact absurd h.2.1 hc3
                · rfl
       · refine .inr (.inr ⟨h93, h44, ?_⟩)
         have e' : parseP b u = some (.cons (u.take (cutN u)) t.k t.n t.sub .nil, c :: r) := by
          rw [e];split
          · rename_i h; injection h with h _; exact absurd h h44
          · rfl
         unfold ptR;rw [e'];split
         · rename_i h; simp only [Option.some.injEq, Prod.mk.injEq, List.cons.injEq] at h; exact absurd h.2.1 h93
         · rfl
 · exact .inl ⟨rfl, rfl, hb, hc, ptR_of_none (parseP_colon (by intro r e; rw [hb2] at e; injection e with e1 _; exact hc e1))⟩
theorem ret_two' {a b : Int} {c d : Nat} (h : a = c) (h' : b = d) : Ending.returned (.tuple #[.int .i64 a, .int .i64 b]) = .returned (.tuple #[.int .i64 c, .int .i64 d]) := by rw [h, h']
theorem int_eq {a b : Int} (h : a = b) : Value.int .i64 a = .int .i64 b := by rw [h]
theorem pt_cases' (s : List UInt8) (k m L : Nat) (b : List UInt8) (hm : 1 ≤ m) (hk : k ≤ s.length) : ∃ (c : Nat) (w0 : List UInt8) (M Lv : Nat), cutN (s.drop k) = c ∧ List.drop k (List.take (k + c) s) = w0 ∧ w0.length = c ∧ k + c ≤ s.length ∧
 rdN (s.drop (k + c + 1)) = M ∧ rdL (s.drop (k + c + 1)) = Lv ∧
 ((isName w0 = false ∧ ptR m L b (s.drop k) = none) ∨
  (isName w0 = true ∧ Op.bytesLess b w0 = false ∧ ptR m L b (s.drop k) = none) ∨
  (isName w0 = true ∧ Op.bytesLess b w0 = true ∧ s.length ≤ k + c ∧ ptR m L b (s.drop k) = none) ∨
  (isName w0 = true ∧ Op.bytesLess b w0 = true ∧ ∃ h : k + c < s.length, s[k + c] ≠ 58 ∧ ptR m L b (s.drop k) = none) ∨
  (isName w0 = true ∧ Op.bytesLess b w0 = true ∧ ∃ h : k + c < s.length, s[k + c] = 58 ∧
   ((M = 0 ∧ ptR m L b (s.drop k) = none) ∨
    (0 < M ∧ s.length ≤ k + c + 1 + M ∧ ptR m L b (s.drop k) = none) ∨
    (0 < M ∧ ∃ h2 : k + c + 1 + M < s.length,
     ((s[k + c + 1 + M] = 93 ∧ ptR m L b (s.drop k) = some (s.drop (k + c + 1 + M + 1), max L Lv)) ∨
      (s[k + c + 1 + M] = 44 ∧ ptR m L b (s.drop k) = ptR (m - 1) (max L Lv) w0 (s.drop (k + c + 1 + M + 1))) ∨
      (s[k + c + 1 + M] ≠ 93 ∧ s[k + c + 1 + M] ≠ 44 ∧ ptR m L b (s.drop k) = none)))))) := by
 have hu : (s.drop k).length = s.length - k := by simp
 have hcle := cutN_le (s.drop k)
 have hnm : List.drop k (List.take (k + cutN (s.drop k)) s) = List.take (cutN (s.drop k)) (s.drop k) := by
  rw [List.drop_take]; congr 1; omega
 have hwl : (List.take (cutN (s.drop k)) (s.drop k)).length = cutN (s.drop k) := by simp; omega
 refine ⟨_, _, _, _, rfl, rfl, by rw [hnm]; exact hwl, by omega, rfl, rfl, ?_⟩
 rw [hnm]
 have hc := pt_cases m L b (s.drop k) hm
 simp only [List.drop_drop, hu, List.getElem_drop] at hc
 simp only [← Nat.add_assoc] at hc
 rcases hc with h | h | ⟨h1, h2, h3, h4⟩ | ⟨h1, h2, h3, h4⟩ | ⟨h1, h2, h3, h4, h5⟩
 · exact .inl h
 · exact .inr (.inl h)
 · exact .inr (.inr (.inl ⟨h1, h2, by omega, h4⟩))
 · exact .inr (.inr (.inr (.inl ⟨h1, h2, by omega, h4⟩)))
 · refine .inr (.inr (.inr (.inr ⟨h1, h2, by omega, h4, ?_⟩)))
   rcases h5 with h5 | ⟨h5, h6, h7⟩ | ⟨h5, h6, h7⟩
   · exact .inl h5
   · exact .inr (.inl ⟨h5, by omega, h7⟩)
   · exact .inr (.inr ⟨h5, by omega, h7⟩)
theorem u8_ne {c d : UInt8} (h : c ≠ d) : (c.toNat : Int) ≠ (d.toNat : Int) := fun e => h (UInt8.toNat_inj.1 (by omega))
set_option maxRecDepth 100000 in
set_option maxHeartbeats 6400000 in
theorem parts_step (s : List UInt8) (ih : ∀ s', s'.length < s.length → ReadOk s') : PartsOk s := by
 intro deep w hd0 hd
 have hm : s.length ≤ maxLen := by unfold maxLen; omega
 go_enter Tryz.func202, Tryz.ntmps202
 go_wp2_with fail
 go_loopw [6, 7, 8, 9] (fun a l b m wr => ∃ (k L : Nat) (bf : List UInt8) (n : Nat), k ≤ s.length ∧ L ≤ s.length ∧ n ≤ 6 ∧ a = .int .i64 k ∧ l = .int .i64 L ∧ b = str bf ∧ m = .int .i64 (n + 1) ∧ Hid (ptR 6 0 [] s = ptR (6 - n) L bf (s.drop k)) ∧ Below w.heap.size w wr)
  (fun _ _ _ m _ => 7 - (intOf m).toNat)
 case atStart => exact ⟨0, 0, [], 0, by omega, by omega, by omega, rfl, rfl, rfl, rfl, rfl, Below.refl _ _⟩
 case round =>
  obtain ⟨k, L, bf, n, hk, hL, hn, rfl, rfl, rfl, rfl, HR, hnx⟩ := hrel
  by_cases hn6 : n = 6
  · subst hn6
    have HZ : Hid (ptN s = 0 ∧ ptL s = 0) := ptR_none (by rw [HR.out]; exact ptR_zero _ _ _);go_wp2_with fail;go_ret2;exact ⟨ret_two HZ.out.1.symm HZ.out.2.symm, hnx⟩
  · have hn5 : n ≤ 5 := by omega
    clear hn6 hn;obtain ⟨c, w0, M, Lv, hcut, hnm, hw, hkc, hM, hLv, hcs⟩ := pt_cases' s k (6 - n) L bf (by omega) hk;have HW := Lib.hid hw;have HS : Hid ((s.drop (k + c + 1)).length = s.length - (k + c + 1)) := by show _ = _; simp
    have hLl : Lv ≤ s.length := by have := rdL_le (s.drop (k + c + 1)); rw [hLv, HS.out] at this; omega
    have hMl : M ≤ s.length := by have := rdN_le (s.drop (k + c + 1)); rw [hM, HS.out] at this; omega
    clear hw;rcases hcs with ⟨hname, hz⟩ | ⟨hname, hless, hz⟩ | ⟨hname, hless, hlen, hz⟩ | ⟨hname, hless, hlt, hch, hz⟩ | ⟨hname, hless, hlt, hch, hcs⟩
    · clear hM hLv
      have HZ : Hid (ptN s = 0 ∧ ptL s = 0) := ptR_none (by rw [HR.out]; exact hz);clear hz HR;go_wp2_with (first | (go_at_call 162; refine (cut_any _ _ (by simp; unfold maxLen; omega)).mono ?_; rintro e w1 ⟨rfl, rfl⟩) | (go_at_call 87; refine (rIsName_any _ _ (by rw [HW.out]; unfold maxLen; omega)).mono ?_; rintro e w1 ⟨rfl, hb1⟩));go_ret2;exact ⟨ret_two HZ.out.1.symm HZ.out.2.symm, hnx.trans (hb1.mono hnx.size)⟩
    · clear hM hLv
      have hl2 := less_total _ _ hless;clear hless;have HZ : Hid (ptN s = 0 ∧ ptL s = 0) := ptR_none (by rw [HR.out]; exact hz);clear hz HR;go_wp2_with (first | (go_at_call 162; refine (cut_any _ _ (by simp; unfold maxLen; omega)).mono ?_; rintro e w1 ⟨rfl, rfl⟩) | (go_at_call 87; refine (rIsName_any _ _ (by rw [HW.out]; unfold maxLen; omega)).mono ?_; rintro e w1 ⟨rfl, hb1⟩));go_ret2;exact ⟨ret_two HZ.out.1.symm HZ.out.2.symm, hnx.trans (hb1.mono hnx.size)⟩
    · clear hM hLv
      have hl2 := less_not _ _ hless;clear hless;have HZ : Hid (ptN s = 0 ∧ ptL s = 0) := ptR_none (by rw [HR.out]; exact hz);clear hz HR;go_wp2_with (first | (go_at_call 162; refine (cut_any _ _ (by simp; unfold maxLen; omega)).mono ?_; rintro e w1 ⟨rfl, rfl⟩) | (go_at_call 87; refine (rIsName_any _ _ (by rw [HW.out]; unfold maxLen; omega)).mono ?_; rintro e w1 ⟨rfl, hb1⟩));go_ret2;exact ⟨ret_two HZ.out.1.symm HZ.out.2.symm, hnx.trans (hb1.mono hnx.size)⟩
    · clear hM hLv
      have hl2 := less_not _ _ hless;have hl3 : (((s[k + c]).toNat : Int) != 58) = true := by rw [bne_iff_ne]; exact u8_ne hch
      clear hless hch;have HZ : Hid (ptN s = 0 ∧ ptL s = 0) := ptR_none (by rw [HR.out]; exact hz);clear hz HR;go_wp2_with (first | (go_at_call 162; refine (cut_any _ _ (by simp; unfold maxLen; omega)).mono ?_; rintro e w1 ⟨rfl, rfl⟩) | (go_at_call 87; refine (rIsName_any _ _ (by rw [HW.out]; unfold maxLen; omega)).mono ?_; rintro e w1 ⟨rfl, hb1⟩));go_ret2;exact ⟨ret_two HZ.out.1.symm HZ.out.2.symm, hnx.trans (hb1.mono hnx.size)⟩
    · have hl2 := less_not _ _ hless
      have hl3 : (((s[k + c]).toNat : Int) != 58) = false := by rw [hch]; rfl
      have hc1 : 1 ≤ c := by have := name_pos hname; rw [HW.out] at this; exact this
      clear hless hch;rcases hcs with ⟨hM0, hz⟩ | ⟨hM0, hlen, hz⟩ | ⟨hM0, hlt2, hcs⟩
      · have hz5 : ((M : Int) == 0) = true := by simp [hM0]
        clear hM0;have HZ : Hid (ptN s = 0 ∧ ptL s = 0) := ptR_none (by rw [HR.out]; exact hz);clear hz HR;go_wp2_with (first | (go_at_call 162; refine (cut_any _ _ (by simp; unfold maxLen; omega)).mono ?_; rintro e w1 ⟨rfl, rfl⟩) | (go_at_call 87; refine (rIsName_any _ _ (by rw [HW.out]; unfold maxLen; omega)).mono ?_; rintro e w1 ⟨rfl, hb1⟩) | (go_at_call 140; refine (ih _ (by rw [HS.out]; omega) _ _ (by omega) (by rw [HS.out]; omega)).mono ?_; rintro e w2 ⟨rfl, hb3⟩));go_ret2;exact ⟨ret_two HZ.out.1.symm HZ.out.2.symm, (hnx.trans (hb1.mono hnx.size)).trans (hb3.mono (Nat.le_trans hnx.size hb1.size))⟩
      · have hz5 : ((M : Int) == 0) = false := by simp; omega
        clear hM0;have HZ : Hid (ptN s = 0 ∧ ptL s = 0) := ptR_none (by rw [HR.out]; exact hz);clear hz HR;go_wp2_with (first | (go_at_call 162; refine (cut_any _ _ (by simp; unfold maxLen; omega)).mono ?_; rintro e w1 ⟨rfl, rfl⟩) | (go_at_call 87; refine (rIsName_any _ _ (by rw [HW.out]; unfold maxLen; omega)).mono ?_; rintro e w1 ⟨rfl, hb1⟩) | (go_at_call 140; refine (ih _ (by rw [HS.out]; omega) _ _ (by omega) (by rw [HS.out]; omega)).mono ?_; rintro e w2 ⟨rfl, hb3⟩));go_ret2;exact ⟨ret_two HZ.out.1.symm HZ.out.2.symm, (hnx.trans (hb1.mono hnx.size)).trans (hb3.mono (Nat.le_trans hnx.size hb1.size))⟩
      · have hz5 : ((M : Int) == 0) = false := by simp; omega
        clear hM0;rcases hcs with ⟨hch, hz⟩ | ⟨hch, hz⟩ | ⟨hch, hch2, hz⟩
        · have hl4 : (((s[k + c + 1 + M]).toNat : Int) == 93) = true := by rw [hch]; rfl
          have HZ : Hid (ptN s = k + c + 1 + M + 1 ∧ ptL s = max L Lv) := by
           have := ptR_some (HR.out.trans hz);refine ⟨?_, this.2.1⟩;rw [this.1]; simp; omega
          clear hz HR hch;go_wp2_with (first | (go_at_call 162; refine (cut_any _ _ (by simp; unfold maxLen; omega)).mono ?_; rintro e w1 ⟨rfl, rfl⟩) | (go_at_call 87; refine (rIsName_any _ _ (by rw [HW.out]; unfold maxLen; omega)).mono ?_; rintro e w1 ⟨rfl, hb1⟩) | (go_at_call 140; refine (ih _ (by rw [HS.out]; omega) _ _ (by omega) (by rw [HS.out]; omega)).mono ?_; rintro e w2 ⟨rfl, hb3⟩))
          all_goals
           go_ret2;exact ⟨ret_two' (by rw [HZ.out.1]; omega) (by rw [HZ.out.2]; omega), (hnx.trans (hb1.mono hnx.size)).trans (hb3.mono (Nat.le_trans hnx.size hb1.size))⟩
        · have hl4 : (((s[k + c + 1 + M]).toNat : Int) == 93) = false := by rw [hch]; rfl
          have hl5 : (((s[k + c + 1 + M]).toNat : Int) != 44) = false := by rw [hch]; rfl
          have HZ := Lib.hid (HR.out.trans hz);clear hz HR hch;go_wp2_with (first | (go_at_call 162; refine (cut_any _ _ (by simp; unfold maxLen; omega)).mono ?_; rintro e w1 ⟨rfl, rfl⟩) | (go_at_call 87; refine (rIsName_any _ _ (by rw [HW.out]; unfold maxLen; omega)).mono ?_; rintro e w1 ⟨rfl, hb1⟩) | (go_at_call 140; refine (ih _ (by rw [HS.out]; omega) _ _ (by omega) (by rw [HS.out]; omega)).mono ?_; rintro e w2 ⟨rfl, hb3⟩))
          all_goals
           go_roundw
           case rel => exact ⟨k + c + 1 + M + 1, max L Lv, w0, n + 1, by omega, by omega, by omega, int_eq (by omega), int_eq (by omega), rfl, int_eq (by omega), by rw [show 6 - (n + 1) = 6 - n - 1 from by omega]; exact HZ, (hnx.trans (hb1.mono hnx.size)).trans (hb3.mono (Nat.le_trans hnx.size hb1.size))⟩
           case measure => simp [intOf]; omega
        · have hl4 : (((s[k + c + 1 + M]).toNat : Int) == 93) = false := by rw [beq_eq_false_iff_ne]; exact u8_ne hch
          have hl5 : (((s[k + c + 1 + M]).toNat : Int) != 44) = true := by rw [bne_iff_ne]; exact u8_ne hch2
          clear hch hch2;have HZ : Hid (ptN s = 0 ∧ ptL s = 0) := ptR_none (by rw [HR.out]; exact hz);clear hz HR;go_wp2_with (first | (go_at_call 162; refine (cut_any _ _ (by simp; unfold maxLen; omega)).mono ?_; rintro e w1 ⟨rfl, rfl⟩) | (go_at_call 87; refine (rIsName_any _ _ (by rw [HW.out]; unfold maxLen; omega)).mono ?_; rintro e w1 ⟨rfl, hb1⟩) | (go_at_call 140; refine (ih _ (by rw [HS.out]; omega) _ _ (by omega) (by rw [HS.out]; omega)).mono ?_; rintro e w2 ⟨rfl, hb3⟩));go_ret2;exact ⟨ret_two HZ.out.1.symm HZ.out.2.symm, (hnx.trans (hb1.mono hnx.size)).trans (hb3.mono (Nat.le_trans hnx.size hb1.size))⟩
theorem read_all : ∀ (n : Nat) (s : List UInt8), s.length ≤ n → ReadOk s
 | 0, s, h => read_step s (fun s' hs => by omega) (fun s' hs => by omega)
 | n + 1, s, h => read_step s (fun s' hs => parts_step s' (fun s'' hs' => read_all n s'' (by omega))) (fun s' hs => read_all n s' (by omega))
theorem read_any (s : List UInt8) : ReadOk s := read_all s.length s (nl _)
end Go.Proofs.YtakgjcfkdemipaaGreatDoor
