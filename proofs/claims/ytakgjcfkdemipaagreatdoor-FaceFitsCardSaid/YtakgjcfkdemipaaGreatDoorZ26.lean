/-
  Contracts: the reference's Check, kind, Kind, Level, open, Open (argusref03), in the words of the program's contracts. Condition: the texts' length.
  Contracts: slices.Contains (bytes), kind.of, Arg, Base, Array, Named. Condition: the texts' length; the variable strings.asciiSpace.
  Contracts: kind.Arg, Base, Array, Named. Condition: the texts' length; the variable strings.asciiSpace.
-/
import Derived.Test.YtakgjcfkdemipaaGreatDoorZn
import Derived.Test.YtakgjcfkdemipaaGreatDoorZ12
import Derived.Test.YtakgjcfkdemipaaGreatDoorZ25
namespace Go.Proofs.YtakgjcfkdemipaaGreatDoor
open Go.RowKit
theorem refC (s : List UInt8) (hl : ¬ 100 < s.length) :
 (rdN s = 0 ∧ (checkK s).1 = 4) ∨ (0 < rdN s ∧ rdN s ≠ s.length ∧ (checkK s).1 = 4) ∨ (0 < rdN s ∧ rdN s = s.length ∧ 6 < rdL s ∧ (checkK s).1 = 2) ∨
 (0 < rdN s ∧ rdN s = s.length ∧ ¬ 6 < rdL s ∧ (checkK s).1 = 0 ∧ (checkK s).2.level = rdL s) := by
 unfold rdN rdL checkK
 rw [if_neg hl]
 rcases hp : parseT s with _ | ⟨t, r⟩
 · exact .inl ⟨rfl, rfl⟩
 · have hr := parseT_le hp
   cases r with
   | nil =>
    simp only [List.length_nil] at hr ⊢
    by_cases hv : 6 < t.level
    · rw [if_pos hv]; exact .inr (.inr (.inl ⟨by omega, by omega, hv, by simp⟩))
    · rw [if_neg hv]; exact .inr (.inr (.inr ⟨by omega, by omega, hv, by simp, by simp⟩))
   | cons c r =>
    simp only [List.length_cons] at hr ⊢;exact .inr (.inl ⟨by omega, by omega, by simp⟩)
theorem checkK_long {s : List UInt8} (hl : 100 < s.length) : checkK s = (2, ⟨0, [], .nil⟩) := by unfold checkK; rw [if_pos hl]
set_option maxRecDepth 4000 in
set_option maxHeartbeats 3200000 in
theorem rcheck_any (s : List UInt8) (hm : s.length ≤ maxLen) (w : World) : Calls Tryz.prog 84 #[str s] w fun e w' => e = .returned (.int .i64 (checkK s).1) ∧ Below w.heap.size w w' := by
 unfold maxLen at hm
 by_cases hl : 100 < s.length
 · have HC := Lib.hid (show (checkK s).1 = 2 by rw [checkK_long hl])
   have hl' : (100 : Int) < (s.length : Int) := by omega
   clear hl;go_enter Tryz.func84, Tryz.ntmps84;go_wp2_with fail;go_ret;exact ⟨by rw [HC.out]; rfl, Below.refl _ _⟩
 · have hl' : ¬ (100 : Int) < (s.length : Int) := by omega
   have hc := refC s hl;have hr := read_any s 0 w (Int.le_refl _) (by omega);generalize rdN s = N at hc hr;generalize rdL s = L at hc hr;clear hl;rcases hc with ⟨h1, h2⟩ | ⟨h1, h2, h3⟩ | ⟨h1, h2, h3, h4⟩ | ⟨h1, h2, h3, h4, _⟩
   · have HC := Lib.hid h2
     subst h1;clear h2;go_enter Tryz.func84, Tryz.ntmps84;go_wp2_with (go_at_call 140; refine hr.mono ?_; clear hr; rintro e w1 ⟨rfl, hb1⟩);go_ret;exact ⟨by rw [HC.out]; rfl, hb1⟩
   · have HC := Lib.hid h3
     have g1 : ((N : Int) == 0) = false := by rw [beq_eq_false_iff_ne]; omega
     have g2 : ((N : Int) != (s.length : Int)) = true := by rw [bne_iff_ne]; omega
     clear h1 h2 h3;go_enter Tryz.func84, Tryz.ntmps84;go_wp2_with (go_at_call 140; refine hr.mono ?_; clear hr; rintro e w1 ⟨rfl, hb1⟩);go_ret;exact ⟨by rw [HC.out]; rfl, hb1⟩
   · have HC := Lib.hid h4
     have g1 : ((N : Int) == 0) = false := by rw [beq_eq_false_iff_ne]; omega
     have g2 : ((N : Int) != (s.length : Int)) = false := by rw [h2]; simp
     have g3 : (6 : Int) < (L : Int) := by omega
     clear h1 h2 h3 h4;go_enter Tryz.func84, Tryz.ntmps84;go_wp2_with (go_at_call 140; refine hr.mono ?_; clear hr; rintro e w1 ⟨rfl, hb1⟩);go_ret;exact ⟨by rw [HC.out]; rfl, hb1⟩
   · have HC := Lib.hid h4
     have g1 : ((N : Int) == 0) = false := by rw [beq_eq_false_iff_ne]; omega
     have g2 : ((N : Int) != (s.length : Int)) = false := by rw [h2]; simp
     have g3 : ¬ (6 : Int) < (L : Int) := by omega
     clear h1 h2 h3 h4;go_enter Tryz.func84, Tryz.ntmps84;go_wp2_with (go_at_call 140; refine hr.mono ?_; clear hr; rintro e w1 ⟨rfl, hb1⟩);go_ret;exact ⟨by rw [HC.out]; rfl, hb1⟩
theorem hasQ_step {s : List UInt8} {k : Nat} (hk : k < s.length) (h : hasQ s = hasQ (s.drop k)) (hc : s[k] ≠ 63) : hasQ s = hasQ (s.drop (k + 1)) := by
 rw [h, List.drop_eq_getElem_cons hk, hasQ_cons _ _ hc]
theorem hasQ_hit {s : List UInt8} {k : Nat} (hk : k < s.length) (h : hasQ s = hasQ (s.drop k)) (hc : s[k] = 63) : hasQ s = true := by
 rw [h, List.drop_eq_getElem_cons hk]
 simp [hasQ, hc]
set_option maxRecDepth 4000 in
set_option maxHeartbeats 3200000 in
theorem ropen0_any (s : List UInt8) (hm : s.length ≤ maxLen) (w : World) : Calls Tryz.prog 85 #[str s] w fun e w' => e = .returned (.bool (hasQ s)) ∧ w = w' := by
 unfold maxLen at hm
 go_enter Tryz.func85, Tryz.ntmps85
 go_wp2_with fail
 go_loop [3] (fun i => ∃ k : Nat, k ≤ s.length ∧ Hid (hasQ s = hasQ (s.drop k)) ∧ i = .int .i64 k) (fun i => s.length - (intOf i).toNat)
 case atStart => exact ⟨0, by omega, rfl, rfl⟩
 case round =>
  obtain ⟨k, hk, HN, rfl⟩ := hrel
  by_cases hlt : k < s.length
  · by_cases hc : s[k] = 63
    · have HS := Lib.hid (hasQ_hit hlt HN.out hc)
      have g : (((s[k]).toNat : Int) == 63) = true := by rw [hc]; rfl
      clear hc;go_wp2_with fail;go_ret;exact ⟨ret_bool HS.out.symm, rfl⟩
    · have HS := Lib.hid (hasQ_step hlt HN.out hc)
      have g : (((s[k]).toNat : Int) == 63) = false := by rw [beq_eq_false_iff_ne]; exact u8_ne (d := 63) hc
      clear hc;go_wp2_with fail
      go_round
      case rel => exact ⟨k + 1, by omega, HS.out, by go_num⟩
      case measure => simp [intOf]; omega
  · have HS := Lib.hid (show hasQ s = false by rw [HN.out, List.drop_of_length_le (by omega)]; rfl)
    go_wp2_with fail;go_ret;exact ⟨ret_bool HS.out.symm, rfl⟩
theorem openK_hasQ {s : List UInt8} (h : (checkK s).1 = 0) : openK s = hasQ s := by
 rcases hq : checkK s with ⟨c, T⟩
 have h' := h
 rw [hq] at h'
 simp only at h'
 subst h'
 obtain ⟨h1, h2, _, _⟩ := checkK_ok hq
 unfold openK
 rw [if_pos h, hq, ← h2, h1.hasQ]
set_option maxRecDepth 4000 in
set_option maxHeartbeats 3200000 in
theorem ropen_any (s : List UInt8) (hm : s.length ≤ maxLen) (w : World) : Calls Tryz.prog 34 #[str s] w fun e w' => e = .returned (.tuple #[.bool (openK s), .int .i64 (checkK s).1]) ∧ Below w.heap.size w w' := by
 have hC := rcheck_any s hm w
 have hO := fun W => ropen0_any s hm W
 have hk := @openK_hasQ s
 have hk0 : (checkK s).1 ≠ 0 → openK s = false := fun h => by unfold openK; rw [if_neg h]
 generalize (checkK s).1 = C at hC hk hk0 ⊢
 generalize openK s = O at hk hk0 ⊢
 by_cases hc : C = 0
 · subst hc
   obtain rfl := hk rfl;clear hk hk0;generalize hasQ s = O at hO ⊢;cases O
   all_goals
    go_enter Tryz.func34, Tryz.ntmps34;go_wp2_with (first
     | (go_at_call 84; refine hC.mono ?_; clear hC; rintro e w1 ⟨rfl, hb1⟩)
     | (go_at_call 85; refine (hO _).mono ?_; clear hO; rintro e w2 ⟨rfl, rfl⟩))
    go_ret2;exact ⟨rfl, hb1⟩
 · obtain rfl := hk0 hc
   obtain ⟨g1, g2⟩ := nat_ne0 hc;clear hc hk hk0;go_enter Tryz.func34, Tryz.ntmps34;go_wp2_with (go_at_call 84; refine hC.mono ?_; clear hC; rintro e w1 ⟨rfl, hb1⟩);go_ret2;exact ⟨rfl, hb1⟩
end Go.Proofs.YtakgjcfkdemipaaGreatDoor
namespace Go.Proofs.YtakgjcfkdemipaaGreatDoor
open Go.RowKit
def ixN (x : Nat) : List Nat → Nat → Int
 | [], _ => -1
 | y :: r, k => if x = y then k else ixN x r (k + 1)
theorem ixN_pos (x : Nat) : ∀ (l : List Nat) (k : Nat), (0 ≤ ixN x l k) ↔ x ∈ l
 | [], k => by simp [ixN]
 | y :: r, k => by
  rw [ixN];split
  · rename_i h; subst h; simp
  · rename_i h; rw [ixN_pos x r (k + 1)]; simp [h]
theorem ixN_lo (x : Nat) : ∀ (l : List Nat) (k : Nat), -1 ≤ ixN x l k
 | [], k => by simp [ixN]
 | y :: r, k => by
  rw [ixN];split
  · omega
  · exact ixN_lo x r (k + 1)
set_option maxRecDepth 4000 in
set_option maxHeartbeats 3200000 in
theorem index_u8 (l : List Nat) (x : Nat) (b c : Nat) (w : World) (hl : l.length ≤ 100) (hc : ∀ j (h : j < l.length), w.cell? ⟨b, j, none⟩ = some (.int .u8 l[j])) :
 Calls Tryz.prog 271 #[.slice (some ⟨b, 0, none⟩) l.length c, .int .u8 x] w fun e w' => e = .returned (.int .i64 (ixN x l 0)) ∧ Below w.heap.size w w' := by
 have HC := Lib.hid hc
 clear hc
 go_enter Tryz.func271, Tryz.ntmps271
 go_wp2_with fail
 go_loop [8] (fun a => ∃ i : Nat, i ≤ l.length ∧ a = .int .i64 i ∧ Hid (ixN x l 0 = ixN x (l.drop i) i)) (fun a => l.length - (intOf a).toNat)
 case atStart => exact ⟨0, Nat.zero_le _, rfl, rfl⟩
 case round =>
  obtain ⟨i, hi, rfl, HI⟩ := hrel
  by_cases hlt : i < l.length
  case pos =>
   have c0 := HC.out i hlt;have hd : l.drop i = l[i] :: l.drop (i + 1) := List.drop_eq_getElem_cons hlt
   by_cases he : x = l[i]
   · have HS := Lib.hid (show ixN x l 0 = i by rw [HI.out, hd, ixN, if_pos he])
     have g : ((x : Int) == (l[i] : Int)) = true := by rw [he]; simp
     clear hd he;go_wp2_with fail;go_ret;exact ⟨by rw [HS.out]; rfl, Below.refl _ _⟩
   · have HS := Lib.hid (show ixN x l 0 = ixN x (l.drop (i + 1)) (i + 1) by rw [HI.out, hd, ixN, if_neg he])
     have g : ((x : Int) == (l[i] : Int)) = false := by rw [beq_eq_false_iff_ne]; omega
     clear hd he;go_wp2_with fail
     go_round
     case rel => exact ⟨i + 1, hlt, by go_num, HS.out⟩
     case measure => simp [intOf]; omega
  case neg =>
   have HS := Lib.hid (show ixN x l 0 = -1 by rw [HI.out, List.drop_of_length_le (by omega)]; rfl);go_wp2_with fail;go_ret;exact ⟨by rw [HS.out]; rfl, Below.refl _ _⟩
theorem contains_u8 (l : List Nat) (x : Nat) (b c : Nat) (w : World) (hl : l.length ≤ 100) (hc : ∀ j (h : j < l.length), w.cell? ⟨b, j, none⟩ = some (.int .u8 l[j])) (q : Bool) (hq : l.contains x = q) :
 Calls Tryz.prog 237 #[.slice (some ⟨b, 0, none⟩) l.length c, .int .u8 x] w fun e w' => e = .returned (.bool q) ∧ Below w.heap.size w w' := by
 have hI := index_u8 l x b c w hl hc
 have hp := ixN_pos x l 0
 have hlo := ixN_lo x l 0
 generalize ixN x l 0 = I at hI hp hlo
 cases q with
 | true =>
  have h0 : decide (0 ≤ I) = true := by simpa using hp.2 (by simpa using hq)
  clear hp hq hc;go_enter Tryz.func237, Tryz.ntmps237;go_wp2_with (go_at_call 271; refine hI.mono ?_; rintro e w1 ⟨rfl, hb1⟩);go_ret;exact ⟨rfl, hb1⟩
 | false =>
  have h0 : decide (0 ≤ I) = false := by
   rw [decide_eq_false_iff_not];intro h;have := hp.1 h;simp at hq;exact hq this
  clear hp hq hc;go_enter Tryz.func237, Tryz.ntmps237;go_wp2_with (go_at_call 271; refine hI.mono ?_; rintro e w1 ⟨rfl, hb1⟩);go_ret;exact ⟨rfl, hb1⟩
def ofK (s : List UInt8) (l : List Nat) : Nat × Tr := if (checkK s).1 = 0 then (if l.contains (checkK s).2.k then checkK s else (30, ⟨0, [], .nil⟩)) else checkK s
def OfPost (w : World) (s : List UInt8) (l : List Nat) (e : Ending) (w' : World) : Prop :=
 ∃ v, e = .returned (.tuple #[.agg #[.int .u8 (ofK s l).2.k, str (ofK s l).2.n, v], .int .i64 (ofK s l).1]) ∧ FoV w' (fun b => w.heap.size ≤ b) (ofK s l).2.sub v ∧ Below w.heap.size w w'
set_option maxRecDepth 4000 in
set_option maxHeartbeats 3200000 in
theorem of_any (s : List UInt8) (l : List Nat) (b c : Nat) (hm : s.length ≤ maxLen) (w : World) (ht : Tab w) (hl : l.length ≤ 100) (hc : ∀ j (h : j < l.length), w.cell? ⟨b, j, none⟩ = some (.int .u8 l[j])) :
 Calls Tryz.prog 176 #[str s, .slice (some ⟨b, 0, none⟩) l.length c] w (OfPost w s l) := by
 have hb0 := (Below.refl _ w).alloc (nl _) (.cells #[.int .u8 0, .string ⟨#[]⟩, .slice none 0 0] 174)
 have HC := kchecked_any s hm _ (ht.below hb0 (nl _))
 unfold CheckedPost at HC
 have hL : ∀ W, Below w.heap.size w W → ∀ x q, l.contains x = q → Calls Tryz.prog 237 #[.slice (some ⟨b, 0, none⟩) l.length c, .int .u8 x] W fun e w' => e = .returned (.bool q) ∧ Below W.heap.size W w' :=
  fun W hW x q hq => contains_u8 l x b c W hl (fun j h => Below.keep hW (hc j h)) q hq
 have HL := Lib.hid hL
 clear hc hL hl
 rcases hq : checkK s with ⟨C, t⟩
 rw [hq] at HC
 simp only at HC
 by_cases h0 : C = 0
 · subst h0
   rcases hk : l.contains t.k with _ | _
   · have HE := Lib.hid (show ofK s l = (30, ⟨0, [], .nil⟩) by unfold ofK; rw [hq]; simp only [if_true]; rw [hk]; rfl)
     have HK := Lib.hid hk;clear hq hk;go_enter Tryz.func176, Tryz.ntmps176;go_wp2_with (first
      | (go_at_call 157; refine HC.mono ?_; clear HC; rintro e w1 ⟨v, rfl, hv, hb1⟩; obtain ⟨p, cc, rfl, _⟩ := hv.shape; have r1 := fun o => heap_old o ((hb1.block w.heap.size (by simp)).trans (heap_alloc_new w (.cells #[.int .u8 0, .string ⟨#[]⟩, .slice none 0 0] 174))))
      | (go_at_call 237; refine (HL.out _ ((hb0.trans (below_less hb1 (by simp))).alloc (by have := hb1.size; simp at this; omega) _) _ _ HK.out).mono ?_; rintro e w2 ⟨rfl, hb2⟩; have r2 := (hb2.block w.heap.size (by have := hb1.size; simp at this ⊢; omega)).trans (r1 _); have c0 := (cells_at r2 0).trans rfl; have c1 := (cells_at r2 1).trans rfl; have c2 := (cells_at r2 2).trans rfl; have f0 := free_at r2 0; have f1 := free_at r2 1; have f2 := free_at r2 2; clear r1 r2))
     have hs1 := hb1.size;simp only [World.size_alloc] at hs1;have hb3 := ((hb0.trans (below_less hb1 (by simp))).alloc (by omega) (.cells #[.int .u8 t.k, .string ⟨t.n.toArray⟩, .slice p t.sub.len cc] 174)).trans (below_less hb2 (by simp; omega));refine bodyPost_ret (v := .tuple #[.agg #[.int .u8 0, str [], .slice none 0 0], .int .i64 30]) (by simp [results, Tryz.results176, go_sem, c0, c1, c2]) rfl ?_;unfold OfPost;rw [HE.out];exact ⟨_, rfl, FoV.nil _ _, ((hb3.setCell (p := ⟨w.heap.size, 0, none⟩) (nl _) _).setCell (p := ⟨w.heap.size, 1, none⟩) (nl _) _).setCell (p := ⟨w.heap.size, 2, none⟩) (nl _) _⟩
   · have HE := Lib.hid (show ofK s l = (0, t) by unfold ofK; rw [hq]; simp only [if_true]; rw [hk]; rfl)
     have HK := Lib.hid hk;clear hq hk;go_enter Tryz.func176, Tryz.ntmps176;go_wp2_with (first
      | (go_at_call 157; refine HC.mono ?_; clear HC; rintro e w1 ⟨v, rfl, hv, hb1⟩; obtain ⟨p, cc, rfl, _⟩ := hv.shape; have r1 := fun o => heap_old o ((hb1.block w.heap.size (by simp)).trans (heap_alloc_new w (.cells #[.int .u8 0, .string ⟨#[]⟩, .slice none 0 0] 174))))
      | (go_at_call 237; refine (HL.out _ ((hb0.trans (below_less hb1 (by simp))).alloc (by have := hb1.size; simp at this; omega) _) _ _ HK.out).mono ?_; rintro e w2 ⟨rfl, hb2⟩; have r2 := (hb2.block w.heap.size (by have := hb1.size; simp at this ⊢; omega)).trans (r1 _); have c0 := (cells_at r2 0).trans rfl; have c1 := (cells_at r2 1).trans rfl; have c2 := (cells_at r2 2).trans rfl; have f0 := free_at r2 0; have f1 := free_at r2 1; have f2 := free_at r2 2; have r4 := (hb2.block w1.heap.size (by simp)).trans (heap_alloc_new w1 _); have d0 := (cells_at r4 0).trans rfl; have d1 := (cells_at r4 1).trans rfl; have d2 := (cells_at r4 2).trans rfl; clear r1 r2 r4))
     have hs1 := hb1.size;simp only [World.size_alloc] at hs1;have hb3 := ((hb0.trans (below_less hb1 (by simp))).alloc (by omega) (.cells #[.int .u8 t.k, .string ⟨t.n.toArray⟩, .slice p t.sub.len cc] 174)).trans (below_less hb2 (by simp; omega));refine bodyPost_ret (v := .tuple #[.agg #[.int .u8 t.k, str t.n, .slice p t.sub.len cc], .int .i64 0]) (by simp [results, Tryz.results176, go_sem, c0, c1, c2]) rfl ?_;unfold OfPost;rw [HE.out];refine ⟨_, rfl, ?_, ((hb3.setCell (p := ⟨w.heap.size, 0, none⟩) (nl _) _).setCell (p := ⟨w.heap.size, 1, none⟩) (nl _) _).setCell (p := ⟨w.heap.size, 2, none⟩) (nl _) _⟩;have hv3 := (hv.below (B := w1.heap.size) ((Below.refl _ w1).alloc (nl _) (.cells #[.int .u8 t.k, .string ⟨t.n.toArray⟩, .slice p t.sub.len cc] 174)) (nl _)).below hb2 (nl _);have hv4 := hv3.mono (D' := fun b => w.heap.size < b) fun b hb _ => by simp only [World.size_alloc] at hb; show w.heap.size < b; omega
     exact (hv4.set3 (fun b hb => Nat.ne_of_gt hb) _ _ _).mono fun b hb _ => Nat.le_of_lt hb
 · have HE := Lib.hid (show ofK s l = (C, ⟨0, [], .nil⟩) by
    unfold ofK; rw [hq]; simp only; rw [if_neg h0, (checkK_bad hq h0).2])
   obtain rfl := (checkK_bad hq h0).2;obtain ⟨g1, g2⟩ := nat_ne0 h0;clear hq h0;go_enter Tryz.func176, Tryz.ntmps176;go_wp2_with (go_at_call 157; refine HC.mono ?_; clear HC; rintro e w1 ⟨v, rfl, hv, hb1⟩; obtain ⟨p, cc, rfl, _⟩ := hv.shape; have r1 := fun o => heap_old o ((hb1.block w.heap.size (by simp)).trans (heap_alloc_new w (.cells #[.int .u8 0, .string ⟨#[]⟩, .slice none 0 0] 174))); have c0 := fun o => (cells_at (r1 o) 0).trans rfl; have c1 := fun o => (cells_at (r1 o) 1).trans rfl; have c2 := fun o => (cells_at (r1 o) 2).trans rfl; have f0 := fun o => free_at (r1 o) 0; have f1 := fun o => free_at (r1 o) 1; have f2 := fun o => free_at (r1 o) 2; clear r1);have hs1 := hb1.size;simp only [World.size_alloc] at hs1;have hb3 := (hb0.trans (below_less hb1 (by simp))).alloc (by omega) (.cells #[.int .u8 0, .string ⟨#[]⟩, .slice p 0 cc] 174);refine bodyPost_ret (v := .tuple #[.agg #[.int .u8 0, str [], .slice p 0 cc], .int .i64 C]) (by simp [results, Tryz.results176, go_sem, c0, c1, c2]; rfl) rfl ?_;unfold OfPost;rw [HE.out];refine ⟨_, rfl, ?_, ((hb3.setCell (p := ⟨w.heap.size, 0, none⟩) (nl _) _).setCell (p := ⟨w.heap.size, 1, none⟩) (nl _) _).setCell (p := ⟨w.heap.size, 2, none⟩) (nl _) _⟩;have hv3 := hv.below (B := w1.heap.size) ((Below.refl _ w1).alloc (nl _) (.cells #[.int .u8 0, .string ⟨#[]⟩, .slice p 0 cc] 174)) (nl _);have hv4 := hv3.mono (D' := fun b => w.heap.size < b) fun b hb _ => by simp only [World.size_alloc] at hb; show w.heap.size < b; omega
   exact (hv4.set3 (fun b hb => Nat.ne_of_gt hb) _ _ _).mono fun b hb _ => Nat.le_of_lt hb
end Go.Proofs.YtakgjcfkdemipaaGreatDoor
namespace Go.Proofs.YtakgjcfkdemipaaGreatDoor
open Go.RowKit
def Fo.first : Fo → Tr
 | .nil => ⟨0, [], .nil⟩
 | .cons _ k n sub _ => ⟨k, n, sub⟩
theorem Fo.first_at {fo : Fo} {pn : List UInt8} {t : Tr} (h : fo.at 0 = some (pn, t)) : fo.first = t := by
 cases fo with
 | nil => simp [Fo.at] at h
 | cons pn' k n sub rest => simp only [Fo.at, Option.some.injEq, Prod.mk.injEq] at h; exact h.2
theorem Fo.first_len {fo : Fo} (h : fo.len ≠ 0) : fo.first.txt.length ≤ fo.tx.length := by
 cases fo with
 | nil => simp [Fo.len] at h
 | cons pn k n sub rest =>
  have := joinC_get (Fo.cons pn k n sub rest).txt 0 (preN pn ++ (Tr.mk k n sub).txt) (by rw [show Fo.cons pn k n sub rest = .cons pn (Tr.mk k n sub).k (Tr.mk k n sub).n (Tr.mk k n sub).sub rest from rfl, Fo.txt_cons]; rfl);rw [List.length_append] at this
  show (Tr.mk k n sub).txt.length ≤ (joinC _).length
  omega
theorem ofK_ok {s : List UInt8} {l : List Nat} {t : Tr} (h : ofK s l = (0, t)) : checkK s = (0, t) ∧ t.k ∈ l := by
 unfold ofK at h
 split at h
 · rename_i h0
   split at h
   · rename_i h1
     refine ⟨h, ?_⟩;rw [h] at h1
     simpa using h1
   · simp at h
 · rename_i h0
   rw [h] at h0;simp at h0
theorem ofK_bad {s : List UInt8} {l : List Nat} {c : Nat} {t : Tr} (h : ofK s l = (c, t)) (hc : c ≠ 0) : t = ⟨0, [], .nil⟩ := by
 unfold ofK at h
 split at h
 · rename_i h0
   split at h
   · rw [h] at h0; exact absurd h0 hc
   · simp only [Prod.mk.injEq] at h; exact h.2.symm
 · exact (checkK_bad h hc).2
def argK (s : List UInt8) : List UInt8 × Bool × Nat := if (ofK s [4, 7]).1 = 0 ∧ (ofK s [4, 7]).2.sub.len ≠ 0 then ((ofK s [4, 7]).2.sub.first.txt, true, 0) else ([], false, (ofK s [4, 7]).1)
def baseK (s : List UInt8) : List UInt8 × Nat := ((ofK s [7]).2.n, (ofK s [7]).1)
set_option maxRecDepth 4000 in
set_option maxHeartbeats 3200000 in
theorem karg_any (s : List UInt8) (hm : s.length ≤ maxLen) (w : World) (ht : Tab w) : Calls Tryz.prog 121 #[str s] w fun e w' => e = .returned (.tuple #[str (argK s).1, .bool (argK s).2.1, .int .i64 (argK s).2.2]) ∧ Below w.heap.size w w' := by
 have hb0 := (Below.refl _ w).alloc (nl _) (.cells #[.int .u8 4, .int .u8 7] 5)
 have hg0 := heap_alloc_new w (.cells #[.int .u8 4, .int .u8 7] 5)
 have HC := of_any s [4, 7] w.heap.size 2 hm _ (ht.below hb0 (nl _)) (by simp) (fun j h => by
  have h : j < 2 := h;rcases (show j = 0 ∨ j = 1 by omega) with rfl | rfl
  · exact (cells_at hg0 0).trans rfl
  · exact (cells_at hg0 1).trans rfl)
 clear hg0
 unfold OfPost at HC
 unfold argK
 rcases hq : ofK s [4, 7] with ⟨C, t⟩
 rw [hq] at HC
 simp only at HC ⊢
 by_cases h0 : C = 0
 · subst h0
   obtain ⟨hk, _⟩ := ofK_ok hq;obtain ⟨_, h2, h3, _⟩ := checkK_ok hk
   by_cases hz : t.sub.len = 0
   · rw [if_neg (by omega)]
     have hz' : ((t.sub.len : Int) == 0) = true := by rw [hz]; rfl
     clear hq hk h2 h3 hz;go_enter Tryz.func121, Tryz.ntmps121;go_wp2_with (go_at_call 176; refine HC.mono ?_; clear HC; rintro e w1 ⟨v, rfl, hv, hb1⟩; obtain ⟨p, cc, rfl, _⟩ := hv.shape);have hs1 := hb1.size;simp only [World.size_alloc] at hs1
     go_ret3
     exact ⟨rfl, (hb0.trans (below_less hb1 (by simp))).alloc (by omega) _⟩
   · rw [if_pos ⟨rfl, hz⟩]
     have hl := Fo.first_len hz;have hx : (Tr.txt ⟨t.k, t.n, t.sub⟩).length ≤ 100 := by show t.txt.length ≤ 100; rw [h2]; exact h3
     rw [txt_br hz] at hx;simp only [List.length_append, List.length_cons] at hx;have h4 : t.sub.first.txt.length ≤ 1000000 := by omega
     have hz' : ((t.sub.len : Int) == 0) = false := int_not_zero hz;clear hq hk h2 h3 hl hx;go_enter Tryz.func121, Tryz.ntmps121;go_wp2_with (go_at_call 176; refine HC.mono ?_; clear HC; rintro e w1 ⟨v, rfl, hv, hb1⟩; obtain ⟨g, cc, pn, u, uv, rfl, _, hg, ha, c0, c1, c2, c3, hu⟩ := hv.at (i := 0) (by omega); obtain ⟨pu, cu, rfl, _⟩ := hu.shape; obtain rfl := Fo.first_at ha; clear ha hv; have d0 := fun o => Below.keep ((Below.refl _ w1).alloc (nl _) o) c0; have d1 := fun o => Below.keep ((Below.refl _ w1).alloc (nl _) o) c1; have d2 := fun o => Below.keep ((Below.refl _ w1).alloc (nl _) o) c2; have d3 := fun o => Below.keep ((Below.refl _ w1).alloc (nl _) o) c3; clear c0 c1 c2 c3);have hs1 := hb1.size;simp only [World.size_alloc] at hs1;refine (kstring_any t.sub.first _ _ _ (hu.below ((Below.refl _ w1).alloc (nl _) _) (nl _)) h4).mono ?_;rintro e w2 ⟨rfl, hb2⟩;go_wp2_with fail
     go_ret3
     exact ⟨rfl, ((hb0.trans (below_less hb1 (by simp))).alloc (by omega) _).trans (below_less hb2 (by simp; omega))⟩
 · obtain ⟨g1, g2⟩ := nat_ne0 h0
   obtain rfl := ofK_bad hq h0;rw [if_neg (by simp [h0])];clear hq h0;go_enter Tryz.func121, Tryz.ntmps121;go_wp2_with (go_at_call 176; refine HC.mono ?_; clear HC; rintro e w1 ⟨v, rfl, hv, hb1⟩; obtain ⟨p, cc, rfl, _⟩ := hv.shape);have hs1 := hb1.size;simp only [World.size_alloc] at hs1
   go_ret3
   exact ⟨rfl, (hb0.trans (below_less hb1 (by simp))).alloc (by omega) _⟩
set_option maxRecDepth 4000 in
set_option maxHeartbeats 3200000 in
theorem kbase_any (s : List UInt8) (hm : s.length ≤ maxLen) (w : World) (ht : Tab w) : Calls Tryz.prog 120 #[str s] w fun e w' => e = .returned (.tuple #[str (baseK s).1, .int .i64 (baseK s).2]) ∧ Below w.heap.size w w' := by
 have hb0 := (Below.refl _ w).alloc (nl _) (.cells #[.int .u8 7] 5)
 have hg0 := heap_alloc_new w (.cells #[.int .u8 7] 5)
 have HC := of_any s [7] w.heap.size 1 hm _ (ht.below hb0 (nl _)) (by simp) (fun j h => by
  have h : j < 1 := h;rcases (show j = 0 by omega) with rfl;exact (cells_at hg0 0).trans rfl)
 clear hg0
 unfold OfPost at HC
 unfold baseK
 rcases hq : ofK s [7] with ⟨C, t⟩
 rw [hq] at HC
 simp only at HC ⊢
 clear hq
 go_enter Tryz.func120, Tryz.ntmps120
 go_wp2_with (go_at_call 176; refine HC.mono ?_; clear HC; rintro e w1 ⟨v, rfl, hv, hb1⟩; obtain ⟨p, cc, rfl, _⟩ := hv.shape)
 have hs1 := hb1.size
 simp only [World.size_alloc] at hs1
 go_ret2
 exact ⟨rfl, (hb0.trans (below_less hb1 (by simp))).alloc (by omega) _⟩
theorem name_small {n : List UInt8} (h : isName n = true) : n.length ≤ 12 := by
 cases n with
 | nil => simp
 | cons c r => simp only [isName, Bool.and_eq_true, decide_eq_true_eq] at h; exact h.1.1.1
def namK (n s : List UInt8) : List UInt8 × Nat := if isName n = true then (if s = [] then (n, 0) else if (checkK s).1 = 0 then toldK ⟨7, n, .one (checkK s).2⟩ else ([], (checkK s).1)) else ([], 1)
theorem one_txt (k : Nat) (n : List UInt8) (t : Tr) : Tr.txt ⟨k, n, .one t⟩ = wordK k n ++ 91 :: (t.txt ++ [93]) := by
 rw [txt_br (by simp [Fo.one, Fo.len]), ← Tr.txt_eq]
theorem one_level (k : Nat) (n : List UInt8) (t : Tr) : Tr.level ⟨k, n, .one t⟩ = t.level + 1 := by
 simp [Tr.level, Fo.one, Fo.level]
end Go.Proofs.YtakgjcfkdemipaaGreatDoor
