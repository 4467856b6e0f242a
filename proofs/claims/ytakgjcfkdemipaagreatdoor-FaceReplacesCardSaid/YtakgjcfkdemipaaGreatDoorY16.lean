/-
  Contracts: kind.Check, Kind, Level, Open, told. Condition: the texts' length; the variable strings.asciiSpace.
  Contracts: slices.Contains (bytes), kind.of, Arg, Base, Array, Named. Condition: the texts' length; the variable strings.asciiSpace.
  Contracts: kind.Arg, Base, Array, Named. Condition: the texts' length; the variable strings.asciiSpace.
  Contracts: kind.two, kind.With. Condition: the texts' length; the variable strings.asciiSpace.
  Contract: kind.With. Condition: the texts' length; the variable strings.asciiSpace.
  What has to be in the place of the parameter: the program's way, part by part (plain). No condition. Contract: kind.Match. Condition: the texts' length; the variable strings.asciiSpace.
-/
import Derived.ChangeAlike
import Derived.Deep.LoopGhost
import Derived.RegionTactic
import Derived.Test.YtakgjcfkdemipaaGreatDoorYn
import Derived.Test.YtakgjcfkdemipaaGreatDoorY12
import Derived.Test.YtakgjcfkdemipaaGreatDoorY15
namespace Go.Proofs.YtakgjcfkdemipaaGreatDoor
open Go.RowKit
theorem checkK_ok {s : List UInt8} {t : Tr} (h : checkK s = (0, t)) : t.ok ∧ t.txt = s ∧ s.length ≤ 100 ∧ t.level ≤ 6 := by
 unfold checkK at h
 split at h
 · simp at h
 · rename_i hl
   split at h
   · rename_i u e
     split at h
     · simp at h
     · rename_i hv
       simp only [Prod.mk.injEq, true_and] at h;subst h;obtain ⟨h1, h2⟩ := parseT_ok e;exact ⟨h1, by simpa using h2.symm, by omega, by omega⟩
   · simp at h
theorem checkK_bad {s : List UInt8} {c : Nat} {t : Tr} (h : checkK s = (c, t)) (hc : c ≠ 0) : (c = 2 ∨ c = 4) ∧ t = ⟨0, [], .nil⟩ := by
 unfold checkK at h
 split at h
 · simp only [Prod.mk.injEq] at h; exact ⟨.inl h.1.symm, h.2.symm⟩
 · split at h
   · split at h
     · simp only [Prod.mk.injEq] at h; exact ⟨.inl h.1.symm, h.2.symm⟩
     · simp only [Prod.mk.injEq] at h; exact absurd h.1.symm hc
   · simp only [Prod.mk.injEq] at h; exact ⟨.inr h.1.symm, h.2.symm⟩
theorem checkK_of {t : Tr} (h : t.ok) : checkK t.txt = if 100 < t.txt.length ∨ 6 < t.level then (2, ⟨0, [], .nil⟩) else (0, t) := by
 unfold checkK
 rw [h.reads']
 by_cases h1 : 100 < t.txt.length
 · rw [if_pos h1, if_pos (.inl h1)]
 · rw [if_neg h1]
   by_cases h2 : 6 < t.level
   · simp only; rw [if_pos h2, if_pos (.inr h2)]
   · simp only; rw [if_neg h2, if_neg (by omega)]
theorem nat_ne0 {c : Nat} (h : c ≠ 0) : ((c : Int) == 0) = false ∧ ((c : Int) != 0) = true := by
 constructor
 · rw [beq_eq_false_iff_ne]; omega
 · rw [bne_iff_ne]; omega
set_option maxRecDepth 4000 in
set_option maxHeartbeats 3200000 in
theorem kcheck_any (s : List UInt8) (hm : s.length ≤ maxLen) (w : World) (ht : Tab w) : Calls Tryz.prog 116 #[str s] w fun e w' => e = .returned (.int .i64 (checkK s).1) ∧ Below w.heap.size w w' := by
 go_enter Tryz.func116, Tryz.ntmps116
 go_wp2_with (go_at_call 157; refine (kchecked_any s hm _ ht).mono ?_; rintro e w1 ⟨v, rfl, hv, hb1⟩; obtain ⟨p, c, rfl, _⟩ := hv.shape)
 go_ret
 exact ⟨rfl, hb1.alloc hb1.size _⟩
set_option maxRecDepth 4000 in
set_option maxHeartbeats 3200000 in
theorem kkind_any (s : List UInt8) (hm : s.length ≤ maxLen) (w : World) (ht : Tab w) : Calls Tryz.prog 119 #[str s] w fun e w' => e = .returned (.tuple #[.int .u8 (checkK s).2.k, .int .i64 (checkK s).1]) ∧ Below w.heap.size w w' := by
 go_enter Tryz.func119, Tryz.ntmps119
 go_wp2_with (go_at_call 157; refine (kchecked_any s hm _ ht).mono ?_; rintro e w1 ⟨v, rfl, hv, hb1⟩; obtain ⟨p, c, rfl, _⟩ := hv.shape)
 go_ret2
 exact ⟨rfl, hb1.alloc hb1.size _⟩
def levelK (s : List UInt8) : Nat := if (checkK s).1 = 0 then (checkK s).2.level else 0
def openK (s : List UInt8) : Bool := if (checkK s).1 = 0 then (checkK s).2.opn else false
set_option maxRecDepth 4000 in
set_option maxHeartbeats 3200000 in
theorem kopen_any (s : List UInt8) (hm : s.length ≤ maxLen) (w : World) (ht : Tab w) : Calls Tryz.prog 117 #[str s] w fun e w' => e = .returned (.tuple #[.bool (openK s), .int .i64 (checkK s).1]) ∧ Below w.heap.size w w' := by
 have HC := kchecked_any s hm w ht
 unfold CheckedPost at HC
 unfold openK
 rcases hq : checkK s with ⟨c, t⟩
 rw [hq] at HC
 simp only at HC ⊢
 by_cases hc : c = 0
 · subst hc
   have HQ := Lib.hid hq;clear hq;go_enter Tryz.func117, Tryz.ntmps117;go_wp2_with (first | (go_at_call 157; refine HC.mono ?_; clear HC; rintro e w1 ⟨v, rfl, hv, hb1⟩; obtain ⟨p, c, rfl, _⟩ := hv.shape) | (go_at_call 174; refine (open_any t _ _ _ (hv.below ((Below.refl _ w1).alloc (nl _) _) (nl _))).mono ?_; rintro e w2 ⟨rfl, hb2⟩));go_ret2;exact ⟨rfl, (hb1.alloc hb1.size _).trans (below_less hb2 (by have := hb1.size; simp; omega))⟩
 · obtain ⟨h1, h2⟩ := nat_ne0 hc
   have HQ := Lib.hid hq;have HZ := Lib.hid hc;clear hq hc;go_enter Tryz.func117, Tryz.ntmps117;go_wp2_with (go_at_call 157; refine HC.mono ?_; clear HC; rintro e w1 ⟨v, rfl, hv, hb1⟩; obtain ⟨p, c, rfl, _⟩ := hv.shape);go_ret2;exact ⟨rfl, hb1.alloc hb1.size _⟩
def toldK (t : Tr) : List UInt8 × Nat := if 100 < t.txt.length ∨ 6 < t.level then ([], 2) else (t.txt, 0)
set_option maxRecDepth 4000 in
set_option maxHeartbeats 3200000 in
theorem told_any (t : Tr) (hl : t.txt.length ≤ 1000000) (hlv : t.level ≤ 1000) (w : World) (D : Nat → Prop) (v : Value) (hv : FoV w D t.sub v) :
 Calls Tryz.prog 186 #[.agg #[.int .u8 t.k, str t.n, v]] w fun e w' => e = .returned (.tuple #[str (toldK t).1, .int .i64 (toldK t).2]) ∧ Below w.heap.size w w' := by
 obtain ⟨p, c, rfl, _⟩ := hv.shape
 unfold Tr.level at hlv
 have hrow := heap_alloc_new w (.cells #[.int .u8 t.k, str t.n, .slice p t.sub.len c] 174)
 have hv1 := hv.below ((Below.refl _ w).alloc (nl _) (.cells #[.int .u8 t.k, str t.n, .slice p t.sub.len c] 174)) (nl _)
 have hb0 := (Below.refl _ w).alloc (nl _) (.cells #[.int .u8 t.k, str t.n, .slice p t.sub.len c] 174)
 by_cases h1 : 100 < t.txt.length
 · have HT := Lib.hid (show toldK t = ([], 2) by unfold toldK; rw [if_pos (.inl h1)])
   go_enter Tryz.func186, Tryz.ntmps186;go_wp2_with (go_at_call 175; refine (kstring_any t _ _ _ hv1 hl).mono ?_; rintro e w2 ⟨rfl, hb2⟩);go_ret2;rw [HT.out];exact ⟨rfl, hb0.trans (below_less hb2 (by simp))⟩
 · have h1' : t.txt.length ≤ 100 := by omega
   by_cases h2 : 6 < t.level
   · have HT := Lib.hid (show toldK t = ([], 2) by unfold toldK; rw [if_pos (.inr h2)])
     have h3 : (6 : Int) < ((t.sub.level + 1 : Nat) : Int) := by unfold Tr.level at h2; omega
     go_enter Tryz.func186, Tryz.ntmps186;go_wp2_with (first | (go_at_call 175; refine (kstring_any t _ _ _ hv1 hl).mono ?_; rintro e w2 ⟨rfl, hb2⟩; have r2 := (hb2.block w.heap.size (by simp)).trans hrow; have c0 := (cells_at r2 0).trans rfl; have c1 := (cells_at r2 1).trans rfl; have c2 := (cells_at r2 2).trans rfl; have hv2 := hv1.below hb2 (nl _); clear r2) | (go_at_call 212; refine (level_any 1000 t.sub (by omega) (by omega) _ _ _ t.k t.n hv2).mono ?_; rintro e w3 ⟨rfl, hb3⟩));go_ret2;rw [HT.out];exact ⟨rfl, (hb0.trans (below_less hb2 (by simp))).trans (below_less hb3 (by have := hb2.size; simp at this; omega))⟩
   · have HT := Lib.hid (show toldK t = (t.txt, 0) by unfold toldK; rw [if_neg (by omega)])
     have h3 : ((t.sub.level + 1 : Nat) : Int) ≤ 6 := by unfold Tr.level at h2; omega
     go_enter Tryz.func186, Tryz.ntmps186;go_wp2_with (first | (go_at_call 175; refine (kstring_any t _ _ _ hv1 hl).mono ?_; rintro e w2 ⟨rfl, hb2⟩; have r2 := (hb2.block w.heap.size (by simp)).trans hrow; have c0 := (cells_at r2 0).trans rfl; have c1 := (cells_at r2 1).trans rfl; have c2 := (cells_at r2 2).trans rfl; have hv2 := hv1.below hb2 (nl _); clear r2) | (go_at_call 212; refine (level_any 1000 t.sub (by omega) (by omega) _ _ _ t.k t.n hv2).mono ?_; rintro e w3 ⟨rfl, hb3⟩));go_ret2;rw [HT.out];exact ⟨rfl, (hb0.trans (below_less hb2 (by simp))).trans (below_less hb3 (by have := hb2.size; simp at this; omega))⟩
end Go.Proofs.YtakgjcfkdemipaaGreatDoor
namespace Go.Proofs.YtakgjcfkdemipaaGreatDoor
open Go.RowKit
def ixN (x : Nat) : List Nat → Nat → Int
 | [], _ => -1
 | y :: r, k => if x = y then k else ixN x r (k + 1)
theorem ixN_pos (x : Nat) : ∀ (l : List Nat) (k : Nat), (0 ≤ ixN x l k) ↔ x ∈ l
 | [], k => by simp [ixN]
 | y :: r, k => by
  rw [ixN];split
  · rename_i h; subst h; simp
  · rename_i h; rw [ixN_pos x r (k + 1)]; simp [h]
theorem ixN_lo (x : Nat) : ∀ (l : List Nat) (k : Nat), -1 ≤ ixN x l k
 | [], k => by simp [ixN]
 | y :: r, k => by
  rw [ixN];split
  · omega
  · exact ixN_lo x r (k + 1)
set_option maxRecDepth 4000 in
set_option maxHeartbeats 3200000 in
theorem index_u8 (l : List Nat) (x : Nat) (b c : Nat) (w : World) (hl : l.length ≤ 100) (hc : ∀ j (h : j < l.length), w.cell? ⟨b, j, none⟩ = some (.int .u8 l[j])) :
 Calls Tryz.prog 271 #[.slice (some ⟨b, 0, none⟩) l.length c, .int .u8 x] w fun e w' => e = .returned (.int .i64 (ixN x l 0)) ∧ Below w.heap.size w w' := by
 have HC := Lib.hid hc
 clear hc
 go_enter Tryz.func271, Tryz.ntmps271
 go_wp2_with fail
 go_loop [8] (fun a => ∃ i : Nat, i ≤ l.length ∧ a = .int .i64 i ∧ Hid (ixN x l 0 = ixN x (l.drop i) i)) (fun a => l.length - (intOf a).toNat)
 case atStart => exact ⟨0, Nat.zero_le _, rfl, rfl⟩
 case round =>
  obtain ⟨i, hi, rfl, HI⟩ := hrel
  by_cases hlt : i < l.length
  case pos =>
   have c0 := HC.out i hlt;have hd : l.drop i = l[i] :: l.drop (i + 1) := List.drop_eq_getElem_cons hlt
   by_cases he : x = l[i]
   · have HS := Lib.hid (show ixN x l 0 = i by rw [HI.out, hd, ixN, if_pos he])
     have g : ((x : Int) == (l[i] : Int)) = true := by rw [he]; simp
     clear hd he;go_wp2_with fail;go_ret;exact ⟨by rw [HS.out]; rfl, Below.refl _ _⟩
   · have HS := Lib.hid (show ixN x l 0 = ixN x (l.drop (i + 1)) (i + 1) by rw [HI.out, hd, ixN, if_neg he])
     have g : ((x : Int) == (l[i] : Int)) = false := by rw [beq_eq_false_iff_ne]; omega
     clear hd he;go_wp2_with fail
     go_round
     case rel => exact ⟨i + 1, hlt, by go_num, HS.out⟩
     case measure => simp [intOf]; omega
  case neg =>
   have HS := Lib.hid (show ixN x l 0 = -1 by rw [HI.out, List.drop_of_length_le (by omega)]; rfl);go_wp2_with fail;go_ret;exact ⟨by rw [HS.out]; rfl, Below.refl _ _⟩
theorem contains_u8 (l : List Nat) (x : Nat) (b c : Nat) (w : World) (hl : l.length ≤ 100) (hc : ∀ j (h : j < l.length), w.cell? ⟨b, j, none⟩ = some (.int .u8 l[j])) (q : Bool) (hq : l.contains x = q) :
 Calls Tryz.prog 237 #[.slice (some ⟨b, 0, none⟩) l.length c, .int .u8 x] w fun e w' => e = .returned (.bool q) ∧ Below w.heap.size w w' := by
 have hI := index_u8 l x b c w hl hc
 have hp := ixN_pos x l 0
 have hlo := ixN_lo x l 0
 generalize ixN x l 0 = I at hI hp hlo
 cases q with
 | true =>
  have h0 : decide (0 ≤ I) = true := by simpa using hp.2 (by simpa using hq)
  clear hp hq hc;go_enter Tryz.func237, Tryz.ntmps237;go_wp2_with (go_at_call 271; refine hI.mono ?_; rintro e w1 ⟨rfl, hb1⟩);go_ret;exact ⟨rfl, hb1⟩
 | false =>
  have h0 : decide (0 ≤ I) = false := by
   rw [decide_eq_false_iff_not];intro h;have := hp.1 h;simp at hq;exact hq this
  clear hp hq hc;go_enter Tryz.func237, Tryz.ntmps237;go_wp2_with (go_at_call 271; refine hI.mono ?_; rintro e w1 ⟨rfl, hb1⟩);go_ret;exact ⟨rfl, hb1⟩
def ofK (s : List UInt8) (l : List Nat) : Nat × Tr := if (checkK s).1 = 0 then (if l.contains (checkK s).2.k then checkK s else (30, ⟨0, [], .nil⟩)) else checkK s
def OfPost (w : World) (s : List UInt8) (l : List Nat) (e : Ending) (w' : World) : Prop :=
 ∃ v, e = .returned (.tuple #[.agg #[.int .u8 (ofK s l).2.k, str (ofK s l).2.n, v], .int .i64 (ofK s l).1]) ∧ FoV w' (fun b => w.heap.size ≤ b) (ofK s l).2.sub v ∧ Below w.heap.size w w'
set_option maxRecDepth 4000 in
set_option maxHeartbeats 3200000 in
theorem of_any (s : List UInt8) (l : List Nat) (b c : Nat) (hm : s.length ≤ maxLen) (w : World) (ht : Tab w) (hl : l.length ≤ 100) (hc : ∀ j (h : j < l.length), w.cell? ⟨b, j, none⟩ = some (.int .u8 l[j])) :
 Calls Tryz.prog 176 #[str s, .slice (some ⟨b, 0, none⟩) l.length c] w (OfPost w s l) := by
 have hb0 := (Below.refl _ w).alloc (nl _) (.cells #[.int .u8 0, .string ⟨#[]⟩, .slice none 0 0] 174)
 have HC := kchecked_any s hm _ (ht.below hb0 (nl _))
 unfold CheckedPost at HC
 have hL : ∀ W, Below w.heap.size w W → ∀ x q, l.contains x = q → Calls Tryz.prog 237 #[.slice (some ⟨b, 0, none⟩) l.length c, .int .u8 x] W fun e w' => e = .returned (.bool q) ∧ Below W.heap.size W w' :=
  fun W hW x q hq => contains_u8 l x b c W hl (fun j h => Below.keep hW (hc j h)) q hq
 have HL := Lib.hid hL
 clear hc hL hl
 rcases hq : checkK s with ⟨C, t⟩
 rw [hq] at HC
 simp only at HC
 by_cases h0 : C = 0
 · subst h0
   rcases hk : l.contains t.k with _ | _
   · have HE := Lib.hid (show ofK s l = (30, ⟨0, [], .nil⟩) by unfold ofK; rw [hq]; simp only [if_true]; rw [hk]; rfl)
     have HK := Lib.hid hk;clear hq hk;go_enter Tryz.func176, Tryz.ntmps176;go_wp2_with (first
      | (go_at_call 157; refine HC.mono ?_; clear HC; rintro e w1 ⟨v, rfl, hv, hb1⟩; obtain ⟨p, cc, rfl, _⟩ := hv.shape; have r1 := fun o => heap_old o ((hb1.block w.heap.size (by simp)).trans (heap_alloc_new w (.cells #[.int .u8 0, .string ⟨#[]⟩, .slice none 0 0] 174))))
      | (go_at_call 237; refine (HL.out _ ((hb0.trans (below_less hb1 (by simp))).alloc (by have := hb1.size; simp at this; omega) _) _ _ HK.out).mono ?_; rintro e w2 ⟨rfl, hb2⟩; have r2 := (hb2.block w.heap.size (by have := hb1.size; simp at this ⊢; omega)).trans (r1 _); have c0 := (cells_at r2 0).trans rfl; have c1 := (cells_at r2 1).trans rfl; have c2 := (cells_at r2 2).trans rfl; have f0 := free_at r2 0; have f1 := free_at r2 1; have f2 := free_at r2 2; clear r1 r2))
     have hs1 := hb1.size;simp only [World.size_alloc] at hs1;have hb3 := ((hb0.trans (below_less hb1 (by simp))).alloc (by omega) (.cells #[.int .u8 t.k, .string ⟨t.n.toArray⟩, .slice p t.sub.len cc] 174)).trans (below_less hb2 (by simp; omega));refine bodyPost_ret (v := .tuple #[.agg #[.int .u8 0, str [], .slice none 0 0], .int .i64 30]) (by simp [results, Tryz.results176, go_sem, c0, c1, c2]) rfl ?_;unfold OfPost;rw [HE.out];exact ⟨_, rfl, FoV.nil _ _, ((hb3.setCell (p := ⟨w.heap.size, 0, none⟩) (nl _) _).setCell (p := ⟨w.heap.size, 1, none⟩) (nl _) _).setCell (p := ⟨w.heap.size, 2, none⟩) (nl _) _⟩
   · have HE := Lib.hid (show ofK s l = (0, t) by unfold ofK; rw [hq]; simp only [if_true]; rw [hk]; rfl)
     have HK := Lib.hid hk;clear hq hk;go_enter Tryz.func176, Tryz.ntmps176;go_wp2_with (first
      | (go_at_call 157; refine HC.mono ?_; clear HC; rintro e w1 ⟨v, rfl, hv, hb1⟩; obtain ⟨p, cc, rfl, _⟩ := hv.shape; have r1 := fun o => heap_old o ((hb1.block w.heap.size (by simp)).trans (heap_alloc_new w (.cells #[.int .u8 0, .string ⟨#[]⟩, .slice none 0 0] 174))))
      | (go_at_call 237; refine (HL.out _ ((hb0.trans (below_less hb1 (by simp))).alloc (by have := hb1.size; simp at this; omega) _) _ _ HK.out).mono ?_; rintro e w2 ⟨rfl, hb2⟩; have r2 := (hb2.block w.heap.size (by have := hb1.size; simp at this ⊢; omega)).trans (r1 _); have c0 := (cells_at r2 0).trans rfl; have c1 := (cells_at r2 1).trans rfl; have c2 := (cells_at r2 2).trans rfl; have f0 := free_at r2 0; have f1 := free_at r2 1; have f2 := free_at r2 2; have r4 := (hb2.block w1.heap.size (by simp)).trans (heap_alloc_new w1 _); have d0 := (cells_at r4 0).trans rfl; have d1 := (cells_at r4 1).trans rfl; have d2 := (cells_at r4 2).trans rfl; clear r1 r2 r4))
     have hs1 := hb1.size;simp only [World.size_alloc] at hs1;have hb3 := ((hb0.trans (below_less hb1 (by simp))).alloc (by omega) (.cells #[.int .u8 t.k, .string ⟨t.n.toArray⟩, .slice p t.sub.len cc] 174)).trans (below_less hb2 (by simp; omega));refine bodyPost_ret (v := .tuple #[.agg #[.int .u8 t.k, str t.n, .slice p t.sub.len cc], .int .i64 0]) (by simp [results, Tryz.results176, go_sem, c0, c1, c2]) rfl ?_;unfold OfPost;rw [HE.out];refine ⟨_, rfl, ?_, ((hb3.setCell (p := ⟨w.heap.size, 0, none⟩) (nl _) _).setCell (p := ⟨w.heap.size, 1, none⟩) (nl _) _).setCell (p := ⟨w.heap.size, 2, none⟩) (nl _) _⟩;have hv3 := (hv.below (B := w1.heap.size) ((Below.refl _ w1).alloc (nl _) (.cells #[.int .u8 t.k, .string ⟨t.n.toArray⟩, .slice p t.sub.len cc] 174)) (nl _)).below hb2 (nl _);have hv4 := hv3.mono (D' := fun b => w.heap.size < b) fun b hb _ => by simp only [World.size_alloc] at hb; show w.heap.size < b; omega
     exact (hv4.set3 (fun b hb => Nat.ne_of_gt hb) _ _ _).mono fun b hb _ => Nat.le_of_lt hb
 · have HE := Lib.hid (show ofK s l = (C, ⟨0, [], .nil⟩) by
    unfold ofK; rw [hq]; simp only; rw [if_neg h0, (checkK_bad hq h0).2])
   obtain rfl := (checkK_bad hq h0).2;obtain ⟨g1, g2⟩ := nat_ne0 h0;clear hq h0;go_enter Tryz.func176, Tryz.ntmps176;go_wp2_with (go_at_call 157; refine HC.mono ?_; clear HC; rintro e w1 ⟨v, rfl, hv, hb1⟩; obtain ⟨p, cc, rfl, _⟩ := hv.shape; have r1 := fun o => heap_old o ((hb1.block w.heap.size (by simp)).trans (heap_alloc_new w (.cells #[.int .u8 0, .string ⟨#[]⟩, .slice none 0 0] 174))); have c0 := fun o => (cells_at (r1 o) 0).trans rfl; have c1 := fun o => (cells_at (r1 o) 1).trans rfl; have c2 := fun o => (cells_at (r1 o) 2).trans rfl; have f0 := fun o => free_at (r1 o) 0; have f1 := fun o => free_at (r1 o) 1; have f2 := fun o => free_at (r1 o) 2; clear r1);have hs1 := hb1.size;simp only [World.size_alloc] at hs1;have hb3 := (hb0.trans (below_less hb1 (by simp))).alloc (by omega) (.cells #[.int .u8 0, .string ⟨#[]⟩, .slice p 0 cc] 174);refine bodyPost_ret (v := .tuple #[.agg #[.int .u8 0, str [], .slice p 0 cc], .int .i64 C]) (by simp [results, Tryz.results176, go_sem, c0, c1, c2]; rfl) rfl ?_;unfold OfPost;rw [HE.out];refine ⟨_, rfl, ?_, ((hb3.setCell (p := ⟨w.heap.size, 0, none⟩) (nl _) _).setCell (p := ⟨w.heap.size, 1, none⟩) (nl _) _).setCell (p := ⟨w.heap.size, 2, none⟩) (nl _) _⟩;have hv3 := hv.below (B := w1.heap.size) ((Below.refl _ w1).alloc (nl _) (.cells #[.int .u8 0, .string ⟨#[]⟩, .slice p 0 cc] 174)) (nl _);have hv4 := hv3.mono (D' := fun b => w.heap.size < b) fun b hb _ => by simp only [World.size_alloc] at hb; show w.heap.size < b; omega
   exact (hv4.set3 (fun b hb => Nat.ne_of_gt hb) _ _ _).mono fun b hb _ => Nat.le_of_lt hb
end Go.Proofs.YtakgjcfkdemipaaGreatDoor
namespace Go.Proofs.YtakgjcfkdemipaaGreatDoor
open Go.RowKit
def Fo.first : Fo → Tr
 | .nil => ⟨0, [], .nil⟩
 | .cons _ k n sub _ => ⟨k, n, sub⟩
theorem Fo.first_at {fo : Fo} {pn : List UInt8} {t : Tr} (h : fo.at 0 = some (pn, t)) : fo.first = t := by
 cases fo with
 | nil => simp [Fo.at] at h
 | cons pn' k n sub rest => simp only [Fo.at, Option.some.injEq, Prod.mk.injEq] at h; exact h.2
theorem Fo.first_len {fo : Fo} (h : fo.len ≠ 0) : fo.first.txt.length ≤ fo.tx.length := by
 cases fo with
 | nil => simp [Fo.len] at h
 | cons pn k n sub rest =>
  have := joinC_get (Fo.cons pn k n sub rest).txt 0 (preN pn ++ (Tr.mk k n sub).txt) (by rw [show Fo.cons pn k n sub rest = .cons pn (Tr.mk k n sub).k (Tr.mk k n sub).n (Tr.mk k n sub).sub rest from rfl, Fo.txt_cons]; rfl);rw [List.length_append] at this
  show (Tr.mk k n sub).txt.length ≤ (joinC _).length
  omega
theorem ofK_ok {s : List UInt8} {l : List Nat} {t : Tr} (h : ofK s l = (0, t)) : checkK s = (0, t) ∧ t.k ∈ l := by
 unfold ofK at h
 split at h
 · rename_i h0
   split at h
   · rename_i h1
     refine ⟨h, ?_⟩;rw [h] at h1
     simpa using h1
   · simp at h
 · rename_i h0
   rw [h] at h0;simp at h0
theorem ofK_bad {s : List UInt8} {l : List Nat} {c : Nat} {t : Tr} (h : ofK s l = (c, t)) (hc : c ≠ 0) : t = ⟨0, [], .nil⟩ := by
 unfold ofK at h
 split at h
 · rename_i h0
   split at h
   · rw [h] at h0; exact absurd h0 hc
   · simp only [Prod.mk.injEq] at h; exact h.2.symm
 · exact (checkK_bad h hc).2
def argK (s : List UInt8) : List UInt8 × Bool × Nat := if (ofK s [4, 7]).1 = 0 ∧ (ofK s [4, 7]).2.sub.len ≠ 0 then ((ofK s [4, 7]).2.sub.first.txt, true, 0) else ([], false, (ofK s [4, 7]).1)
def baseK (s : List UInt8) : List UInt8 × Nat := ((ofK s [7]).2.n, (ofK s [7]).1)
set_option maxRecDepth 4000 in
set_option maxHeartbeats 3200000 in
theorem karg_any (s : List UInt8) (hm : s.length ≤ maxLen) (w : World) (ht : Tab w) : Calls Tryz.prog 121 #[str s] w fun e w' => e = .returned (.tuple #[str (argK s).1, .bool (argK s).2.1, .int .i64 (argK s).2.2]) ∧ Below w.heap.size w w' := by
 have hb0 := (Below.refl _ w).alloc (nl _) (.cells #[.int .u8 4, .int .u8 7] 5)
 have hg0 := heap_alloc_new w (.cells #[.int .u8 4, .int .u8 7] 5)
 have HC := of_any s [4, 7] w.heap.size 2 hm _ (ht.below hb0 (nl _)) (by simp) (fun j h => by
  have h : j < 2 := h;rcases (show j = 0 ∨ j = 1 by omega) with rfl | rfl
  · exact (cells_at hg0 0).trans rfl
  · exact (cells_at hg0 1).trans rfl)
 clear hg0
 unfold OfPost at HC
 unfold argK
 rcases hq : ofK s [4, 7] with ⟨C, t⟩
 rw [hq] at HC
 simp only at HC ⊢
 by_cases h0 : C = 0
 · subst h0
   obtain ⟨hk, _⟩ := ofK_ok hq;obtain ⟨_, h2, h3, _⟩ := checkK_ok hk
   by_cases hz : t.sub.len = 0
   · rw [if_neg (by omega)]
     have hz' : ((t.sub.len : Int) == 0) = true := by rw [hz]; rfl
     clear hq hk h2 h3 hz;go_enter Tryz.func121, Tryz.ntmps121;go_wp2_with (go_at_call 176; refine HC.mono ?_; clear HC; rintro e w1 ⟨v, rfl, hv, hb1⟩; obtain ⟨p, cc, rfl, _⟩ := hv.shape);have hs1 := hb1.size;simp only [World.size_alloc] at hs1
     go_ret3
     exact ⟨rfl, (hb0.trans (below_less hb1 (by simp))).alloc (by omega) _⟩
   · rw [if_pos ⟨rfl, hz⟩]
     have hl := Fo.first_len hz;have hx : (Tr.txt ⟨t.k, t.n, t.sub⟩).length ≤ 100 := by show t.txt.length ≤ 100; rw [h2]; exact h3
     rw [txt_br hz] at hx;simp only [List.length_append, List.length_cons] at hx;have h4 : t.sub.first.txt.length ≤ 1000000 := by omega
     have hz' : ((t.sub.len : Int) == 0) = false := int_not_zero hz;clear hq hk h2 h3 hl hx;go_enter Tryz.func121, Tryz.ntmps121;go_wp2_with (go_at_call 176; refine HC.mono ?_; clear HC; rintro e w1 ⟨v, rfl, hv, hb1⟩; obtain ⟨g, cc, pn, u, uv, rfl, _, hg, ha, c0, c1, c2, c3, hu⟩ := hv.at (i := 0) (by omega); obtain ⟨pu, cu, rfl, _⟩ := hu.shape; obtain rfl := Fo.first_at ha; clear ha hv; have d0 := fun o => Below.keep ((Below.refl _ w1).alloc (nl _) o) c0; have d1 := fun o => Below.keep ((Below.refl _ w1).alloc (nl _) o) c1; have d2 := fun o => Below.keep ((Below.refl _ w1).alloc (nl _) o) c2; have d3 := fun o => Below.keep ((Below.refl _ w1).alloc (nl _) o) c3; clear c0 c1 c2 c3);have hs1 := hb1.size;simp only [World.size_alloc] at hs1;refine (kstring_any t.sub.first _ _ _ (hu.below ((Below.refl _ w1).alloc (nl _) _) (nl _)) h4).mono ?_;rintro e w2 ⟨rfl, hb2⟩;go_wp2_with fail
     go_ret3
     exact ⟨rfl, ((hb0.trans (below_less hb1 (by simp))).alloc (by omega) _).trans (below_less hb2 (by simp; omega))⟩
 · obtain ⟨g1, g2⟩ := nat_ne0 h0
   obtain rfl := ofK_bad hq h0;rw [if_neg (by simp [h0])];clear hq h0;go_enter Tryz.func121, Tryz.ntmps121;go_wp2_with (go_at_call 176; refine HC.mono ?_; clear HC; rintro e w1 ⟨v, rfl, hv, hb1⟩; obtain ⟨p, cc, rfl, _⟩ := hv.shape);have hs1 := hb1.size;simp only [World.size_alloc] at hs1
   go_ret3
   exact ⟨rfl, (hb0.trans (below_less hb1 (by simp))).alloc (by omega) _⟩
set_option maxRecDepth 4000 in
set_option maxHeartbeats 3200000 in
theorem kbase_any (s : List UInt8) (hm : s.length ≤ maxLen) (w : World) (ht : Tab w) : Calls Tryz.prog 120 #[str s] w fun e w' => e = .returned (.tuple #[str (baseK s).1, .int .i64 (baseK s).2]) ∧ Below w.heap.size w w' := by
 have hb0 := (Below.refl _ w).alloc (nl _) (.cells #[.int .u8 7] 5)
 have hg0 := heap_alloc_new w (.cells #[.int .u8 7] 5)
 have HC := of_any s [7] w.heap.size 1 hm _ (ht.below hb0 (nl _)) (by simp) (fun j h => by
  have h : j < 1 := h;rcases (show j = 0 by omega) with rfl;exact (cells_at hg0 0).trans rfl)
 clear hg0
 unfold OfPost at HC
 unfold baseK
 rcases hq : ofK s [7] with ⟨C, t⟩
 rw [hq] at HC
 simp only at HC ⊢
 clear hq
 go_enter Tryz.func120, Tryz.ntmps120
 go_wp2_with (go_at_call 176; refine HC.mono ?_; clear HC; rintro e w1 ⟨v, rfl, hv, hb1⟩; obtain ⟨p, cc, rfl, _⟩ := hv.shape)
 have hs1 := hb1.size
 simp only [World.size_alloc] at hs1
 go_ret2
 exact ⟨rfl, (hb0.trans (below_less hb1 (by simp))).alloc (by omega) _⟩
theorem name_small {n : List UInt8} (h : isName n = true) : n.length ≤ 12 := by
 cases n with
 | nil => simp
 | cons c r => simp only [isName, Bool.and_eq_true, decide_eq_true_eq] at h; exact h.1.1.1
theorem one_txt (k : Nat) (n : List UInt8) (t : Tr) : Tr.txt ⟨k, n, .one t⟩ = wordK k n ++ 91 :: (t.txt ++ [93]) := by
 rw [txt_br (by simp [Fo.one, Fo.len]), ← Tr.txt_eq]
theorem one_level (k : Nat) (n : List UInt8) (t : Tr) : Tr.level ⟨k, n, .one t⟩ = t.level + 1 := by
 simp [Tr.level, Fo.one, Fo.level]
end Go.Proofs.YtakgjcfkdemipaaGreatDoor
namespace Go.Proofs.YtakgjcfkdemipaaGreatDoor
open Go.RowKit
def twoK (s u : List UInt8) : Tr × Tr × Nat := if (checkK s).1 = 0 then ((checkK s).2, (checkK u).2, (checkK u).1) else ((checkK s).2, ⟨0, [], .nil⟩, (checkK s).1)
def TwoPost (w : World) (s u : List UInt8) (e : Ending) (w' : World) : Prop :=
 ∃ va vb, e = .returned (.tuple #[.agg #[.int .u8 (twoK s u).1.k, str (twoK s u).1.n, va], .agg #[.int .u8 (twoK s u).2.1.k, str (twoK s u).2.1.n, vb], .int .i64 (twoK s u).2.2]) ∧
  FoV w' (fun b => w.heap.size + 1 < b) (twoK s u).1.sub va ∧ FoV w' (fun b => w.heap.size + 1 < b) (twoK s u).2.1.sub vb ∧ Below w.heap.size w w'
structure TwoP (w : World) (a b : Tr) (va vb : Value) (W : World) : Prop where
 ra : W.heap[w.heap.size]? = some (.cells #[.int .u8 a.k, str a.n, va] 174 (0, 0))
 rb : W.heap[w.heap.size + 1]? = some (.cells #[.int .u8 b.k, str b.n, vb] 174 (0, 0))
 fa : FoV W (fun b => w.heap.size + 1 < b) a.sub va
 fb : FoV W (fun b => w.heap.size + 1 < b) b.sub vb
 bel : Below w.heap.size w W
theorem set3_row {W : World} {B : Nat} {x0 x1 x2 : Value} {t : TypeId} {z : Nat × Nat} (h : W.heap[B]? = some (.cells #[x0, x1, x2] t z)) (a b c : Value) :
 (((W.setCell ⟨B, 0, none⟩ a).setCell ⟨B, 1, none⟩ b).setCell ⟨B, 2, none⟩ c).heap[B]? = some (.cells #[a, b, c] t z) := set_row (set_row (set_row h 0 a) 1 b) 2 c
theorem set3_far {W : World} {B k : Nat} (h : k ≠ B) (a b c : Value) : (((W.setCell ⟨B, 0, none⟩ a).setCell ⟨B, 1, none⟩ b).setCell ⟨B, 2, none⟩ c).heap[k]? = W.heap[k]? := by
 rw [Below.heap_setCell _ _ _ _ h, Below.heap_setCell _ _ _ _ h, Below.heap_setCell _ _ _ _ h]
theorem set3_below {B' B : Nat} {w W : World} (h : Below B' w W) (hB : B' ≤ B) (a b c : Value) : Below B' w (((W.setCell ⟨B, 0, none⟩ a).setCell ⟨B, 1, none⟩ b).setCell ⟨B, 2, none⟩ c) :=
 ((h.setCell (p := ⟨B, 0, none⟩) hB a).setCell (p := ⟨B, 1, none⟩) hB b).setCell (p := ⟨B, 2, none⟩) hB c
theorem set3_fov {W : World} {D : Nat → Prop} {fo : Fo} {v : Value} {B : Nat} (h : FoV W D fo v) (hD : ∀ b, D b → b ≠ B) (x y z : Value) : FoV (((W.setCell ⟨B, 0, none⟩ x).setCell ⟨B, 1, none⟩ y).setCell ⟨B, 2, none⟩ z) D fo v :=
 h.kept fun b hb _ => set3_far (hD b hb) x y z
theorem TwoP.setA {w : World} {a b a' : Tr} {va vb va' : Value} {W : World} (h : TwoP w a b va vb W) (hv : FoV W (fun b => w.heap.size + 1 < b) a'.sub va') :
 TwoP w a' b va' vb (((W.setCell ⟨w.heap.size, 0, none⟩ (.int .u8 a'.k)).setCell ⟨w.heap.size, 1, none⟩ (str a'.n)).setCell ⟨w.heap.size, 2, none⟩ va') :=
 ⟨set3_row h.ra _ _ _, (set3_far (by omega) _ _ _).trans h.rb, set3_fov hv (fun b hb => by omega) _ _ _, set3_fov h.fb (fun b hb => by omega) _ _ _, set3_below h.bel (nl _) _ _ _⟩
theorem TwoP.setB {w : World} {a b b' : Tr} {va vb vb' : Value} {W : World} (h : TwoP w a b va vb W) (hv : FoV W (fun b => w.heap.size + 1 < b) b'.sub vb') :
 TwoP w a b' va vb' (((W.setCell ⟨w.heap.size + 1, 0, none⟩ (.int .u8 b'.k)).setCell ⟨w.heap.size + 1, 1, none⟩ (str b'.n)).setCell ⟨w.heap.size + 1, 2, none⟩ vb') :=
 ⟨(set3_far (by omega) _ _ _).trans h.ra, set3_row h.rb _ _ _, set3_fov h.fa (fun b hb => by omega) _ _ _, set3_fov hv (fun b hb => by omega) _ _ _, set3_below h.bel (by omega) _ _ _⟩
theorem TwoP.below {w : World} {a b : Tr} {va vb : Value} {W W' : World} (h : TwoP w a b va vb W) (hb : Below W.heap.size W W') : TwoP w a b va vb W' :=
 ⟨(hb.block _ (Array.getElem?_eq_some_iff.1 h.ra).1).trans h.ra, (hb.block _ (Array.getElem?_eq_some_iff.1 h.rb).1).trans h.rb, h.fa.below hb (nl _), h.fb.below hb (nl _), h.bel.trans (below_less hb h.bel.size)⟩
theorem TwoP.drew {w : World} {a b : Tr} {va vb : Value} {W : World} (h : TwoP w a b va vb W) : TwoP w a b va vb W.drew := h.below (Below.refl _ _).drew
abbrev TwoC (w : World) (a b : Tr) (va vb : Value) (W : World) : Prop :=
 (W.cell? ⟨w.heap.size, 0, none⟩ = some (.int .u8 a.k) ∧ W.cell? ⟨w.heap.size, 1, none⟩ = some (str a.n) ∧ W.cell? ⟨w.heap.size, 2, none⟩ = some va) ∧
 (W.frozen? ⟨w.heap.size, 0, none⟩ = false ∧ W.frozen? ⟨w.heap.size, 1, none⟩ = false ∧ W.frozen? ⟨w.heap.size, 2, none⟩ = false) ∧
 (W.cell? ⟨w.heap.size + 1, 0, none⟩ = some (.int .u8 b.k) ∧ W.cell? ⟨w.heap.size + 1, 1, none⟩ = some (str b.n) ∧ W.cell? ⟨w.heap.size + 1, 2, none⟩ = some vb) ∧
 (W.frozen? ⟨w.heap.size + 1, 0, none⟩ = false ∧ W.frozen? ⟨w.heap.size + 1, 1, none⟩ = false ∧ W.frozen? ⟨w.heap.size + 1, 2, none⟩ = false) ∧ TwoP w a b va vb W
theorem TwoP.c {w : World} {a b : Tr} {va vb : Value} {W : World} (h : TwoP w a b va vb W) : TwoC w a b va vb W :=
 ⟨⟨(cells_at h.ra 0).trans rfl, (cells_at h.ra 1).trans rfl, (cells_at h.ra 2).trans rfl⟩, ⟨free_at h.ra 0, free_at h.ra 1, free_at h.ra 2⟩, ⟨(cells_at h.rb 0).trans rfl, (cells_at h.rb 1).trans rfl, (cells_at h.rb 2).trans rfl⟩, ⟨free_at h.rb 0, free_at h.rb 1, free_at h.rb 2⟩, h⟩
theorem TwoC.a {w : World} {a b : Tr} {va vb : Value} {W : World} (h : TwoC w a b va vb W) : TwoC w a b va vb (((W.setCell ⟨w.heap.size, 0, none⟩ (.int .u8 a.k)).setCell ⟨w.heap.size, 1, none⟩ (str a.n)).setCell ⟨w.heap.size, 2, none⟩ va) :=
 (h.2.2.2.2.setA h.2.2.2.2.fa).c
set_option maxRecDepth 4000 in
set_option maxHeartbeats 3200000 in
theorem two_ok (s u : List UInt8) (ms : s.length ≤ maxLen) (mu : u.length ≤ maxLen) (w : World) (ht : Tab w) (hc : (checkK s).1 = 0) : Calls Tryz.prog 185 #[str s, str u] w (TwoPost w s u) := by
 have HT := Lib.hid (show twoK s u = ((checkK s).2, (checkK u).2, (checkK u).1) by unfold twoK; rw [if_pos hc])
 have HC1 := fun W h => kchecked_any s ms W h
 have HC2 := fun W h => kchecked_any u mu W h
 unfold CheckedPost at HC1 HC2
 rcases hq : checkK s with ⟨c, t⟩
 rcases hr : checkK u with ⟨d, x⟩
 rw [hq] at HC1 HT hc
 rw [hr] at HC2 HT
 simp only at HC1 HC2 HT hc
 subst hc
 have H1 := Lib.hid HC1
 have H2 := Lib.hid HC2
 clear hq hr HC1 HC2
 have hb0 := ((Below.refl _ w).alloc (nl _) (.cells #[.int .u8 0, .string ⟨#[]⟩, .slice none 0 0] 174)).alloc (by simp) (.cells #[.int .u8 0, .string ⟨#[]⟩, .slice none 0 0] 174)
 have hP0 : TwoP w ⟨0, [], .nil⟩ ⟨0, [], .nil⟩ (.slice none 0 0) (.slice none 0 0) ((w.alloc (.cells #[.int .u8 0, .string ⟨#[]⟩, .slice none 0 0] 174)).alloc (.cells #[.int .u8 0, .string ⟨#[]⟩, .slice none 0 0] 174)) :=
  ⟨heap_up _ (heap_alloc_new w _), heap_to (by simp) _ _, FoV.nil _ _, FoV.nil _ _, hb0⟩
 have hz0 : ((w.alloc (.cells #[.int .u8 0, .string ⟨#[]⟩, .slice none 0 0] 174)).alloc (.cells #[.int .u8 0, .string ⟨#[]⟩, .slice none 0 0] 174)).heap.size = w.heap.size + 2 := by simp
 have ht0 := ht.below hb0 (nl _)
 go_enter Tryz.func185, Tryz.ntmps185
 go_wp2_with fail
 refine (H1.out _ ht0).mono ?_
 rintro e w1 ⟨va, rfl, hva, hb1⟩
 generalize (w.alloc (.cells #[.int .u8 0, .string ⟨#[]⟩, .slice none 0 0] 174)).alloc (.cells #[.int .u8 0, .string ⟨#[]⟩, .slice none 0 0] 174) = W0 at *
 obtain ⟨pa, ca, rfl, _⟩ := hva.shape
 have hP1 := hP0.below hb1
 have hva1 : FoV w1 (fun b => w.heap.size + 1 < b) t.sub (.slice pa t.sub.len ca) := hva.mono fun b hb _ => by have hb : W0.heap.size ≤ b := hb; omega
 have hP2 := hP1.setA hva1
 have ht2 := ht.below hP2.bel (nl _)
 have c0 := (cells_at hP1.ra 0).trans rfl
 have c1 := (cells_at hP1.ra 1).trans rfl
 have c2 := (cells_at hP1.ra 2).trans rfl
 have f0 := free_at hP1.ra 0
 have f1 := free_at hP1.ra 1
 have f2 := free_at hP1.ra 2
 have hz1 := hP2.bel.size
 have hzz : w.heap.size + 2 ≤ (((w1.setCell ⟨w.heap.size, 0, none⟩ (.int .u8 t.k)).setCell ⟨w.heap.size, 1, none⟩ (str t.n)).setCell ⟨w.heap.size, 2, none⟩ (.slice pa t.sub.len ca)).heap.size := by have := hb1.size; simp [World.setCell]; omega
 clear hP0 hb0 hP1 hva hva1 hb1
 go_wp2_with fail
 refine (H2.out _ ht2).mono ?_
 rintro e w3 ⟨vb, rfl, hvb, hb3⟩
 generalize ((w1.setCell ⟨w.heap.size, 0, none⟩ (.int .u8 t.k)).setCell ⟨w.heap.size, 1, none⟩ (str t.n)).setCell ⟨w.heap.size, 2, none⟩ (.slice pa t.sub.len ca) = W2 at *
 obtain ⟨pb, cb, rfl, _⟩ := hvb.shape
 have hP3 := hP2.below hb3
 have hP4 := hP3.setB (b' := x) (vb' := .slice pb x.sub.len cb) (hvb.mono fun b hb _ => by have hb : W2.heap.size ≤ b := hb; omega)
 have e0 := (cells_at hP3.rb 0).trans rfl
 have e1 := (cells_at hP3.rb 1).trans rfl
 have e2 := (cells_at hP3.rb 2).trans rfl
 have g0 := free_at hP3.rb 0
 have g1 := free_at hP3.rb 1
 have g2 := free_at hP3.rb 2
 clear c0 c1 c2 f0 f1 f2 hP2 hP3 hvb hb3 ht2 ht0
 go_wp2_with fail
 generalize ((w3.setCell ⟨w.heap.size + 1, 0, none⟩ (.int .u8 x.k)).setCell ⟨w.heap.size + 1, 1, none⟩ (str x.n)).setCell ⟨w.heap.size + 1, 2, none⟩ (.slice pb x.sub.len cb) = W4 at *
 have hC := hP4.drew.c
 have hP5 := hP4.setA hP4.fa
 have hC1 := hP5.drew.c
 have hP6 := hP5.setB hP5.fb
 have hC2 := hP6.drew.c
 clear hP5 hP6
 clear e0 e1 e2 g0 g1 g2
 obtain ⟨⟨k0, k1, k2⟩, ⟨k3, k4, k5⟩, ⟨m0, m1, m2⟩, ⟨m3, m4, m5⟩, _⟩ := hP4.c
 clear hP4
 go_region_held3 (fun W => (W.cell? ⟨w.heap.size, 0, none⟩ = some (.int .u8 t.k) ∧ W.cell? ⟨w.heap.size, 1, none⟩ = some (str t.n) ∧ W.cell? ⟨w.heap.size, 2, none⟩ = some (.slice pa t.sub.len ca)) ∧
  (W.frozen? ⟨w.heap.size, 0, none⟩ = false ∧ W.frozen? ⟨w.heap.size, 1, none⟩ = false ∧ W.frozen? ⟨w.heap.size, 2, none⟩ = false) ∧
  (W.cell? ⟨w.heap.size + 1, 0, none⟩ = some (.int .u8 x.k) ∧ W.cell? ⟨w.heap.size + 1, 1, none⟩ = some (str x.n) ∧ W.cell? ⟨w.heap.size + 1, 2, none⟩ = some (.slice pb x.sub.len cb)) ∧
  (W.frozen? ⟨w.heap.size + 1, 0, none⟩ = false ∧ W.frozen? ⟨w.heap.size + 1, 1, none⟩ = false ∧ W.frozen? ⟨w.heap.size + 1, 2, none⟩ = false) ∧ TwoP w t x (.slice pa t.sub.len ca) (.slice pb x.sub.len cb) W)
  (with_reducible (first | exact hC | exact hC1 | exact hC2 | assumption)) (fail)
 rename_i hHx
 clear hHx
 clear hC hC1 k0 k1 k2 k3 k4 k5 m0 m1 m2 m3 m4 m5
 generalize World.drew _ = WF at *
 obtain ⟨⟨q0, q1, q2⟩, _, ⟨r0, r1, r2⟩, _, hP⟩ := hC2
 go_wp2_with fail
 refine bodyPost_ret (v := .tuple #[.agg #[.int .u8 t.k, str t.n, .slice pa t.sub.len ca], .agg #[.int .u8 x.k, str x.n, .slice pb x.sub.len cb], .int .i64 d]) (by simp [results, Tryz.results185, go_sem, q0, q1, q2, r0, r1, r2]) rfl ?_
 unfold TwoPost
 rw [HT.out]
 exact ⟨_, _, rfl, hP.fa, hP.fb, hP.bel⟩
set_option maxRecDepth 4000 in
set_option maxHeartbeats 3200000 in
theorem two_no (s u : List UInt8) (ms : s.length ≤ maxLen) (w : World) (ht : Tab w) (hc : (checkK s).1 ≠ 0) : Calls Tryz.prog 185 #[str s, str u] w (TwoPost w s u) := by
 obtain ⟨z, hz⟩ : ∃ z : Tr, z = ⟨0, [], .nil⟩ := ⟨_, rfl⟩
 have HT := Lib.hid (show twoK s u = ((checkK s).2, z, (checkK s).1) by unfold twoK; rw [if_neg hc, hz])
 have HC1 := fun W h => kchecked_any s ms W h
 unfold CheckedPost at HC1
 rcases hq : checkK s with ⟨d, t⟩
 rw [hq] at HC1 HT hc
 simp only at HC1 HT hc
 obtain ⟨z1, z2⟩ := nat_ne0 hc
 have H1 := Lib.hid HC1
 clear hq HC1 hc
 have hb0 := ((Below.refl _ w).alloc (nl _) (.cells #[.int .u8 0, .string ⟨#[]⟩, .slice none 0 0] 174)).alloc (by simp) (.cells #[.int .u8 0, .string ⟨#[]⟩, .slice none 0 0] 174)
 have hP0 : TwoP w z z (.slice none 0 0) (.slice none 0 0) ((w.alloc (.cells #[.int .u8 0, .string ⟨#[]⟩, .slice none 0 0] 174)).alloc (.cells #[.int .u8 0, .string ⟨#[]⟩, .slice none 0 0] 174)) :=
  by subst hz; exact ⟨heap_up _ (heap_alloc_new w _), heap_to (by simp) _ _, FoV.nil _ _, FoV.nil _ _, hb0⟩
 have HZ := Lib.hid hz
 clear hz
 have hz0 : ((w.alloc (.cells #[.int .u8 0, .string ⟨#[]⟩, .slice none 0 0] 174)).alloc (.cells #[.int .u8 0, .string ⟨#[]⟩, .slice none 0 0] 174)).heap.size = w.heap.size + 2 := by simp
 have ht0 := ht.below hb0 (nl _)
 go_enter Tryz.func185, Tryz.ntmps185
 go_wp2_with fail
 refine (H1.out _ ht0).mono ?_
 rintro e w1 ⟨va, rfl, hva, hb1⟩
 generalize (w.alloc (.cells #[.int .u8 0, .string ⟨#[]⟩, .slice none 0 0] 174)).alloc (.cells #[.int .u8 0, .string ⟨#[]⟩, .slice none 0 0] 174) = W0 at *
 obtain ⟨pa, ca, rfl, _⟩ := hva.shape
 have hP1 := hP0.below hb1
 have hva1 : FoV w1 (fun b => w.heap.size + 1 < b) t.sub (.slice pa t.sub.len ca) := hva.mono fun b hb _ => by have hb : W0.heap.size ≤ b := hb; omega
 have hP4 := hP1.setA hva1
 have c0 := (cells_at hP1.ra 0).trans rfl
 have c1 := (cells_at hP1.ra 1).trans rfl
 have c2 := (cells_at hP1.ra 2).trans rfl
 have f0 := free_at hP1.ra 0
 have f1 := free_at hP1.ra 1
 have f2 := free_at hP1.ra 2
 clear hP0 hb0 hP1 hva hva1 hb1
 go_wp2_with fail
 generalize ((w1.setCell ⟨w.heap.size, 0, none⟩ (.int .u8 t.k)).setCell ⟨w.heap.size, 1, none⟩ (str t.n)).setCell ⟨w.heap.size, 2, none⟩ (.slice pa t.sub.len ca) = W4 at *
 clear c0 c1 c2 f0 f1 f2 ht0
 have hC := hP4.drew.c
 have hP5 := hP4.setA hP4.fa
 have hC1 := hP5.drew.c
 have hP6 := hP5.setB hP5.fb
 have hC2 := hP6.drew.c
 clear hP5 hP6
 obtain ⟨⟨k0, k1, k2⟩, ⟨k3, k4, k5⟩, ⟨m0, m1, m2⟩, ⟨m3, m4, m5⟩, _⟩ := hP4.c
 clear hP4
 go_region_held3 (fun W => (W.cell? ⟨w.heap.size, 0, none⟩ = some (.int .u8 t.k) ∧ W.cell? ⟨w.heap.size, 1, none⟩ = some (str t.n) ∧ W.cell? ⟨w.heap.size, 2, none⟩ = some (.slice pa t.sub.len ca)) ∧
  (W.frozen? ⟨w.heap.size, 0, none⟩ = false ∧ W.frozen? ⟨w.heap.size, 1, none⟩ = false ∧ W.frozen? ⟨w.heap.size, 2, none⟩ = false) ∧
  (W.cell? ⟨w.heap.size + 1, 0, none⟩ = some (.int .u8 z.k) ∧ W.cell? ⟨w.heap.size + 1, 1, none⟩ = some (str z.n) ∧ W.cell? ⟨w.heap.size + 1, 2, none⟩ = some (.slice none 0 0)) ∧
  (W.frozen? ⟨w.heap.size + 1, 0, none⟩ = false ∧ W.frozen? ⟨w.heap.size + 1, 1, none⟩ = false ∧ W.frozen? ⟨w.heap.size + 1, 2, none⟩ = false) ∧ TwoP w t z (.slice pa t.sub.len ca) (.slice none 0 0) W)
  (with_reducible (first | exact hC | exact hC1 | exact hC2 | assumption)) (fail)
 rename_i hHx
 clear hHx
 clear hC hC1 k0 k1 k2 k3 k4 k5 m0 m1 m2 m3 m4 m5
 generalize World.drew _ = WF at *
 obtain ⟨⟨q0, q1, q2⟩, _, ⟨r0, r1, r2⟩, _, hP⟩ := hC2
 go_wp2_with fail
 refine bodyPost_ret (v := .tuple #[.agg #[.int .u8 t.k, str t.n, .slice pa t.sub.len ca], .agg #[.int .u8 z.k, str z.n, .slice none 0 0], .int .i64 d]) (by simp [results, Tryz.results185, go_sem, q0, q1, q2, r0, r1, r2]) rfl ?_
 unfold TwoPost
 rw [HT.out]
 exact ⟨_, _, rfl, hP.fa, hP.fb, hP.bel⟩
theorem two_any (s u : List UInt8) (ms : s.length ≤ maxLen) (mu : u.length ≤ maxLen) (w : World) (ht : Tab w) : Calls Tryz.prog 185 #[str s, str u] w (TwoPost w s u) := by
 by_cases hc : (checkK s).1 = 0
 · exact two_ok s u ms mu w ht hc
 · exact two_no s u ms w ht hc
end Go.Proofs.YtakgjcfkdemipaaGreatDoor
namespace Go.Proofs.YtakgjcfkdemipaaGreatDoor
open Go.RowKit
theorem subst_len (a : List UInt8) : ∀ (n : Nat) (s : List UInt8), s.length ≤ n → (subst a s).length ≤ s.length * (a.length + 1) := by
 intro n
 induction n with
 | zero => intro s h; have : s = [] := List.length_eq_zero_iff.1 (by omega); subst this; simp [subst]
 | succ n ih =>
  intro s h
  match s, h with
  | [], _ => simp [subst]
  | [c], _ =>
   rw [subst];split
   · simp
   · simp
  | c :: d :: r, h =>
   rw [subst];simp only [List.length_cons] at h;split
   · have := ih r (by omega)
     simp only [List.length_append, List.length_cons, Nat.add_mul] at this ⊢;omega
   · have := ih (d :: r) (by simp only [List.length_cons]; omega)
     simp only [List.length_cons, Nat.add_mul] at this ⊢;omega
theorem put_small {t a : Tr} (ht : t.ok) (hl : t.txt.length ≤ 100) (ha : a.txt.length ≤ 100) : (t.put a).txt.length ≤ 1000000 := by
 rw [← ht.subst]
 have h := subst_len a.txt _ t.txt (nl _)
 have : t.txt.length * (a.txt.length + 1) ≤ 100 * 101 := Nat.mul_le_mul hl (by omega)
 omega
def withK (s u : List UInt8) : List UInt8 × Nat := if (twoK s u).2.2 = 0 then toldK ((twoK s u).1.put (twoK s u).2.1) else ([], (twoK s u).2.2)
theorem twoK_ok {s u : List UInt8} {t a : Tr} (h : twoK s u = (t, a, 0)) : checkK s = (0, t) ∧ checkK u = (0, a) := by
 unfold twoK at h
 rcases hq : checkK s with ⟨c, x⟩
 rcases hr : checkK u with ⟨d, y⟩
 rw [hq, hr] at h
 simp only at h
 split at h
 · rename_i e
   simp only [Prod.mk.injEq] at h;obtain ⟨rfl, rfl, rfl⟩ := h;subst e;exact ⟨rfl, rfl⟩
 · rename_i e
   simp only [Prod.mk.injEq] at h;exact absurd h.2.2 e
set_option maxRecDepth 4000 in
set_option maxHeartbeats 3200000 in
theorem kwith_any (s u : List UInt8) (ms : s.length ≤ maxLen) (mu : u.length ≤ maxLen) (w : World) (ht : Tab w) :
 Calls Tryz.prog 123 #[str s, str u] w fun e w' => e = .returned (.tuple #[str (withK s u).1, .int .i64 (withK s u).2]) ∧ Below w.heap.size w w' := by
 have HC := two_any s u ms mu w ht
 unfold TwoPost at HC
 unfold withK
 rcases hq : twoK s u with ⟨t, a, c⟩
 rw [hq] at HC
 simp only at HC ⊢
 by_cases hc : c = 0
 · subst hc
   obtain ⟨h1, h2⟩ := twoK_ok hq;obtain ⟨ot, et, lt, vt⟩ := checkK_ok h1;obtain ⟨oa, ea, la, va⟩ := checkK_ok h2;have htx : t.txt.length ≤ 100 := by rw [et]; exact lt
   have hps := put_small ot htx (by rw [ea]; exact la);have hpl : (t.put a).level ≤ 1000 := by have := Tr.put_level a t; omega
   have htx2 : t.txt.length ≤ 1000000 := by omega
   clear hq h1 h2 et ea lt la vt va;go_enter Tryz.func123, Tryz.ntmps123;go_wp2_with fail;refine HC.mono ?_;clear HC;rintro e w1 ⟨v1, v2, rfl, hv1, hv2, hb1⟩;obtain ⟨p1, c1, rfl, _⟩ := hv1.shape;obtain ⟨p2, c2, rfl, _⟩ := hv2.shape;have hbA := ((Below.refl _ w1).alloc (nl _) (.cells #[.int .u8 t.k, str t.n, .slice p1 t.sub.len c1] 174)).alloc (by simp) (.cells #[.int .u8 a.k, str a.n, .slice p2 a.sub.len c2] 174);have hw1 := hv1.below hbA (nl _);have hw2 := hv2.below hbA (nl _);have hz := hb1.size;have hbB := hb1.trans (below_less hbA hz);clear hbA hv1 hv2;go_wp2_with fail;refine (with_any t a htx2 _ _ _ _ hw1 hw2).mono ?_;rintro e w2 ⟨v', rfl, hv', hb2⟩;obtain ⟨p3, c3, rfl, _⟩ := hv'.shape;go_wp2_with fail;refine (told_any (t.put a) hps hpl _ _ _ hv').mono ?_;rintro e w3 ⟨rfl, hb3⟩;go_wp2_with fail;go_ret2;exact ⟨rfl, (hbB.trans (below_less hb2 (by simp; omega))).trans (below_less hb3 (by have := hb2.size; simp at this; omega))⟩
 · obtain ⟨z1, z2⟩ := nat_ne0 hc
   have HZ := Lib.hid hc;clear hq hc;go_enter Tryz.func123, Tryz.ntmps123;go_wp2_with fail;refine HC.mono ?_;clear HC;rintro e w1 ⟨v1, v2, rfl, hv1, hv2, hb1⟩;obtain ⟨p1, c1, rfl, _⟩ := hv1.shape;obtain ⟨p2, c2, rfl, _⟩ := hv2.shape;go_wp2_with fail;go_ret2;refine ⟨?_, (hb1.alloc hb1.size _).alloc (by have := hb1.size; simp; omega) _⟩
   rfl
end Go.Proofs.YtakgjcfkdemipaaGreatDoor
namespace Go.Proofs.YtakgjcfkdemipaaGreatDoor
theorem Fo.tx_len (pn : List UInt8) (k : Nat) (n : List UInt8) (sub rest : Fo) : (Fo.one ⟨k, n, sub⟩).tx.length ≤ (Fo.cons pn k n sub rest).tx.length ∧ sub.tx.length ≤ (Fo.one ⟨k, n, sub⟩).tx.length ∧ rest.tx.length ≤ (Fo.cons pn k n sub rest).tx.length := by
 have h1 : (Fo.one ⟨k, n, sub⟩).tx = wordK k n ++ sub.br := Fo.tx_one k n sub
 have h2 : sub.tx.length ≤ sub.br.length := by
  cases sub with
  | nil => simp [Fo.tx, Fo.txt, joinC]
  | cons => rw [Fo.br_ne (by simp)]; simp only [List.length_cons, List.length_append, List.length_nil]; omega
 by_cases hr : rest = .nil
 · subst hr
   rw [Fo.tx_last, show (Fo.cons [] k n sub Fo.nil) = Fo.one ⟨k, n, sub⟩ from rfl, h1];simp only [List.length_append];refine ⟨by omega, by omega, by simp [Fo.tx, Fo.txt, joinC]⟩
 · rw [Fo.tx_more _ _ _ _ _ hr, show (Fo.cons [] k n sub Fo.nil) = Fo.one ⟨k, n, sub⟩ from rfl, h1]
   simp only [List.length_append, List.length_cons];omega
end Go.Proofs.YtakgjcfkdemipaaGreatDoor
namespace Go.Proofs.YtakgjcfkdemipaaGreatDoor
open Go.RowKit
end Go.Proofs.YtakgjcfkdemipaaGreatDoor
