/-
  The walk of the statement KindRebuilt: it answers true. Condition: the variable strings.asciiSpace; the text's bound.
-/
import Derived.Test.YtakdmnhpoelepaaGreatDoorPRebuilt
import Derived.WalkSmall
namespace Go.Proofs.YtakdmnhpoelepaaGreatDoor
open Go.RowKit

theorem aArray {s : List UInt8} (hs : s.length ≤ 400) : Ans 33 #[str s] (.tuple #[str (arrK s).1, .int .i64 (arrK s).2]) := fun W hW => karray_any s (small400 hs) W hW
theorem aNamed {n s : List UInt8} (hn : n.length ≤ 400) (hs : s.length ≤ 400) : Ans 35 #[str n, str s] (.tuple #[str (namK n s).1, .int .i64 (namK n s).2]) := fun W hW => knamed_any n s (small400 hn) (small400 hs) W hW
theorem wr_long (t : List UInt8) (q : Nat) (w : World) (ht : Tab w) (h : decide (t.length ≤ 400) = false) :
    Calls Tryz.prog 12 #[str t, .int .u8 q] w fun e w' => e = .returned (.bool true) ∧ Below w.heap.size w w' := by
  have hs := short1 t w false h
  go_enter Tryz.func12, Tryz.ntmps12
  go_wp2_with (first
    | (go_at_call 13; refine hs.mono ?_; clear hs; rintro e wk ⟨rfl, hbk⟩; have hB := hbk)
    | (go_at_call 14; refine (aKept _ (ht.below hB (Nat.le_refl _))).mono ?_; rintro e wk ⟨rfl, hbk⟩; have hB := hB.trans (below_less hbk hB.size)))
  go_ret
  exact ⟨rfl, hB⟩
theorem wr_bad (t : List UInt8) (q : Nat) (K c : Nat) (w : World) (ht : Tab w) (h : decide (t.length ≤ 400) = true) (h1 : Ans 28 #[str t] (.tuple #[.int .u8 K, .int .i64 c])) (hc : c ≠ 0) :
    Calls Tryz.prog 12 #[str t, .int .u8 q] w fun e w' => e = .returned (.bool true) ∧ Below w.heap.size w w' := by
  have hs := short1 t w true h
  obtain ⟨g1, g2⟩ := nat_ne0 hc
  go_enter Tryz.func12, Tryz.ntmps12
  go_wp2_with (first
    | (go_at_call 13; refine hs.mono ?_; clear hs; rintro e wk ⟨rfl, hbk⟩; have hB := hbk)
    | (go_at_call 28; refine (h1 _ (ht.below hB (Nat.le_refl _))).mono ?_; clear h1; rintro e wk ⟨rfl, hbk⟩; have hB := hB.trans (below_less hbk hB.size))
    | (go_at_call 14; refine (aKept _ (ht.below hB (Nat.le_refl _))).mono ?_; rintro e wk ⟨rfl, hbk⟩; have hB := hB.trans (below_less hbk hB.size)))
  go_ret
  exact ⟨rfl, hB⟩
set_option maxRecDepth 4000 in
set_option maxHeartbeats 3200000 in
theorem wr_array (t : List UInt8) (q : Nat) (a : List UInt8) (w : World) (ht : Tab w) (h : decide (t.length ≤ 400) = true)
    (h1 : Ans 28 #[str t] (.tuple #[.int .u8 4, .int .i64 0])) (h2 : Ans 41 #[str t] (.tuple #[str a, .bool true, .int .i64 0])) (h3 : Ans 43 #[str t] (.tuple #[str [], .int .i64 30])) (h5 : Ans 33 #[str a] (.tuple #[str t, .int .i64 0])) (h4 : AnsP 45 #[str t] [] 30) :
    Calls Tryz.prog 12 #[str t, .int .u8 q] w fun e w' => e = .returned (.bool true) ∧ Below w.heap.size w w' := by
  have hs := short1 t w true h
  go_enter Tryz.func12, Tryz.ntmps12
  go_wp2_with (first
    | (go_at_call 13; refine hs.mono ?_; clear hs; rintro e wk ⟨rfl, hbk⟩; have hB := hbk)
    | (go_at_call 28; refine (h1 _ (ht.below hB (Nat.le_refl _))).mono ?_; clear h1; rintro e wk ⟨rfl, hbk⟩; have hB := hB.trans (below_less hbk hB.size))
    | (go_at_call 41; refine (h2 _ (ht.below hB (Nat.le_refl _))).mono ?_; clear h2; rintro e wk ⟨rfl, hbk⟩; have hB := hB.trans (below_less hbk hB.size))
    | (go_at_call 43; refine (h3 _ (ht.below hB (Nat.le_refl _))).mono ?_; clear h3; rintro e wk ⟨rfl, hbk⟩; have hB := hB.trans (below_less hbk hB.size))
    | (go_at_call 45; refine (h4 _ (ht.below hB (Nat.le_refl _))).mono ?_; clear h4; rintro e w1 ⟨v1, rfl, hv1, hbk⟩; obtain ⟨p1, c1, rfl⟩ := hv1.shape; have hB := hB.trans (below_less hbk hB.size)))
  refine wp_loop_rounds 1 ?_
  rw [rounds_succ]
  go_wp2_with (first
    | (go_at_call 33; refine (h5 _ (ht.below hB (Nat.le_refl _))).mono ?_; clear h5; rintro e wk ⟨rfl, hbk⟩; have hB := hB.trans (below_less hbk hB.size))
    | (go_at_call 14; refine (aKept _ (ht.below hB (Nat.le_refl _))).mono ?_; rintro e wk ⟨rfl, hbk⟩; have hB := hB.trans (below_less hbk hB.size)))
  go_ret
  exact ⟨rfl, hB⟩
set_option maxRecDepth 4000 in
set_option maxHeartbeats 3200000 in
theorem wr_name (t : List UInt8) (q : Nat) (a n : List UInt8) (is : Bool) (w : World) (ht : Tab w) (h : decide (t.length ≤ 400) = true)
    (h1 : Ans 28 #[str t] (.tuple #[.int .u8 7, .int .i64 0])) (h2 : Ans 41 #[str t] (.tuple #[str a, .bool is, .int .i64 0])) (h3 : Ans 43 #[str t] (.tuple #[str n, .int .i64 0])) (h5 : Ans 35 #[str n, str a] (.tuple #[str t, .int .i64 0])) (h4 : AnsP 45 #[str t] [] 30) :
    Calls Tryz.prog 12 #[str t, .int .u8 q] w fun e w' => e = .returned (.bool true) ∧ Below w.heap.size w w' := by
  have hs := short1 t w true h
  cases is
  all_goals
    go_enter Tryz.func12, Tryz.ntmps12
    go_wp2_with (first
    | (go_at_call 13; refine hs.mono ?_; clear hs; rintro e wk ⟨rfl, hbk⟩; have hB := hbk)
    | (go_at_call 28; refine (h1 _ (ht.below hB (Nat.le_refl _))).mono ?_; clear h1; rintro e wk ⟨rfl, hbk⟩; have hB := hB.trans (below_less hbk hB.size))
    | (go_at_call 41; refine (h2 _ (ht.below hB (Nat.le_refl _))).mono ?_; clear h2; rintro e wk ⟨rfl, hbk⟩; have hB := hB.trans (below_less hbk hB.size))
    | (go_at_call 43; refine (h3 _ (ht.below hB (Nat.le_refl _))).mono ?_; clear h3; rintro e wk ⟨rfl, hbk⟩; have hB := hB.trans (below_less hbk hB.size))
    | (go_at_call 45; refine (h4 _ (ht.below hB (Nat.le_refl _))).mono ?_; clear h4; rintro e w1 ⟨v1, rfl, hv1, hbk⟩; obtain ⟨p1, c1, rfl⟩ := hv1.shape; have hB := hB.trans (below_less hbk hB.size)))
    refine wp_loop_rounds 1 ?_
    rw [rounds_succ]
    go_wp2_with (first
    | (go_at_call 35; refine (h5 _ (ht.below hB (Nat.le_refl _))).mono ?_; clear h5; rintro e wk ⟨rfl, hbk⟩; have hB := hB.trans (below_less hbk hB.size))
    | (go_at_call 14; refine (aKept _ (ht.below hB (Nat.le_refl _))).mono ?_; rintro e wk ⟨rfl, hbk⟩; have hB := hB.trans (below_less hbk hB.size)))
    go_ret
    exact ⟨rfl, hB⟩
set_option maxRecDepth 4000 in
set_option maxHeartbeats 3200000 in
theorem wr_other (t : List UInt8) (q : Nat) (K : Nat) (hK : K ≠ 4 ∧ K ≠ 5 ∧ K ≠ 6 ∧ K ≠ 7) (w : World) (ht : Tab w) (h : decide (t.length ≤ 400) = true)
    (h1 : Ans 28 #[str t] (.tuple #[.int .u8 K, .int .i64 0])) (h2 : Ans 41 #[str t] (.tuple #[str [], .bool false, .int .i64 30])) (h3 : Ans 43 #[str t] (.tuple #[str [], .int .i64 30])) (h4 : AnsP 45 #[str t] [] 30) :
    Calls Tryz.prog 12 #[str t, .int .u8 q] w fun e w' => e = .returned (.bool true) ∧ Below w.heap.size w w' := by
  have hs := short1 t w true h
  obtain ⟨k4, k5, k6, k7⟩ := hK
  have g4 : ((K : Int) == 4) = false := by rw [beq_eq_false_iff_ne]; omega
  have g5 : ((K : Int) == 5) = false := by rw [beq_eq_false_iff_ne]; omega
  have g6 : ((K : Int) == 6) = false := by rw [beq_eq_false_iff_ne]; omega
  have g7 : ((K : Int) == 7) = false := by rw [beq_eq_false_iff_ne]; omega
  clear k4 k5 k6 k7
  go_enter Tryz.func12, Tryz.ntmps12
  go_wp2_with (first
    | (go_at_call 13; refine hs.mono ?_; clear hs; rintro e wk ⟨rfl, hbk⟩; have hB := hbk)
    | (go_at_call 28; refine (h1 _ (ht.below hB (Nat.le_refl _))).mono ?_; clear h1; rintro e wk ⟨rfl, hbk⟩; have hB := hB.trans (below_less hbk hB.size))
    | (go_at_call 41; refine (h2 _ (ht.below hB (Nat.le_refl _))).mono ?_; clear h2; rintro e wk ⟨rfl, hbk⟩; have hB := hB.trans (below_less hbk hB.size))
    | (go_at_call 43; refine (h3 _ (ht.below hB (Nat.le_refl _))).mono ?_; clear h3; rintro e wk ⟨rfl, hbk⟩; have hB := hB.trans (below_less hbk hB.size))
    | (go_at_call 45; refine (h4 _ (ht.below hB (Nat.le_refl _))).mono ?_; clear h4; rintro e w1 ⟨v1, rfl, hv1, hbk⟩; obtain ⟨p1, c1, rfl⟩ := hv1.shape; have hB := hB.trans (below_less hbk hB.size)))
  refine wp_loop_rounds 1 ?_
  rw [rounds_succ]
  go_wp2_with (first
    | (go_at_call 14; refine (aKept _ (ht.below hB (Nat.le_refl _))).mono ?_; rintro e wk ⟨rfl, hbk⟩; have hB := hB.trans (below_less hbk hB.size)))
  go_ret
  exact ⟨rfl, hB⟩
set_option maxRecDepth 4000 in
set_option maxHeartbeats 6400000 in
theorem wr_record (t : List UInt8) (q : Nat) (hq : q ≤ 255) (l : List (List UInt8 × List UInt8)) (hl1 : 1 ≤ l.length) (hl6 : l.length ≤ 6) (hsm : ∀ x ∈ l, x.1.length ≤ 1000 ∧ x.2.length ≤ 1000) (hM : ∀ ps, ps.Perm l → madeK 5 ps = (t, 0)) (w : World) (ht : Tab w) (h : decide (t.length ≤ 400) = true)
    (h1 : Ans 28 #[str t] (.tuple #[.int .u8 5, .int .i64 0])) (h2 : Ans 41 #[str t] (.tuple #[str [], .bool false, .int .i64 30])) (h3 : Ans 43 #[str t] (.tuple #[str [], .int .i64 30])) (h4 : AnsP 45 #[str t] l 0) :
    Calls Tryz.prog 12 #[str t, .int .u8 q] w fun e w' => e = .returned (.bool true) ∧ Below w.heap.size w w' := by
  have hs := short1 t w true h
  have hR := fun v W hW hv => krecord_any (rotL l q) v W hW hv (by rw [rotL_len]; omega) (fun x hx => hsm x ((rotL_perm l q).mem_iff.1 hx))
  rw [hM _ (rotL_perm l q)] at hR
  have HAT := Lib.hid (fun i (h : i < l.length) => rotL_at (q := q) h)
  have HLEN := Lib.hid (rotL_len l q)
  have HR := Lib.hid hR
  clear hR hM hsm
  obtain ⟨i0, hi0, hz0, hz1, hz2⟩ := info_parts infoPt
  go_enter Tryz.func12, Tryz.ntmps12
  go_wp2_with (first
    | (go_at_call 13; refine hs.mono ?_; clear hs; rintro e wk ⟨rfl, hbk⟩; have hB := hbk)
    | (go_at_call 28; refine (h1 _ (ht.below hB (Nat.le_refl _))).mono ?_; clear h1; rintro e wk ⟨rfl, hbk⟩; have hB := hB.trans (below_less hbk hB.size))
    | (go_at_call 41; refine (h2 _ (ht.below hB (Nat.le_refl _))).mono ?_; clear h2; rintro e wk ⟨rfl, hbk⟩; have hB := hB.trans (below_less hbk hB.size))
    | (go_at_call 43; refine (h3 _ (ht.below hB (Nat.le_refl _))).mono ?_; clear h3; rintro e wk ⟨rfl, hbk⟩; have hB := hB.trans (below_less hbk hB.size))
    | (go_at_call 45; refine (h4 _ (ht.below hB (Nat.le_refl _))).mono ?_; clear h4; rintro e w1 ⟨v1, rfl, hv1, hbk⟩; obtain ⟨p1, c1, rfl⟩ := hv1.shape; have hB := hB.trans (below_less hbk hB.size)))
  go_loopw [14, 15] (fun o y wr => ∃ i : Nat, i ≤ l.length ∧ y = .int .i64 i ∧ wr.ownsRow w1.heap.size 46 2 o i (ptsC ((rotL l q).take i)) ∧ Below w.heap.size w wr ∧ Below w1.heap.size w1 wr) (fun _ y _ => l.length - (intOf y).toNat)
  case atStart => exact ⟨0, Nat.zero_le _, by go_num, by simpa [ptsC] using World.ownsRow_nil _ _ _ _, hB, Below.refl _ _⟩
  case round =>
    have hB1 := hB.size
    clear hB
    obtain ⟨i, hi, rfl, hown, hB, hb1⟩ := hrel
    obtain ⟨po, co, rfl⟩ := row_shape hown
    by_cases hlt : i < l.length
    case pos =>
      have hj : (i + q) % l.length < l.length := Nat.mod_lt _ (by omega)
      obtain ⟨b, o, c, x, he, hx, d1, d2⟩ := (hv1.below hb1).at hj
      injection he with he1 he2 he3
      subst he1 he3
      have hx2 := HAT.out i hlt
      rw [hx] at hx2
      have HX := Lib.hid (take_snoc' _ _ _ hx2)
      have ej : ((i : Int) + (q : Int)) % (l.length : Int) = (((i + q) % l.length : Nat) : Int) := by push_cast; rfl
      generalize (i + q) % l.length = j at hj d1 d2 ej
      clear hx hx2
      go_wp2_with (at_builtin; refine wpList_append_own _ rfl _ _ 44 rfl w1.heap.size 46 i0 (.agg #[.string ⟨#[]⟩, .string ⟨#[]⟩]) 2 32 underPts hi0 hz0 hz1 hz2 rfl (by decide) _ _ _ rfl (hown.alloc _) ⟨wr.heap.size, 0, none⟩ 1 1 [str x.1, str x.2] rfl rfl (cell_two_new _ _ _ _) (fun y hy => by simp at hy; rcases hy with rfl | rfl <;> rfl) (by unfold maxLen; omega) (by omega) (by have := hb1.size; simp; omega) ?_; intro v' w5 hown4 hgr _)
      refine ⟨⟨i + 1, hlt, by go_num, ?_, (hB.alloc hB.size _).grown hgr (by have := hB.size; simp; omega) (fun b e => by have := (hown.lt b e).1; omega), (hb1.alloc hb1.size _).grown hgr (by have := hb1.size; simp; omega) (fun b e => (hown.lt b e).1)⟩, by simp only [intOf]; omega⟩
      rw [HX.out, ptsC_snoc]
      exact hown4
    case neg =>
      have hie : i = (rotL l q).length := by rw [HLEN.out]; omega
      have hrow : wr.ownsRow w1.heap.size 46 2 (.slice po i co) (rotL l q).length (ptsC (rotL l q)) := by
        rw [hie, List.take_of_length_le (Nat.le_refl _)] at hown
        rw [hie]; exact hown
      have hp := Pts.of_own hrow
      have hl0 : decide (0 < l.length) = true := by rw [decide_eq_true_eq]; omega
      clear hie hrow
      go_wp2_with (first
    | (go_at_call 37; refine (HR.out _ _ (ht.below hB (Nat.le_refl _)) hp).mono ?_; rintro e wk ⟨rfl, hbk⟩; have hB := hB.trans (below_less hbk hB.size))
    | (go_at_call 14; refine (aKept _ (ht.below hB (Nat.le_refl _))).mono ?_; rintro e wk ⟨rfl, hbk⟩; have hB := hB.trans (below_less hbk hB.size)))
      go_ret
      exact ⟨rfl, hB⟩
set_option maxRecDepth 4000 in
set_option maxHeartbeats 6400000 in
theorem wr_oneof (t : List UInt8) (q : Nat) (hq : q ≤ 255) (l : List (List UInt8 × List UInt8)) (hl1 : 1 ≤ l.length) (hl6 : l.length ≤ 6) (hsm : ∀ x ∈ l, x.1.length ≤ 1000 ∧ x.2.length ≤ 1000) (hM : ∀ ps, ps.Perm l → madeK 6 ps = (t, 0)) (w : World) (ht : Tab w) (h : decide (t.length ≤ 400) = true)
    (h1 : Ans 28 #[str t] (.tuple #[.int .u8 6, .int .i64 0])) (h2 : Ans 41 #[str t] (.tuple #[str [], .bool false, .int .i64 30])) (h3 : Ans 43 #[str t] (.tuple #[str [], .int .i64 30])) (h4 : AnsP 45 #[str t] l 0) :
    Calls Tryz.prog 12 #[str t, .int .u8 q] w fun e w' => e = .returned (.bool true) ∧ Below w.heap.size w w' := by
  have hs := short1 t w true h
  have hR := fun v W hW hv => koneof_any (rotL l q) v W hW hv (by rw [rotL_len]; omega) (fun x hx => hsm x ((rotL_perm l q).mem_iff.1 hx))
  rw [hM _ (rotL_perm l q)] at hR
  have HAT := Lib.hid (fun i (h : i < l.length) => rotL_at (q := q) h)
  have HLEN := Lib.hid (rotL_len l q)
  have HR := Lib.hid hR
  clear hR hM hsm
  obtain ⟨i0, hi0, hz0, hz1, hz2⟩ := info_parts infoPt
  go_enter Tryz.func12, Tryz.ntmps12
  go_wp2_with (first
    | (go_at_call 13; refine hs.mono ?_; clear hs; rintro e wk ⟨rfl, hbk⟩; have hB := hbk)
    | (go_at_call 28; refine (h1 _ (ht.below hB (Nat.le_refl _))).mono ?_; clear h1; rintro e wk ⟨rfl, hbk⟩; have hB := hB.trans (below_less hbk hB.size))
    | (go_at_call 41; refine (h2 _ (ht.below hB (Nat.le_refl _))).mono ?_; clear h2; rintro e wk ⟨rfl, hbk⟩; have hB := hB.trans (below_less hbk hB.size))
    | (go_at_call 43; refine (h3 _ (ht.below hB (Nat.le_refl _))).mono ?_; clear h3; rintro e wk ⟨rfl, hbk⟩; have hB := hB.trans (below_less hbk hB.size))
    | (go_at_call 45; refine (h4 _ (ht.below hB (Nat.le_refl _))).mono ?_; clear h4; rintro e w1 ⟨v1, rfl, hv1, hbk⟩; obtain ⟨p1, c1, rfl⟩ := hv1.shape; have hB := hB.trans (below_less hbk hB.size)))
  go_loopw [14, 15] (fun o y wr => ∃ i : Nat, i ≤ l.length ∧ y = .int .i64 i ∧ wr.ownsRow w1.heap.size 46 2 o i (ptsC ((rotL l q).take i)) ∧ Below w.heap.size w wr ∧ Below w1.heap.size w1 wr) (fun _ y _ => l.length - (intOf y).toNat)
  case atStart => exact ⟨0, Nat.zero_le _, by go_num, by simpa [ptsC] using World.ownsRow_nil _ _ _ _, hB, Below.refl _ _⟩
  case round =>
    have hB1 := hB.size
    clear hB
    obtain ⟨i, hi, rfl, hown, hB, hb1⟩ := hrel
    obtain ⟨po, co, rfl⟩ := row_shape hown
    by_cases hlt : i < l.length
    case pos =>
      have hj : (i + q) % l.length < l.length := Nat.mod_lt _ (by omega)
      obtain ⟨b, o, c, x, he, hx, d1, d2⟩ := (hv1.below hb1).at hj
      injection he with he1 he2 he3
      subst he1 he3
      have hx2 := HAT.out i hlt
      rw [hx] at hx2
      have HX := Lib.hid (take_snoc' _ _ _ hx2)
      have ej : ((i : Int) + (q : Int)) % (l.length : Int) = (((i + q) % l.length : Nat) : Int) := by push_cast; rfl
      generalize (i + q) % l.length = j at hj d1 d2 ej
      clear hx hx2
      go_wp2_with (at_builtin; refine wpList_append_own _ rfl _ _ 44 rfl w1.heap.size 46 i0 (.agg #[.string ⟨#[]⟩, .string ⟨#[]⟩]) 2 32 underPts hi0 hz0 hz1 hz2 rfl (by decide) _ _ _ rfl (hown.alloc _) ⟨wr.heap.size, 0, none⟩ 1 1 [str x.1, str x.2] rfl rfl (cell_two_new _ _ _ _) (fun y hy => by simp at hy; rcases hy with rfl | rfl <;> rfl) (by unfold maxLen; omega) (by omega) (by have := hb1.size; simp; omega) ?_; intro v' w5 hown4 hgr _)
      refine ⟨⟨i + 1, hlt, by go_num, ?_, (hB.alloc hB.size _).grown hgr (by have := hB.size; simp; omega) (fun b e => by have := (hown.lt b e).1; omega), (hb1.alloc hb1.size _).grown hgr (by have := hb1.size; simp; omega) (fun b e => (hown.lt b e).1)⟩, by simp only [intOf]; omega⟩
      rw [HX.out, ptsC_snoc]
      exact hown4
    case neg =>
      have hie : i = (rotL l q).length := by rw [HLEN.out]; omega
      have hrow : wr.ownsRow w1.heap.size 46 2 (.slice po i co) (rotL l q).length (ptsC (rotL l q)) := by
        rw [hie, List.take_of_length_le (Nat.le_refl _)] at hown
        rw [hie]; exact hown
      have hp := Pts.of_own hrow
      have hl0 : decide (0 < l.length) = true := by rw [decide_eq_true_eq]; omega
      clear hie hrow
      go_wp2_with (first
    | (go_at_call 39; refine (HR.out _ _ (ht.below hB (Nat.le_refl _)) hp).mono ?_; rintro e wk ⟨rfl, hbk⟩; have hB := hB.trans (below_less hbk hB.size))
    | (go_at_call 14; refine (aKept _ (ht.below hB (Nat.le_refl _))).mono ?_; rintro e wk ⟨rfl, hbk⟩; have hB := hB.trans (below_less hbk hB.size)))
      go_ret
      exact ⟨rfl, hB⟩
theorem argK_no {s : List UInt8} {T : Tr} (h : checkK s = (0, T)) (h4 : T.k ≠ 4) (h7 : T.k ≠ 7) : argK s = ([], false, 30) := by
  unfold argK
  rw [ofK_no h (by simp [h4, h7])]
  rw [if_neg (by simp)]
theorem baseK_no {s : List UInt8} {T : Tr} (h : checkK s = (0, T)) (h7 : T.k ≠ 7) : baseK s = ([], 30) := by
  unfold baseK
  rw [ofK_no h (by simp [h7])]
theorem partsK_no {s : List UInt8} {T : Tr} (h : checkK s = (0, T)) (h5 : T.k ≠ 5) (h6 : T.k ≠ 6) : partsK s = ([], 30) := by
  unfold partsK
  rw [ofK_no h (by simp [h5, h6])]
  rw [if_neg (by simp)]
/-- KindRebuilt answers true. -/
theorem wrebuilt (t : List UInt8) (q : Nat) (hq : q ≤ 255) (w : World) (ht : Tab w) : Calls Tryz.prog 12 #[str t, .int .u8 q] w fun e w' => e = .returned (.bool true) ∧ Below w.heap.size w w' := by
  rcases h : decide (t.length ≤ 400) with _ | _
  · exact wr_long t q w ht h
  · have lt : t.length ≤ 400 := by simpa using h
    have h1 := aKind lt
    have h2 := aArg lt
    have h3 := aBase lt
    have h4 := aParts lt
    rcases hc : checkK t with ⟨c, T⟩
    rw [hc] at h1
    by_cases h0 : c = 0
    · subst h0
      by_cases k4 : T.k = 4
      · obtain ⟨a, e1, e2, e3⟩ := array_again hc k4
        have h5 := aArray (s := a) (by omega)
        rw [e3] at h5
        rw [e1] at h2
        rw [baseK_no hc (by omega)] at h3
        rw [partsK_no hc (by omega) (by omega)] at h4
        rw [k4] at h1
        exact wr_array t q a w ht h h1 h2 h3 h5 h4
      by_cases k7 : T.k = 7
      · obtain ⟨a, is, e1, e2, e3, e4, e5⟩ := named_again hc k7
        have h5 := aNamed (n := T.n) (s := a) (by omega) (by omega)
        rw [e5] at h5
        rw [e1] at h2
        rw [e3] at h3
        rw [partsK_no hc (by omega) (by omega)] at h4
        rw [k7] at h1
        exact wr_name t q a T.n is w ht h h1 h2 h3 h5 h4
      rw [argK_no hc k4 k7] at h2
      rw [baseK_no hc k7] at h3
      by_cases k56 : T.k = 5 ∨ T.k = 6
      · have hp := ofK_yes (l := [5, 6]) hc (by rcases k56 with k | k <;> rw [k] <;> rfl)
        have hpk : partsK t = (T.sub.pts, 0) := by unfold partsK; rw [hp]; rfl
        rw [hpk] at h4
        obtain ⟨o1, e1, l1, _⟩ := checkK_ok hc
        have hlen := rec_len o1 k56
        have hw := rec_wf o1 k56
        have hne : T.sub.len ≠ 0 := fun hz => hw.ne (fo_zero hz)
        have htx : T.sub.tx.length ≤ 100 := by
          have h6 : (Tr.txt ⟨T.k, T.n, T.sub⟩).length ≤ 100 := by show T.txt.length ≤ 100; rw [e1]; exact l1
          rw [txt_br hne] at h6
          simp only [List.length_append, List.length_cons] at h6
          omega
        have hsm : ∀ x ∈ T.sub.pts, x.1.length ≤ 1000 ∧ x.2.length ≤ 1000 := by
          intro x hx
          constructor
          · rw [Fo.pts_prs] at hx
            obtain ⟨y, hy, rfl⟩ := List.mem_map.1 hx
            have := name_small ((hw.parts [] rfl).1 y hy).1
            show y.1.length ≤ 1000
            omega
          · obtain ⟨i, hi, rfl⟩ := List.getElem_of_mem hx
            obtain ⟨pn, t', hat⟩ := Fo.at_some T.sub i (by rw [← Fo.pts_len]; exact hi)
            have h5 := Fo.pts_at T.sub i pn t' hat
            rw [List.getElem?_eq_getElem hi] at h5
            simp only [Option.some.injEq] at h5
            rw [h5]
            have := Fo.at_txl hat
            show t'.txt.length ≤ 1000
            omega
        have hM : ∀ ps, ps.Perm T.sub.pts → madeK T.k ps = (t, 0) := fun ps hp => made_again hc k56 hp
        have hl1 : 1 ≤ T.sub.pts.length := by rw [Fo.pts_len]; omega
        have hl6 : T.sub.pts.length ≤ 6 := by rw [Fo.pts_len]; omega
        rcases k56 with k | k
        · rw [k] at h1 hM
          exact wr_record t q hq _ hl1 hl6 hsm hM w ht h h1 h2 h3 h4
        · rw [k] at h1 hM
          exact wr_oneof t q hq _ hl1 hl6 hsm hM w ht h h1 h2 h3 h4
      · rw [partsK_no hc (fun e => k56 (.inl e)) (fun e => k56 (.inr e))] at h4
        exact wr_other t q T.k ⟨k4, fun e => k56 (.inl e), fun e => k56 (.inr e), k7⟩ w ht h h1 h2 h3 h4
    · exact wr_bad t q _ c w ht h h1 h0
end Go.Proofs.YtakdmnhpoelepaaGreatDoor
