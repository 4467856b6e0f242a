/-
  Contract: kind.checked: the answer's number and the type.
-/
import Derived.Test.YtakdmnhpoelepaaGreatDoorKRead9
import Derived.Test.YtakdmnhpoelepaaGreatDoorLevel1
namespace Go.Proofs.YtakdmnhpoelepaaGreatDoor
open Go.RowKit

/-- The answer and the type of a text. -/
def checkK (s : List UInt8) : Nat × Tr :=
  if 100 < s.length then (2, ⟨0, [], .nil⟩) else
  match parseT s with
  | some (t, []) => if 6 < t.level then (2, ⟨0, [], .nil⟩) else (0, t)
  | _ => (4, ⟨0, [], .nil⟩)
def CheckedPost (w : World) (s : List UInt8) (e : Ending) (w' : World) : Prop :=
  ∃ v, e = .returned (.tuple #[.agg #[.int .u8 (checkK s).2.k, str (checkK s).2.n, v], .int .i64 (checkK s).1]) ∧ FoV w' (fun b => w.heap.size ≤ b) (checkK s).2.sub v ∧ Below w.heap.size w w'

set_option maxRecDepth 4000 in
set_option maxHeartbeats 3200000 in
theorem kchecked_long (s : List UInt8) (_hm : s.length ≤ maxLen) (w : World) (hl : 100 < s.length) : Calls Tryz.prog 57 #[str s] w (CheckedPost w s) := by
  have HE := Lib.hid (show checkK s = (2, ⟨0, [], .nil⟩) by unfold checkK; rw [if_pos hl])
  go_enter Tryz.func57, Tryz.ntmps57
  go_wp2_with fail
  refine bodyPost_ret (v := .tuple #[.agg #[.int .u8 0, str [], .slice none 0 0], .int .i64 2]) (by simp [results, Tryz.results57, go_sem]) rfl ?_
  unfold CheckedPost
  rw [HE.out]
  exact ⟨_, rfl, FoV.nil _ _, (Below.refl _ _).alloc (Nat.le_refl _) _⟩

set_option maxRecDepth 4000 in
set_option maxHeartbeats 3200000 in
theorem kchecked_bad (s : List UInt8) (w : World) (ht : Tab w) (hl : ¬ 100 < s.length) (hq : ∀ t, parseT s ≠ some (t, [])) : Calls Tryz.prog 57 #[str s] w (CheckedPost w s) := by
  have HE := Lib.hid (show checkK s = (4, ⟨0, [], .nil⟩) by
    unfold checkK; rw [if_neg hl]
    rcases h : parseT s with _ | ⟨t, _ | ⟨c, r⟩⟩
    · rfl
    · exact absurd h (hq t)
    · rfl)
  have HR := Lib.hid (show ∀ W e w', ReadPost W s e w' → e = .returned (.tuple #[.agg #[.int .u8 0, str [], .slice none 0 0], .bool false]) ∧ Below W.heap.size W w' by
    intro W e w' h
    unfold ReadPost at h
    rcases hp : parseT s with _ | ⟨t, _ | ⟨c, r⟩⟩
    · rw [hp] at h; exact h
    · exact absurd hp (hq t)
    · rw [hp] at h; exact h)
  have hbel := (Below.refl w.heap.size w).alloc (Nat.le_refl _) (.cells #[.int .u8 0, .string ⟨#[]⟩, .slice none 0 0] 57)
  clear hq
  go_enter Tryz.func57, Tryz.ntmps57
  go_wp2_with (go_at_call 76; refine (kread_any s (by omega) _ (ht.kept (b := w.heap.size) (Kept.of_below hbel (Nat.le_refl _)) (by have := ht.lt; omega))).mono ?_; intro e w1 hp; obtain ⟨rfl, hb1⟩ := HR.out _ _ _ hp; clear hp; have r1 := fun o => heap_old o ((hb1.block w.heap.size (by simp)).trans (heap_alloc_new w (.cells #[.int .u8 0, .string ⟨#[]⟩, .slice none 0 0] 57))); have c0 := fun o => (cells_at (r1 o) 0).trans rfl; have c1 := fun o => (cells_at (r1 o) 1).trans rfl; have c2 := fun o => (cells_at (r1 o) 2).trans rfl; have f0 := fun o => free_at (r1 o) 0; have f1 := fun o => free_at (r1 o) 1; have f2 := fun o => free_at (r1 o) 2; clear r1)
  refine bodyPost_ret (v := .tuple #[.agg #[.int .u8 0, str [], .slice none 0 0], .int .i64 4]) (by simp [results, Tryz.results57, go_sem, c0, c1, c2]) rfl ?_
  unfold CheckedPost
  rw [HE.out]
  have hb2 := (hbel.trans (below_less hb1 (by simp))).alloc (by have := hb1.size; simp at this; omega) (.cells #[.int .u8 0, .string ⟨#[]⟩, .slice none 0 0] 57)
  exact ⟨_, rfl, FoV.nil _ _, ((hb2.setCell (p := ⟨w.heap.size, 0, none⟩) (Nat.le_refl _) _).setCell (p := ⟨w.heap.size, 1, none⟩) (Nat.le_refl _) _).setCell (p := ⟨w.heap.size, 2, none⟩) (Nat.le_refl _) _⟩

set_option maxRecDepth 4000 in
set_option maxHeartbeats 3200000 in
theorem kchecked_some (s : List UInt8) (t : Tr) (w : World) (ht : Tab w) (hl : ¬ 100 < s.length) (hq : parseT s = some (t, [])) : Calls Tryz.prog 57 #[str s] w (CheckedPost w s) := by
  have HE := Lib.hid (show checkK s = if 6 < t.level then (2, ⟨0, [], .nil⟩) else (0, t) by unfold checkK; rw [if_neg hl, hq])
  have HR := Lib.hid (show ∀ W e w', ReadPost W s e w' → (∃ v, e = .returned (.tuple #[.agg #[.int .u8 t.k, str t.n, v], .bool true]) ∧ FoV w' (fun b => W.heap.size ≤ b) t.sub v) ∧ Below W.heap.size W w' by
    intro W e w' h
    unfold ReadPost at h
    rw [hq] at h
    exact h)
  have hlev : t.sub.level ≤ 100 := by
    have h := fo_level (s.length + 1) none s (.one t) [] (by rw [pA_parseT (by omega), hq]; rfl)
    simp [Fo.one, Fo.level] at h
    omega
  have hbel := (Below.refl w.heap.size w).alloc (Nat.le_refl _) (.cells #[.int .u8 0, .string ⟨#[]⟩, .slice none 0 0] 57)
  clear hq
  by_cases h6 : 6 < t.level
  all_goals have h6' : ((6 : Int) < (t.sub.level : Int) + 1) = (6 < t.level) := by unfold Tr.level; apply propext; omega
  all_goals go_enter Tryz.func57, Tryz.ntmps57
  all_goals go_wp2_with (first | (go_at_call 76; refine (kread_any s (by omega) _ (ht.kept (b := w.heap.size) (Kept.of_below hbel (Nat.le_refl _)) (by have := ht.lt; omega))).mono ?_; intro e w1 hp; obtain ⟨⟨v, rfl, hv⟩, hb1⟩ := HR.out _ _ _ hp; clear hp; obtain ⟨pt, ct, rfl, _⟩ := hv.shape; have r1 := fun o => heap_old o ((hb1.block w.heap.size (by simp)).trans (heap_alloc_new w (.cells #[.int .u8 0, .string ⟨#[]⟩, .slice none 0 0] 57)))) | (go_at_call 64; refine (level_any 100 t.sub hlev (by omega) _ _ _ t.k t.n (hv.below ((Below.refl _ w1).alloc (Nat.le_refl _) _) (Nat.le_refl _))).mono ?_; rintro e w2 ⟨rfl, hb2⟩; have r2 := (hb2.block w.heap.size (by have := hb1.size; simp at this ⊢; omega)).trans (r1 _); have c0 := (cells_at r2 0).trans rfl; have c1 := (cells_at r2 1).trans rfl; have c2 := (cells_at r2 2).trans rfl; have f0 := free_at r2 0; have f1 := free_at r2 1; have f2 := free_at r2 2; have r4 := (hb2.block w1.heap.size (by simp)).trans (heap_alloc_new w1 _); have d0 := (cells_at r4 0).trans rfl; have d1 := (cells_at r4 1).trans rfl; have d2 := (cells_at r4 2).trans rfl; clear r1 r2 r4))
  all_goals have hs1 := hb1.size
  all_goals simp only [World.size_alloc] at hs1
  all_goals have hb3 := ((hbel.trans (below_less hb1 (by simp))).alloc (by omega) (.cells #[.int .u8 t.k, .string ⟨t.n.toArray⟩, .slice pt t.sub.len ct] 57)).trans (below_less hb2 (by simp; omega))
  · refine bodyPost_ret (v := .tuple #[.agg #[.int .u8 0, str [], .slice none 0 0], .int .i64 2]) (by simp [results, Tryz.results57, go_sem, c0, c1, c2]) rfl ?_
    unfold CheckedPost
    rw [HE.out, if_pos h6]
    exact ⟨_, rfl, FoV.nil _ _, ((hb3.setCell (p := ⟨w.heap.size, 0, none⟩) (Nat.le_refl _) _).setCell (p := ⟨w.heap.size, 1, none⟩) (Nat.le_refl _) _).setCell (p := ⟨w.heap.size, 2, none⟩) (Nat.le_refl _) _⟩
  · refine bodyPost_ret (v := .tuple #[.agg #[.int .u8 t.k, str t.n, .slice pt t.sub.len ct], .int .i64 0]) (by simp [results, Tryz.results57, go_sem, c0, c1, c2]) rfl ?_
    unfold CheckedPost
    rw [HE.out, if_neg h6]
    refine ⟨_, rfl, ?_, ((hb3.setCell (p := ⟨w.heap.size, 0, none⟩) (Nat.le_refl _) _).setCell (p := ⟨w.heap.size, 1, none⟩) (Nat.le_refl _) _).setCell (p := ⟨w.heap.size, 2, none⟩) (Nat.le_refl _) _⟩
    have hv3 := (hv.below (B := w1.heap.size) ((Below.refl _ w1).alloc (Nat.le_refl _) (.cells #[.int .u8 t.k, .string ⟨t.n.toArray⟩, .slice pt t.sub.len ct] 57)) (Nat.le_refl _)).below hb2 (Nat.le_refl _)
    have hv4 := hv3.mono (D' := fun b => w.heap.size < b) fun b hb _ => by simp only [World.size_alloc] at hb; show w.heap.size < b; omega
    exact (hv4.set3 (fun b hb => Nat.ne_of_gt hb) _ _ _).mono fun b hb _ => Nat.le_of_lt hb

theorem kchecked_any (s : List UInt8) (hm : s.length ≤ maxLen) (w : World) (ht : Tab w) : Calls Tryz.prog 57 #[str s] w (CheckedPost w s) := by
  by_cases hl : 100 < s.length
  · exact kchecked_long s hm w hl
  · rcases hq : parseT s with _ | ⟨t, _ | ⟨c, r⟩⟩
    · exact kchecked_bad s w ht hl (by rw [hq]; intro t h; cases h)
    · exact kchecked_some s t w ht hl hq
    · exact kchecked_bad s w ht hl (by rw [hq]; intro t h; cases h)
end Go.Proofs.YtakdmnhpoelepaaGreatDoor
