/-
  Contract: the program's tree.open: whether the parameter is inside a type. No condition.
-/
import Derived.Test.YtakdmnhpoelepaaGreatDoorKInside
namespace Go.Proofs.YtakdmnhpoelepaaGreatDoor
open Go.RowKit Go.Shelf
attribute [local go_sem] Oper.semAt_some

theorem Fo.ins_opn : ∀ fo : Fo, fo.ins.any (fun t => decide (t.k = 8)) = fo.opn
  | .nil => rfl
  | .cons pn k n sub rest => by
    rw [Fo.ins, List.any_cons, List.any_append, Fo.ins_opn sub, Fo.ins_opn rest, Fo.opn, Bool.or_assoc]
theorem Tr.ins_opn (t : Tr) : t.ins.any (fun t => decide (t.k = 8)) = t.opn := by
  rw [Tr.ins, List.any_cons, Fo.ins_opn, Tr.opn]
/-- Whether the parameter has come. -/
def parB {w₀ : World} {n₀ : Nat} {Q : Tr → Prop} (pre : List (TV w₀ n₀ Q)) : Bool := pre.any (fun x => decide (x.1.1.k = 8))
theorem parB_snoc {w₀ : World} {n₀ : Nat} {Q : Tr → Prop} (pre : List (TV w₀ n₀ Q)) (x : TV w₀ n₀ Q) : parB (pre ++ [x]) = (parB pre || decide (x.1.1.k = 8)) := by simp [parB]
/-- What a block of cells holds abides what is no cells. -/
theorem heap_own {β : Type} (B : Nat) (cs : β → Array Value) (t : TypeId) (z : Nat × Nat) : Own (fun s W => W.heap[B]? = some (.cells (cs s) t z)) := fun s X Y row hs hg hrow =>
  (hg.block B (Array.getElem?_eq_some_iff.1 hs).1 (fun e => by
    obtain ⟨o, ho, hc⟩ := hrow B e.symm
    rw [hs] at ho
    cases ho
    cases hc)).trans hs
theorem size_own {β : Type} (B k : Nat) : OwnFrom B (fun (_ : β) W => k ≤ W.heap.size) := fun _ _ _ _ hs hg _ => Nat.le_trans hs hg.size
theorem none_own {β : Type} : Own (fun (_ : β) (_ : World) => False) := fun _ _ _ _ hs _ _ => hs

set_option maxRecDepth 4000 in
set_option maxHeartbeats 3200000 in
theorem open_any (t : Tr) (w : World) (D : Nat → Prop) (v : Value) (hv : FoV w D t.sub v) :
    Calls Tryz.prog 52 #[.agg #[.int .u8 t.k, str t.n, v]] w fun e w' => e = .returned (.bool t.opn) ∧ Below w.heap.size w w' := by
  have hv0 := hv.mono (D' := fun b => b < w.heap.size) fun _ _ h => h
  obtain ⟨p, c, rfl, _⟩ := hv.shape
  refine (callsIn_wide (n := 6)).1 ?_
  refine callsIn_of_wp_marks Tryz.func52 rfl trivial ?_ rfl
  simp only [Tryz.ntmps52, List.size_toArray, List.length_cons, List.length_nil, Nat.reduceAdd, Nat.reduceSub, Array.replicate_succ, Array.replicate_zero, List.push_toArray, List.append_toArray, List.nil_append, List.cons_append]
  gi_wp2_with (refine ⟨trivial, ?_⟩; gi_at_call 58; refine (inside_any _ _ _ _ _ _ _).mono ?_; rintro e w' ⟨rfl, rfl⟩)
  have hz1 : (w.alloc (.cells #[.int .u8 t.k, str t.n, .slice p t.sub.len c] 57)).heap.size = w.heap.size + 1 := by simp
  have hz2 : ((w.alloc (.cells #[.int .u8 t.k, str t.n, .slice p t.sub.len c] 57)).alloc (.cells #[.bool false] 4)).heap.size = w.heap.size + 1 + 1 := by simp
  have hb0 : Below w.heap.size w (((w.alloc (.cells #[.int .u8 t.k, str t.n, .slice p t.sub.len c] 57)).alloc (.cells #[.bool false] 4)).alloc (.cells #[.int .u8 t.k, str t.n, .slice p t.sub.len c] 57)) := (((Below.refl _ w).alloc (Nat.le_refl _) _).alloc (by simp) _).alloc (by simp; omega) _
  have hr2 := heap_up (.cells #[.int .u8 t.k, str t.n, .slice p t.sub.len c] 57) (heap_to hz1 #[.bool false] 4)
  have hr3 := heap_to hz2 #[.int .u8 t.k, str t.n, .slice p t.sub.len c] 57
  have hz3 : (((w.alloc (.cells #[.int .u8 t.k, str t.n, .slice p t.sub.len c] 57)).alloc (.cells #[.bool false] 4)).alloc (.cells #[.int .u8 t.k, str t.n, .slice p t.sub.len c] 57)).heap.size = w.heap.size + 3 := by simp
  clear hz1 hz2
  generalize ((w.alloc (.cells #[.int .u8 t.k, str t.n, .slice p t.sub.len c] 57)).alloc (.cells #[.bool false] 4)).alloc (.cells #[.int .u8 t.k, str t.n, .slice p t.sub.len c] 57) = W0 at *
  have hle0 : w.heap.size ≤ W0.heap.size := by omega
  have hle3 : w.heap.size + 3 ≤ W0.heap.size := by omega
  clear hz3
  refine wpIn_rangeFunc_ownH (α := TV w w.heap.size (fun _ => True)) rfl (show 1 ≤ 6 by decide) (gf := 77) (lb := #[.pointer (some ⟨w.heap.size + 1 + 1, 0, none⟩)]) rfl trivial (enters_of Tryz.func77 (by kernel_rfl) rfl)
    (inside_stops (w₀ := w) (n₀ := w.heap.size) (n₁ := W0.heap.size) (fun _ _ _ _ _ _ => trivial) t trivial _ 5 hb0 hle0 (Nat.le_refl _) hv0 hr3) (fun h k => h.trans k) (KpI.book hle0) (Below.refl _ _) (fun _ => rfl)
    (fun pre W => ((W.heap[w.heap.size + 1]? = some (.cells #[.bool false] 4 (0, 0)) ∧ parB pre = false) ∧ Below w.heap.size w W ∧ W0.heap.size ≤ W.heap.size))
    (fun cd pre W => ((W.heap[w.heap.size + 1]? = some (.cells #[.bool true] 4 (0, 0)) ∧ cd = .ret ∧ parB pre = true) ∧ Below w.heap.size w W ∧ W0.heap.size ≤ W.heap.size))
    (OwnFrom.and (OwnFrom.and (Own.from (heap_own _ (fun _ => #[.bool false]) _ _) _) (ownFrom_pure _ _)) (OwnFrom.and (ownFrom_below (Nat.le_refl _) hle0) (size_own _ _)))
    (fun _ => OwnFrom.and (OwnFrom.and (Own.from (heap_own _ (fun _ => #[.bool true]) _ _) _) (ownFrom_pure _ _)) (OwnFrom.and (ownFrom_below (Nat.le_refl _) hle0) (size_own _ _)))
    ⟨⟨hr2, rfl⟩, hb0, Nat.le_refl _⟩
    (fun x a' W => ∃ Bx, W0.heap.size ≤ Bx ∧ W.heap[Bx]? = some (.cells #[.int .u8 x.1.1.k, str x.1.1.n, x.1.2] 57 (0, 0)) ∧
      a' = { tmps := #[.agg #[.int .u8 t.k, str t.n, .slice p t.sub.len c], .pointer (some ⟨w.heap.size, 0, none⟩), .pointer (some ⟨w.heap.size + 1, 0, none⟩), .pointer (some ⟨Bx, 0, none⟩), .agg #[.int .u8 t.k, str t.n, .slice p t.sub.len c], .func (.func 77) #[] #[.pointer (some ⟨w.heap.size + 1 + 1, 0, none⟩)], .agg #[.int .u8 x.1.1.k, str x.1.1.n, x.1.2], undef, undef, undef], defers := [] })
    (fun x a' _ W W' row ⟨Bx, h1, h2, h3⟩ hg hr => ⟨Bx, h1, (heap_own (β := Unit) Bx (fun _ => #[.int .u8 x.1.1.k, str x.1.1.n, x.1.2]) _ _) () W W' row h2 hg (fun r e => (hr r e).2), h3⟩) ?assign ?body ?done ?stop
  case assign =>
    rintro l pre ⟨⟨u, vu⟩, hu, hQu⟩ W K ⟨⟨hc, hp⟩, hB, hS⟩ hK
    obtain ⟨pu, cu, e, _⟩ := FoV.shape (fo := u.sub) (v := vu) hu
    subst e
    dsimp only at hK ⊢
    have hsz := hB.size
    have hlt := (Array.getElem?_eq_some_iff.1 hc).1
    gi_wp2
    exact hK _ _ ((KeepsOthers.alloc _ _).from _) ((KpI.refl _ _ _).alloc (by omega) _) ⟨⟨heap_up _ hc, hp⟩, hB.alloc hsz _, by simp; omega⟩ ⟨W.heap.size, hS, heap_alloc_new W _, rfl⟩
  case body =>
    rintro l pre ⟨⟨u, vu⟩, hu, hQu⟩ a' W hl ⟨r, hr⟩ ⟨⟨hc, hp⟩, hB, hS⟩ ⟨Bx, hBx, hX, rfl⟩ hlt
    obtain ⟨pu, cu, e, _⟩ := FoV.shape (fo := u.sub) (v := vu) hu
    subst e
    dsimp only at hX ⊢
    have c0 := (cells_at hX 0).trans rfl
    have c1 := (cells_at hc 0).trans rfl
    have f1 := free_at hc 0
    by_cases h8 : u.k = 8
    · have e8 : ((u.k : Int) == 8) = true := by rw [h8]; rfl
      have H8 := Lib.hid h8
      clear h8
      gi_wp2
      exact ⟨(KeepsOthers.setCell _ _ _).from _, ⟨set_row hc 0 (.bool true), rfl, by rw [parB_snoc]; simp only [H8.out]; simp⟩, hB.setCell (p := ⟨w.heap.size + 1, 0, none⟩) (by simp) _, by simpa [World.setCell] using hS⟩
    · have e8 : ((u.k : Int) == 8) = false := by rw [beq_eq_false_iff_ne]; omega
      have H8 := Lib.hid h8
      clear h8
      gi_wp2
      exact ⟨KeepsFrom.refl _ _, KpI.refl _ _ _, ⟨hc, by rw [parB_snoc, hp, Bool.false_or, decide_eq_false_iff_not]; exact H8.out⟩, hB, hS⟩
  case done =>
    rintro D' xs W hD hxs ⟨⟨hc, hp⟩, hB, hS⟩ hK
    have hop : t.opn = false := by
      rw [← Tr.ins_opn, ← hxs, List.any_map]
      exact hp
    have HP := Lib.hid hop
    clear hop
    have c1 := (cells_at hc 0).trans rfl
    have f1 := free_at hc 0
    gi_wp2
    have hK2 := (KeepsOthers.setCell W ⟨w.heap.size + 1, 0, none⟩ (.bool false)).same D' _ hK rfl
    refine ⟨by simp, .inl ⟨_, _, rfl, run_takeDeferred hK2, ?_⟩⟩
    have hc5 := cell_kept ((cells_at (set_row hc 0 (.bool false)) 0).trans rfl) (grownBy_putObj' _ D' (.deferred none)) (fun r e => by cases e; exact ⟨_, hK2, rfl⟩)
    refine ⟨.bool false, ?_, by rw [HP.out], ?_⟩
    · simp [results, Tryz.f52, go_sem, hc5]
    · exact (hB.setCell (p := ⟨w.heap.size + 1, 0, none⟩) (by simp) _).trans (belowK_b (w := w) (Nat.le_refl _) _ D' _ _ (by omega) hK2 rfl rfl)
  case stop =>
    rintro D' cd pre W hD hxs ⟨⟨hc, rfl, hp⟩, hB, hS⟩ hK
    have hop : t.opn = true := by
      rw [← Tr.ins_opn]
      obtain ⟨r, hr⟩ := hxs
      rw [← hr, List.any_append, List.any_map]
      rw [show pre.any ((fun t => decide (t.k = 8)) ∘ fun x => x.1.1) = true from hp]
      rfl
    have HP := Lib.hid hop
    clear hop
    gi_wp2
    refine ⟨by simp, .inl ⟨_, _, rfl, run_takeDeferred hK, ?_⟩⟩
    have hc5 := cell_kept ((cells_at hc 0).trans rfl) (grownBy_putObj' _ D' (.deferred none)) (fun r e => by cases e; exact ⟨_, hK, rfl⟩)
    refine ⟨.bool true, ?_, by rw [HP.out], ?_⟩
    · simp [results, Tryz.f52, go_sem, hc5]
    · exact hB.trans (belowK_b (w := w) (Nat.le_refl _) _ D' _ _ (by omega) hK rfl rfl)
end Go.Proofs.YtakdmnhpoelepaaGreatDoor
