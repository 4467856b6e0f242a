/-
  Contracts: the program's comparison of two parts by their names (cmp.Compare[string], the closures of kind.sorted and kind.made). No condition.
-/
import Derived.Test.YtakdmnhpoelepaaGreatDoorKTop
import Derived.Test.YtakdmnhpoelepaaGreatDoorPlain0
import Derived.Sort.Grow
namespace Go.Proofs.YtakdmnhpoelepaaGreatDoor
open Go.RowKit Go.Sort

/-- How two texts compare. -/
def cmpB (a b : List UInt8) : Int := if Op.bytesLess a b then -1 else if Op.bytesLess b a then 1 else 0
set_option maxRecDepth 4000 in
set_option maxHeartbeats 3200000 in
theorem isNaN_any (a : List UInt8) (w : World) : Calls Tryz.prog 136 #[str a] w fun e w' => e = .returned (.bool false) ∧ w = w' := by
  have h : (a != a) = false := by simp
  go_enter Tryz.func136, Tryz.ntmps136
  go_wp2
  go_ret
  exact ⟨rfl, rfl⟩
set_option maxRecDepth 4000 in
set_option maxHeartbeats 3200000 in
theorem compare_any (a b : List UInt8) (w : World) : Calls Tryz.prog 117 #[str a, str b] w fun e w' => e = .returned (.int .i64 (cmpB a b)) ∧ w = w' := by
  rcases h1 : Op.bytesLess a b with _ | _
  · rcases h2 : Op.bytesLess b a with _ | _
    · have H := Lib.hid (show cmpB a b = 0 by unfold cmpB; rw [h1, h2]; rfl)
      have he : (!a == b) = false := by
        have h3 := less_total a b h1
        rw [h2, Bool.false_or] at h3
        have h4 : b = a := by simpa using h3
        rw [h4]; simp
      go_enter Tryz.func117, Tryz.ntmps117
      go_wp2_with (go_at_call 136; refine (isNaN_any _ _).mono ?_; rintro e w1 ⟨rfl, rfl⟩)
      go_ret
      exact ⟨by rw [H.out]; rfl, rfl⟩
    · have H := Lib.hid (show cmpB a b = 1 by unfold cmpB; rw [h1, h2]; rfl)
      have he : (!a == b) = true := by
        have h3 : a ≠ b := by
          rintro rfl
          rw [less_irrefl] at h2; simp at h2
        simpa using h3
      go_enter Tryz.func117, Tryz.ntmps117
      go_wp2_with (go_at_call 136; refine (isNaN_any _ _).mono ?_; rintro e w1 ⟨rfl, rfl⟩)
      go_ret
      exact ⟨by rw [H.out]; rfl, rfl⟩
  · have H := Lib.hid (show cmpB a b = -1 by unfold cmpB; rw [h1]; rfl)
    go_enter Tryz.func117, Tryz.ntmps117
    go_wp2_with (go_at_call 136; refine (isNaN_any _ _).mono ?_; rintro e w1 ⟨rfl, rfl⟩)
    go_ret
    exact ⟨by rw [H.out]; rfl, rfl⟩
/-- A part in memory: its name, its type, the slice of its type's parts. -/
abbrev PV := List UInt8 × Tr × Option Addr × Nat × Nat
/-- The cells of a part. -/
def encP (x : PV) : List Value := [str x.1, .int .u8 x.2.1.k, str x.2.1.n, .slice x.2.2.1 x.2.2.2.1 x.2.2.2.2]
set_option maxRecDepth 4000 in
set_option maxHeartbeats 3200000 in
theorem key_any (pn n : List UInt8) (k : Nat) (p : Option Addr) (l c : Nat) (w : World) : Calls Tryz.prog 95 #[.agg #[str pn, .int .u8 k, str n, .slice p l c]] w fun e w' => e = .returned (str pn) ∧ w' = w.alloc (.cells #[str pn, .int .u8 k, str n, .slice p l c] 63) := by
  go_enter Tryz.func95, Tryz.ntmps95
  go_wp2
  go_ret
  exact ⟨rfl, rfl⟩

/-- Draws and new blocks. -/
def Gr (W W' : World) : Prop := ∃ q os, W' = grow (W.drewN q) os
theorem Gr.refl (W : World) : Gr W W := ⟨0, #[], by simp [World.drewN]⟩
theorem Gr.alloc {W W' : World} (h : Gr W W') (o : Obj) : Gr W (W'.alloc o) := by
  obtain ⟨q, os, rfl⟩ := h
  exact ⟨q, os ++ #[o], by rw [alloc_eq_grow, grow_grow]⟩
theorem Gr.drew {W W' : World} (h : Gr W W') : Gr W W'.drew := by
  obtain ⟨q, os, rfl⟩ := h
  exact ⟨q + 1, os, rfl⟩
/-- What the comparison reads. -/
structure CmpS (W : World) (Kb : Nat) (x y : PV) (W' : World) : Prop where
  g : Gr W W'
  k : W'.cell? ⟨Kb, 0, none⟩ = some (.func (.func 95) #[] #[])
  x0 : W'.heap[W.heap.size]? = some (.cells (encP x).toArray 63 (0, 0))
  y0 : W'.heap[W.heap.size + 1]? = some (.cells (encP y).toArray 63 (0, 0))
theorem CmpS.alloc {W W' : World} {Kb : Nat} {x y : PV} (h : CmpS W Kb x y W') (o : Obj) : CmpS W Kb x y (W'.alloc o) :=
  ⟨h.g.alloc o, Below.keep ((Below.refl _ W').alloc (Nat.le_refl _) o) h.k, heap_up o h.x0, heap_up o h.y0⟩
theorem CmpS.drew {W W' : World} {Kb : Nat} {x y : PV} (h : CmpS W Kb x y W') : CmpS W Kb x y W'.drew := ⟨h.g.drew, h.k, h.x0, h.y0⟩
abbrev CmpC (W : World) (Kb : Nat) (x y : PV) (W' : World) : Prop :=
  W'.cell? ⟨Kb, 0, none⟩ = some (.func (.func 95) #[] #[]) ∧
  (W'.cell? ⟨W.heap.size, 0, none⟩ = some (str x.1) ∧ W'.cell? ⟨W.heap.size, 1, none⟩ = some (.int .u8 x.2.1.k) ∧ W'.cell? ⟨W.heap.size, 2, none⟩ = some (str x.2.1.n) ∧ W'.cell? ⟨W.heap.size, 3, none⟩ = some (.slice x.2.2.1 x.2.2.2.1 x.2.2.2.2)) ∧
  (W'.cell? ⟨W.heap.size + 1, 0, none⟩ = some (str y.1) ∧ W'.cell? ⟨W.heap.size + 1, 1, none⟩ = some (.int .u8 y.2.1.k) ∧ W'.cell? ⟨W.heap.size + 1, 2, none⟩ = some (str y.2.1.n) ∧ W'.cell? ⟨W.heap.size + 1, 3, none⟩ = some (.slice y.2.2.1 y.2.2.2.1 y.2.2.2.2)) ∧
  CmpS W Kb x y W'
theorem CmpS.c {W W' : World} {Kb : Nat} {x y : PV} (h : CmpS W Kb x y W') : CmpC W Kb x y W' :=
  ⟨h.k, ⟨(cells_at h.x0 0).trans rfl, (cells_at h.x0 1).trans rfl, (cells_at h.x0 2).trans rfl, (cells_at h.x0 3).trans rfl⟩, ⟨(cells_at h.y0 0).trans rfl, (cells_at h.y0 1).trans rfl, (cells_at h.y0 2).trans rfl, (cells_at h.y0 3).trans rfl⟩, h⟩
theorem CmpC.alloc {W W' : World} {Kb : Nat} {x y : PV} (h : CmpC W Kb x y W') (o : Obj) : CmpC W Kb x y (W'.alloc o) := (h.2.2.2.alloc o).c

set_option maxRecDepth 4000 in
set_option maxHeartbeats 3200000 in
theorem cmp2_any (x y : PV) (Kb : Nat) (W : World) (hk : W.cell? ⟨Kb, 0, none⟩ = some (.func (.func 95) #[] #[])) :
    Calls Tryz.prog 116 #[.agg (encP x).toArray, .agg (encP y).toArray, .pointer (some ⟨Kb, 0, none⟩)] W fun e w' => e = .returned (.int .i64 (cmpB x.1 y.1)) ∧ Gr W w' := by
  obtain ⟨xn, xt, xp, xl, xc⟩ := x
  obtain ⟨yn, yt, yp, yl, yc⟩ := y
  have hS : CmpS W Kb (xn, xt, xp, xl, xc) (yn, yt, yp, yl, yc) (((W.alloc (.cells #[str xn, .int .u8 xt.k, str xt.n, .slice xp xl xc] 63)).alloc (.cells #[str yn, .int .u8 yt.k, str yt.n, .slice yp yl yc] 63))) :=
    ⟨((Gr.refl W).alloc _).alloc _, Below.keep (((Below.refl _ W).alloc (Nat.le_refl _) _).alloc (by simp) _) hk, heap_up _ (heap_alloc_new W _), heap_to (by simp) _ _⟩
  have hC := hS.drew.c
  have hC1 := (hS.alloc (.cells #[str xn, .int .u8 xt.k, str xt.n, .slice xp xl xc] 63)).drew.c
  have hC2 := ((hS.alloc (.cells #[str xn, .int .u8 xt.k, str xt.n, .slice xp xl xc] 63)).alloc (.cells #[str yn, .int .u8 yt.k, str yt.n, .slice yp yl yc] 63)).drew.c
  unfold encP
  dsimp only at hC hC1 hC2 ⊢
  go_enter Tryz.func116, Tryz.ntmps116
  go_wp2_with fail
  go_region_held3 (fun W' => W'.cell? ⟨Kb, 0, none⟩ = some (.func (.func 95) #[] #[]) ∧
  (W'.cell? ⟨W.heap.size, 0, none⟩ = some (str xn) ∧ W'.cell? ⟨W.heap.size, 1, none⟩ = some (.int .u8 xt.k) ∧ W'.cell? ⟨W.heap.size, 2, none⟩ = some (str xt.n) ∧ W'.cell? ⟨W.heap.size, 3, none⟩ = some (.slice xp xl xc)) ∧
  (W'.cell? ⟨W.heap.size + 1, 0, none⟩ = some (str yn) ∧ W'.cell? ⟨W.heap.size + 1, 1, none⟩ = some (.int .u8 yt.k) ∧ W'.cell? ⟨W.heap.size + 1, 2, none⟩ = some (str yt.n) ∧ W'.cell? ⟨W.heap.size + 1, 3, none⟩ = some (.slice yp yl yc)) ∧
  CmpS W Kb (xn, xt, xp, xl, xc) (yn, yt, yp, yl, yc) W')
    (with_reducible (first | exact hC | exact hC1 | exact hC2 | assumption))
    (first | (go_at_call 95; refine (key_any _ _ _ _ _ _ _).mono ?_; rintro e w2 ⟨rfl, rfl⟩) | (go_at_call 117; refine (compare_any _ _ _).mono ?_; rintro e w2 ⟨rfl, rfl⟩))
  go_wp2
  go_ret
  exact ⟨rfl, hC2.2.2.2.g⟩
end Go.Proofs.YtakdmnhpoelepaaGreatDoor
