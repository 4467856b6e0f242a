/-
  Contracts: kind.two, kind.With. Condition: the texts' length; the variable strings.asciiSpace.
-/
import Derived.Test.YtakdmnhpoelepaaGreatDoorKTop
namespace Go.Proofs.YtakdmnhpoelepaaGreatDoor
open Go.RowKit

/-- The trees of two types, or the first error. -/
def twoK (s u : List UInt8) : Tr × Tr × Nat := if (checkK s).1 = 0 then ((checkK s).2, (checkK u).2, (checkK u).1) else ((checkK s).2, ⟨0, [], .nil⟩, (checkK s).1)
def TwoPost (w : World) (s u : List UInt8) (e : Ending) (w' : World) : Prop :=
  ∃ va vb, e = .returned (.tuple #[.agg #[.int .u8 (twoK s u).1.k, str (twoK s u).1.n, va], .agg #[.int .u8 (twoK s u).2.1.k, str (twoK s u).2.1.n, vb], .int .i64 (twoK s u).2.2]) ∧
    FoV w' (fun b => w.heap.size + 1 < b) (twoK s u).1.sub va ∧ FoV w' (fun b => w.heap.size + 1 < b) (twoK s u).2.1.sub vb ∧ Below w.heap.size w w'

/-- The two results in their blocks. -/
structure TwoP (w : World) (a b : Tr) (va vb : Value) (W : World) : Prop where
  ra : W.heap[w.heap.size]? = some (.cells #[.int .u8 a.k, str a.n, va] 57 (0, 0))
  rb : W.heap[w.heap.size + 1]? = some (.cells #[.int .u8 b.k, str b.n, vb] 57 (0, 0))
  fa : FoV W (fun b => w.heap.size + 1 < b) a.sub va
  fb : FoV W (fun b => w.heap.size + 1 < b) b.sub vb
  bel : Below w.heap.size w W
/-- A tree is stored in a block of its own. -/
theorem set3_row {W : World} {B : Nat} {x0 x1 x2 : Value} {t : TypeId} {z : Nat × Nat} (h : W.heap[B]? = some (.cells #[x0, x1, x2] t z)) (a b c : Value) :
    (((W.setCell ⟨B, 0, none⟩ a).setCell ⟨B, 1, none⟩ b).setCell ⟨B, 2, none⟩ c).heap[B]? = some (.cells #[a, b, c] t z) := set_row (set_row (set_row h 0 a) 1 b) 2 c
theorem set3_far {W : World} {B k : Nat} (h : k ≠ B) (a b c : Value) : (((W.setCell ⟨B, 0, none⟩ a).setCell ⟨B, 1, none⟩ b).setCell ⟨B, 2, none⟩ c).heap[k]? = W.heap[k]? := by
  rw [Below.heap_setCell _ _ _ _ h, Below.heap_setCell _ _ _ _ h, Below.heap_setCell _ _ _ _ h]
theorem set3_below {B' B : Nat} {w W : World} (h : Below B' w W) (hB : B' ≤ B) (a b c : Value) : Below B' w (((W.setCell ⟨B, 0, none⟩ a).setCell ⟨B, 1, none⟩ b).setCell ⟨B, 2, none⟩ c) :=
  ((h.setCell (p := ⟨B, 0, none⟩) hB a).setCell (p := ⟨B, 1, none⟩) hB b).setCell (p := ⟨B, 2, none⟩) hB c
theorem set3_fov {W : World} {D : Nat → Prop} {fo : Fo} {v : Value} {B : Nat} (h : FoV W D fo v) (hD : ∀ b, D b → b ≠ B) (x y z : Value) : FoV (((W.setCell ⟨B, 0, none⟩ x).setCell ⟨B, 1, none⟩ y).setCell ⟨B, 2, none⟩ z) D fo v :=
  h.kept fun b hb _ => set3_far (hD b hb) x y z
theorem TwoP.setA {w : World} {a b a' : Tr} {va vb va' : Value} {W : World} (h : TwoP w a b va vb W) (hv : FoV W (fun b => w.heap.size + 1 < b) a'.sub va') :
    TwoP w a' b va' vb (((W.setCell ⟨w.heap.size, 0, none⟩ (.int .u8 a'.k)).setCell ⟨w.heap.size, 1, none⟩ (str a'.n)).setCell ⟨w.heap.size, 2, none⟩ va') :=
  ⟨set3_row h.ra _ _ _, (set3_far (by omega) _ _ _).trans h.rb, set3_fov hv (fun b hb => by omega) _ _ _, set3_fov h.fb (fun b hb => by omega) _ _ _, set3_below h.bel (Nat.le_refl _) _ _ _⟩
theorem TwoP.setB {w : World} {a b b' : Tr} {va vb vb' : Value} {W : World} (h : TwoP w a b va vb W) (hv : FoV W (fun b => w.heap.size + 1 < b) b'.sub vb') :
    TwoP w a b' va vb' (((W.setCell ⟨w.heap.size + 1, 0, none⟩ (.int .u8 b'.k)).setCell ⟨w.heap.size + 1, 1, none⟩ (str b'.n)).setCell ⟨w.heap.size + 1, 2, none⟩ vb') :=
  ⟨(set3_far (by omega) _ _ _).trans h.ra, set3_row h.rb _ _ _, set3_fov h.fa (fun b hb => by omega) _ _ _, set3_fov hv (fun b hb => by omega) _ _ _, set3_below h.bel (by omega) _ _ _⟩
theorem TwoP.below {w : World} {a b : Tr} {va vb : Value} {W W' : World} (h : TwoP w a b va vb W) (hb : Below W.heap.size W W') : TwoP w a b va vb W' :=
  ⟨(hb.block _ (Array.getElem?_eq_some_iff.1 h.ra).1).trans h.ra, (hb.block _ (Array.getElem?_eq_some_iff.1 h.rb).1).trans h.rb, h.fa.below hb (Nat.le_refl _), h.fb.below hb (Nat.le_refl _), h.bel.trans (below_less hb h.bel.size)⟩
theorem TwoP.drew {w : World} {a b : Tr} {va vb : Value} {W : World} (h : TwoP w a b va vb W) : TwoP w a b va vb W.drew := h.below (Below.refl _ _).drew
/-- What the walk reads of them. -/
abbrev TwoC (w : World) (a b : Tr) (va vb : Value) (W : World) : Prop :=
  (W.cell? ⟨w.heap.size, 0, none⟩ = some (.int .u8 a.k) ∧ W.cell? ⟨w.heap.size, 1, none⟩ = some (str a.n) ∧ W.cell? ⟨w.heap.size, 2, none⟩ = some va) ∧
  (W.frozen? ⟨w.heap.size, 0, none⟩ = false ∧ W.frozen? ⟨w.heap.size, 1, none⟩ = false ∧ W.frozen? ⟨w.heap.size, 2, none⟩ = false) ∧
  (W.cell? ⟨w.heap.size + 1, 0, none⟩ = some (.int .u8 b.k) ∧ W.cell? ⟨w.heap.size + 1, 1, none⟩ = some (str b.n) ∧ W.cell? ⟨w.heap.size + 1, 2, none⟩ = some vb) ∧
  (W.frozen? ⟨w.heap.size + 1, 0, none⟩ = false ∧ W.frozen? ⟨w.heap.size + 1, 1, none⟩ = false ∧ W.frozen? ⟨w.heap.size + 1, 2, none⟩ = false) ∧ TwoP w a b va vb W
theorem TwoP.c {w : World} {a b : Tr} {va vb : Value} {W : World} (h : TwoP w a b va vb W) : TwoC w a b va vb W :=
  ⟨⟨(cells_at h.ra 0).trans rfl, (cells_at h.ra 1).trans rfl, (cells_at h.ra 2).trans rfl⟩, ⟨free_at h.ra 0, free_at h.ra 1, free_at h.ra 2⟩, ⟨(cells_at h.rb 0).trans rfl, (cells_at h.rb 1).trans rfl, (cells_at h.rb 2).trans rfl⟩, ⟨free_at h.rb 0, free_at h.rb 1, free_at h.rb 2⟩, h⟩
theorem TwoC.a {w : World} {a b : Tr} {va vb : Value} {W : World} (h : TwoC w a b va vb W) : TwoC w a b va vb (((W.setCell ⟨w.heap.size, 0, none⟩ (.int .u8 a.k)).setCell ⟨w.heap.size, 1, none⟩ (str a.n)).setCell ⟨w.heap.size, 2, none⟩ va) :=
  (h.2.2.2.2.setA h.2.2.2.2.fa).c
theorem TwoC.b {w : World} {a b : Tr} {va vb : Value} {W : World} (h : TwoC w a b va vb W) : TwoC w a b va vb (((W.setCell ⟨w.heap.size + 1, 0, none⟩ (.int .u8 b.k)).setCell ⟨w.heap.size + 1, 1, none⟩ (str b.n)).setCell ⟨w.heap.size + 1, 2, none⟩ vb) :=
  (h.2.2.2.2.setB h.2.2.2.2.fb).c

set_option maxRecDepth 4000 in
set_option maxHeartbeats 3200000 in
theorem two_ok (s u : List UInt8) (ms : s.length ≤ maxLen) (mu : u.length ≤ maxLen) (w : World) (ht : Tab w) (hc : (checkK s).1 = 0) : Calls Tryz.prog 48 #[str s, str u] w (TwoPost w s u) := by
  have HT := Lib.hid (show twoK s u = ((checkK s).2, (checkK u).2, (checkK u).1) by unfold twoK; rw [if_pos hc])
  have HC1 := fun W h => kchecked_any s ms W h
  have HC2 := fun W h => kchecked_any u mu W h
  unfold CheckedPost at HC1 HC2
  rcases hq : checkK s with ⟨c, t⟩
  rcases hr : checkK u with ⟨d, x⟩
  rw [hq] at HC1 HT hc
  rw [hr] at HC2 HT
  simp only at HC1 HC2 HT hc
  subst hc
  have H1 := Lib.hid HC1
  have H2 := Lib.hid HC2
  clear hq hr HC1 HC2
  have hb0 := ((Below.refl _ w).alloc (Nat.le_refl _) (.cells #[.int .u8 0, .string ⟨#[]⟩, .slice none 0 0] 57)).alloc (by simp) (.cells #[.int .u8 0, .string ⟨#[]⟩, .slice none 0 0] 57)
  have hP0 : TwoP w ⟨0, [], .nil⟩ ⟨0, [], .nil⟩ (.slice none 0 0) (.slice none 0 0) ((w.alloc (.cells #[.int .u8 0, .string ⟨#[]⟩, .slice none 0 0] 57)).alloc (.cells #[.int .u8 0, .string ⟨#[]⟩, .slice none 0 0] 57)) :=
    ⟨heap_up _ (heap_alloc_new w _), heap_to (by simp) _ _, FoV.nil _ _, FoV.nil _ _, hb0⟩
  have hz0 : ((w.alloc (.cells #[.int .u8 0, .string ⟨#[]⟩, .slice none 0 0] 57)).alloc (.cells #[.int .u8 0, .string ⟨#[]⟩, .slice none 0 0] 57)).heap.size = w.heap.size + 2 := by simp
  have ht0 := ht.below hb0 (Nat.le_refl _)
  go_enter Tryz.func48, Tryz.ntmps48
  go_wp2_with fail
  refine (H1.out _ ht0).mono ?_
  rintro e w1 ⟨va, rfl, hva, hb1⟩
  generalize (w.alloc (.cells #[.int .u8 0, .string ⟨#[]⟩, .slice none 0 0] 57)).alloc (.cells #[.int .u8 0, .string ⟨#[]⟩, .slice none 0 0] 57) = W0 at *
  obtain ⟨pa, ca, rfl, _⟩ := hva.shape
  have hP1 := hP0.below hb1
  have hva1 : FoV w1 (fun b => w.heap.size + 1 < b) t.sub (.slice pa t.sub.len ca) := hva.mono fun b hb _ => by have hb : W0.heap.size ≤ b := hb; omega
  have hP2 := hP1.setA hva1
  have ht2 := ht.below hP2.bel (Nat.le_refl _)
  have c0 := (cells_at hP1.ra 0).trans rfl
  have c1 := (cells_at hP1.ra 1).trans rfl
  have c2 := (cells_at hP1.ra 2).trans rfl
  have f0 := free_at hP1.ra 0
  have f1 := free_at hP1.ra 1
  have f2 := free_at hP1.ra 2
  have hz1 := hP2.bel.size
  have hzz : w.heap.size + 2 ≤ (((w1.setCell ⟨w.heap.size, 0, none⟩ (.int .u8 t.k)).setCell ⟨w.heap.size, 1, none⟩ (str t.n)).setCell ⟨w.heap.size, 2, none⟩ (.slice pa t.sub.len ca)).heap.size := by have := hb1.size; simp [World.setCell]; omega
  clear hP0 hb0 hP1 hva hva1 hb1
  go_wp2_with fail
  refine (H2.out _ ht2).mono ?_
  rintro e w3 ⟨vb, rfl, hvb, hb3⟩
  generalize ((w1.setCell ⟨w.heap.size, 0, none⟩ (.int .u8 t.k)).setCell ⟨w.heap.size, 1, none⟩ (str t.n)).setCell ⟨w.heap.size, 2, none⟩ (.slice pa t.sub.len ca) = W2 at *
  obtain ⟨pb, cb, rfl, _⟩ := hvb.shape
  have hP3 := hP2.below hb3
  have hP4 := hP3.setB (b' := x) (vb' := .slice pb x.sub.len cb) (hvb.mono fun b hb _ => by have hb : W2.heap.size ≤ b := hb; omega)
  have e0 := (cells_at hP3.rb 0).trans rfl
  have e1 := (cells_at hP3.rb 1).trans rfl
  have e2 := (cells_at hP3.rb 2).trans rfl
  have g0 := free_at hP3.rb 0
  have g1 := free_at hP3.rb 1
  have g2 := free_at hP3.rb 2
  clear c0 c1 c2 f0 f1 f2 hP2 hP3 hvb hb3 ht2 ht0
  go_wp2_with fail
  generalize ((w3.setCell ⟨w.heap.size + 1, 0, none⟩ (.int .u8 x.k)).setCell ⟨w.heap.size + 1, 1, none⟩ (str x.n)).setCell ⟨w.heap.size + 1, 2, none⟩ (.slice pb x.sub.len cb) = W4 at *
  have hC := hP4.drew.c
  have hP5 := hP4.setA hP4.fa
  have hC1 := hP5.drew.c
  have hP6 := hP5.setB hP5.fb
  have hC2 := hP6.drew.c
  clear hP5 hP6
  clear e0 e1 e2 g0 g1 g2
  obtain ⟨⟨k0, k1, k2⟩, ⟨k3, k4, k5⟩, ⟨m0, m1, m2⟩, ⟨m3, m4, m5⟩, _⟩ := hP4.c
  clear hP4
  go_region_held3 (fun W => (W.cell? ⟨w.heap.size, 0, none⟩ = some (.int .u8 t.k) ∧ W.cell? ⟨w.heap.size, 1, none⟩ = some (str t.n) ∧ W.cell? ⟨w.heap.size, 2, none⟩ = some (.slice pa t.sub.len ca)) ∧
    (W.frozen? ⟨w.heap.size, 0, none⟩ = false ∧ W.frozen? ⟨w.heap.size, 1, none⟩ = false ∧ W.frozen? ⟨w.heap.size, 2, none⟩ = false) ∧
    (W.cell? ⟨w.heap.size + 1, 0, none⟩ = some (.int .u8 x.k) ∧ W.cell? ⟨w.heap.size + 1, 1, none⟩ = some (str x.n) ∧ W.cell? ⟨w.heap.size + 1, 2, none⟩ = some (.slice pb x.sub.len cb)) ∧
    (W.frozen? ⟨w.heap.size + 1, 0, none⟩ = false ∧ W.frozen? ⟨w.heap.size + 1, 1, none⟩ = false ∧ W.frozen? ⟨w.heap.size + 1, 2, none⟩ = false) ∧ TwoP w t x (.slice pa t.sub.len ca) (.slice pb x.sub.len cb) W)
    (with_reducible (first | exact hC | exact hC1 | exact hC2 | assumption)) (fail)
  rename_i hHx
  clear hHx
  clear hC hC1 k0 k1 k2 k3 k4 k5 m0 m1 m2 m3 m4 m5
  generalize World.drew _ = WF at *
  obtain ⟨⟨q0, q1, q2⟩, _, ⟨r0, r1, r2⟩, _, hP⟩ := hC2
  go_wp2_with fail
  refine bodyPost_ret (v := .tuple #[.agg #[.int .u8 t.k, str t.n, .slice pa t.sub.len ca], .agg #[.int .u8 x.k, str x.n, .slice pb x.sub.len cb], .int .i64 d]) (by simp [results, Tryz.results48, go_sem, q0, q1, q2, r0, r1, r2]) rfl ?_
  unfold TwoPost
  rw [HT.out]
  exact ⟨_, _, rfl, hP.fa, hP.fb, hP.bel⟩

set_option maxRecDepth 4000 in
set_option maxHeartbeats 3200000 in
theorem two_no (s u : List UInt8) (ms : s.length ≤ maxLen) (w : World) (ht : Tab w) (hc : (checkK s).1 ≠ 0) : Calls Tryz.prog 48 #[str s, str u] w (TwoPost w s u) := by
  obtain ⟨z, hz⟩ : ∃ z : Tr, z = ⟨0, [], .nil⟩ := ⟨_, rfl⟩
  have HT := Lib.hid (show twoK s u = ((checkK s).2, z, (checkK s).1) by unfold twoK; rw [if_neg hc, hz])
  have HC1 := fun W h => kchecked_any s ms W h
  unfold CheckedPost at HC1
  rcases hq : checkK s with ⟨d, t⟩
  rw [hq] at HC1 HT hc
  simp only at HC1 HT hc
  obtain ⟨z1, z2⟩ := nat_ne0 hc
  have H1 := Lib.hid HC1
  clear hq HC1 hc
  have hb0 := ((Below.refl _ w).alloc (Nat.le_refl _) (.cells #[.int .u8 0, .string ⟨#[]⟩, .slice none 0 0] 57)).alloc (by simp) (.cells #[.int .u8 0, .string ⟨#[]⟩, .slice none 0 0] 57)
  have hP0 : TwoP w z z (.slice none 0 0) (.slice none 0 0) ((w.alloc (.cells #[.int .u8 0, .string ⟨#[]⟩, .slice none 0 0] 57)).alloc (.cells #[.int .u8 0, .string ⟨#[]⟩, .slice none 0 0] 57)) :=
    by subst hz; exact ⟨heap_up _ (heap_alloc_new w _), heap_to (by simp) _ _, FoV.nil _ _, FoV.nil _ _, hb0⟩
  have HZ := Lib.hid hz
  clear hz
  have hz0 : ((w.alloc (.cells #[.int .u8 0, .string ⟨#[]⟩, .slice none 0 0] 57)).alloc (.cells #[.int .u8 0, .string ⟨#[]⟩, .slice none 0 0] 57)).heap.size = w.heap.size + 2 := by simp
  have ht0 := ht.below hb0 (Nat.le_refl _)
  go_enter Tryz.func48, Tryz.ntmps48
  go_wp2_with fail
  refine (H1.out _ ht0).mono ?_
  rintro e w1 ⟨va, rfl, hva, hb1⟩
  generalize (w.alloc (.cells #[.int .u8 0, .string ⟨#[]⟩, .slice none 0 0] 57)).alloc (.cells #[.int .u8 0, .string ⟨#[]⟩, .slice none 0 0] 57) = W0 at *
  obtain ⟨pa, ca, rfl, _⟩ := hva.shape
  have hP1 := hP0.below hb1
  have hva1 : FoV w1 (fun b => w.heap.size + 1 < b) t.sub (.slice pa t.sub.len ca) := hva.mono fun b hb _ => by have hb : W0.heap.size ≤ b := hb; omega
  have hP4 := hP1.setA hva1
  have c0 := (cells_at hP1.ra 0).trans rfl
  have c1 := (cells_at hP1.ra 1).trans rfl
  have c2 := (cells_at hP1.ra 2).trans rfl
  have f0 := free_at hP1.ra 0
  have f1 := free_at hP1.ra 1
  have f2 := free_at hP1.ra 2
  clear hP0 hb0 hP1 hva hva1 hb1
  go_wp2_with fail
  generalize ((w1.setCell ⟨w.heap.size, 0, none⟩ (.int .u8 t.k)).setCell ⟨w.heap.size, 1, none⟩ (str t.n)).setCell ⟨w.heap.size, 2, none⟩ (.slice pa t.sub.len ca) = W4 at *
  clear c0 c1 c2 f0 f1 f2 ht0
  have hC := hP4.drew.c
  have hP5 := hP4.setA hP4.fa
  have hC1 := hP5.drew.c
  have hP6 := hP5.setB hP5.fb
  have hC2 := hP6.drew.c
  clear hP5 hP6
  obtain ⟨⟨k0, k1, k2⟩, ⟨k3, k4, k5⟩, ⟨m0, m1, m2⟩, ⟨m3, m4, m5⟩, _⟩ := hP4.c
  clear hP4
  go_region_held3 (fun W => (W.cell? ⟨w.heap.size, 0, none⟩ = some (.int .u8 t.k) ∧ W.cell? ⟨w.heap.size, 1, none⟩ = some (str t.n) ∧ W.cell? ⟨w.heap.size, 2, none⟩ = some (.slice pa t.sub.len ca)) ∧
    (W.frozen? ⟨w.heap.size, 0, none⟩ = false ∧ W.frozen? ⟨w.heap.size, 1, none⟩ = false ∧ W.frozen? ⟨w.heap.size, 2, none⟩ = false) ∧
    (W.cell? ⟨w.heap.size + 1, 0, none⟩ = some (.int .u8 z.k) ∧ W.cell? ⟨w.heap.size + 1, 1, none⟩ = some (str z.n) ∧ W.cell? ⟨w.heap.size + 1, 2, none⟩ = some (.slice none 0 0)) ∧
    (W.frozen? ⟨w.heap.size + 1, 0, none⟩ = false ∧ W.frozen? ⟨w.heap.size + 1, 1, none⟩ = false ∧ W.frozen? ⟨w.heap.size + 1, 2, none⟩ = false) ∧ TwoP w t z (.slice pa t.sub.len ca) (.slice none 0 0) W)
    (with_reducible (first | exact hC | exact hC1 | exact hC2 | assumption)) (fail)
  rename_i hHx
  clear hHx
  clear hC hC1 k0 k1 k2 k3 k4 k5 m0 m1 m2 m3 m4 m5
  generalize World.drew _ = WF at *
  obtain ⟨⟨q0, q1, q2⟩, _, ⟨r0, r1, r2⟩, _, hP⟩ := hC2
  go_wp2_with fail
  refine bodyPost_ret (v := .tuple #[.agg #[.int .u8 t.k, str t.n, .slice pa t.sub.len ca], .agg #[.int .u8 z.k, str z.n, .slice none 0 0], .int .i64 d]) (by simp [results, Tryz.results48, go_sem, q0, q1, q2, r0, r1, r2]) rfl ?_
  unfold TwoPost
  rw [HT.out]
  exact ⟨_, _, rfl, hP.fa, hP.fb, hP.bel⟩
theorem two_any (s u : List UInt8) (ms : s.length ≤ maxLen) (mu : u.length ≤ maxLen) (w : World) (ht : Tab w) : Calls Tryz.prog 48 #[str s, str u] w (TwoPost w s u) := by
  by_cases hc : (checkK s).1 = 0
  · exact two_ok s u ms mu w ht hc
  · exact two_no s u ms w ht hc
end Go.Proofs.YtakdmnhpoelepaaGreatDoor
