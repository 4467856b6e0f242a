/-
  Contracts: the program's comparison of two parts by their names (cmp.Compare[string], the closures of kind.sorted and kind.made). No condition.
  Contract: the program's kind.sorted at parts: a few parts in the order of their names. Condition: at most twelve parts, in a row of the call's own.
  Contracts: slices.stableCmpFunc, slices.SortStableFunc and kind.sorted at a few parts. Condition: at most twelve parts, in a row of the call's own.
  Contracts: whether a part has no name (slices.ContainsFunc at api.Part); parts as lists (plain, and in memory). Condition: lengths; the variable strings.asciiSpace.
  The parts of a record that is being made: in memory, as a list, as a forest; sorted by name (plain, and in memory). No condition.
  Contract: kind.made. Condition: the number and the lengths of the parts; the variable strings.asciiSpace.
-/
import Derived.Test.YtakdmnhpoelepaaGreatDoorKTop
import Derived.Test.YtakdmnhpoelepaaGreatDoorPlain0
import Derived.Sort.Grow
import Derived.Test.YtakdmnhpoelepaaGreatDoorShelf2
import Derived.Sort.OwnSorted
import Derived.Sort.LotA
import Derived.Maps.AppendAt
import Derived.RegionTactic
import Derived.ChangeAlike
namespace Go.Proofs.YtakdmnhpoelepaaGreatDoor
open Go.RowKit Go.Sort

/-- How two texts compare. -/
def cmpB (a b : List UInt8) : Int := if Op.bytesLess a b then -1 else if Op.bytesLess b a then 1 else 0
set_option maxRecDepth 4000 in
set_option maxHeartbeats 3200000 in
theorem isNaN_any (a : List UInt8) (w : World) : Calls Tryz.prog 136 #[str a] w fun e w' => e = .returned (.bool false) ∧ w = w' := by
  have h : (a != a) = false := by simp
  go_enter Tryz.func136, Tryz.ntmps136
  go_wp2
  go_ret
  exact ⟨rfl, rfl⟩
set_option maxRecDepth 4000 in
set_option maxHeartbeats 3200000 in
theorem compare_any (a b : List UInt8) (w : World) : Calls Tryz.prog 117 #[str a, str b] w fun e w' => e = .returned (.int .i64 (cmpB a b)) ∧ w = w' := by
  rcases h1 : Op.bytesLess a b with _ | _
  · rcases h2 : Op.bytesLess b a with _ | _
    · have H := Lib.hid (show cmpB a b = 0 by unfold cmpB; rw [h1, h2]; rfl)
      have he : (!a == b) = false := by
        have h3 := less_total a b h1
        rw [h2, Bool.false_or] at h3
        have h4 : b = a := by simpa using h3
        rw [h4]; simp
      go_enter Tryz.func117, Tryz.ntmps117
      go_wp2_with (go_at_call 136; refine (isNaN_any _ _).mono ?_; rintro e w1 ⟨rfl, rfl⟩)
      go_ret
      exact ⟨by rw [H.out]; rfl, rfl⟩
    · have H := Lib.hid (show cmpB a b = 1 by unfold cmpB; rw [h1, h2]; rfl)
      have he : (!a == b) = true := by
        have h3 : a ≠ b := by
          rintro rfl
          rw [less_irrefl] at h2; simp at h2
        simpa using h3
      go_enter Tryz.func117, Tryz.ntmps117
      go_wp2_with (go_at_call 136; refine (isNaN_any _ _).mono ?_; rintro e w1 ⟨rfl, rfl⟩)
      go_ret
      exact ⟨by rw [H.out]; rfl, rfl⟩
  · have H := Lib.hid (show cmpB a b = -1 by unfold cmpB; rw [h1]; rfl)
    go_enter Tryz.func117, Tryz.ntmps117
    go_wp2_with (go_at_call 136; refine (isNaN_any _ _).mono ?_; rintro e w1 ⟨rfl, rfl⟩)
    go_ret
    exact ⟨by rw [H.out]; rfl, rfl⟩
/-- A part in memory: its name, its type, the slice of its type's parts. -/
abbrev PV := List UInt8 × Tr × Option Addr × Nat × Nat
/-- The cells of a part. -/
def encP (x : PV) : List Value := [str x.1, .int .u8 x.2.1.k, str x.2.1.n, .slice x.2.2.1 x.2.2.2.1 x.2.2.2.2]
set_option maxRecDepth 4000 in
set_option maxHeartbeats 3200000 in
theorem key_any (pn n : List UInt8) (k : Nat) (p : Option Addr) (l c : Nat) (w : World) : Calls Tryz.prog 95 #[.agg #[str pn, .int .u8 k, str n, .slice p l c]] w fun e w' => e = .returned (str pn) ∧ w' = w.alloc (.cells #[str pn, .int .u8 k, str n, .slice p l c] 63) := by
  go_enter Tryz.func95, Tryz.ntmps95
  go_wp2
  go_ret
  exact ⟨rfl, rfl⟩

/-- Draws and new blocks. -/
def Gr (W W' : World) : Prop := ∃ q os, W' = grow (W.drewN q) os
theorem Gr.refl (W : World) : Gr W W := ⟨0, #[], by simp [World.drewN]⟩
theorem Gr.alloc {W W' : World} (h : Gr W W') (o : Obj) : Gr W (W'.alloc o) := by
  obtain ⟨q, os, rfl⟩ := h
  exact ⟨q, os ++ #[o], by rw [alloc_eq_grow, grow_grow]⟩
theorem Gr.drew {W W' : World} (h : Gr W W') : Gr W W'.drew := by
  obtain ⟨q, os, rfl⟩ := h
  exact ⟨q + 1, os, rfl⟩
/-- What the comparison reads. -/
structure CmpS (W : World) (Kb : Nat) (x y : PV) (W' : World) : Prop where
  g : Gr W W'
  k : W'.cell? ⟨Kb, 0, none⟩ = some (.func (.func 95) #[] #[])
  x0 : W'.heap[W.heap.size]? = some (.cells (encP x).toArray 63 (0, 0))
  y0 : W'.heap[W.heap.size + 1]? = some (.cells (encP y).toArray 63 (0, 0))
theorem CmpS.alloc {W W' : World} {Kb : Nat} {x y : PV} (h : CmpS W Kb x y W') (o : Obj) : CmpS W Kb x y (W'.alloc o) :=
  ⟨h.g.alloc o, Below.keep ((Below.refl _ W').alloc (Nat.le_refl _) o) h.k, heap_up o h.x0, heap_up o h.y0⟩
theorem CmpS.drew {W W' : World} {Kb : Nat} {x y : PV} (h : CmpS W Kb x y W') : CmpS W Kb x y W'.drew := ⟨h.g.drew, h.k, h.x0, h.y0⟩
abbrev CmpC (W : World) (Kb : Nat) (x y : PV) (W' : World) : Prop :=
  W'.cell? ⟨Kb, 0, none⟩ = some (.func (.func 95) #[] #[]) ∧
  (W'.cell? ⟨W.heap.size, 0, none⟩ = some (str x.1) ∧ W'.cell? ⟨W.heap.size, 1, none⟩ = some (.int .u8 x.2.1.k) ∧ W'.cell? ⟨W.heap.size, 2, none⟩ = some (str x.2.1.n) ∧ W'.cell? ⟨W.heap.size, 3, none⟩ = some (.slice x.2.2.1 x.2.2.2.1 x.2.2.2.2)) ∧
  (W'.cell? ⟨W.heap.size + 1, 0, none⟩ = some (str y.1) ∧ W'.cell? ⟨W.heap.size + 1, 1, none⟩ = some (.int .u8 y.2.1.k) ∧ W'.cell? ⟨W.heap.size + 1, 2, none⟩ = some (str y.2.1.n) ∧ W'.cell? ⟨W.heap.size + 1, 3, none⟩ = some (.slice y.2.2.1 y.2.2.2.1 y.2.2.2.2)) ∧
  CmpS W Kb x y W'
theorem CmpS.c {W W' : World} {Kb : Nat} {x y : PV} (h : CmpS W Kb x y W') : CmpC W Kb x y W' :=
  ⟨h.k, ⟨(cells_at h.x0 0).trans rfl, (cells_at h.x0 1).trans rfl, (cells_at h.x0 2).trans rfl, (cells_at h.x0 3).trans rfl⟩, ⟨(cells_at h.y0 0).trans rfl, (cells_at h.y0 1).trans rfl, (cells_at h.y0 2).trans rfl, (cells_at h.y0 3).trans rfl⟩, h⟩
theorem CmpC.alloc {W W' : World} {Kb : Nat} {x y : PV} (h : CmpC W Kb x y W') (o : Obj) : CmpC W Kb x y (W'.alloc o) := (h.2.2.2.alloc o).c

set_option maxRecDepth 4000 in
set_option maxHeartbeats 3200000 in
theorem cmp2_any (x y : PV) (Kb : Nat) (W : World) (hk : W.cell? ⟨Kb, 0, none⟩ = some (.func (.func 95) #[] #[])) :
    Calls Tryz.prog 116 #[.agg (encP x).toArray, .agg (encP y).toArray, .pointer (some ⟨Kb, 0, none⟩)] W fun e w' => e = .returned (.int .i64 (cmpB x.1 y.1)) ∧ Gr W w' := by
  obtain ⟨xn, xt, xp, xl, xc⟩ := x
  obtain ⟨yn, yt, yp, yl, yc⟩ := y
  have hS : CmpS W Kb (xn, xt, xp, xl, xc) (yn, yt, yp, yl, yc) (((W.alloc (.cells #[str xn, .int .u8 xt.k, str xt.n, .slice xp xl xc] 63)).alloc (.cells #[str yn, .int .u8 yt.k, str yt.n, .slice yp yl yc] 63))) :=
    ⟨((Gr.refl W).alloc _).alloc _, Below.keep (((Below.refl _ W).alloc (Nat.le_refl _) _).alloc (by simp) _) hk, heap_up _ (heap_alloc_new W _), heap_to (by simp) _ _⟩
  have hC := hS.drew.c
  have hC1 := (hS.alloc (.cells #[str xn, .int .u8 xt.k, str xt.n, .slice xp xl xc] 63)).drew.c
  have hC2 := ((hS.alloc (.cells #[str xn, .int .u8 xt.k, str xt.n, .slice xp xl xc] 63)).alloc (.cells #[str yn, .int .u8 yt.k, str yt.n, .slice yp yl yc] 63)).drew.c
  unfold encP
  dsimp only at hC hC1 hC2 ⊢
  go_enter Tryz.func116, Tryz.ntmps116
  go_wp2_with fail
  go_region_held3 (fun W' => W'.cell? ⟨Kb, 0, none⟩ = some (.func (.func 95) #[] #[]) ∧
  (W'.cell? ⟨W.heap.size, 0, none⟩ = some (str xn) ∧ W'.cell? ⟨W.heap.size, 1, none⟩ = some (.int .u8 xt.k) ∧ W'.cell? ⟨W.heap.size, 2, none⟩ = some (str xt.n) ∧ W'.cell? ⟨W.heap.size, 3, none⟩ = some (.slice xp xl xc)) ∧
  (W'.cell? ⟨W.heap.size + 1, 0, none⟩ = some (str yn) ∧ W'.cell? ⟨W.heap.size + 1, 1, none⟩ = some (.int .u8 yt.k) ∧ W'.cell? ⟨W.heap.size + 1, 2, none⟩ = some (str yt.n) ∧ W'.cell? ⟨W.heap.size + 1, 3, none⟩ = some (.slice yp yl yc)) ∧
  CmpS W Kb (xn, xt, xp, xl, xc) (yn, yt, yp, yl, yc) W')
    (with_reducible (first | exact hC | exact hC1 | exact hC2 | assumption))
    (first | (go_at_call 95; refine (key_any _ _ _ _ _ _ _).mono ?_; rintro e w2 ⟨rfl, rfl⟩) | (go_at_call 117; refine (compare_any _ _ _).mono ?_; rintro e w2 ⟨rfl, rfl⟩))
  go_wp2
  go_ret
  exact ⟨rfl, hC2.2.2.2.g⟩
end Go.Proofs.YtakdmnhpoelepaaGreatDoor

namespace Go.Proofs.YtakdmnhpoelepaaGreatDoor
open Go.RowKit Go.Sort Go.Shelf

instance : Inhabited Tr := ⟨⟨0, [], .nil⟩⟩
theorem flat_get : ∀ (ps : List PV) (t : Nat), t < ps.length * 4 → (ps.flatMap encP)[t]? = some ((encP ps.toArray[t / 4]!)[t % 4]!)
  | [], t, h => by simp at h
  | x :: ps, t, h => by
    have hx : (encP x).length = 4 := rfl
    rw [List.flatMap_cons]
    by_cases ht : t < 4
    · rw [List.getElem?_append_left (by rw [hx]; exact ht), show t / 4 = 0 from by omega, show t % 4 = t from by omega]
      have : (x :: ps).toArray[0]! = x := by simp
      rw [this, List.getElem?_eq_getElem (by rw [hx]; exact ht), List.getElem!_eq_getElem?_getD, List.getElem?_eq_getElem (by rw [hx]; exact ht)]
      rfl
    · rw [List.getElem?_append_right (by rw [hx]; omega), hx, flat_get ps (t - 4) (by simp only [List.length_cons] at h; omega)]
      have h1 : (t - 4) % 4 = t % 4 := by omega
      have h2 : t / 4 = (t - 4) / 4 + 1 := by omega
      have h3 : (x :: ps).toArray[(t - 4) / 4 + 1]! = ps.toArray[(t - 4) / 4]! := by
        simp only [List.getElem!_toArray, List.getElem!_eq_getElem?_getD, List.getElem?_cons_succ]
      rw [h1, h2, h3]
theorem flat_len (ps : List PV) : (ps.flatMap encP).length = ps.length * 4 := by
  induction ps with
  | nil => rfl
  | cons x ps ih => rw [List.flatMap_cons, List.length_append, ih]; simp [encP]; omega
theorem flatK_eq (ps : List PV) : flatK encP 4 ps.toArray = (ps.flatMap encP).toArray := by
  apply Array.ext_getElem?
  intro t
  by_cases ht : t < ps.length * 4
  · have h2 : (ps.flatMap encP).toArray[t]? = some ((encP ps.toArray[t / 4]!)[t % 4]!) := by rw [List.getElem?_toArray]; exact flat_get ps t ht
    rw [h2]
    simp [flatK, ht]
  · rw [Array.getElem?_eq_none (by simp; omega), Array.getElem?_eq_none (by rw [List.size_toArray, flat_len]; omega)]
theorem holds_flat {W : World} {base g cap : Nat} {ps : List PV} (h : W.ownsRow base 63 4 (.slice (some ⟨g, 0, none⟩) ps.length cap) ps.length (ps.flatMap encP)) : HoldsK encP 4 W g 0 ps.toArray := by
  unfold HoldsK
  rw [flatK_eq]
  intro j hj
  have hj' : j < (ps.flatMap encP).length := by simpa using hj
  have hc := h.cells (g := g) rfl j _ (List.getElem?_eq_getElem hj')
  rw [show (⟨g, 0, none⟩ : Addr).add j = ⟨g, 0 + j, none⟩ from by unfold Addr.add; simp; omega] at hc
  refine ⟨?_, ?_⟩
  · rw [hc]; simp [List.getElem?_eq_getElem hj']
  · rcases h.2 with ⟨h', _⟩ | ⟨g', cap', cur, h', _, hh, _⟩
    · cases h'
    · cases h'
      exact free_at hh _
theorem row_sorted {W : World} {base g cap n : Nat} {os : Array Obj} {ps qs : List PV} (hl : qs.length = ps.length) (h : W.ownsRow base 63 4 (.slice (some ⟨g, 0, none⟩) ps.length cap) ps.length (ps.flatMap encP)) :
    (sortWorldK encP 4 W g 0 n qs.toArray os).ownsRow base 63 4 (.slice (some ⟨g, 0, none⟩) ps.length cap) ps.length (qs.flatMap encP) ∧ W.grownBy (sortWorldK encP 4 W g 0 n qs.toArray os) (some g) := by
  rcases h.2 with ⟨h', _⟩ | ⟨g', cap', cur, h', hb, hh, h1, h2, h3, h4⟩
  · cases h'
  cases h'
  have hgl : g < W.heap.size := (Array.getElem?_eq_some_iff.1 hh).1
  have hF : flatK encP 4 qs.toArray = (qs.flatMap encP).toArray := flatK_eq qs
  have hheap : (sortWorldK encP 4 W g 0 n qs.toArray os).heap[g]? = some (.cells (putCells id 0 (qs.flatMap encP).toArray cur) 63 (0, 0)) := by
    unfold sortWorldK putRowK
    rw [hF, heap_grow_old _ _ (by simpa using hgl)]
    simp [putRow, mapBlock, Sort.ahead, Array.getElem?_modify, hh, onCells]
  have hql : (qs.flatMap encP).length = ps.length * 4 := by rw [flat_len, hl]
  refine ⟨⟨by rw [hql], .inr ⟨g, cap, _, rfl, hb, hheap, h1, h2, by simp [putCells, h3], ?_⟩⟩, ?_⟩
  · clear hheap hF
    generalize qs.flatMap encP = Q at *
    apply List.ext_getElem?
    intro j
    by_cases hj : j < ps.length * 4
    · rw [List.getElem?_take_of_lt hj, Array.getElem?_toList]
      have hjc : j < cur.size := by rw [h3]; omega
      have hjq : j < Q.length := by omega
      simp [putCells, hjc, hjq]
    · rw [List.getElem?_take_eq_none (by omega), List.getElem?_eq_none (by omega)]
  · unfold sortWorldK putRowK
    refine ⟨rfl, rfl, rfl, by simp, fun k hk hne => ?_⟩
    rw [heap_grow_old _ _ (by simpa using hk)]
    have : g ≠ k := fun e => hne (by rw [e])
    simp [putRow, mapBlock, Sort.ahead, Array.getElem?_modify, this]

theorem swoP : SWO (ltOf fun x y : PV => cmpB x.1 y.1) := by
  have hlt : ∀ a b : List UInt8, decide (cmpB a b < 0) = Op.bytesLess a b := by
    intro a b
    unfold cmpB
    rcases h1 : Op.bytesLess a b with _ | _
    · rcases h2 : Op.bytesLess b a with _ | _ <;> rfl
    · rfl
  refine ⟨fun x => ?_, fun x y z h1 h2 => ?_, fun x y z h1 h2 => ?_⟩
  · simp only [ltOf, hlt]; exact less_irrefl _
  · simp only [ltOf, hlt] at *; exact less_trans _ _ _ h1 h2
  · simp only [ltOf, hlt] at *
    have e1 := less_total _ _ h1
    have e2 := less_total _ _ h2
    rcases hz : Op.bytesLess x.1 z.1 with _ | _
    · rfl
    · rw [Bool.or_eq_true] at e1 e2
      rcases e1 with e1 | e1
      · rcases e2 with e2 | e2
        · have := less_trans _ _ _ e2 e1
          rw [less_asymm _ _ hz] at this
          exact absurd this (by simp)
        · have e2 : z.1 = y.1 := by simpa using e2
          rw [e2, h1] at hz
          exact absurd hz (by simp)
      · have e1 : y.1 = x.1 := by simpa using e1
        rw [← e1, h2] at hz
        exact absurd hz (by simp)
/-- In the order of their names. -/
def Asc (qs : List PV) : Prop := qs.Pairwise fun x y => Op.bytesLess y.1 x.1 = false
theorem ins_any (ps : List PV) (g cap Kb base : Nat) (W : World) (hrow : W.ownsRow base 63 4 (.slice (some ⟨g, 0, none⟩) ps.length cap) ps.length (ps.flatMap encP)) (hk : W.cell? ⟨Kb, 0, none⟩ = some (.func (.func 95) #[] #[])) (hne : Kb ≠ g) (hl : ps.length ≤ 1000) :
    Calls Tryz.prog 146 #[.slice (some ⟨g, 0, none⟩) ps.length cap, .int .i64 0, .int .i64 ps.length, .func (.func 116) #[] #[.pointer (some ⟨Kb, 0, none⟩)]] W fun e w' =>
      e = .returned (.tuple #[]) ∧ ∃ qs : List PV, qs.Perm ps ∧ Asc qs ∧ w'.ownsRow base 63 4 (.slice (some ⟨g, 0, none⟩) ps.length cap) ps.length (qs.flatMap encP) ∧ W.grownBy w' (some g) := by
  have hH := holds_flat hrow
  have hgl := ownsRow_lt hrow (b := g) rfl
  have hKl := World.block_lt_of_cell? _ _ hk
  have hcmp : CmpLays Tryz.prog 116 #[.pointer (some ⟨Kb, 0, none⟩)] encP 4 (fun x y : PV => cmpB x.1 y.1) g 0 ps.toArray.size W := by
    intro m os dk _ x y
    refine (cmp2_any x y Kb _ ?_).mono ?_
    · unfold sortWorldK putRowK
      rw [cell?_grow _ _ _ (by simpa using hKl), cell?_putRow_other _ _ _ _ _ _ (Or.inl hne)]
      exact hk
    · rintro e w' ⟨rfl, hg⟩
      exact ⟨rfl, hg⟩
  have hcon := AnyQ.insertionSortCmpFunc Tryz.insPart 4 Tryz.isAgg63 Tryz.sizeOf63 encP (fun _ => rfl) (fun x v hv => by simp [encP] at hv; rcases hv with rfl | rfl | rfl | rfl <;> rfl) (fun x y : PV => cmpB x.1 y.1) 116 #[.pointer (some ⟨Kb, 0, none⟩)] g 0 cap 0 ps.toArray.size ps.toArray W
    (enters_of Tryz.func116 (by kernel_rfl) rfl) hcmp hH hgl (Nat.zero_le _) (Nat.le_refl _) (by simp; omega)
  refine Calls.mono hcon ?_
  rintro e w' ⟨rfl, n, os, rfl⟩
  refine ⟨rfl, ?_⟩
  obtain ⟨⟨p1, _, p3⟩, hs⟩ := insertionSort_holds swoP ps.toArray 0 ps.toArray.size (Nat.zero_le _) (Nat.le_refl _)
  generalize insertionSort (ltOf fun x y : PV => cmpB x.1 y.1) ps.toArray 0 ps.toArray.size = d at *
  have hd : d.size = ps.length := by simpa using p1
  refine ⟨d.toList, ?_, ?_, ?_⟩
  · have e1 : d.extract 0 ps.toArray.size = d := by rw [← p1]; simp
    have e2 : ps.toArray.extract 0 ps.toArray.size = ps.toArray := by simp
    rw [e1, e2] at p3
    simpa using p3
  · unfold Asc
    rw [List.pairwise_iff_getElem]
    intro i j hi hj hij
    have := hs i j (Nat.zero_le _) hij (by simp at hj ⊢; omega)
    have hlt : ∀ a b : List UInt8, decide (cmpB a b < 0) = Op.bytesLess a b := by
      intro a b
      unfold cmpB
      rcases h1 : Op.bytesLess a b with _ | _
      · rcases h2 : Op.bytesLess b a with _ | _ <;> rfl
      · rfl
    simp only [ltOf, hlt] at this
    simp only [Array.length_toList] at hi hj
    simpa [hi, hj] using this
  · have := row_sorted (n := n) (os := os) (ps := ps) (qs := d.toList) (by simpa using hd) hrow
    simpa using this
end Go.Proofs.YtakdmnhpoelepaaGreatDoor

namespace Go.Proofs.YtakdmnhpoelepaaGreatDoor
open Go.RowKit Go.Sort Go.Shelf

def SortPost (W : World) (base g cap : Nat) (ps : List PV) (w' : World) : Prop :=
  ∃ qs : List PV, qs.Perm ps ∧ Asc qs ∧ w'.ownsRow base 63 4 (.slice (some ⟨g, 0, none⟩) ps.length cap) ps.length (qs.flatMap encP) ∧ W.grownBy w' (some g)

set_option maxRecDepth 4000 in
set_option maxHeartbeats 3200000 in
theorem stable_any (ps : List PV) (g cap Kb base : Nat) (W : World) (hrow : W.ownsRow base 63 4 (.slice (some ⟨g, 0, none⟩) ps.length cap) ps.length (ps.flatMap encP)) (hk : W.cell? ⟨Kb, 0, none⟩ = some (.func (.func 95) #[] #[])) (hne : Kb ≠ g) (hl : ps.length ≤ 12) :
    Calls Tryz.prog 135 #[.slice (some ⟨g, 0, none⟩) ps.length cap, .int .i64 ps.length, .func (.func 116) #[] #[.pointer (some ⟨Kb, 0, none⟩)]] W fun e w' => e = .returned (.tuple #[]) ∧ SortPost W base g cap ps w' := by
  have HI := ins_any ps g cap Kb base W hrow hk hne (by omega)
  clear hrow hk
  go_enter Tryz.func135, Tryz.ntmps135
  go_wp2_with fail
  go_loopw [7, 8] (fun a b wr => a = .int .i64 0 ∧ b = .int .i64 20 ∧ wr = W) (fun _ _ _ => 0)
  case atStart => exact ⟨rfl, rfl, rfl⟩
  case round =>
    obtain ⟨rfl, rfl, rfl⟩ := hrel
    go_wp2_with (go_at_call 146; refine HI.mono ?_; clear HI; rintro e w1 ⟨rfl, hp⟩)
    have HP := Lib.hid hp
    clear hp
    go_loopw [6] (fun a wr => a = .int .i64 20 ∧ wr = w1) (fun _ _ => 0)
    case atStart => exact ⟨rfl, rfl⟩
    case round =>
      obtain ⟨rfl, rfl⟩ := hrel
      go_wp2_with fail
      go_end0
      exact ⟨rfl, HP.out⟩

set_option maxRecDepth 4000 in
set_option maxHeartbeats 3200000 in
theorem sortstable_any (ps : List PV) (g cap Kb base : Nat) (W : World) (hrow : W.ownsRow base 63 4 (.slice (some ⟨g, 0, none⟩) ps.length cap) ps.length (ps.flatMap encP)) (hk : W.cell? ⟨Kb, 0, none⟩ = some (.func (.func 95) #[] #[])) (hne : Kb ≠ g) (hl : ps.length ≤ 12) :
    Calls Tryz.prog 115 #[.slice (some ⟨g, 0, none⟩) ps.length cap, .func (.func 116) #[] #[.pointer (some ⟨Kb, 0, none⟩)]] W fun e w' => e = .returned (.tuple #[]) ∧ SortPost W base g cap ps w' := by
  have HI := stable_any ps g cap Kb base W hrow hk hne hl
  clear hrow hk
  go_enter Tryz.func115, Tryz.ntmps115
  go_wp2_with (go_at_call 135; refine HI.mono ?_; clear HI; rintro e w1 ⟨rfl, hp⟩)
  go_end0
  exact ⟨rfl, hp⟩

set_option maxRecDepth 4000 in
set_option maxHeartbeats 3200000 in
theorem ksorted_any (ps : List PV) (g cap base : Nat) (W : World) (hrow : W.ownsRow base 63 4 (.slice (some ⟨g, 0, none⟩) ps.length cap) ps.length (ps.flatMap encP)) (hl : ps.length ≤ 12) :
    Calls Tryz.prog 94 #[.slice (some ⟨g, 0, none⟩) ps.length cap, .func (.func 95) #[] #[]] W fun e w' => e = .returned (.slice (some ⟨g, 0, none⟩) ps.length cap) ∧ SortPost W base g cap ps w' := by
  have hgl := ownsRow_lt hrow (b := g) rfl
  have HI := sortstable_any ps g cap W.heap.size base (W.alloc (.cells #[.func (.func 95) #[] #[]] 99)) (hrow.alloc _) ((cells_at (heap_alloc_new W _) 0).trans rfl) (by omega) hl
  clear hrow
  go_enter Tryz.func94, Tryz.ntmps94
  go_wp2_with (go_at_call 115; refine HI.mono ?_; clear HI; rintro e w1 ⟨rfl, hp⟩)
  obtain ⟨qs, h1, h2, h3, h4⟩ := hp
  go_ret
  exact ⟨rfl, qs, h1, h2, h3, (World.grownBy_alloc W _ (some g)).trans h4⟩
end Go.Proofs.YtakdmnhpoelepaaGreatDoor

namespace Go.Proofs.YtakdmnhpoelepaaGreatDoor
open Go.RowKit

/-- A slice of parts: each has a name and a type's text. -/
def Pts (w : World) (v : Value) (ps : List (List UInt8 × List UInt8)) : Prop :=
  (v = .slice none 0 0 ∧ ps = []) ∨ ∃ b o c, v = .slice (some ⟨b, o, none⟩) ps.length c ∧ b < w.heap.size ∧ ∀ j (h : j < ps.length), w.cell? ⟨b, o + j * 2, none⟩ = some (str ps[j].1) ∧ w.cell? ⟨b, o + j * 2 + 1, none⟩ = some (str ps[j].2)
theorem Pts.below {w w' : World} {v : Value} {ps : List (List UInt8 × List UInt8)} (h : Pts w v ps) (hb : Below w.heap.size w w') : Pts w' v ps := by
  rcases h with h | ⟨b, o, c, rfl, hl, hc⟩
  · exact .inl h
  · refine .inr ⟨b, o, c, rfl, Nat.lt_of_lt_of_le hl hb.size, fun j h => ⟨Below.keep hb (hc j h).1, Below.keep hb (hc j h).2⟩⟩
theorem Pts.shape {w : World} {v : Value} {ps : List (List UInt8 × List UInt8)} (h : Pts w v ps) : ∃ p c, v = .slice p ps.length c := by
  rcases h with ⟨rfl, rfl⟩ | ⟨b, o, c, rfl, _⟩
  · exact ⟨none, 0, rfl⟩
  · exact ⟨_, _, rfl⟩
theorem Pts.at {w : World} {v : Value} {ps : List (List UInt8 × List UInt8)} (h : Pts w v ps) {j : Nat} (hj : j < ps.length) : ∃ b o c x, v = .slice (some ⟨b, o, none⟩) ps.length c ∧ ps[j]? = some x ∧ w.cell? ⟨b, o + j * 2, none⟩ = some (str x.1) ∧ w.cell? ⟨b, o + j * 2 + 1, none⟩ = some (str x.2) := by
  rcases h with ⟨rfl, rfl⟩ | ⟨b, o, c, rfl, hl, hc⟩
  · simp at hj
  · exact ⟨b, o, c, ps[j], rfl, List.getElem?_eq_getElem hj, (hc j hj).1, (hc j hj).2⟩

set_option maxRecDepth 4000 in
set_option maxHeartbeats 3200000 in
theorem noname_any (n t : List UInt8) (w : World) (ht : Tab w) (hl : n.length ≤ maxLen) : Calls Tryz.prog 93 #[.agg #[str n, str t]] w fun e w' => e = .returned (.bool (!isName n)) ∧ Below w.heap.size w w' := by
  have hb := (Below.refl _ w).alloc (Nat.le_refl _) (.cells #[str n, str t] 46)
  have HN := tIsName_any n (w.alloc (.cells #[str n, str t] 46)) (ht.below hb (Nat.le_refl _)) hl
  generalize isName n = r at HN ⊢
  go_enter Tryz.func93, Tryz.ntmps93
  go_wp2_with (go_at_call 65; refine HN.mono ?_; rintro e w1 ⟨rfl, hb1⟩)
  go_ret
  exact ⟨rfl, hb.trans (below_less hb1 (by simp))⟩
/-- The number of the first part without a name; -1: there is none. -/
def badIx : List (List UInt8 × List UInt8) → Nat → Int
  | [], _ => -1
  | x :: r, k => if isName x.1 then badIx r (k + 1) else k
theorem badIx_neg : ∀ (ps : List (List UInt8 × List UInt8)) (k : Nat), (0 ≤ badIx ps k) ↔ ps.any (fun x => !isName x.1) = true
  | [], k => by simp [badIx]
  | x :: r, k => by
    rw [badIx, List.any_cons]
    rcases h : isName x.1 with _ | _
    · simp
    · simp only [if_true]
      rw [badIx_neg r (k + 1)]
      simp

set_option maxRecDepth 4000 in
set_option maxHeartbeats 3200000 in
theorem index_parts (ps : List (List UInt8 × List UInt8)) (v : Value) (w : World) (ht : Tab w) (hv : Pts w v ps) (hlen : ps.length ≤ 1000) (hl : ∀ x ∈ ps, x.1.length ≤ maxLen) :
    Calls Tryz.prog 114 #[v, .func (.func 93) #[] #[]] w fun e w' => e = .returned (.int .i64 (badIx ps 0)) ∧ Below w.heap.size w w' := by
  obtain ⟨p, c, rfl⟩ := hv.shape
  have HL := Lib.hid hl
  clear hl
  go_enter Tryz.func114, Tryz.ntmps114
  go_wp2_with fail
  go_loopw [8] (fun a wr => ∃ i : Nat, i ≤ ps.length ∧ a = .int .i64 i ∧ Below w.heap.size w wr ∧ Hid (badIx ps 0 = badIx (ps.drop i) i)) (fun a _ => ps.length - (intOf a).toNat)
  case atStart => exact ⟨0, Nat.zero_le _, rfl, Below.refl _ _, rfl⟩
  case round =>
    obtain ⟨i, hi, rfl, hb, hbad⟩ := hrel
    by_cases hlt : i < ps.length
    case pos =>
      obtain ⟨b, o, c', x, e, hx, x0, x1⟩ := hv.at hlt
      injection e with e1 _ e2
      subst e1 e2
      have y0 := Below.keep hb x0
      have y1 := Below.keep hb x1
      have hdrop : ps.drop i = x :: ps.drop (i + 1) := by
        rw [List.drop_eq_getElem_cons hlt]
        rw [List.getElem?_eq_getElem hlt] at hx
        simp only [Option.some.injEq] at hx
        rw [hx]
      have hbx := hbad.out
      rw [hdrop, badIx] at hbx
      have HX := Lib.hid hbx
      have hxl := HL.out x (List.mem_of_getElem? hx)
      have HN := noname_any x.1 x.2 wr (ht.below hb (Nat.le_refl _)) hxl
      clear x0 x1 hx hdrop hbx hbad
      rcases hn : isName x.1 with _ | _
      · rw [hn] at HN HX
        simp only [Bool.not_false] at HN
        have HX2 := Lib.hid (HX.out.trans (if_neg (by simp)))
        clear HX hn
        go_wp2_with (go_at_call 93; refine HN.mono ?_; rintro e w1 ⟨rfl, hb1⟩)
        go_ret
        exact ⟨by rw [HX2.out]; rfl, hb.trans (below_less hb1 hb.size)⟩
      · rw [hn] at HN HX
        simp only [Bool.not_true] at HN
        have HX2 := Lib.hid (HX.out.trans (if_pos rfl))
        clear HX hn
        go_wp2_with (go_at_call 93; refine HN.mono ?_; rintro e w1 ⟨rfl, hb1⟩)
        exact ⟨⟨i + 1, hlt, by go_num, hb.trans (below_less hb1 hb.size), HX2⟩, by simp only [intOf]; omega⟩
    case neg =>
      have hie : ps.drop i = [] := List.drop_eq_nil_of_le (by omega)
      have hbx := hbad.out
      rw [hie, badIx] at hbx
      have HX := Lib.hid hbx
      clear hie hbx hbad
      go_wp2_with fail
      go_ret
      exact ⟨by rw [HX.out]; rfl, hb⟩
set_option maxRecDepth 4000 in
set_option maxHeartbeats 3200000 in
theorem contains_parts (ps : List (List UInt8 × List UInt8)) (v : Value) (w : World) (ht : Tab w) (hv : Pts w v ps) (hlen : ps.length ≤ 1000) (hl : ∀ x ∈ ps, x.1.length ≤ maxLen) :
    Calls Tryz.prog 92 #[v, .func (.func 93) #[] #[]] w fun e w' => e = .returned (.bool (ps.any fun x => !isName x.1)) ∧ Below w.heap.size w w' := by
  have HI := index_parts ps v w ht hv hlen hl
  have HB := Lib.hid (badIx_neg ps 0)
  obtain ⟨p, c, rfl⟩ := hv.shape
  clear hv
  generalize badIx ps 0 = i at HI HB
  rcases hq : ps.any (fun x => !isName x.1) with _ | _
  · have hn : i < 0 := by have := HB.out; rw [hq] at this; simp at this; exact this
    clear hq
    go_enter Tryz.func92, Tryz.ntmps92
    go_wp2_with (go_at_call 114; refine HI.mono ?_; rintro e w1 ⟨rfl, hb1⟩)
    go_ret
    exact ⟨by first | (simp; done) | (simp; omega), hb1⟩
  · have hn : 0 ≤ i := by have := HB.out; rw [hq] at this; simpa using this
    clear hq
    go_enter Tryz.func92, Tryz.ntmps92
    go_wp2_with (go_at_call 114; refine HI.mono ?_; rintro e w1 ⟨rfl, hb1⟩)
    go_ret
    exact ⟨by first | (simp; done) | (simp; omega), hb1⟩
end Go.Proofs.YtakdmnhpoelepaaGreatDoor

namespace Go.Proofs.YtakdmnhpoelepaaGreatDoor
open Go.RowKit

/-- Names and types as a forest. -/
def foOf : List (List UInt8 × Tr) → Fo
  | [] => .nil
  | x :: r => .cons x.1 x.2.k x.2.n x.2.sub (foOf r)
/-- Name and type of a part. -/
def prj (x : PV) : List UInt8 × Tr := (x.1, x.2.1)
/-- The slice value v holds the parts l; no part's own parts lie in its row. -/
def PR (w : World) (D : Nat → Prop) (v : Value) (l : List PV) : Prop :=
  w.ownsRow 0 63 4 v l.length (l.flatMap encP) ∧ (∀ b, v.ownBlock = some b → D b) ∧ ∀ x ∈ l, FoV w (fun b => D b ∧ v.ownBlock ≠ some b) x.2.1.sub (.slice x.2.2.1 x.2.2.2.1 x.2.2.2.2)
theorem PR.nil (w : World) (D : Nat → Prop) : PR w D (.slice none 0 0) [] := ⟨World.ownsRow_nil _ _ _ _, by intro b h; simp [Value.ownBlock] at h, by simp⟩
theorem PR.kept {w w' : World} {D : Nat → Prop} {v : Value} {l : List PV} (hb : ∀ b, D b → b < w.heap.size → w'.heap[b]? = w.heap[b]?) (h : PR w D v l) : PR w' D v l :=
  ⟨ownsRow_of_block h.1 (fun b e => hb b (h.2.1 b e) (ownsRow_lt h.1 e)), h.2.1, fun x hx => (h.2.2 x hx).kept fun b hD => hb b hD.1⟩
theorem PR.shape {w : World} {D : Nat → Prop} {v : Value} {l : List PV} (h : PR w D v l) : ∃ p c, v = .slice p l.length c := row_shape h.1
theorem PR.grow {W W' : World} {D : Nat → Prop} {v v' : Value} {l : List PV} {x : PV} (h : PR W D v l) (ht : FoV W (fun b => D b ∧ v.ownBlock ≠ some b) x.2.1.sub (.slice x.2.2.1 x.2.2.2.1 x.2.2.2.2)) (hN : D W.heap.size)
    (h' : W'.ownsRow 0 63 4 v' (l.length + 1) (l.flatMap encP ++ encP x)) (hg : W.grownBy W' v.ownBlock) (ho : v'.ownBlock = v.ownBlock ∨ v'.ownBlock = some W.heap.size) : PR W' D v' (l ++ [x]) := by
  refine ⟨by simpa using h', ?_, ?_⟩
  · intro b hb
    rcases ho with ho | ho
    · exact h.2.1 b (ho ▸ hb)
    · rw [ho] at hb
      injection hb with hb
      exact hb ▸ hN
  · have key : ∀ y : PV, FoV W (fun b => D b ∧ v.ownBlock ≠ some b) y.2.1.sub (.slice y.2.2.1 y.2.2.2.1 y.2.2.2.2) → FoV W' (fun b => D b ∧ v'.ownBlock ≠ some b) y.2.1.sub (.slice y.2.2.1 y.2.2.2.1 y.2.2.2.2) := by
      intro y hy
      refine ((hy.mono (D' := fun b => D b ∧ v'.ownBlock ≠ some b ∧ v.ownBlock ≠ some b) fun b hb hlt => ⟨hb.1, ?_, hb.2⟩).kept (w' := W') fun b hb hlt => hg.block b hlt (fun e => hb.2.2 e.symm)).mono fun b hb _ => ⟨hb.1, hb.2.1⟩
      rcases ho with ho | ho
      · rw [ho]; exact hb.2
      · rw [ho]
        intro e
        injection e with e
        omega
    intro y hy
    rcases List.mem_append.1 hy with hy | hy
    · exact key y (h.2.2 y hy)
    · rw [List.mem_singleton.1 hy]; exact key x ht
theorem PR.foC {w : World} {D : Nat → Prop} : ∀ l : List PV, (∀ x ∈ l, FoV w D x.2.1.sub (.slice x.2.2.1 x.2.2.2.1 x.2.2.2.2)) → FoC w D (foOf (l.map prj)) (l.flatMap encP)
  | [], _ => rfl
  | x :: r, h => by
    obtain ⟨sc, h1, h2, h3⟩ := h x (List.mem_cons_self ..)
    exact ⟨_, _, sc, rfl, h1, h2, h3, PR.foC r fun y hy => h y (List.mem_cons_of_mem _ hy)⟩
theorem foOf_len : ∀ l : List (List UInt8 × Tr), (foOf l).len = l.length
  | [] => rfl
  | x :: r => by rw [foOf, Fo.len, foOf_len r, List.length_cons]
theorem PR.foV {w : World} {D : Nat → Prop} {v : Value} {l : List PV} (h : PR w D v l) : FoV w D (foOf (l.map prj)) v := by
  refine ⟨_, by rw [foOf_len, List.length_map]; exact h.1, h.2.1, PR.foC l fun x hx => (h.2.2 x hx).mono fun b hb _ => hb.1⟩
/-- After the sort: the parts in another order. -/
theorem PR.sorted {w w' : World} {D : Nat → Prop} {g cap : Nat} {l qs : List PV} (h : PR w D (.slice (some ⟨g, 0, none⟩) l.length cap) l) (hp : qs.Perm l) (ho : w'.ownsRow 0 63 4 (.slice (some ⟨g, 0, none⟩) l.length cap) l.length (qs.flatMap encP)) (hg : w.grownBy w' (some g)) : PR w' D (.slice (some ⟨g, 0, none⟩) qs.length cap) qs := by
  rw [hp.length_eq]
  refine ⟨by rw [hp.length_eq]; exact ho, h.2.1, fun x hx => ?_⟩
  exact (h.2.2 x (hp.mem_iff.1 hx)).kept fun b hb hlt => hg.block b hlt fun e => hb.2 (by first | (rw [e]; done) | (rw [e]; rfl))

/-- The types of the parts. -/
def treesOf (ps : List (List UInt8 × List UInt8)) : List (List UInt8 × Tr) := ps.map fun x => (x.1, (checkK x.2).2)
/-- The first answer that is no success. -/
def badT : List (List UInt8 × List UInt8) → Nat
  | [] => 0
  | x :: r => if (checkK x.2).1 = 0 then badT r else (checkK x.2).1
/-- In the order of the names. -/
def leN (a b : List UInt8 × Tr) : Bool := !Op.bytesLess b.1 a.1
def sortN (l : List (List UInt8 × Tr)) : List (List UInt8 × Tr) := l.mergeSort leN
/-- Neighbours with one name. -/
def twin : List (List UInt8) → Bool
  | [] => false
  | [_] => false
  | a :: b :: r => a == b || twin (b :: r)
/-- What made answers. -/
def madeK (kd : Nat) (ps : List (List UInt8 × List UInt8)) : List UInt8 × Nat :=
  if ps.length = 0 ∨ 6 < ps.length ∨ ps.any (fun x => !isName x.1) = true then ([], 1) else
  if badT ps ≠ 0 then ([], badT ps) else
  if twin ((sortN (treesOf ps)).map (·.1)) then ([], 6) else
  toldK ⟨kd, [], foOf (sortN (treesOf ps))⟩
theorem treesOf_take {ps : List (List UInt8 × List UInt8)} {i : Nat} {x : List UInt8 × List UInt8} (h : ps[i]? = some x) : treesOf (ps.take (i + 1)) = treesOf (ps.take i) ++ [(x.1, (checkK x.2).2)] := by
  unfold treesOf
  rw [List.take_add_one, h]
  simp
theorem nodup_inj {α β : Type} {f : α → β} : ∀ {l : List α}, (l.map f).Nodup → ∀ {a b : α}, a ∈ l → b ∈ l → f a = f b → a = b
  | [], _, a, _, ha, _, _ => by simp at ha
  | x :: r, h, a, b, ha, hb, e => by
    rw [List.map_cons, List.nodup_cons] at h
    rcases List.mem_cons.1 ha with ea | ha
    · rcases List.mem_cons.1 hb with eb | hb
      · rw [ea, eb]
      · exact absurd (List.mem_map.2 ⟨b, hb, by rw [← e, ea]⟩) h.1
    · rcases List.mem_cons.1 hb with eb | hb
      · exact absurd (List.mem_map.2 ⟨a, ha, by rw [e, eb]⟩) h.1
      · exact nodup_inj h.2 ha hb e
theorem twin_nodup : ∀ l : List (List UInt8), l.Pairwise (fun x y => Op.bytesLess y x = false) → twin l = false → l.Nodup
  | [], _, _ => List.nodup_nil
  | [a], _, _ => by simp
  | a :: b :: r, h, ht => by
    rw [twin, Bool.or_eq_false_iff] at ht
    have hab : a ≠ b := by simpa using ht.1
    obtain ⟨h1, h2⟩ := List.pairwise_cons.1 h
    have h3 := twin_nodup (b :: r) h2 ht.2
    refine List.nodup_cons.2 ⟨fun hm => ?_, h3⟩
    rcases List.mem_cons.1 hm with e | hm
    · exact hab e
    · have h4 := h1 b (List.mem_cons_self ..)
      have h5 := (List.pairwise_cons.1 h2).1 a hm
      have h6 := less_total a b h5
      rw [h4, Bool.false_or] at h6
      exact hab (by first | simpa using h6 | exact (by simpa using h6 : b = a).symm)
theorem le_trans_b {a b c : List UInt8} (h1 : Op.bytesLess b a = false) (h2 : Op.bytesLess c b = false) : Op.bytesLess c a = false := by
  have k1 := less_total b a h1
  have k2 := less_total c b h2
  rw [Bool.or_eq_true] at k1 k2
  rcases h : Op.bytesLess c a with _ | _
  · rfl
  · exfalso
    rcases k1 with k1 | k1
    · rcases k2 with k2 | k2
      · have := less_asymm _ _ (less_trans _ _ _ k1 k2)
        rw [h] at this; simp at this
      · have e : b = c := by simpa using k2
        subst e
        rw [h] at h1; simp at h1
    · have e : a = b := by simpa using k1
      subst e
      rw [h] at h2; simp at h2
theorem sortN_pairwise (l : List (List UInt8 × Tr)) : (sortN l).Pairwise fun x y => Op.bytesLess y.1 x.1 = false := by
  have h := List.pairwise_mergeSort (le := leN) (fun a b c h1 h2 => ?_) (fun a b => ?_) l
  · refine h.imp ?_
    intro a b h
    unfold leN at h
    simpa using h
  · unfold leN at *
    rw [Bool.not_eq_true'] at *
    exact le_trans_b h1 h2
  · unfold leN
    rcases h : Op.bytesLess b.1 a.1 with _ | _
    · rfl
    · rw [less_asymm _ _ h]; rfl
/-- A sorted list of the parts has the names of the sort. -/
theorem sorted_names {l qs : List (List UInt8 × Tr)} (hp : qs.Perm l) (hs : qs.Pairwise fun x y => Op.bytesLess y.1 x.1 = false) : qs.map (·.1) = (sortN l).map (·.1) := by
  refine List.Perm.eq_of_pairwise (le := fun x y => Op.bytesLess y x = false) ?_ (List.pairwise_map.2 hs) (List.pairwise_map.2 (sortN_pairwise l)) ((hp.trans (List.mergeSort_perm l leN).symm).map _)
  intro a b _ _ h1 h2
  have h := less_total a b h2
  rw [h1, Bool.false_or] at h
  first | simpa using h | exact (by simpa using h : b = a).symm
theorem sorted_eq {l qs : List (List UInt8 × Tr)} (hp : qs.Perm l) (hs : qs.Pairwise fun x y => Op.bytesLess y.1 x.1 = false) (ht : twin (qs.map (·.1)) = false) : qs = sortN l := by
  have hn := twin_nodup _ (List.pairwise_map.2 hs) ht
  have hp2 : qs.Perm (sortN l) := hp.trans (List.mergeSort_perm l leN).symm
  refine List.Perm.eq_of_pairwise (le := fun x y => Op.bytesLess y.1 x.1 = false) ?_ hs (sortN_pairwise l) hp2
  intro a b ha hb h1 h2
  have h := less_total a.1 b.1 h2
  rw [h1, Bool.false_or] at h
  have e : a.1 = b.1 := by first | simpa using h | exact (by simpa using h : b.1 = a.1).symm
  exact nodup_inj hn ha (hp2.mem_iff.2 hb) e
theorem flat_name {l : List PV} {j : Nat} {x : PV} (h : l[j]? = some x) : (l.flatMap encP)[j * 4]? = some (str x.1) := by
  obtain ⟨hj, e⟩ := List.getElem?_eq_some_iff.1 h
  rw [flat_get l (j * 4) (by omega)]
  rw [show j * 4 / 4 = j by omega, show j * 4 % 4 = 0 by omega]
  rw [getElem!_pos l.toArray j (by simpa using hj)]
  simp only [List.getElem_toArray, e]
  rfl
theorem PR.name {w : World} {D : Nat → Prop} {g cap n : Nat} {l : List PV} (h : PR w D (.slice (some ⟨g, 0, none⟩) n cap) l) {j : Nat} {x : PV} (hx : l[j]? = some x) : w.cell? ⟨g, j * 4, none⟩ = some (str x.1) := by
  have h2 := (World.ownsRow.cells h.1 (g := g) rfl) (j * 4) _ (flat_name hx)
  by_cases h0 : j = 0
  · subst h0; simpa [Addr.add] using h2
  · have h4 : ¬ j * 4 = 0 := by omega
    simpa [Addr.add, h4, h0] using h2
theorem joinC_le (K : Nat) : ∀ l : List (List UInt8), (∀ s ∈ l, s.length ≤ K) → (joinC l).length ≤ l.length * (K + 1)
  | [], _ => by simp [joinC]
  | [a], h => by
    have := h a (by simp)
    simp [joinC]
    omega
  | a :: b :: l, h => by
    have h1 := h a (by simp)
    have h2 := joinC_le K (b :: l) fun s hs => h s (List.mem_cons_of_mem _ hs)
    simp only [joinC, List.length_append, List.length_cons] at h2 ⊢
    have h3 : (l.length + 1 + 1) * (K + 1) = (l.length + 1) * (K + 1) + (K + 1) := by rw [Nat.add_mul (l.length + 1) 1]; simp
    omega
theorem foOf_txt : ∀ l : List (List UInt8 × Tr), (foOf l).txt = l.map fun x => preN x.1 ++ x.2.txt
  | [] => rfl
  | x :: r => by rw [foOf, Fo.txt_cons, foOf_txt r]; rfl
theorem foOf_level : ∀ l : List (List UInt8 × Tr), (∀ x ∈ l, x.2.level ≤ 6) → (foOf l).level ≤ 6
  | [], _ => by simp [foOf, Fo.level]
  | x :: r, h => by
    have h1 := h x (by simp)
    have h2 := foOf_level r fun y hy => h y (List.mem_cons_of_mem _ hy)
    unfold Tr.level at h1
    rw [foOf, Fo.level]
    omega
theorem badT_zero : ∀ ps : List (List UInt8 × List UInt8), badT ps = 0 → ∀ x ∈ ps, (checkK x.2).1 = 0
  | [], _, _, hx => by simp at hx
  | y :: r, h, x, hx => by
    rw [badT] at h
    by_cases hy : (checkK y.2).1 = 0
    · rw [if_pos hy] at h
      rcases List.mem_cons.1 hx with e | hx
      · rw [e]; exact hy
      · exact badT_zero r h x hx
    · rw [if_neg hy] at h; exact absurd h hy
theorem made_bounds (kd : Nat) {ps : List (List UInt8 × List UInt8)} {qs : List (List UInt8 × Tr)} (hz : badT ps = 0) (h6 : ps.length ≤ 6) (hl : ∀ x ∈ ps, x.1.length ≤ 1000) (hp : qs.Perm (treesOf ps)) :
    (Tr.mk kd [] (foOf qs)).txt.length ≤ 1000000 ∧ (Tr.mk kd [] (foOf qs)).level ≤ 1000 := by
  have hall : ∀ y ∈ qs, y.1.length ≤ 1000 ∧ y.2.txt.length ≤ 100 ∧ y.2.level ≤ 6 := by
    intro y hy
    obtain ⟨x, hx, rfl⟩ := List.mem_map.1 (hp.mem_iff.1 hy)
    obtain ⟨_, h1, h2, h3⟩ := checkK_ok (s := x.2) (t := (checkK x.2).2) (by rw [← badT_zero ps hz x hx])
    exact ⟨hl x hx, by rw [h1]; exact h2, h3⟩
  have hql : qs.length ≤ 6 := by rw [hp.length_eq]; unfold treesOf; simpa using h6
  have hj : (joinC (foOf qs).txt).length ≤ 10000 := by
    have := joinC_le 1101 (foOf qs).txt (by
      rw [foOf_txt]
      intro s hs
      obtain ⟨y, hy, rfl⟩ := List.mem_map.1 hs
      obtain ⟨h1, h2, _⟩ := hall y hy
      rw [List.length_append]
      have : (preN y.1).length ≤ y.1.length + 1 := by unfold preN; split <;> simp
      omega)
    rw [foOf_txt, List.length_map] at this
    rw [foOf_txt]
    exact Nat.le_trans this (Nat.le_trans (Nat.mul_le_mul_right _ hql) (by decide))
  have hw : (wordK kd []).length ≤ 10 := by
    unfold wordK
    repeat' split
    all_goals decide
  refine ⟨?_, ?_⟩
  · rw [show (Tr.mk kd [] (foOf qs)).txt = (match foOf qs with | .nil => wordK kd [] | .cons pn k n sub rest => wordK kd [] ++ 91 :: (joinC (Fo.cons pn k n sub rest).txt ++ [93])) from rfl]
    split
    · omega
    · rename_i e
      rw [e] at hj
      simp only [List.length_append, List.length_cons, List.length_nil]
      omega
  · unfold Tr.level
    have := foOf_level qs fun y hy => (hall y hy).2.2
    simp only
    omega
/-- The names of the parts. -/
def nmsP (l : List PV) : List (List UInt8) := (l.map prj).map (·.1)
theorem nmsP_drop {l : List PV} {j : Nat} {x : PV} (h : l[j]? = some x) : (nmsP l).drop j = x.1 :: (nmsP l).drop (j + 1) := by
  obtain ⟨hj, e⟩ := List.getElem?_eq_some_iff.1 h
  unfold nmsP
  rw [List.map_map, List.drop_eq_getElem_cons (by simpa using hj)]
  simp [prj, e]
theorem nmsP_end {l : List PV} {j : Nat} (h : l.length ≤ j + 1) : twin ((nmsP l).drop j) = false := by
  have hl : (nmsP l).length = l.length := by simp [nmsP]
  rcases he : (nmsP l).drop j with _ | ⟨a, _ | ⟨b, r⟩⟩
  · rfl
  · rfl
  · have := congrArg List.length he
    simp at this
    omega
end Go.Proofs.YtakdmnhpoelepaaGreatDoor

namespace Go.Proofs.YtakdmnhpoelepaaGreatDoor
open Go.RowKit Go.Sort

set_option maxRecDepth 4000 in
set_option maxHeartbeats 3200000 in
theorem kmade_no (kd : Nat) (ps : List (List UInt8 × List UInt8)) (v : Value) (w : World) (ht : Tab w) (hv : Pts w v ps) (hlen : ps.length ≤ 1000) (hl : ∀ x ∈ ps, x.1.length ≤ 1000 ∧ x.2.length ≤ 1000) (hno : ps.length = 0 ∨ 6 < ps.length ∨ ps.any (fun x => !isName x.1) = true) :
    Calls Tryz.prog 67 #[.int .u8 kd, v] w fun e w' => e = .returned (.tuple #[str (madeK kd ps).1, .int .i64 (madeK kd ps).2]) ∧ Below w.heap.size w w' := by
  have HM := Lib.hid (show madeK kd ps = ([], 1) by unfold madeK; rw [if_pos hno])
  have HC := contains_parts ps v w ht hv hlen (fun x hx => by have := (hl x hx).1; unfold maxLen; omega)
  clear hl
  obtain ⟨p, c, rfl⟩ := hv.shape
  clear hv
  generalize ps.any (fun x => !isName x.1) = q at hno HC
  generalize madeK kd ps = m at HM
  by_cases h0 : ps.length = 0
  · have h0' : ((ps.length : Int) == 0) = true := int_zero h0
    clear hno
    go_enter Tryz.func67, Tryz.ntmps67
    go_wp2_with fail
    go_ret2
    rw [HM.out]
    exact ⟨rfl, Below.refl _ _⟩
  · have h0' : ((ps.length : Int) == 0) = false := (nat_ne0 h0).1
    by_cases h6 : 6 < ps.length
    · have h6' : (6 : Int) < (ps.length : Int) := by omega
      clear hno
      go_enter Tryz.func67, Tryz.ntmps67
      go_wp2_with fail
      go_ret2
      rw [HM.out]
      exact ⟨rfl, Below.refl _ _⟩
    · have h6' : ¬ (6 : Int) < (ps.length : Int) := by omega
      have hq : q = true := by rcases hno with h | h | h <;> first | exact absurd h h0 | exact absurd h h6 | exact h
      subst hq
      go_enter Tryz.func67, Tryz.ntmps67
      go_wp2_with (go_at_call 92; refine HC.mono ?_; rintro e w1 ⟨rfl, hb1⟩)
      go_ret2
      rw [HM.out]
      exact ⟨rfl, hb1⟩

set_option maxRecDepth 4000 in
set_option maxHeartbeats 6400000 in
theorem kmade_yes (kd : Nat) (ps : List (List UInt8 × List UInt8)) (v : Value) (w : World) (ht : Tab w) (hv : Pts w v ps) (h0 : ps.length ≠ 0) (h6 : ps.length ≤ 6) (hl : ∀ x ∈ ps, x.1.length ≤ 1000 ∧ x.2.length ≤ 1000) (hn : ps.any (fun x => !isName x.1) = false) :
    Calls Tryz.prog 67 #[.int .u8 kd, v] w fun e w' => e = .returned (.tuple #[str (madeK kd ps).1, .int .i64 (madeK kd ps).2]) ∧ Below w.heap.size w w' := by
  have HM := Lib.hid (show madeK kd ps = if badT ps ≠ 0 then ([], badT ps) else if twin ((sortN (treesOf ps)).map (·.1)) then ([], 6) else toldK ⟨kd, [], foOf (sortN (treesOf ps))⟩ by unfold madeK; rw [if_neg (by rw [hn]; rintro (h | h | h) <;> first | omega | (simp at h; done))])
  have HC := contains_parts ps v w ht hv (by omega) (fun x hx => by have := (hl x hx).1; unfold maxLen; omega)
  rw [hn] at HC
  clear hn
  have HL := Lib.hid hl
  clear hl
  obtain ⟨p0, c0, rfl⟩ := hv.shape
  have h0' : ((ps.length : Int) == 0) = false := (nat_ne0 h0).1
  have h6' : ¬ (6 : Int) < (ps.length : Int) := by omega
  go_enter Tryz.func67, Tryz.ntmps67
  go_wp2_with (go_at_call 92; refine HC.mono ?_; clear HC; rintro e w1 ⟨rfl, hb1⟩)
  have hB6 := Below.size hb1
  have hrow0 := heap_alloc_new w1 (.cells #[.int .u8 kd, str [], .slice none 0 0] 57)
  have hbel0 := hb1.alloc hB6 (.cells #[.int .u8 kd, str [], .slice none 0 0] 57)
  go_loopw [28] (fun a wr => ∃ (i : Nat) (l : List PV) (v : Value), i ≤ ps.length ∧ a = .int .i64 i ∧ l.length = i ∧ Hid (l.map prj = treesOf (ps.take i) ∧ badT ps = badT (ps.drop i)) ∧ Below w.heap.size w wr ∧ wr.heap[w1.heap.size]? = some (.cells #[.int .u8 kd, str [], v] 57 (0, 0)) ∧ PR wr (fun b => w1.heap.size < b) v l) (fun a _ => ps.length - (intOf a).toNat)
  case atStart => exact ⟨0, [], .slice none 0 0, Nat.zero_le _, rfl, rfl, ⟨rfl, rfl⟩, hbel0, hrow0, PR.nil _ _⟩
  case round =>
    obtain ⟨_, l, vl, hi, rfl, rfl, hbad, hb, hrow, hpr⟩ := hrel
    by_cases hlt : l.length < ps.length
    case pos =>
      obtain ⟨b, o, c', x, e, hx, x0, x1⟩ := hv.at hlt
      injection e with e1 _ e2
      subst e1 e2
      have hBlt := (Array.getElem?_eq_some_iff.1 hrow).1
      have y0 := Below.keep hb x0
      have y1 := Below.keep hb x1
      have hdrop : ps.drop l.length = x :: ps.drop (l.length + 1) := by
        rw [List.drop_eq_getElem_cons hlt]
        rw [List.getElem?_eq_getElem hlt] at hx
        simp only [Option.some.injEq] at hx
        rw [hx]
      have hbx := hbad.2
      rw [hdrop, badT] at hbx
      have htk := hbad.1
      have hxl := HL.out x (List.mem_of_getElem? hx)
      have hbP := (Below.refl wr.heap.size wr).alloc (Nat.le_refl _) (.cells #[str x.1, str x.2] 46)
      have hC := kchecked_any x.2 (by unfold maxLen; omega) (wr.alloc (.cells #[str x.1, str x.2] 46)) ((ht.below hb (Nat.le_refl _)).below hbP (Nat.le_refl _))
      unfold CheckedPost at hC
      have hTK := treesOf_take hx
      rcases hq : checkK x.2 with ⟨c, t⟩
      rw [hq] at hC hTK hbx
      simp only at hC hTK hbx
      clear hq x0 x1 hx hdrop hbad
      by_cases hc : c = 0
      case neg =>
        obtain ⟨g1, g2⟩ := nat_ne0 hc
        rw [if_neg hc] at hbx
        have HX := Lib.hid (show madeK kd ps = ([], c) by rw [HM.out, hbx, if_pos hc])
        clear hbx htk hTK HM
        go_wp2_with (go_at_call 57; refine hC.mono ?_; clear hC; rintro e w2 ⟨v2, rfl, hv2, hb2⟩; obtain ⟨p, c, rfl, _⟩ := hv2.shape)
        go_ret2
        rw [HX.out]
        exact ⟨rfl, ((hb.trans (below_less hbP hb.size)).trans (below_less hb2 (by have := hb.size; simp; omega))).alloc (by have := hb.size; have := hb2.size; simp at this; omega) _⟩
      case pos =>
        subst hc
        rw [if_pos rfl] at hbx
        have HX := Lib.hid (And.intro (show (l.map prj) ++ [(x.1, t)] = treesOf (ps.take (l.length + 1)) by rw [hTK, htk]) hbx)
        clear hbx htk hTK
        go_upto_region 10 with (go_at_call 57; refine hC.mono ?_; clear hC; rintro e w2 ⟨v2, rfl, hv2, hb2⟩; obtain ⟨p, c, rfl, _⟩ := hv2.shape)
        have hs1 : (wr.alloc (.cells #[str x.1, str x.2] 46)).heap.size = wr.heap.size + 1 := by simp
        have hs2 := hb2.size
        have hbW : Below wr.heap.size wr w2 := hbP.trans (below_less hb2 (by omega))
        have r8 := (hb2.block wr.heap.size (by omega)).trans (heap_alloc_new wr (.cells #[str x.1, str x.2] 46))
        have hbB := (Below.refl w2.heap.size w2).alloc (Nat.le_refl _) (.cells #[.int .u8 t.k, str t.n, .slice p t.sub.len c] 57)
        have hs3 : (w2.alloc (.cells #[.int .u8 t.k, str t.n, .slice p t.sub.len c] 57)).heap.size = w2.heap.size + 1 := by simp
        have hbA : Below wr.heap.size wr (w2.alloc (.cells #[.int .u8 t.k, str t.n, .slice p t.sub.len c] 57)) := hbW.trans (below_less hbB (by omega))
        have r9 := heap_alloc_new w2 (.cells #[.int .u8 t.k, str t.n, .slice p t.sub.len c] 57)
        have r8B := (hbB.block wr.heap.size (by omega)).trans r8
        have hrowB := (hbA.block w1.heap.size hBlt).trans hrow
        have hprB := hpr.kept (w' := w2.alloc (.cells #[.int .u8 t.k, str t.n, .slice p t.sub.len c] 57)) fun b _ hlt => hbA.block b hlt
        have hvB := hv2.below hbB (Nat.le_refl _)
        have hbF := (hb.trans (below_less hbA hb.size))
        have hszB : wr.heap.size + 1 < (w2.alloc (.cells #[.int .u8 t.k, str t.n, .slice p t.sub.len c] 57)).heap.size := by omega
        have h9 : wr.heap.size < w2.heap.size := by omega
        generalize w2.heap.size = B9 at r9 h9 ⊢
        generalize w2.alloc (.cells #[.int .u8 t.k, str t.n, .slice p t.sub.len c] 57) = WB at *
        obtain ⟨pv, cv, rfl⟩ := hpr.shape
        have hpl : ∀ b, (Value.slice pv l.length cv).ownBlock = some b → b < wr.heap.size := fun b e => ownsRow_lt hpr.1 e
        clear hrow r8 hb2 hbB hv2 hs1 hs2 hs3 hbW
        obtain ⟨i0, hi0, hz0, hz1, hz2⟩ := info_parts infoPart
        have hsz3 : (l.length + 1) * 64 ≤ 140737488355328 := by omega
        have hmx3 : l.length + 1 ≤ maxLen := by unfold maxLen; omega
        have a0 := (cells_at r8B 0).trans rfl
        have a1 := (cells_at r8B 1).trans rfl
        have b0 := (cells_at r9 0).trans rfl
        have b1 := (cells_at r9 1).trans rfl
        have b2 := (cells_at r9 2).trans rfl
        have g2 := (cells_at hrowB 2).trans rfl
        have hG := heap_alloc_new WB (.cells #[str x.1, .int .u8 t.k, str t.n, .slice p t.sub.len c] 63)
        have hGc := (own_lit (n := 1) (cs := [str x.1, .int .u8 t.k, str t.n, .slice p t.sub.len c]) hG rfl (by decide)).cells (g := WB.heap.size) rfl
        have HG := Lib.hid hGc
        clear hG hGc
        go_wp2_with (at_builtin; refine wpList_append_own2 (WB.alloc (.cells #[str x.1, .int .u8 t.k, str t.n, .slice p t.sub.len c] 63)) rfl _ _ 55 rfl 0 63 i0 _ 4 64 underPart hi0 hz0 hz1 hz2 rfl (by decide) _ _ _ rfl (hprB.1.alloc _) ⟨WB.heap.size, 0, none⟩ 1 1 [str x.1, .int .u8 t.k, str t.n, .slice p t.sub.len c] rfl rfl HG.out ?a2 (by decide) hmx3 hsz3 (Nat.zero_le _) ?a3)
        case a2 => intro u hu; simp only [List.mem_cons, List.not_mem_nil, or_false] at hu; rcases hu with rfl | rfl | rfl | rfl <;> rfl
        case a3 =>
          intro v' w11 hv' hg11 ho11
          obtain ⟨p11, c11, rfl⟩ := row_shape hv'
          have hsz11 : (WB.alloc (.cells #[str x.1, .int .u8 t.k, str t.n, .slice p t.sub.len c] 63)).heap.size = WB.heap.size + 1 := by simp
          have hbel := (Below.refl WB.heap.size WB).alloc (Nat.le_refl _) (.cells #[str x.1, .int .u8 t.k, str t.n, .slice p t.sub.len c] 63)
          have hrowA := (hbel.block w1.heap.size (by omega)).trans hrowB
          have hprA := hprB.kept (w' := WB.alloc (.cells #[str x.1, .int .u8 t.k, str t.n, .slice p t.sub.len c] 63)) fun b _ hlt => hbel.block b hlt
          have hvA := (hvB.kept (w' := WB.alloc (.cells #[str x.1, .int .u8 t.k, str t.n, .slice p t.sub.len c] 63)) fun b _ hlt => hbel.block b hlt).mono (D' := fun b => w1.heap.size < b ∧ (Value.slice pv l.length cv).ownBlock ≠ some b) fun b hb _ => by
            have hb : wr.heap.size + 1 ≤ b := by simpa using hb
            refine ⟨by omega, fun e => ?_⟩
            have := hpl b e
            omega
          have hpr11 := PR.grow (x := (x.1, t, p, t.sub.len, c)) hprA hvA (by omega) hv' hg11 (by rw [hsz11]; exact ho11)
          have hlow : ∀ b, (Value.slice pv l.length cv).ownBlock = some b → w1.heap.size < b := hpr.2.1
          have hA1 := hbF.alloc (by have := hb.size; omega) (.cells #[str x.1, .int .u8 t.k, str t.n, .slice p t.sub.len c] 63)
          have h11 := hA1.grown hg11 (by rw [hsz11]; have := hb.size; omega) fun b e => by have := hlow b e; omega
          have hrow11 := (hg11.block w1.heap.size (by omega) (fun e => by have := hlow _ e.symm; omega)).trans hrowA
          generalize hL : l.length + 1 = L at *
          clear hA1 hrowA hvA hprA hv' hg11 ho11 hbel hprB hrowB hvB a0 a1 b0 b1 b2 g2 HG r8B r9 hbA hbF
          have g2 := (cells_at hrow11 2).trans rfl
          have f2 := free_at hrow11 2
          go_wp2_with fail
          have hrowS : (w11.setCell ⟨w1.heap.size, 2, none⟩ (.slice p11 L c11)).heap[w1.heap.size]? = some (.cells #[.int .u8 kd, str [], .slice p11 L c11] 57 (0, 0)) := set_row hrow11 2 (.slice p11 L c11)
          have hprS := hpr11.kept (w' := w11.setCell ⟨w1.heap.size, 2, none⟩ (.slice p11 L c11)) fun b hb _ => Below.heap_setCell _ _ _ _ (Nat.ne_of_gt hb)
          have hS := h11.setCell (p := ⟨w1.heap.size, 2, none⟩) hB6 (.slice p11 L c11)
          refine ⟨⟨L, l ++ [(x.1, t, p, t.sub.len, c)], _, by omega, by go_num, by simpa using hL, ⟨?_, HX.out.2⟩, hS, hrowS, hprS⟩, by simp only [intOf]; omega⟩
          rw [List.map_append]
          exact HX.out.1
    case neg =>
      have hln : l.length = ps.length := by omega
      have hd := hbad.2
      have htr := hbad.1
      rw [List.drop_eq_nil_of_le (by omega), badT] at hd
      rw [List.take_of_length_le (by omega)] at htr
      have HM2 := Lib.hid (show madeK kd ps = if twin ((sortN (treesOf ps)).map (·.1)) then ([], 6) else toldK ⟨kd, [], foOf (sortN (treesOf ps))⟩ by rw [HM.out, if_neg (by rw [hd]; simp)])
      have HT := Lib.hid htr
      have hzz := hd
      have hL1 : ∀ x ∈ ps, x.1.length ≤ 1000 := fun x hx => (HL.out x hx).1
      clear hd htr hbad HM HL
      have hBlt := (Array.getElem?_eq_some_iff.1 hrow).1
      rcases hpr.1.2 with ⟨e, e2⟩ | ⟨g, cap, cur, rfl, hbg, hg, hnc, hcm, hcs, htake⟩
      · have := hpr.1.1
        rw [e2] at this
        simp at this
        omega
      · have hgB : w1.heap.size < g := hpr.2.1 g rfl
        have hgl : g < wr.heap.size := ownsRow_lt hpr.1 rfl
        have HS := ksorted_any l g cap 0 wr hpr.1 (by omega)
        have g2 := (cells_at hrow 2).trans rfl
        have HZZ := Lib.hid hzz
        have HL1 := Lib.hid hL1
        clear hzz hL1
        clear hg htake hcs
        generalize hN : l.length = N at *
        have hN1 : 1 ≤ N := by omega
        have hN6 : N ≤ 6 := by omega
        clear hln
        go_upto_region 12 with fail
        go_upto_region 13 with (go_at_call 94; refine HS.mono ?_; clear HS; rintro e w2 ⟨rfl, qs, hp, ha, ho, hgr⟩; have hrow2 := (hgr.block w1.heap.size hBlt (fun e => by injection e with e; omega)).trans hrow; have g2 := (cells_at hrow2 2).trans rfl; have f2 := free_at hrow2 2)
        subst hN
        have hprS := (hpr.sorted hp ho hgr).kept (w' := w2.setCell ⟨w1.heap.size, 2, none⟩ (.slice (some ⟨g, 0, none⟩) l.length cap)) fun b hb _ => Below.heap_setCell _ _ _ _ (Nat.ne_of_gt hb)
        have hrowS : (w2.setCell ⟨w1.heap.size, 2, none⟩ (.slice (some ⟨g, 0, none⟩) l.length cap)).heap[w1.heap.size]? = some (.cells #[.int .u8 kd, str [], .slice (some ⟨g, 0, none⟩) l.length cap] 57 (0, 0)) := set_row hrow2 2 _
        have hbS := ((hb.grown hgr hb.size (fun b e => by injection e with e; omega))).setCell (p := ⟨w1.heap.size, 2, none⟩) hB6 (.slice (some ⟨g, 0, none⟩) l.length cap)
        have hql := hp.length_eq
        rw [hql] at hprS
        have hpp := hp.map prj
        rw [HT.out] at hpp
        have HBD := Lib.hid (made_bounds kd HZZ.out h6 HL1.out hpp)
        have hsn := sorted_names hpp (List.pairwise_map.2 ha)
        have hse := sorted_eq hpp (List.pairwise_map.2 ha)
        have HM3 := Lib.hid (show (twin (nmsP qs) = true → madeK kd ps = ([], 6)) ∧ (twin (nmsP qs) = false → madeK kd ps = toldK ⟨kd, [], foOf (qs.map prj)⟩) by
          unfold nmsP
          rw [HM2.out]
          constructor
          · intro h; rw [← hsn, if_pos h]
          · intro h; rw [← hsn, if_neg (by rw [h]; simp), hse h])
        have HQ := Lib.hid hql
        clear HZZ HL1 hpr hrow hrow2 g2 f2 ho hgr hp ha hql hpp hsn hse HM2 HT hb hbel0 hrow0
        generalize w2.setCell ⟨w1.heap.size, 2, none⟩ (.slice (some ⟨g, 0, none⟩) l.length cap) = WS at *
        have g2 := (cells_at hrowS 2).trans rfl
        go_wp2_with fail
        case inl =>
          go_loopw [59] (fun a wx => ∃ (j : Nat) (cp : Nat), j + 1 ≤ l.length ∧ a = .int .i64 j ∧ Hid (twin (nmsP qs) = twin ((nmsP qs).drop j)) ∧ Below w.heap.size w wx ∧ wx.heap[w1.heap.size]? = some (.cells #[.int .u8 kd, str [], .slice (some ⟨g, 0, none⟩) l.length cp] 57 (0, 0)) ∧ PR wx (fun b => w1.heap.size < b) (.slice (some ⟨g, 0, none⟩) l.length cp) qs) (fun a _ => l.length - (intOf a).toNat)
          case atStart => exact ⟨0, _, by omega, by go_num, rfl, hbS, hrowS, hprS⟩
          case round =>
            clear hrowS hprS hbS g2
            obtain ⟨j, cp, hj, rfl, htw, hbx, hrowX, hprX⟩ := hrel
            have g0 := (cells_at hrowX 0).trans rfl
            have g1 := (cells_at hrowX 1).trans rfl
            have g2 := (cells_at hrowX 2).trans rfl
            have hje : ¬ j + 1 < l.length := by omega
            by_cases hz : j = 0
            case neg => exact absurd hj (by omega)
            case pos =>
              have HW := Lib.hid (HM3.out.2 (by rw [htw]; exact nmsP_end (by rw [HQ.out]; omega)))
              have hfo := hprX.foV
              obtain ⟨k1, k2⟩ := HBD.out
              go_wp2_with (go_at_call 49; refine (told_any (Tr.mk kd [] (foOf (qs.map prj))) k1 k2 _ _ _ hfo).mono ?_; rintro e w3 ⟨rfl, hb3⟩)
              go_ret2
              rw [HW.out]
              exact ⟨rfl, hbx.trans (below_less hb3 hbx.size)⟩
        case inr =>
          go_loopw [59] (fun a wx => ∃ (j : Nat) (cp : Nat), j + 1 ≤ l.length ∧ a = .int .i64 j ∧ Hid (twin (nmsP qs) = twin ((nmsP qs).drop j)) ∧ Below w.heap.size w wx ∧ wx.heap[w1.heap.size]? = some (.cells #[.int .u8 kd, str [], .slice (some ⟨g, 0, none⟩) l.length cp] 57 (0, 0)) ∧ PR wx (fun b => w1.heap.size < b) (.slice (some ⟨g, 0, none⟩) l.length cp) qs) (fun a _ => l.length - (intOf a).toNat)
          case atStart => exact ⟨0, _, by omega, by go_num, rfl, hbS, hrowS, hprS⟩
          case round =>
            clear hrowS hprS hbS g2
            obtain ⟨j, cp, hj, rfl, htw, hbx, hrowX, hprX⟩ := hrel
            have g0 := (cells_at hrowX 0).trans rfl
            have g1 := (cells_at hrowX 1).trans rfl
            have g2 := (cells_at hrowX 2).trans rfl
            by_cases hjl : j + 1 < l.length
            case pos =>
              obtain ⟨x, hx⟩ : ∃ x, qs[j]? = some x := ⟨_, List.getElem?_eq_getElem (by rw [HQ.out]; omega)⟩
              obtain ⟨y, hy⟩ : ∃ x, qs[j + 1]? = some x := ⟨_, List.getElem?_eq_getElem (by rw [HQ.out]; omega)⟩
              have htw2 : twin (nmsP qs) = twin (x.1 :: y.1 :: (nmsP qs).drop (j + 1 + 1)) := by rw [htw, nmsP_drop hx, nmsP_drop hy]
              have htw3 : (nmsP qs).drop (j + 1) = y.1 :: (nmsP qs).drop (j + 1 + 1) := nmsP_drop hy
              have c1 := hprX.name hx
              have c2 := hprX.name hy
              generalize x.1 = xn at *
              generalize y.1 = yn at *
              rw [twin] at htw2
              rcases he : (xn == yn) with _ | _
              · rw [he, Bool.false_or, ← htw3] at htw2
                have HW := Lib.hid htw2
                clear htw htw2 htw3 hx hy
                go_upto_region 16 with fail
                go_region
                go_wp2_with fail
                exact ⟨⟨j + 1, cp, by omega, by go_num, HW.out, hbx.drew, hrowX, PR.kept (w := wr) (fun _ _ _ => rfl) hprX⟩, by simp only [intOf]; omega⟩
              · rw [he, Bool.true_or] at htw2
                have HW := Lib.hid (HM3.out.1 htw2)
                clear htw htw2 htw3 hx hy HM3
                go_upto_region 16 with fail
                go_region
                go_wp2_with fail
                go_ret2
                rw [HW.out]
                exact ⟨rfl, hbx.drew⟩
            case neg =>
              have HW := Lib.hid (HM3.out.2 (by rw [htw]; exact nmsP_end (by rw [HQ.out]; omega)))
              have hfo := hprX.foV
              obtain ⟨k1, k2⟩ := HBD.out
              go_wp2_with (go_at_call 49; refine (told_any (Tr.mk kd [] (foOf (qs.map prj))) k1 k2 _ _ _ hfo).mono ?_; rintro e w3 ⟨rfl, hb3⟩)
              go_ret2
              rw [HW.out]
              exact ⟨rfl, hbx.trans (below_less hb3 hbx.size)⟩
theorem kmade_any (kd : Nat) (ps : List (List UInt8 × List UInt8)) (v : Value) (w : World) (ht : Tab w) (hv : Pts w v ps) (hlen : ps.length ≤ 1000) (hl : ∀ x ∈ ps, x.1.length ≤ 1000 ∧ x.2.length ≤ 1000) :
    Calls Tryz.prog 67 #[.int .u8 kd, v] w fun e w' => e = .returned (.tuple #[str (madeK kd ps).1, .int .i64 (madeK kd ps).2]) ∧ Below w.heap.size w w' := by
  by_cases h : ps.length = 0 ∨ 6 < ps.length ∨ ps.any (fun x => !isName x.1) = true
  · exact kmade_no kd ps v w ht hv hlen hl h
  · refine kmade_yes kd ps v w ht hv (fun h0 => h (.inl h0)) ?_ hl ?_
    · rcases Nat.lt_or_ge 6 ps.length with h6 | h6
      · exact absurd (.inr (.inl h6)) h
      · exact h6
    · rcases hq : ps.any (fun x => !isName x.1) with _ | _
      · rfl
      · exact absurd (.inr (.inr hq)) h
set_option maxRecDepth 4000 in
set_option maxHeartbeats 3200000 in
theorem krecord_any (ps : List (List UInt8 × List UInt8)) (v : Value) (w : World) (ht : Tab w) (hv : Pts w v ps) (hlen : ps.length ≤ 1000) (hl : ∀ x ∈ ps, x.1.length ≤ 1000 ∧ x.2.length ≤ 1000) :
    Calls Tryz.prog 37 #[v] w fun e w' => e = .returned (.tuple #[str (madeK 5 ps).1, .int .i64 (madeK 5 ps).2]) ∧ Below w.heap.size w w' := by
  have H := kmade_any 5 ps v w ht hv hlen hl
  go_enter Tryz.func37, Tryz.ntmps37
  go_wp2_with (go_at_call 67; refine H.mono ?_; rintro e w1 ⟨rfl, hb1⟩)
  go_ret2
  exact ⟨rfl, hb1⟩
set_option maxRecDepth 4000 in
set_option maxHeartbeats 3200000 in
theorem koneof_any (ps : List (List UInt8 × List UInt8)) (v : Value) (w : World) (ht : Tab w) (hv : Pts w v ps) (hlen : ps.length ≤ 1000) (hl : ∀ x ∈ ps, x.1.length ≤ 1000 ∧ x.2.length ≤ 1000) :
    Calls Tryz.prog 39 #[v] w fun e w' => e = .returned (.tuple #[str (madeK 6 ps).1, .int .i64 (madeK 6 ps).2]) ∧ Below w.heap.size w w' := by
  have H := kmade_any 6 ps v w ht hv hlen hl
  go_enter Tryz.func39, Tryz.ntmps39
  go_wp2_with (go_at_call 67; refine H.mono ?_; rintro e w1 ⟨rfl, hb1⟩)
  go_ret2
  exact ⟨rfl, hb1⟩
end Go.Proofs.YtakdmnhpoelepaaGreatDoor
