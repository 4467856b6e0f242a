/-
  Contract: the program's kind.sorted at parts: a few parts in the order of their names. Condition: at most twelve parts, in a row of the call's own.
-/
import Derived.Test.YtakdmnhpoelepaaGreatDoorKSort0
import Derived.Test.YtakdmnhpoelepaaGreatDoorShelf2
import Derived.Sort.OwnSorted
import Derived.Sort.LotA
namespace Go.Proofs.YtakdmnhpoelepaaGreatDoor
open Go.RowKit Go.Sort Go.Shelf

instance : Inhabited Tr := ⟨⟨0, [], .nil⟩⟩
theorem flat_get : ∀ (ps : List PV) (t : Nat), t < ps.length * 4 → (ps.flatMap encP)[t]? = some ((encP ps.toArray[t / 4]!)[t % 4]!)
  | [], t, h => by simp at h
  | x :: ps, t, h => by
    have hx : (encP x).length = 4 := rfl
    rw [List.flatMap_cons]
    by_cases ht : t < 4
    · rw [List.getElem?_append_left (by rw [hx]; exact ht), show t / 4 = 0 from by omega, show t % 4 = t from by omega]
      have : (x :: ps).toArray[0]! = x := by simp
      rw [this, List.getElem?_eq_getElem (by rw [hx]; exact ht), List.getElem!_eq_getElem?_getD, List.getElem?_eq_getElem (by rw [hx]; exact ht)]
      rfl
    · rw [List.getElem?_append_right (by rw [hx]; omega), hx, flat_get ps (t - 4) (by simp only [List.length_cons] at h; omega)]
      have h1 : (t - 4) % 4 = t % 4 := by omega
      have h2 : t / 4 = (t - 4) / 4 + 1 := by omega
      have h3 : (x :: ps).toArray[(t - 4) / 4 + 1]! = ps.toArray[(t - 4) / 4]! := by
        simp only [List.getElem!_toArray, List.getElem!_eq_getElem?_getD, List.getElem?_cons_succ]
      rw [h1, h2, h3]
theorem flat_len (ps : List PV) : (ps.flatMap encP).length = ps.length * 4 := by
  induction ps with
  | nil => rfl
  | cons x ps ih => rw [List.flatMap_cons, List.length_append, ih]; simp [encP]; omega
theorem flatK_eq (ps : List PV) : flatK encP 4 ps.toArray = (ps.flatMap encP).toArray := by
  apply Array.ext_getElem?
  intro t
  by_cases ht : t < ps.length * 4
  · have h2 : (ps.flatMap encP).toArray[t]? = some ((encP ps.toArray[t / 4]!)[t % 4]!) := by rw [List.getElem?_toArray]; exact flat_get ps t ht
    rw [h2]
    simp [flatK, ht]
  · rw [Array.getElem?_eq_none (by simp; omega), Array.getElem?_eq_none (by rw [List.size_toArray, flat_len]; omega)]
theorem holds_flat {W : World} {base g cap : Nat} {ps : List PV} (h : W.ownsRow base 63 4 (.slice (some ⟨g, 0, none⟩) ps.length cap) ps.length (ps.flatMap encP)) : HoldsK encP 4 W g 0 ps.toArray := by
  unfold HoldsK
  rw [flatK_eq]
  intro j hj
  have hj' : j < (ps.flatMap encP).length := by simpa using hj
  have hc := h.cells (g := g) rfl j _ (List.getElem?_eq_getElem hj')
  rw [show (⟨g, 0, none⟩ : Addr).add j = ⟨g, 0 + j, none⟩ from by unfold Addr.add; simp; omega] at hc
  refine ⟨?_, ?_⟩
  · rw [hc]; simp [List.getElem?_eq_getElem hj']
  · rcases h.2 with ⟨h', _⟩ | ⟨g', cap', cur, h', _, hh, _⟩
    · cases h'
    · cases h'
      exact free_at hh _
theorem row_sorted {W : World} {base g cap n : Nat} {os : Array Obj} {ps qs : List PV} (hl : qs.length = ps.length) (h : W.ownsRow base 63 4 (.slice (some ⟨g, 0, none⟩) ps.length cap) ps.length (ps.flatMap encP)) :
    (sortWorldK encP 4 W g 0 n qs.toArray os).ownsRow base 63 4 (.slice (some ⟨g, 0, none⟩) ps.length cap) ps.length (qs.flatMap encP) ∧ W.grownBy (sortWorldK encP 4 W g 0 n qs.toArray os) (some g) := by
  rcases h.2 with ⟨h', _⟩ | ⟨g', cap', cur, h', hb, hh, h1, h2, h3, h4⟩
  · cases h'
  cases h'
  have hgl : g < W.heap.size := (Array.getElem?_eq_some_iff.1 hh).1
  have hF : flatK encP 4 qs.toArray = (qs.flatMap encP).toArray := flatK_eq qs
  have hheap : (sortWorldK encP 4 W g 0 n qs.toArray os).heap[g]? = some (.cells (putCells id 0 (qs.flatMap encP).toArray cur) 63 (0, 0)) := by
    unfold sortWorldK putRowK
    rw [hF, heap_grow_old _ _ (by simpa using hgl)]
    simp [putRow, mapBlock, Sort.ahead, Array.getElem?_modify, hh, onCells]
  have hql : (qs.flatMap encP).length = ps.length * 4 := by rw [flat_len, hl]
  refine ⟨⟨by rw [hql], .inr ⟨g, cap, _, rfl, hb, hheap, h1, h2, by simp [putCells, h3], ?_⟩⟩, ?_⟩
  · clear hheap hF
    generalize qs.flatMap encP = Q at *
    apply List.ext_getElem?
    intro j
    by_cases hj : j < ps.length * 4
    · rw [List.getElem?_take_of_lt hj, Array.getElem?_toList]
      have hjc : j < cur.size := by rw [h3]; omega
      have hjq : j < Q.length := by omega
      simp [putCells, hjc, hjq]
    · rw [List.getElem?_take_eq_none (by omega), List.getElem?_eq_none (by omega)]
  · unfold sortWorldK putRowK
    refine ⟨rfl, rfl, rfl, by simp, fun k hk hne => ?_⟩
    rw [heap_grow_old _ _ (by simpa using hk)]
    have : g ≠ k := fun e => hne (by rw [e])
    simp [putRow, mapBlock, Sort.ahead, Array.getElem?_modify, this]

theorem swoP : SWO (ltOf fun x y : PV => cmpB x.1 y.1) := by
  have hlt : ∀ a b : List UInt8, decide (cmpB a b < 0) = Op.bytesLess a b := by
    intro a b
    unfold cmpB
    rcases h1 : Op.bytesLess a b with _ | _
    · rcases h2 : Op.bytesLess b a with _ | _ <;> rfl
    · rfl
  refine ⟨fun x => ?_, fun x y z h1 h2 => ?_, fun x y z h1 h2 => ?_⟩
  · simp only [ltOf, hlt]; exact less_irrefl _
  · simp only [ltOf, hlt] at *; exact less_trans _ _ _ h1 h2
  · simp only [ltOf, hlt] at *
    have e1 := less_total _ _ h1
    have e2 := less_total _ _ h2
    rcases hz : Op.bytesLess x.1 z.1 with _ | _
    · rfl
    · rw [Bool.or_eq_true] at e1 e2
      rcases e1 with e1 | e1
      · rcases e2 with e2 | e2
        · have := less_trans _ _ _ e2 e1
          rw [less_asymm _ _ hz] at this
          exact absurd this (by simp)
        · have e2 : z.1 = y.1 := by simpa using e2
          rw [e2, h1] at hz
          exact absurd hz (by simp)
      · have e1 : y.1 = x.1 := by simpa using e1
        rw [← e1, h2] at hz
        exact absurd hz (by simp)
/-- In the order of their names. -/
def Asc (qs : List PV) : Prop := qs.Pairwise fun x y => Op.bytesLess y.1 x.1 = false
theorem ins_any (ps : List PV) (g cap Kb base : Nat) (W : World) (hrow : W.ownsRow base 63 4 (.slice (some ⟨g, 0, none⟩) ps.length cap) ps.length (ps.flatMap encP)) (hk : W.cell? ⟨Kb, 0, none⟩ = some (.func (.func 95) #[] #[])) (hne : Kb ≠ g) (hl : ps.length ≤ 1000) :
    Calls Tryz.prog 146 #[.slice (some ⟨g, 0, none⟩) ps.length cap, .int .i64 0, .int .i64 ps.length, .func (.func 116) #[] #[.pointer (some ⟨Kb, 0, none⟩)]] W fun e w' =>
      e = .returned (.tuple #[]) ∧ ∃ qs : List PV, qs.Perm ps ∧ Asc qs ∧ w'.ownsRow base 63 4 (.slice (some ⟨g, 0, none⟩) ps.length cap) ps.length (qs.flatMap encP) ∧ W.grownBy w' (some g) := by
  have hH := holds_flat hrow
  have hgl := ownsRow_lt hrow (b := g) rfl
  have hKl := World.block_lt_of_cell? _ _ hk
  have hcmp : CmpLays Tryz.prog 116 #[.pointer (some ⟨Kb, 0, none⟩)] encP 4 (fun x y : PV => cmpB x.1 y.1) g 0 ps.toArray.size W := by
    intro m os dk _ x y
    refine (cmp2_any x y Kb _ ?_).mono ?_
    · unfold sortWorldK putRowK
      rw [cell?_grow _ _ _ (by simpa using hKl), cell?_putRow_other _ _ _ _ _ _ (Or.inl hne)]
      exact hk
    · rintro e w' ⟨rfl, hg⟩
      exact ⟨rfl, hg⟩
  have hcon := AnyQ.insertionSortCmpFunc Tryz.insPart 4 Tryz.isAgg63 Tryz.sizeOf63 encP (fun _ => rfl) (fun x v hv => by simp [encP] at hv; rcases hv with rfl | rfl | rfl | rfl <;> rfl) (fun x y : PV => cmpB x.1 y.1) 116 #[.pointer (some ⟨Kb, 0, none⟩)] g 0 cap 0 ps.toArray.size ps.toArray W
    (enters_of Tryz.func116 (by kernel_rfl) rfl) hcmp hH hgl (Nat.zero_le _) (Nat.le_refl _) (by simp; omega)
  refine Calls.mono hcon ?_
  rintro e w' ⟨rfl, n, os, rfl⟩
  refine ⟨rfl, ?_⟩
  obtain ⟨⟨p1, _, p3⟩, hs⟩ := insertionSort_holds swoP ps.toArray 0 ps.toArray.size (Nat.zero_le _) (Nat.le_refl _)
  generalize insertionSort (ltOf fun x y : PV => cmpB x.1 y.1) ps.toArray 0 ps.toArray.size = d at *
  have hd : d.size = ps.length := by simpa using p1
  refine ⟨d.toList, ?_, ?_, ?_⟩
  · have e1 : d.extract 0 ps.toArray.size = d := by rw [← p1]; simp
    have e2 : ps.toArray.extract 0 ps.toArray.size = ps.toArray := by simp
    rw [e1, e2] at p3
    simpa using p3
  · unfold Asc
    rw [List.pairwise_iff_getElem]
    intro i j hi hj hij
    have := hs i j (Nat.zero_le _) hij (by simp at hj ⊢; omega)
    have hlt : ∀ a b : List UInt8, decide (cmpB a b < 0) = Op.bytesLess a b := by
      intro a b
      unfold cmpB
      rcases h1 : Op.bytesLess a b with _ | _
      · rcases h2 : Op.bytesLess b a with _ | _ <;> rfl
      · rfl
    simp only [ltOf, hlt] at this
    simp only [Array.length_toList] at hi hj
    simpa [hi, hj] using this
  · have := row_sorted (n := n) (os := os) (ps := ps) (qs := d.toList) (by simpa using hd) hrow
    simpa using this
end Go.Proofs.YtakdmnhpoelepaaGreatDoor
