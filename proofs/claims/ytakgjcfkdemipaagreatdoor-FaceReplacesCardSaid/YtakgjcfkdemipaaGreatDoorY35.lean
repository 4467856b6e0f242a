/-
  Rows of operations of the call's own, sorted by slices.SortFunc. No condition.
-/
import Derived.Shelf.SlSortCmp.NoneTotal
import Derived.Test.YtakgjcfkdemipaaGreatDoorYn
import Derived.Test.YtakgjcfkdemipaaGreatDoorY18
import Derived.Test.YtakgjcfkdemipaaGreatDoorY21
import Derived.Test.YtakgjcfkdemipaaGreatDoorY23
import Derived.Test.YtakgjcfkdemipaaGreatDoorY34
namespace Go.Proofs.YtakgjcfkdemipaaGreatDoor
open Go.RowKit Go.Sort Go.Shelf
section
variable {α : Type} [Inhabited α] {enc : α → List Value} {k : Nat}
theorem flatG_get (hk : ∀ x, (enc x).length = k) (h0 : 0 < k) : ∀ (ps : List α) (t : Nat), t < ps.length * k → (ps.flatMap enc)[t]? = some ((enc ps.toArray[t / k]!)[t % k]!)
 | [], t, h => by simp at h
 | x :: ps, t, h => by
  rw [List.flatMap_cons]
  by_cases ht : t < k
  · rw [List.getElem?_append_left (by rw [hk]; exact ht), Nat.div_eq_of_lt ht, Nat.mod_eq_of_lt ht]
    have : (x :: ps).toArray[0]! = x := by simp
    rw [this, List.getElem?_eq_getElem (by rw [hk]; exact ht), List.getElem!_eq_getElem?_getD, List.getElem?_eq_getElem (by rw [hk]; exact ht)]
    rfl
  · have hl : t - k < ps.length * k := by rw [List.length_cons, Nat.succ_mul] at h; omega
    rw [List.getElem?_append_right (by rw [hk]; omega), hk, flatG_get hk h0 ps (t - k) hl];have h1 : (t - k) % k = t % k := (Nat.mod_eq_sub_mod (by omega)).symm;have h2 : t / k = (t - k) / k + 1 := Nat.div_eq_sub_div h0 (by omega);have h3 : (x :: ps).toArray[(t - k) / k + 1]! = ps.toArray[(t - k) / k]! := by
     simp only [List.getElem!_toArray, List.getElem!_eq_getElem?_getD, List.getElem?_cons_succ]
    rw [h1, h2, h3]
omit [Inhabited α] in
theorem flatG_len (hk : ∀ x, (enc x).length = k) (ps : List α) : (ps.flatMap enc).length = ps.length * k := by
 induction ps with
 | nil => simp
 | cons x ps ih => rw [List.flatMap_cons, List.length_append, ih, hk, List.length_cons, Nat.succ_mul]; omega
theorem flatG_eq (hk : ∀ x, (enc x).length = k) (h0 : 0 < k) (ps : List α) : flatK enc k ps.toArray = (ps.flatMap enc).toArray := by
 apply Array.ext_getElem?
 intro t
 by_cases ht : t < ps.length * k
 · have h2 : (ps.flatMap enc).toArray[t]? = some ((enc ps.toArray[t / k]!)[t % k]!) := by rw [List.getElem?_toArray]; exact flatG_get hk h0 ps t ht
   rw [h2];simp [flatK, ht]
 · rw [Array.getElem?_eq_none (by simp; omega), Array.getElem?_eq_none (by rw [List.size_toArray, flatG_len hk]; omega)]
theorem holdsG (hk : ∀ x, (enc x).length = k) (h0 : 0 < k) {e : TypeId} {W : World} {base g cap : Nat} {ps : List α} (h : W.ownsRow base e k (.slice (some ⟨g, 0, none⟩) ps.length cap) ps.length (ps.flatMap enc)) : HoldsK enc k W g 0 ps.toArray := by
 unfold HoldsK
 rw [flatG_eq hk h0]
 intro j hj
 have hj' : j < (ps.flatMap enc).length := by simpa using hj
 have hc := h.cells (g := g) rfl j _ (List.getElem?_eq_getElem hj')
 rw [show (⟨g, 0, none⟩ : Addr).add j = ⟨g, 0 + j, none⟩ from by unfold Addr.add; simp; omega] at hc
 refine ⟨?_, ?_⟩
 · rw [hc]; simp [List.getElem?_eq_getElem hj']
 · rcases h.2 with ⟨h', _⟩ | ⟨g', cap', cur, h', _, hh, _⟩
   · cases h'
   · cases h'
     exact free_at hh _
theorem sortedG (hk : ∀ x, (enc x).length = k) (h0 : 0 < k) {e : TypeId} {W : World} {base g cap n : Nat} {os : Array Obj} {ps qs : List α} (hl : qs.length = ps.length) (h : W.ownsRow base e k (.slice (some ⟨g, 0, none⟩) ps.length cap) ps.length (ps.flatMap enc)) :
 (sortWorldK enc k W g 0 n qs.toArray os).ownsRow base e k (.slice (some ⟨g, 0, none⟩) ps.length cap) ps.length (qs.flatMap enc) ∧ W.grownBy (sortWorldK enc k W g 0 n qs.toArray os) (some g) := by
 rcases h.2 with ⟨h', _⟩ | ⟨g', cap', cur, h', hb, hh, h1, h2, h3, h4⟩
 · cases h'
 cases h'
 have hgl : g < W.heap.size := (Array.getElem?_eq_some_iff.1 hh).1
 have hF : flatK enc k qs.toArray = (qs.flatMap enc).toArray := flatG_eq hk h0 qs
 have hheap : (sortWorldK enc k W g 0 n qs.toArray os).heap[g]? = some (.cells (putCells id 0 (qs.flatMap enc).toArray cur) e (0, 0)) := by
  unfold sortWorldK putRowK;rw [hF, heap_grow_old _ _ (by simpa using hgl)];simp [putRow, mapBlock, Sort.ahead, Array.getElem?_modify, hh, onCells]
 have hql : (qs.flatMap enc).length = ps.length * k := by rw [flatG_len hk, hl]
 have hmul : ps.length * k ≤ cap * k := Nat.mul_le_mul_right k h1
 refine ⟨⟨by rw [hql], .inr ⟨g, cap, _, rfl, hb, hheap, h1, h2, by simp [putCells, h3], ?_⟩⟩, ?_⟩
 · clear hheap hF
   generalize qs.flatMap enc = Q at *;apply List.ext_getElem?;intro j
   by_cases hj : j < ps.length * k
   · rw [List.getElem?_take_of_lt hj, Array.getElem?_toList]
     have hjc : j < cur.size := by rw [h3]; omega
     have hjq : j < Q.length := by omega
     simp [putCells, hjc, hjq]
   · rw [List.getElem?_take_eq_none (by omega), List.getElem?_eq_none (by omega)]
 · unfold sortWorldK putRowK
   refine ⟨rfl, rfl, rfl, by simp, fun j hj hne => ?_⟩;rw [heap_grow_old _ _ (by simpa using hj)];have : g ≠ j := fun e => hne (by rw [e])
   simp [putRow, mapBlock, Sort.ahead, Array.getElem?_modify, this]
end
abbrev OV := (List UInt8 × Bool × List UInt8) × (Option Addr × Nat × Nat) × (Option Addr × Nat × Nat)
def encO (x : OV) : List Value := [str x.1.1, .bool x.1.2.1, .slice x.2.1.1 x.2.1.2.1 x.2.1.2.2, str x.1.2.2, .slice x.2.2.1 x.2.2.2.1 x.2.2.2.2]
theorem OpsC.vals {D : Nat → Prop} {w : World} : ∀ {l : List OpP} {cs : List Value}, OpsC D w cs l → ∃ ps : List OV, cs = ps.flatMap encO ∧ ps.length = l.length
 | [], _, h => ⟨[], h, rfl⟩
 | x :: l, _, ⟨a, s, r, h1, _, h2, h3, h4⟩ => by
  obtain ⟨ps, hps, hl⟩ := OpsC.vals h4;obtain ⟨p, c, rfl, _⟩ := h2.shape;obtain ⟨q, d, rfl, _⟩ := h3.shape;exact ⟨((x.name, x.sig.iter, x.sig.res), (p, _, c), (q, _, d)) :: ps, by rw [h1, hps]; rfl, by simp [hl]⟩
theorem OpsC.uncons {D : Nat → Prop} {w : World} {p : OV} {r : List Value} {l : List OpP} (h : OpsC D w (encO p ++ r) l) : ∃ x l', l = x :: l' ∧ (∀ {k : List OpP} {ds : List Value}, OpsC D w ds k → OpsC D w (encO p ++ ds) (x :: k)) ∧ OpsC D w r l' ∧ x.name = p.1.1 := by
 cases l with
 | nil => exact absurd h (by simp [OpsC, encO])
 | cons x l =>
  obtain ⟨a, s, r', h1, h0, h2, h3, h4⟩ := h;simp only [encO, List.cons_append, List.nil_append, List.cons.injEq] at h1;obtain ⟨e1, e2, e3, e4, e5, rfl⟩ := h1;refine ⟨x, l, rfl, fun {k ds} hk => ⟨a, s, ds, ?_, h0, h2, h3, hk⟩, h4, (encStr_inj e1).symm⟩;simp only [encO, List.cons_append, List.nil_append];rw [e1, e2, e3, e4, e5]
theorem OpsC.perm {D : Nat → Prop} {w : World} {qs ps : List OV} (hp : qs.Perm ps) : ∀ {l : List OpP}, OpsC D w (ps.flatMap encO) l → ∃ m, OpsC D w (qs.flatMap encO) m ∧ m.Perm l := by
 induction hp with
 | nil => exact fun h => ⟨_, h, List.Perm.refl _⟩
 | cons p _ ih =>
  intro l h;rw [List.flatMap_cons] at h;obtain ⟨x, l', rfl, hx, h', _⟩ := h.uncons;obtain ⟨m, hm, hpm⟩ := ih h';exact ⟨x :: m, by rw [List.flatMap_cons]; exact hx hm, hpm.cons x⟩
 | swap p q t =>
  intro l h;rw [List.flatMap_cons, List.flatMap_cons] at h;obtain ⟨x, l', rfl, hx, h', _⟩ := h.uncons;obtain ⟨y, l'', rfl, hy, h'', _⟩ := h'.uncons;exact ⟨y :: x :: l'', by rw [List.flatMap_cons, List.flatMap_cons]; exact hy (hx h''), List.Perm.swap x y l''⟩
 | trans _ _ ih1 ih2 =>
  intro l h;obtain ⟨m, hm, h1⟩ := ih2 h;obtain ⟨m', hm', h2⟩ := ih1 hm;exact ⟨m', hm', h2.trans h1⟩
theorem OpsC.names {D : Nat → Prop} {w : World} : ∀ {qs : List OV} {m : List OpP}, OpsC D w (qs.flatMap encO) m → m.map (·.name) = qs.map (·.1.1)
 | [], [], _ => rfl
 | [], _ :: _, ⟨_, _, _, h, _⟩ => by simp at h
 | p :: qs, m, h => by
  rw [List.flatMap_cons] at h;obtain ⟨x, l', rfl, _, h', hn⟩ := h.uncons;rw [List.map_cons, List.map_cons, hn, OpsC.names h']
theorem cmp_less : ∀ a b : List UInt8, decide (Lib.compareBytes a b < 0) = Op.bytesLess a b
 | [], [] => rfl
 | [], y :: b => by simp [Lib.compareBytes, Op.bytesLess]
 | x :: a, [] => by simp [Lib.compareBytes, Op.bytesLess]
 | x :: a, y :: b => by
  have ih := cmp_less a b;unfold Lib.compareBytes;rw [Op.bytesLess]
  by_cases h1 : x < y
  · simp [h1]
  · by_cases h2 : y < x
    · have h3 : (x == y) = false := by rw [beq_eq_false_iff_ne]; rintro rfl; exact h1 h2
      simp [h1, h2, h3]
    · have h3 : x = y := UInt8.le_antisymm (UInt8.not_lt.1 h2) (UInt8.not_lt.1 h1)
      subst h3;simp [h1, ih]
theorem swoO : SWO (ltOf fun x y : OV => Lib.compareBytes x.1.1 y.1.1) := by
 refine ⟨fun x => ?_, fun x y z h1 h2 => ?_, fun x y z h1 h2 => ?_⟩
 · simp only [ltOf, cmp_less]; exact less_irrefl _
 · simp only [ltOf, cmp_less] at *; exact less_trans _ _ _ h1 h2
 · simp only [ltOf, cmp_less] at *
   have e1 := less_total _ _ h1;have e2 := less_total _ _ h2;rcases hz : Op.bytesLess x.1.1 z.1.1 with _ | _
   · rfl
   · rw [Bool.or_eq_true] at e1 e2
     rcases e1 with e1 | e1
     · rcases e2 with e2 | e2
       · have := less_trans _ _ _ e2 e1
         rw [less_asymm _ _ hz] at this;exact absurd this (by simp)
       · have e2 : z.1.1 = y.1.1 := by simpa using e2
         rw [e2, h1] at hz;exact absurd hz (by simp)
     · have e1 : y.1.1 = x.1.1 := by simpa using e1
       rw [← e1, h2] at hz;exact absurd hz (by simp)
set_option maxRecDepth 4000 in
set_option maxHeartbeats 3200000 in
theorem cmpO_any (x y : OV) (W : World) :
 Calls Tryz.prog 66 #[.agg (encO x).toArray, .agg (encO y).toArray] W fun e w' => e = .returned (.int .i64 (Lib.compareBytes x.1.1 y.1.1)) ∧ Gr W w' := by
 obtain ⟨⟨xn, xi, xr⟩, ⟨xp, xl, xc⟩, ⟨xq, xm, xd⟩⟩ := x
 obtain ⟨⟨yn, yi, yr⟩, ⟨yp, yl, yc⟩, ⟨yq, ym, yd⟩⟩ := y
 have hG : Gr W ((W.alloc (.cells #[str xn, .bool xi, .slice xp xl xc, str xr, .slice xq xm xd] 50)).alloc (.cells #[str yn, .bool yi, .slice yp yl yc, str yr, .slice yq ym yd] 50)) := ((Gr.refl W).alloc _).alloc _
 have bx := (box5 (heap_up (.cells #[str yn, .bool yi, .slice yp yl yc, str yr, .slice yq ym yd] 50) (heap_alloc_new W (.cells #[str xn, .bool xi, .slice xp xl xc, str xr, .slice xq xm xd] 50)))).1
 have by' := (box5 (heap_to (w := W.alloc (.cells #[str xn, .bool xi, .slice xp xl xc, str xr, .slice xq xm xd] 50)) (n := W.heap.size + 1) (by simp) #[str yn, .bool yi, .slice yp yl yc, str yr, .slice yq ym yd] 50)).1
 unfold encO
 dsimp only at hG bx by' ⊢
 go_enter Tryz.func66, Tryz.ntmps66
 go_wp2_with (go_at_call 67; refine (Tryz.strings_Compare ⟨xn.toArray⟩ ⟨yn.toArray⟩ _).mono ?_; rintro e w2 ⟨rfl, rfl⟩)
 go_ret
 exact ⟨by simp, by first | exact hG | exact hG.drew⟩
theorem sortF_any (v : Value) (l : List OpP) (B : Nat) (w : World) (h : OwnO B w v l) (ho : OnceO l) (hl : l.length ≤ 100000) :
 Calls Tryz.prog 65 #[v, .func (.func 66) #[] #[]] w fun e w' => e = .returned (.tuple #[]) ∧ OwnO B w' v (sortO l) ∧ w.grownBy w' v.ownBlock := by
 obtain ⟨cs, hrow, hC⟩ := h
 have hlen : (sortO l).length = l.length := (sortO_perm l).length_eq
 rcases hrow.2 with ⟨rfl, h0⟩ | ⟨g, cap, cur, rfl, _, _, hz1, hz2, _⟩
 · have e0 : l = [] := List.length_eq_zero_iff.1 (by omega)
   subst e0;refine (AnyF.slices_SortFunc_none Tryz.sortOp none 0 _ w).mono ?_;rintro e w' ⟨rfl, rfl⟩;exact ⟨rfl, OwnO.nil _ _, ⟨rfl, rfl, rfl, nl _, fun _ _ _ => rfl⟩⟩
 obtain ⟨ps, rfl, hps⟩ := hC.vals
 have hrow' : w.ownsRow B 50 5 (.slice (some ⟨g, 0, none⟩) ps.length cap) ps.length (ps.flatMap encO) := by rw [hps]; exact hrow
 have hgl := ownsRow_lt hrow (b := g) rfl
 have hk : ∀ x : OV, (encO x).length = 5 := fun _ => rfl
 have hcmp : CmpLays Tryz.prog 66 #[] encO 5 (fun x y : OV => Lib.compareBytes x.1.1 y.1.1) g 0 ps.toArray.size w := by
  intro m os dk _ x y;refine (cmpO_any x y _).mono ?_;rintro e w' ⟨rfl, hg⟩;exact ⟨rfl, hg⟩
 have hcon := AnyQ.slices_SortFunc Tryz.sortOp 5 Tryz.isAgg50 Tryz.sizeOf50 encO hk (fun x v hv => by simp only [encO, List.mem_cons, List.not_mem_nil, or_false] at hv; rcases hv with rfl | rfl | rfl | rfl | rfl <;> rfl) (fun x y : OV => Lib.compareBytes x.1.1 y.1.1) swoO 66 #[] g 0 cap ps.toArray w
  (enters_of Tryz.func66 (by kernel_rfl) rfl) hcmp (holdsG hk (by decide) hrow') hgl (by simp; omega)
 rw [← hps]
 rw [List.size_toArray] at hcon
 refine Calls.mono (show Calls Tryz.prog 65 _ w _ from hcon) ?_
 rintro e w' ⟨rfl, d, n, os, ⟨p1, _, p3⟩, hs, rfl⟩
 have hd : d.size = ps.length := by simpa using p1
 have hperm : d.toList.Perm ps := by
  have e1 : d.extract 0 ps.length = d := by rw [← hd]; simp
  have e2 : ps.toArray.extract 0 ps.length = ps.toArray := by simp
  rw [e1, e2] at p3
  simpa using p3
 obtain ⟨hrow2, hg2⟩ := sortedG (n := n) (os := os) (qs := d.toList) hk (by decide) (by simpa using hd) hrow'
 have hdl : d.toList.toArray = d := by simp
 rw [hdl] at hrow2 hg2
 have hC2 := OpsC.agree (w' := sortWorldK encO 5 w g 0 n d os) (fun b hb hlt => hg2.block b hlt (Ne.symm hb)) hC
 obtain ⟨m, hm, hmp⟩ := hC2.perm hperm
 have hpw : m.Pairwise fun x y => Op.bytesLess y.name x.name = false := by
  have h1 : (d.toList.map (·.1.1)).Pairwise fun a b => Op.bytesLess b a = false := by
   rw [List.pairwise_map, List.pairwise_iff_getElem];intro i j hi hj hij;have := hs i j (Nat.zero_le _) hij (by simp at hj ⊢; omega);simp only [ltOf, cmp_less] at this;simp only [Array.length_toList] at hi hj
   simpa [hi, hj] using this
  rw [← hm.names, List.pairwise_map] at h1;exact h1
 obtain rfl : m = sortO l := sort_any ho hmp hpw
 refine ⟨rfl, ⟨_, by rw [hlen, ← hps]; exact hrow2, ?_⟩, hg2⟩
 exact hm
end Go.Proofs.YtakgjcfkdemipaaGreatDoor
