/-
  Contract: kind.made. Condition: the number and the lengths of the parts; the variable strings.asciiSpace.
-/
import Derived.Test.YtakdmnhpoelepaaGreatDoorKMadeP
import Derived.Maps.AppendAt
import Derived.RegionTactic
import Derived.ChangeAlike
namespace Go.Proofs.YtakdmnhpoelepaaGreatDoor
open Go.RowKit Go.Sort

set_option maxRecDepth 4000 in
set_option maxHeartbeats 3200000 in
theorem kmade_no (kd : Nat) (ps : List (List UInt8 × List UInt8)) (v : Value) (w : World) (ht : Tab w) (hv : Pts w v ps) (hlen : ps.length ≤ 1000) (hl : ∀ x ∈ ps, x.1.length ≤ 1000 ∧ x.2.length ≤ 1000) (hno : ps.length = 0 ∨ 6 < ps.length ∨ ps.any (fun x => !isName x.1) = true) :
    Calls Tryz.prog 67 #[.int .u8 kd, v] w fun e w' => e = .returned (.tuple #[str (madeK kd ps).1, .int .i64 (madeK kd ps).2]) ∧ Below w.heap.size w w' := by
  have HM := Lib.hid (show madeK kd ps = ([], 1) by unfold madeK; rw [if_pos hno])
  have HC := contains_parts ps v w ht hv hlen (fun x hx => by have := (hl x hx).1; unfold maxLen; omega)
  clear hl
  obtain ⟨p, c, rfl⟩ := hv.shape
  clear hv
  generalize ps.any (fun x => !isName x.1) = q at hno HC
  generalize madeK kd ps = m at HM
  by_cases h0 : ps.length = 0
  · have h0' : ((ps.length : Int) == 0) = true := int_zero h0
    clear hno
    go_enter Tryz.func67, Tryz.ntmps67
    go_wp2_with fail
    go_ret2
    rw [HM.out]
    exact ⟨rfl, Below.refl _ _⟩
  · have h0' : ((ps.length : Int) == 0) = false := (nat_ne0 h0).1
    by_cases h6 : 6 < ps.length
    · have h6' : (6 : Int) < (ps.length : Int) := by omega
      clear hno
      go_enter Tryz.func67, Tryz.ntmps67
      go_wp2_with fail
      go_ret2
      rw [HM.out]
      exact ⟨rfl, Below.refl _ _⟩
    · have h6' : ¬ (6 : Int) < (ps.length : Int) := by omega
      have hq : q = true := by rcases hno with h | h | h <;> first | exact absurd h h0 | exact absurd h h6 | exact h
      subst hq
      go_enter Tryz.func67, Tryz.ntmps67
      go_wp2_with (go_at_call 92; refine HC.mono ?_; rintro e w1 ⟨rfl, hb1⟩)
      go_ret2
      rw [HM.out]
      exact ⟨rfl, hb1⟩

set_option maxRecDepth 4000 in
set_option maxHeartbeats 6400000 in
theorem kmade_yes (kd : Nat) (ps : List (List UInt8 × List UInt8)) (v : Value) (w : World) (ht : Tab w) (hv : Pts w v ps) (h0 : ps.length ≠ 0) (h6 : ps.length ≤ 6) (hl : ∀ x ∈ ps, x.1.length ≤ 1000 ∧ x.2.length ≤ 1000) (hn : ps.any (fun x => !isName x.1) = false) :
    Calls Tryz.prog 67 #[.int .u8 kd, v] w fun e w' => e = .returned (.tuple #[str (madeK kd ps).1, .int .i64 (madeK kd ps).2]) ∧ Below w.heap.size w w' := by
  have HM := Lib.hid (show madeK kd ps = if badT ps ≠ 0 then ([], badT ps) else if twin ((sortN (treesOf ps)).map (·.1)) then ([], 6) else toldK ⟨kd, [], foOf (sortN (treesOf ps))⟩ by unfold madeK; rw [if_neg (by rw [hn]; rintro (h | h | h) <;> first | omega | (simp at h; done))])
  have HC := contains_parts ps v w ht hv (by omega) (fun x hx => by have := (hl x hx).1; unfold maxLen; omega)
  rw [hn] at HC
  clear hn
  have HL := Lib.hid hl
  clear hl
  obtain ⟨p0, c0, rfl⟩ := hv.shape
  have h0' : ((ps.length : Int) == 0) = false := (nat_ne0 h0).1
  have h6' : ¬ (6 : Int) < (ps.length : Int) := by omega
  go_enter Tryz.func67, Tryz.ntmps67
  go_wp2_with (go_at_call 92; refine HC.mono ?_; clear HC; rintro e w1 ⟨rfl, hb1⟩)
  have hB6 := Below.size hb1
  have hrow0 := heap_alloc_new w1 (.cells #[.int .u8 kd, str [], .slice none 0 0] 57)
  have hbel0 := hb1.alloc hB6 (.cells #[.int .u8 kd, str [], .slice none 0 0] 57)
  go_loopw [28] (fun a wr => ∃ (i : Nat) (l : List PV) (v : Value), i ≤ ps.length ∧ a = .int .i64 i ∧ l.length = i ∧ Hid (l.map prj = treesOf (ps.take i) ∧ badT ps = badT (ps.drop i)) ∧ Below w.heap.size w wr ∧ wr.heap[w1.heap.size]? = some (.cells #[.int .u8 kd, str [], v] 57 (0, 0)) ∧ PR wr (fun b => w1.heap.size < b) v l) (fun a _ => ps.length - (intOf a).toNat)
  case atStart => exact ⟨0, [], .slice none 0 0, Nat.zero_le _, rfl, rfl, ⟨rfl, rfl⟩, hbel0, hrow0, PR.nil _ _⟩
  case round =>
    obtain ⟨_, l, vl, hi, rfl, rfl, hbad, hb, hrow, hpr⟩ := hrel
    by_cases hlt : l.length < ps.length
    case pos =>
      obtain ⟨b, o, c', x, e, hx, x0, x1⟩ := hv.at hlt
      injection e with e1 _ e2
      subst e1 e2
      have hBlt := (Array.getElem?_eq_some_iff.1 hrow).1
      have y0 := Below.keep hb x0
      have y1 := Below.keep hb x1
      have hdrop : ps.drop l.length = x :: ps.drop (l.length + 1) := by
        rw [List.drop_eq_getElem_cons hlt]
        rw [List.getElem?_eq_getElem hlt] at hx
        simp only [Option.some.injEq] at hx
        rw [hx]
      have hbx := hbad.2
      rw [hdrop, badT] at hbx
      have htk := hbad.1
      have hxl := HL.out x (List.mem_of_getElem? hx)
      have hbP := (Below.refl wr.heap.size wr).alloc (Nat.le_refl _) (.cells #[str x.1, str x.2] 46)
      have hC := kchecked_any x.2 (by unfold maxLen; omega) (wr.alloc (.cells #[str x.1, str x.2] 46)) ((ht.below hb (Nat.le_refl _)).below hbP (Nat.le_refl _))
      unfold CheckedPost at hC
      have hTK := treesOf_take hx
      rcases hq : checkK x.2 with ⟨c, t⟩
      rw [hq] at hC hTK hbx
      simp only at hC hTK hbx
      clear hq x0 x1 hx hdrop hbad
      by_cases hc : c = 0
      case neg =>
        obtain ⟨g1, g2⟩ := nat_ne0 hc
        rw [if_neg hc] at hbx
        have HX := Lib.hid (show madeK kd ps = ([], c) by rw [HM.out, hbx, if_pos hc])
        clear hbx htk hTK HM
        go_wp2_with (go_at_call 57; refine hC.mono ?_; clear hC; rintro e w2 ⟨v2, rfl, hv2, hb2⟩; obtain ⟨p, c, rfl, _⟩ := hv2.shape)
        go_ret2
        rw [HX.out]
        exact ⟨rfl, ((hb.trans (below_less hbP hb.size)).trans (below_less hb2 (by have := hb.size; simp; omega))).alloc (by have := hb.size; have := hb2.size; simp at this; omega) _⟩
      case pos =>
        subst hc
        rw [if_pos rfl] at hbx
        have HX := Lib.hid (And.intro (show (l.map prj) ++ [(x.1, t)] = treesOf (ps.take (l.length + 1)) by rw [hTK, htk]) hbx)
        clear hbx htk hTK
        go_upto_region 10 with (go_at_call 57; refine hC.mono ?_; clear hC; rintro e w2 ⟨v2, rfl, hv2, hb2⟩; obtain ⟨p, c, rfl, _⟩ := hv2.shape)
        have hs1 : (wr.alloc (.cells #[str x.1, str x.2] 46)).heap.size = wr.heap.size + 1 := by simp
        have hs2 := hb2.size
        have hbW : Below wr.heap.size wr w2 := hbP.trans (below_less hb2 (by omega))
        have r8 := (hb2.block wr.heap.size (by omega)).trans (heap_alloc_new wr (.cells #[str x.1, str x.2] 46))
        have hbB := (Below.refl w2.heap.size w2).alloc (Nat.le_refl _) (.cells #[.int .u8 t.k, str t.n, .slice p t.sub.len c] 57)
        have hs3 : (w2.alloc (.cells #[.int .u8 t.k, str t.n, .slice p t.sub.len c] 57)).heap.size = w2.heap.size + 1 := by simp
        have hbA : Below wr.heap.size wr (w2.alloc (.cells #[.int .u8 t.k, str t.n, .slice p t.sub.len c] 57)) := hbW.trans (below_less hbB (by omega))
        have r9 := heap_alloc_new w2 (.cells #[.int .u8 t.k, str t.n, .slice p t.sub.len c] 57)
        have r8B := (hbB.block wr.heap.size (by omega)).trans r8
        have hrowB := (hbA.block w1.heap.size hBlt).trans hrow
        have hprB := hpr.kept (w' := w2.alloc (.cells #[.int .u8 t.k, str t.n, .slice p t.sub.len c] 57)) fun b _ hlt => hbA.block b hlt
        have hvB := hv2.below hbB (Nat.le_refl _)
        have hbF := (hb.trans (below_less hbA hb.size))
        have hszB : wr.heap.size + 1 < (w2.alloc (.cells #[.int .u8 t.k, str t.n, .slice p t.sub.len c] 57)).heap.size := by omega
        have h9 : wr.heap.size < w2.heap.size := by omega
        generalize w2.heap.size = B9 at r9 h9 ⊢
        generalize w2.alloc (.cells #[.int .u8 t.k, str t.n, .slice p t.sub.len c] 57) = WB at *
        obtain ⟨pv, cv, rfl⟩ := hpr.shape
        have hpl : ∀ b, (Value.slice pv l.length cv).ownBlock = some b → b < wr.heap.size := fun b e => ownsRow_lt hpr.1 e
        clear hrow r8 hb2 hbB hv2 hs1 hs2 hs3 hbW
        obtain ⟨i0, hi0, hz0, hz1, hz2⟩ := info_parts infoPart
        have hsz3 : (l.length + 1) * 64 ≤ 140737488355328 := by omega
        have hmx3 : l.length + 1 ≤ maxLen := by unfold maxLen; omega
        have a0 := (cells_at r8B 0).trans rfl
        have a1 := (cells_at r8B 1).trans rfl
        have b0 := (cells_at r9 0).trans rfl
        have b1 := (cells_at r9 1).trans rfl
        have b2 := (cells_at r9 2).trans rfl
        have g2 := (cells_at hrowB 2).trans rfl
        have hG := heap_alloc_new WB (.cells #[str x.1, .int .u8 t.k, str t.n, .slice p t.sub.len c] 63)
        have hGc := (own_lit (n := 1) (cs := [str x.1, .int .u8 t.k, str t.n, .slice p t.sub.len c]) hG rfl (by decide)).cells (g := WB.heap.size) rfl
        have HG := Lib.hid hGc
        clear hG hGc
        go_wp2_with (at_builtin; refine wpList_append_own2 (WB.alloc (.cells #[str x.1, .int .u8 t.k, str t.n, .slice p t.sub.len c] 63)) rfl _ _ 55 rfl 0 63 i0 _ 4 64 underPart hi0 hz0 hz1 hz2 rfl (by decide) _ _ _ rfl (hprB.1.alloc _) ⟨WB.heap.size, 0, none⟩ 1 1 [str x.1, .int .u8 t.k, str t.n, .slice p t.sub.len c] rfl rfl HG.out ?a2 (by decide) hmx3 hsz3 (Nat.zero_le _) ?a3)
        case a2 => intro u hu; simp only [List.mem_cons, List.not_mem_nil, or_false] at hu; rcases hu with rfl | rfl | rfl | rfl <;> rfl
        case a3 =>
          intro v' w11 hv' hg11 ho11
          obtain ⟨p11, c11, rfl⟩ := row_shape hv'
          have hsz11 : (WB.alloc (.cells #[str x.1, .int .u8 t.k, str t.n, .slice p t.sub.len c] 63)).heap.size = WB.heap.size + 1 := by simp
          have hbel := (Below.refl WB.heap.size WB).alloc (Nat.le_refl _) (.cells #[str x.1, .int .u8 t.k, str t.n, .slice p t.sub.len c] 63)
          have hrowA := (hbel.block w1.heap.size (by omega)).trans hrowB
          have hprA := hprB.kept (w' := WB.alloc (.cells #[str x.1, .int .u8 t.k, str t.n, .slice p t.sub.len c] 63)) fun b _ hlt => hbel.block b hlt
          have hvA := (hvB.kept (w' := WB.alloc (.cells #[str x.1, .int .u8 t.k, str t.n, .slice p t.sub.len c] 63)) fun b _ hlt => hbel.block b hlt).mono (D' := fun b => w1.heap.size < b ∧ (Value.slice pv l.length cv).ownBlock ≠ some b) fun b hb _ => by
            have hb : wr.heap.size + 1 ≤ b := by simpa using hb
            refine ⟨by omega, fun e => ?_⟩
            have := hpl b e
            omega
          have hpr11 := PR.grow (x := (x.1, t, p, t.sub.len, c)) hprA hvA (by omega) hv' hg11 (by rw [hsz11]; exact ho11)
          have hlow : ∀ b, (Value.slice pv l.length cv).ownBlock = some b → w1.heap.size < b := hpr.2.1
          have hA1 := hbF.alloc (by have := hb.size; omega) (.cells #[str x.1, .int .u8 t.k, str t.n, .slice p t.sub.len c] 63)
          have h11 := hA1.grown hg11 (by rw [hsz11]; have := hb.size; omega) fun b e => by have := hlow b e; omega
          have hrow11 := (hg11.block w1.heap.size (by omega) (fun e => by have := hlow _ e.symm; omega)).trans hrowA
          generalize hL : l.length + 1 = L at *
          clear hA1 hrowA hvA hprA hv' hg11 ho11 hbel hprB hrowB hvB a0 a1 b0 b1 b2 g2 HG r8B r9 hbA hbF
          have g2 := (cells_at hrow11 2).trans rfl
          have f2 := free_at hrow11 2
          go_wp2_with fail
          have hrowS : (w11.setCell ⟨w1.heap.size, 2, none⟩ (.slice p11 L c11)).heap[w1.heap.size]? = some (.cells #[.int .u8 kd, str [], .slice p11 L c11] 57 (0, 0)) := set_row hrow11 2 (.slice p11 L c11)
          have hprS := hpr11.kept (w' := w11.setCell ⟨w1.heap.size, 2, none⟩ (.slice p11 L c11)) fun b hb _ => Below.heap_setCell _ _ _ _ (Nat.ne_of_gt hb)
          have hS := h11.setCell (p := ⟨w1.heap.size, 2, none⟩) hB6 (.slice p11 L c11)
          refine ⟨⟨L, l ++ [(x.1, t, p, t.sub.len, c)], _, by omega, by go_num, by simpa using hL, ⟨?_, HX.out.2⟩, hS, hrowS, hprS⟩, by simp only [intOf]; omega⟩
          rw [List.map_append]
          exact HX.out.1
    case neg =>
      have hln : l.length = ps.length := by omega
      have hd := hbad.2
      have htr := hbad.1
      rw [List.drop_eq_nil_of_le (by omega), badT] at hd
      rw [List.take_of_length_le (by omega)] at htr
      have HM2 := Lib.hid (show madeK kd ps = if twin ((sortN (treesOf ps)).map (·.1)) then ([], 6) else toldK ⟨kd, [], foOf (sortN (treesOf ps))⟩ by rw [HM.out, if_neg (by rw [hd]; simp)])
      have HT := Lib.hid htr
      have hzz := hd
      have hL1 : ∀ x ∈ ps, x.1.length ≤ 1000 := fun x hx => (HL.out x hx).1
      clear hd htr hbad HM HL
      have hBlt := (Array.getElem?_eq_some_iff.1 hrow).1
      rcases hpr.1.2 with ⟨e, e2⟩ | ⟨g, cap, cur, rfl, hbg, hg, hnc, hcm, hcs, htake⟩
      · have := hpr.1.1
        rw [e2] at this
        simp at this
        omega
      · have hgB : w1.heap.size < g := hpr.2.1 g rfl
        have hgl : g < wr.heap.size := ownsRow_lt hpr.1 rfl
        have HS := ksorted_any l g cap 0 wr hpr.1 (by omega)
        have g2 := (cells_at hrow 2).trans rfl
        have HZZ := Lib.hid hzz
        have HL1 := Lib.hid hL1
        clear hzz hL1
        clear hg htake hcs
        generalize hN : l.length = N at *
        have hN1 : 1 ≤ N := by omega
        have hN6 : N ≤ 6 := by omega
        clear hln
        go_upto_region 12 with fail
        go_upto_region 13 with (go_at_call 94; refine HS.mono ?_; clear HS; rintro e w2 ⟨rfl, qs, hp, ha, ho, hgr⟩; have hrow2 := (hgr.block w1.heap.size hBlt (fun e => by injection e with e; omega)).trans hrow; have g2 := (cells_at hrow2 2).trans rfl; have f2 := free_at hrow2 2)
        subst hN
        have hprS := (hpr.sorted hp ho hgr).kept (w' := w2.setCell ⟨w1.heap.size, 2, none⟩ (.slice (some ⟨g, 0, none⟩) l.length cap)) fun b hb _ => Below.heap_setCell _ _ _ _ (Nat.ne_of_gt hb)
        have hrowS : (w2.setCell ⟨w1.heap.size, 2, none⟩ (.slice (some ⟨g, 0, none⟩) l.length cap)).heap[w1.heap.size]? = some (.cells #[.int .u8 kd, str [], .slice (some ⟨g, 0, none⟩) l.length cap] 57 (0, 0)) := set_row hrow2 2 _
        have hbS := ((hb.grown hgr hb.size (fun b e => by injection e with e; omega))).setCell (p := ⟨w1.heap.size, 2, none⟩) hB6 (.slice (some ⟨g, 0, none⟩) l.length cap)
        have hql := hp.length_eq
        rw [hql] at hprS
        have hpp := hp.map prj
        rw [HT.out] at hpp
        have HBD := Lib.hid (made_bounds kd HZZ.out h6 HL1.out hpp)
        have hsn := sorted_names hpp (List.pairwise_map.2 ha)
        have hse := sorted_eq hpp (List.pairwise_map.2 ha)
        have HM3 := Lib.hid (show (twin (nmsP qs) = true → madeK kd ps = ([], 6)) ∧ (twin (nmsP qs) = false → madeK kd ps = toldK ⟨kd, [], foOf (qs.map prj)⟩) by
          unfold nmsP
          rw [HM2.out]
          constructor
          · intro h; rw [← hsn, if_pos h]
          · intro h; rw [← hsn, if_neg (by rw [h]; simp), hse h])
        have HQ := Lib.hid hql
        clear HZZ HL1 hpr hrow hrow2 g2 f2 ho hgr hp ha hql hpp hsn hse HM2 HT hb hbel0 hrow0
        generalize w2.setCell ⟨w1.heap.size, 2, none⟩ (.slice (some ⟨g, 0, none⟩) l.length cap) = WS at *
        have g2 := (cells_at hrowS 2).trans rfl
        go_wp2_with fail
        case inl =>
          go_loopw [59] (fun a wx => ∃ (j : Nat) (cp : Nat), j + 1 ≤ l.length ∧ a = .int .i64 j ∧ Hid (twin (nmsP qs) = twin ((nmsP qs).drop j)) ∧ Below w.heap.size w wx ∧ wx.heap[w1.heap.size]? = some (.cells #[.int .u8 kd, str [], .slice (some ⟨g, 0, none⟩) l.length cp] 57 (0, 0)) ∧ PR wx (fun b => w1.heap.size < b) (.slice (some ⟨g, 0, none⟩) l.length cp) qs) (fun a _ => l.length - (intOf a).toNat)
          case atStart => exact ⟨0, _, by omega, by go_num, rfl, hbS, hrowS, hprS⟩
          case round =>
            clear hrowS hprS hbS g2
            obtain ⟨j, cp, hj, rfl, htw, hbx, hrowX, hprX⟩ := hrel
            have g0 := (cells_at hrowX 0).trans rfl
            have g1 := (cells_at hrowX 1).trans rfl
            have g2 := (cells_at hrowX 2).trans rfl
            have hje : ¬ j + 1 < l.length := by omega
            by_cases hz : j = 0
            case neg => exact absurd hj (by omega)
            case pos =>
              have HW := Lib.hid (HM3.out.2 (by rw [htw]; exact nmsP_end (by rw [HQ.out]; omega)))
              have hfo := hprX.foV
              obtain ⟨k1, k2⟩ := HBD.out
              go_wp2_with (go_at_call 49; refine (told_any (Tr.mk kd [] (foOf (qs.map prj))) k1 k2 _ _ _ hfo).mono ?_; rintro e w3 ⟨rfl, hb3⟩)
              go_ret2
              rw [HW.out]
              exact ⟨rfl, hbx.trans (below_less hb3 hbx.size)⟩
        case inr =>
          go_loopw [59] (fun a wx => ∃ (j : Nat) (cp : Nat), j + 1 ≤ l.length ∧ a = .int .i64 j ∧ Hid (twin (nmsP qs) = twin ((nmsP qs).drop j)) ∧ Below w.heap.size w wx ∧ wx.heap[w1.heap.size]? = some (.cells #[.int .u8 kd, str [], .slice (some ⟨g, 0, none⟩) l.length cp] 57 (0, 0)) ∧ PR wx (fun b => w1.heap.size < b) (.slice (some ⟨g, 0, none⟩) l.length cp) qs) (fun a _ => l.length - (intOf a).toNat)
          case atStart => exact ⟨0, _, by omega, by go_num, rfl, hbS, hrowS, hprS⟩
          case round =>
            clear hrowS hprS hbS g2
            obtain ⟨j, cp, hj, rfl, htw, hbx, hrowX, hprX⟩ := hrel
            have g0 := (cells_at hrowX 0).trans rfl
            have g1 := (cells_at hrowX 1).trans rfl
            have g2 := (cells_at hrowX 2).trans rfl
            by_cases hjl : j + 1 < l.length
            case pos =>
              obtain ⟨x, hx⟩ : ∃ x, qs[j]? = some x := ⟨_, List.getElem?_eq_getElem (by rw [HQ.out]; omega)⟩
              obtain ⟨y, hy⟩ : ∃ x, qs[j + 1]? = some x := ⟨_, List.getElem?_eq_getElem (by rw [HQ.out]; omega)⟩
              have htw2 : twin (nmsP qs) = twin (x.1 :: y.1 :: (nmsP qs).drop (j + 1 + 1)) := by rw [htw, nmsP_drop hx, nmsP_drop hy]
              have htw3 : (nmsP qs).drop (j + 1) = y.1 :: (nmsP qs).drop (j + 1 + 1) := nmsP_drop hy
              have c1 := hprX.name hx
              have c2 := hprX.name hy
              generalize x.1 = xn at *
              generalize y.1 = yn at *
              rw [twin] at htw2
              rcases he : (xn == yn) with _ | _
              · rw [he, Bool.false_or, ← htw3] at htw2
                have HW := Lib.hid htw2
                clear htw htw2 htw3 hx hy
                go_upto_region 16 with fail
                go_region
                go_wp2_with fail
                exact ⟨⟨j + 1, cp, by omega, by go_num, HW.out, hbx.drew, hrowX, PR.kept (w := wr) (fun _ _ _ => rfl) hprX⟩, by simp only [intOf]; omega⟩
              · rw [he, Bool.true_or] at htw2
                have HW := Lib.hid (HM3.out.1 htw2)
                clear htw htw2 htw3 hx hy HM3
                go_upto_region 16 with fail
                go_region
                go_wp2_with fail
                go_ret2
                rw [HW.out]
                exact ⟨rfl, hbx.drew⟩
            case neg =>
              have HW := Lib.hid (HM3.out.2 (by rw [htw]; exact nmsP_end (by rw [HQ.out]; omega)))
              have hfo := hprX.foV
              obtain ⟨k1, k2⟩ := HBD.out
              go_wp2_with (go_at_call 49; refine (told_any (Tr.mk kd [] (foOf (qs.map prj))) k1 k2 _ _ _ hfo).mono ?_; rintro e w3 ⟨rfl, hb3⟩)
              go_ret2
              rw [HW.out]
              exact ⟨rfl, hbx.trans (below_less hb3 hbx.size)⟩
theorem kmade_any (kd : Nat) (ps : List (List UInt8 × List UInt8)) (v : Value) (w : World) (ht : Tab w) (hv : Pts w v ps) (hlen : ps.length ≤ 1000) (hl : ∀ x ∈ ps, x.1.length ≤ 1000 ∧ x.2.length ≤ 1000) :
    Calls Tryz.prog 67 #[.int .u8 kd, v] w fun e w' => e = .returned (.tuple #[str (madeK kd ps).1, .int .i64 (madeK kd ps).2]) ∧ Below w.heap.size w w' := by
  by_cases h : ps.length = 0 ∨ 6 < ps.length ∨ ps.any (fun x => !isName x.1) = true
  · exact kmade_no kd ps v w ht hv hlen hl h
  · refine kmade_yes kd ps v w ht hv (fun h0 => h (.inl h0)) ?_ hl ?_
    · rcases Nat.lt_or_ge 6 ps.length with h6 | h6
      · exact absurd (.inr (.inl h6)) h
      · exact h6
    · rcases hq : ps.any (fun x => !isName x.1) with _ | _
      · rfl
      · exact absurd (.inr (.inr hq)) h
set_option maxRecDepth 4000 in
set_option maxHeartbeats 3200000 in
theorem krecord_any (ps : List (List UInt8 × List UInt8)) (v : Value) (w : World) (ht : Tab w) (hv : Pts w v ps) (hlen : ps.length ≤ 1000) (hl : ∀ x ∈ ps, x.1.length ≤ 1000 ∧ x.2.length ≤ 1000) :
    Calls Tryz.prog 37 #[v] w fun e w' => e = .returned (.tuple #[str (madeK 5 ps).1, .int .i64 (madeK 5 ps).2]) ∧ Below w.heap.size w w' := by
  have H := kmade_any 5 ps v w ht hv hlen hl
  go_enter Tryz.func37, Tryz.ntmps37
  go_wp2_with (go_at_call 67; refine H.mono ?_; rintro e w1 ⟨rfl, hb1⟩)
  go_ret2
  exact ⟨rfl, hb1⟩
set_option maxRecDepth 4000 in
set_option maxHeartbeats 3200000 in
theorem koneof_any (ps : List (List UInt8 × List UInt8)) (v : Value) (w : World) (ht : Tab w) (hv : Pts w v ps) (hlen : ps.length ≤ 1000) (hl : ∀ x ∈ ps, x.1.length ≤ 1000 ∧ x.2.length ≤ 1000) :
    Calls Tryz.prog 39 #[v] w fun e w' => e = .returned (.tuple #[str (madeK 6 ps).1, .int .i64 (madeK 6 ps).2]) ∧ Below w.heap.size w w' := by
  have H := kmade_any 6 ps v w ht hv hlen hl
  go_enter Tryz.func39, Tryz.ntmps39
  go_wp2_with (go_at_call 67; refine H.mono ?_; rintro e w1 ⟨rfl, hb1⟩)
  go_ret2
  exact ⟨rfl, hb1⟩
end Go.Proofs.YtakdmnhpoelepaaGreatDoor
