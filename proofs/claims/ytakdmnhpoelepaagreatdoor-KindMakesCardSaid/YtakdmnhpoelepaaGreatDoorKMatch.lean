/-
  What has to be in the place of the parameter: the program's way, part by part (plain). No condition.
  Contract: kind.Match. Condition: the texts' length; the variable strings.asciiSpace.
-/
import Derived.Test.YtakdmnhpoelepaaGreatDoorKWithT
import Derived.RegionTactic
import Derived.ChangeAlike
import Derived.Deep.LoopGhost
namespace Go.Proofs.YtakdmnhpoelepaaGreatDoor

theorem Fo.find_at : ∀ (f g : Fo) (i : Nat) (pn pn' : List UInt8) (t t' : Tr), (∀ j q u, j < i → f.at j = some (q, u) → u.opn = false) → f.at i = some (pn, t) → t.opn = true → g.at i = some (pn', t') → f.find g = t.find t'
  | .nil, _, _, _, _, _, _, _, h, _, _ => by simp [Fo.at] at h
  | .cons _ _ _ _ _, .nil, _, _, _, _, _, _, _, _, h => by simp [Fo.at] at h
  | .cons qn k n sub rest, .cons qn' k' n' sub' rest', 0, pn, pn', t, t', _, h1, h2, h3 => by
    simp only [Fo.at, Option.some.injEq, Prod.mk.injEq] at h1 h3
    obtain ⟨_, rfl⟩ := h1
    obtain ⟨_, rfl⟩ := h3
    rw [Fo.find, Tr.find]
    by_cases hk : k = 8
    · rw [if_pos hk, if_pos hk]
    · have hs : sub.opn = true := by simpa [Tr.opn, hk] using h2
      rw [if_neg hk, if_neg hk, if_pos hs]
  | .cons qn k n sub rest, .cons qn' k' n' sub' rest', i + 1, pn, pn', t, t', h0, h1, h2, h3 => by
    have h := h0 0 qn ⟨k, n, sub⟩ (by omega) rfl
    simp only [Tr.opn, Bool.or_eq_false_iff, decide_eq_false_iff_not] at h
    rw [Fo.find, if_neg h.1, if_neg (by rw [h.2]; simp)]
    exact Fo.find_at rest rest' i pn pn' t t' (fun j q u hj hat => h0 (j + 1) q u (by omega) hat) h1 h2 h3
theorem Fo.opn_none : ∀ f : Fo, (∀ j q u, j < f.len → f.at j = some (q, u) → u.opn = false) → f.opn = false
  | .nil, _ => rfl
  | .cons pn k n sub rest, h => by
    have h1 := h 0 pn ⟨k, n, sub⟩ (by simp [Fo.len]) rfl
    have h2 := Fo.opn_none rest fun j q u hj hat => h (j + 1) q u (by simp only [Fo.len]; omega) hat
    simp only [Tr.opn] at h1
    rw [Fo.opn, h1, h2]
    rfl
theorem Fo.tx_len (pn : List UInt8) (k : Nat) (n : List UInt8) (sub rest : Fo) : (Fo.one ⟨k, n, sub⟩).tx.length ≤ (Fo.cons pn k n sub rest).tx.length ∧ sub.tx.length ≤ (Fo.one ⟨k, n, sub⟩).tx.length ∧ rest.tx.length ≤ (Fo.cons pn k n sub rest).tx.length := by
  have h1 : (Fo.one ⟨k, n, sub⟩).tx = wordK k n ++ sub.br := Fo.tx_one k n sub
  have h2 : sub.tx.length ≤ sub.br.length := by
    cases sub with
    | nil => simp [Fo.tx, Fo.txt, joinC]
    | cons => rw [Fo.br_ne (by simp)]; simp only [List.length_cons, List.length_append, List.length_nil]; omega
  by_cases hr : rest = .nil
  · subst hr
    rw [Fo.tx_last, show (Fo.cons [] k n sub Fo.nil) = Fo.one ⟨k, n, sub⟩ from rfl, h1]
    simp only [List.length_append]
    refine ⟨by omega, by omega, by simp [Fo.tx, Fo.txt, joinC]⟩
  · rw [Fo.tx_more _ _ _ _ _ hr, show (Fo.cons [] k n sub Fo.nil) = Fo.one ⟨k, n, sub⟩ from rfl, h1]
    simp only [List.length_append, List.length_cons]
    omega
theorem Fo.find_len : ∀ (p x : Fo) (a : Tr), p.find x = some a → a.txt.length ≤ x.tx.length
  | .nil, _, _, h => by simp [Fo.find] at h
  | .cons _ _ _ _ _, .nil, _, h => by simp [Fo.find] at h
  | .cons pn k n sub rest, .cons pn' k' n' sub' rest', a, h => by
    obtain ⟨e1, e2, e3⟩ := Fo.tx_len pn' k' n' sub' rest'
    rw [Fo.find] at h
    split at h
    · simp only [Option.some.injEq] at h
      subst h
      rw [Tr.txt_eq]
      exact e1
    · split at h
      · split at h
        · have := Fo.find_len sub sub' a h
          omega
        · simp at h
      · have := Fo.find_len rest rest' a h
        omega
theorem Tr.find_len {p x a : Tr} (h : p.find x = some a) : a.txt.length ≤ x.txt.length := by
  obtain ⟨_, e2, _⟩ := Fo.tx_len [] x.k x.n x.sub .nil
  rw [Tr.txt_eq x]
  unfold Tr.find at h
  split at h
  · simp only [Option.some.injEq] at h
    subst h
    rw [Tr.txt_eq]
    exact Nat.le_refl _
  · split at h
    · have := Fo.find_len _ _ a h
      exact Nat.le_trans this e2
    · simp at h
/-- What comes of what was found. -/
def foundK (p : Tr) (u : List UInt8) : Option Tr → List UInt8 × Bool × Nat
  | some a => if (p.put a).txt = u then (a.txt, true, 0) else ([], false, 0)
  | none => ([], false, 0)
/-- What Match answers. -/
def matchK (s u : List UInt8) : List UInt8 × Bool × Nat :=
  if (twoK s u).2.2 ≠ 0 then ([], false, (twoK s u).2.2)
  else if (twoK s u).1.opn = false then ([], s == u, 0)
  else foundK (twoK s u).1 u ((twoK s u).1.find (twoK s u).2.1)
theorem matchK_open {s u : List UInt8} (hc : (twoK s u).2.2 = 0) (ho : (twoK s u).1.opn = true) : matchK s u = foundK (twoK s u).1 u ((twoK s u).1.find (twoK s u).2.1) := by
  unfold matchK
  rw [if_neg (by rw [hc]; simp), if_neg (by rw [ho]; simp)]
end Go.Proofs.YtakdmnhpoelepaaGreatDoor

namespace Go.Proofs.YtakdmnhpoelepaaGreatDoor
open Go.RowKit

/-- At the head of the search: way is wt, at is xt. -/
structure MInv (w : World) (P B : Nat) (t a : Tr) (v1 : Value) (wr : World) (wt xt : Tr) : Prop where
  rp : wr.heap[P]? = some (.cells #[.int .u8 t.k, str t.n, v1] 57 (0, 0))
  fp : FoV wr (fun b => b < B) t.sub v1
  ra : ∃ p c, wr.heap[B]? = some (.cells #[.int .u8 xt.k, str xt.n, .slice p xt.sub.len c] 57 (0, 0)) ∧ FoV wr (fun b => b < B) xt.sub (.slice p xt.sub.len c)
  rw_ : ∃ p c, wr.heap[B + 1]? = some (.cells #[.int .u8 wt.k, str wt.n, .slice p wt.sub.len c] 57 (0, 0)) ∧ FoV wr (fun b => b < B) wt.sub (.slice p wt.sub.len c)
  bel : Below w.heap.size w wr
  hP : P < B
  hB : w.heap.size ≤ B
  opn : wt.opn = true
  eq : t.find a = wt.find xt
theorem MInv.below {w : World} {P B : Nat} {t a : Tr} {v1 : Value} {wr wr' : World} {wt xt : Tr} (h : MInv w P B t a v1 wr wt xt) (hb : Below wr.heap.size wr wr') : MInv w P B t a v1 wr' wt xt := by
  obtain ⟨pa, ca, h1, h2⟩ := h.ra
  obtain ⟨pw, cw, h3, h4⟩ := h.rw_
  exact ⟨(hb.block _ (Array.getElem?_eq_some_iff.1 h.rp).1).trans h.rp, h.fp.below hb (Nat.le_refl _), ⟨pa, ca, (hb.block _ (Array.getElem?_eq_some_iff.1 h1).1).trans h1, h2.below hb (Nat.le_refl _)⟩,
    ⟨pw, cw, (hb.block _ (Array.getElem?_eq_some_iff.1 h3).1).trans h3, h4.below hb (Nat.le_refl _)⟩, h.bel.trans (below_less hb h.bel.size), h.hP, h.hB, h.opn, h.eq⟩
theorem MInv.step0 {w : World} {P B : Nat} {t a : Tr} {v1 : Value} {W : World} {wt xt tt tt' : Tr} {p p' : Option Addr} {c c' : Nat} (h : MInv w P B t a v1 W wt xt) (hu : FoV W (fun b => b < B) tt.sub (.slice p tt.sub.len c)) (hu' : FoV W (fun b => b < B) tt'.sub (.slice p' tt'.sub.len c')) (ho : tt.opn = true) (he : t.find a = tt.find tt') :
    MInv w P B t a v1 ((((((W.setCell ⟨B + 1, 0, none⟩ (.int .u8 tt.k)).setCell ⟨B + 1, 1, none⟩ (str tt.n)).setCell ⟨B + 1, 2, none⟩ (.slice p tt.sub.len c)).setCell ⟨B, 0, none⟩ (.int .u8 tt'.k)).setCell ⟨B, 1, none⟩ (str tt'.n)).setCell ⟨B, 2, none⟩ (.slice p' tt'.sub.len c')) tt tt' := by
  obtain ⟨pa, ca, h1, h2⟩ := h.ra
  obtain ⟨pw, cw, h3, h4⟩ := h.rw_
  have hP := h.hP
  have hB := h.hB
  have n1 : P ≠ B := by omega
  have n2 : P ≠ B + 1 := by omega
  have n3 : B ≠ B + 1 := by omega
  have n4 : B + 1 ≠ B := by omega
  have m1 : ∀ b, b < B → b ≠ B := fun b hb => by omega
  have m2 : ∀ b, b < B → b ≠ B + 1 := fun b hb => by omega
  have hB1 : w.heap.size ≤ B + 1 := by omega
  have r3 := set3_row h3 (.int .u8 tt.k) (str tt.n) (.slice p tt.sub.len c)
  have rp := (set3_far n2 (.int .u8 tt.k) (str tt.n) (.slice p tt.sub.len c)).trans h.rp
  have r1 := (set3_far n3 (.int .u8 tt.k) (str tt.n) (.slice p tt.sub.len c)).trans h1
  have fp := set3_fov h.fp m2 (.int .u8 tt.k) (str tt.n) (.slice p tt.sub.len c)
  have fu := set3_fov hu m2 (.int .u8 tt.k) (str tt.n) (.slice p tt.sub.len c)
  have fu' := set3_fov hu' m2 (.int .u8 tt.k) (str tt.n) (.slice p tt.sub.len c)
  have bl := set3_below h.bel hB1 (.int .u8 tt.k) (str tt.n) (.slice p tt.sub.len c)
  generalize ((W.setCell ⟨B + 1, 0, none⟩ (.int .u8 tt.k)).setCell ⟨B + 1, 1, none⟩ (str tt.n)).setCell ⟨B + 1, 2, none⟩ (.slice p tt.sub.len c) = W2 at *
  exact ⟨(set3_far n1 _ _ _).trans rp, set3_fov fp m1 _ _ _, ⟨p', c', set3_row r1 _ _ _, set3_fov fu' m1 _ _ _⟩, ⟨p, c, (set3_far n4 _ _ _).trans r3, set3_fov fu m1 _ _ _⟩, set3_below bl hB _ _ _, hP, hB, ho, he⟩
theorem MInv.step {w : World} {P B : Nat} {t a : Tr} {v1 : Value} {W : World} {wt xt tt tt' : Tr} {p p' : Option Addr} {c c' : Nat} (h : MInv w P B t a v1 W wt xt) (hu : FoV W (fun b => b < B) tt.sub (.slice p tt.sub.len c)) (hu' : FoV W (fun b => b < B) tt'.sub (.slice p' tt'.sub.len c')) (ho : tt.opn = true) (he : t.find a = tt.find tt') :
    MInv w P B t a v1 (((((((W.setCell ⟨B + 1, 0, none⟩ (.int .u8 tt.k)).setCell ⟨B + 1, 1, none⟩ (str tt.n)).setCell ⟨B + 1, 2, none⟩ (.slice p tt.sub.len c)).setCell ⟨B, 0, none⟩ (.int .u8 tt'.k)).setCell ⟨B, 1, none⟩ (str tt'.n)).setCell ⟨B, 2, none⟩ (.slice p' tt'.sub.len c')).drew) tt tt' :=
  (h.step0 hu hu' ho he).below (Below.refl _ _).drew
def MatchPost (w : World) (s u : List UInt8) (e : Ending) (w' : World) : Prop :=
  e = .returned (.tuple #[str (matchK s u).1, .bool (matchK s u).2.1, .int .i64 (matchK s u).2.2]) ∧ Below w.heap.size w w'

set_option maxRecDepth 4000 in
set_option maxHeartbeats 3200000 in
theorem answer_any (s : List UInt8) (b : Bool) (w : World) : Calls Tryz.prog 54 #[str s, .bool b] w fun e w' => e = .returned (.tuple #[str (if b then s else []), .bool b, .int .i64 0]) ∧ w = w' := by
  cases b
  · go_enter Tryz.func54, Tryz.ntmps54
    go_wp2
    go_ret3
    exact ⟨rfl, rfl⟩
  · go_enter Tryz.func54, Tryz.ntmps54
    go_wp2
    go_ret3
    exact ⟨rfl, rfl⟩

set_option maxRecDepth 4000 in
set_option maxHeartbeats 3200000 in
theorem kmatch_no (s u : List UInt8) (ms : s.length ≤ maxLen) (mu : u.length ≤ maxLen) (w : World) (ht : Tab w) (hc : (twoK s u).2.2 ≠ 0) : Calls Tryz.prog 17 #[str s, str u] w (MatchPost w s u) := by
  have HC := two_any s u ms mu w ht
  unfold TwoPost at HC
  have HM := Lib.hid (show matchK s u = ([], false, (twoK s u).2.2) by unfold matchK; rw [if_pos hc])
  rcases hq : twoK s u with ⟨t, a, c⟩
  rw [hq] at HC HM hc
  simp only at HC HM hc
  obtain ⟨z1, z2⟩ := nat_ne0 hc
  clear hq hc
  go_enter Tryz.func17, Tryz.ntmps17
  go_wp2_with fail
  go_step3
  go_wp2_with fail
  refine HC.mono ?_
  clear HC
  rintro e w1 ⟨v1, v2, rfl, hv1, hv2, hb1⟩
  obtain ⟨p1, c1, rfl, _⟩ := hv1.shape
  obtain ⟨p2, c2, rfl, _⟩ := hv2.shape
  go_wp2_with fail
  try rw [Exit.noGoto_ret]
  go_ret3
  unfold MatchPost
  rw [HM.out]
  exact ⟨rfl, (hb1.alloc hb1.size _).alloc (by have := hb1.size; simp; omega) _⟩

set_option maxRecDepth 4000 in
set_option maxHeartbeats 3200000 in
theorem kmatch_shut (s u : List UInt8) (ms : s.length ≤ maxLen) (mu : u.length ≤ maxLen) (w : World) (ht : Tab w) (hc : (twoK s u).2.2 = 0) (ho : (twoK s u).1.opn = false) : Calls Tryz.prog 17 #[str s, str u] w (MatchPost w s u) := by
  have HC := two_any s u ms mu w ht
  unfold TwoPost at HC
  have HM := Lib.hid (show matchK s u = ([], s == u, 0) by unfold matchK; rw [if_neg (by rw [hc]; simp), if_pos ho])
  rcases hq : twoK s u with ⟨t, a, c⟩
  rw [hq] at HC hc ho
  simp only at HC hc ho
  subst hc
  clear hq
  go_enter Tryz.func17, Tryz.ntmps17
  go_wp2_with fail
  go_step3
  go_wp2_with fail
  refine HC.mono ?_
  clear HC
  rintro e w1 ⟨v1, v2, rfl, hv1, hv2, hb1⟩
  obtain ⟨p1, c1, rfl, _⟩ := hv1.shape
  obtain ⟨p2, c2, rfl, _⟩ := hv2.shape
  have hbA := ((Below.refl _ w1).alloc (Nat.le_refl _) (.cells #[.int .u8 t.k, str t.n, .slice p1 t.sub.len c1] 57)).alloc (by simp) (.cells #[.int .u8 a.k, str a.n, .slice p2 a.sub.len c2] 57)
  have hw1 := hv1.below hbA (Nat.le_refl _)
  have HO := fun W D v h => open_any t W D v h
  rw [ho] at HO
  clear ho
  go_wp2_with fail
  refine (HO _ _ _ hw1).mono ?_
  rintro e w2 ⟨rfl, hb2⟩
  have hz := hb1.size
  have hbB := (hb1.trans (below_less hbA hz)).trans (below_less hb2 (by simp; omega))
  clear hbA hw1 hb2 hv1 hv2 hb1
  go_wp2_with fail
  try rw [Exit.noGoto_ret]
  go_ret3
  unfold MatchPost
  rw [HM.out]
  exact ⟨rfl, hbB⟩

set_option maxRecDepth 4000 in
set_option maxHeartbeats 3200000 in
theorem kmatch_open (s u : List UInt8) (ms : s.length ≤ maxLen) (mu : u.length ≤ maxLen) (w : World) (ht : Tab w) (hc : (twoK s u).2.2 = 0) (ho : (twoK s u).1.opn = true) : Calls Tryz.prog 17 #[str s, str u] w (MatchPost w s u) := by
  have HC := two_any s u ms mu w ht
  unfold TwoPost at HC
  have HM := Lib.hid (matchK_open hc ho)
  rcases hq : twoK s u with ⟨t, a, c⟩
  rw [hq] at HC HM hc ho
  simp only at HC HM hc ho
  subst hc
  obtain ⟨h1, h2⟩ := twoK_ok hq
  obtain ⟨ot, et, lt, vt⟩ := checkK_ok h1
  obtain ⟨oa, ea, la, va⟩ := checkK_ok h2
  clear hq h1 h2
  have HO := fun W D v h => open_any t W D v h
  rw [ho] at HO
  have HOP := Lib.hid ho
  have HX := Lib.hid (And.intro (And.intro ot et) (And.intro oa ea))
  have HL := Lib.hid (And.intro (And.intro lt vt) (And.intro la va))
  clear ho ot et oa ea lt vt la va
  go_enter Tryz.func17, Tryz.ntmps17
  go_wp2_with fail
  go_step3
  go_wp2_with fail
  refine HC.mono ?_
  clear HC
  rintro e w1 ⟨v1, v2, rfl, hv1, hv2, hb1⟩
  obtain ⟨p1, c1, rfl, _⟩ := hv1.shape
  obtain ⟨p2, c2, rfl, _⟩ := hv2.shape
  have hbA := ((Below.refl _ w1).alloc (Nat.le_refl _) (.cells #[.int .u8 t.k, str t.n, .slice p1 t.sub.len c1] 57)).alloc (by simp) (.cells #[.int .u8 a.k, str a.n, .slice p2 a.sub.len c2] 57)
  have hw1 := hv1.below hbA (Nat.le_refl _)
  have hz := hb1.size
  have hq1 := heap_up (.cells #[.int .u8 a.k, str a.n, .slice p2 a.sub.len c2] 57) (heap_alloc_new w1 (.cells #[.int .u8 t.k, str t.n, .slice p1 t.sub.len c1] 57))
  have hq2 := heap_to (w := w1.alloc (.cells #[.int .u8 t.k, str t.n, .slice p1 t.sub.len c1] 57)) (n := w1.heap.size + 1) (by simp) #[.int .u8 a.k, str a.n, .slice p2 a.sub.len c2] 57
  have hzA : ((w1.alloc (.cells #[.int .u8 t.k, str t.n, .slice p1 t.sub.len c1] 57)).alloc (.cells #[.int .u8 a.k, str a.n, .slice p2 a.sub.len c2] 57)).heap.size = w1.heap.size + 2 := by simp
  go_wp2_with fail
  refine (HO _ _ _ hw1).mono ?_
  clear HO
  rintro e w2 ⟨rfl, hb2⟩
  generalize (w1.alloc (.cells #[.int .u8 t.k, str t.n, .slice p1 t.sub.len c1] 57)).alloc (.cells #[.int .u8 a.k, str a.n, .slice p2 a.sub.len c2] 57) = WA at *
  have hr1 := (hb2.block w1.heap.size (by omega)).trans hq1
  have hr2 := (hb2.block (w1.heap.size + 1) (by omega)).trans hq2
  have hbB := hbA.trans (below_less hb2 (by omega))
  have hfp := hv1.below hbB (Nat.le_refl _)
  have hfx := hv2.below hbB (Nat.le_refl _)
  have hbC := hb1.trans (below_less hbB hz)
  have hz2 : w1.heap.size + 2 ≤ w2.heap.size := by have := hb2.size; omega
  clear hq1 hq2 hw1 hbA hzA hb2 hv1 hv2 hbB
  have c0 := (cells_at hr2 0).trans rfl
  have c1' := (cells_at hr2 1).trans rfl
  have c2' := (cells_at hr2 2).trans rfl
  have d0 := (cells_at (heap_up (.cells #[.int .u8 0, .string ⟨#[]⟩, .slice none 0 0] 57) hr2) 0).trans rfl
  have d1' := (cells_at (heap_up (.cells #[.int .u8 0, .string ⟨#[]⟩, .slice none 0 0] 57) hr2) 1).trans rfl
  have d2' := (cells_at (heap_up (.cells #[.int .u8 0, .string ⟨#[]⟩, .slice none 0 0] 57) hr2) 2).trans rfl
  go_wp2_with fail
  go_region
  have hs1 := heap_up (.cells #[.int .u8 a.k, str a.n, .slice p2 a.sub.len c2] 57) hr1
  have hs2 := heap_alloc_new w2 (.cells #[.int .u8 a.k, str a.n, .slice p2 a.sub.len c2] 57)
  have hbD := (Below.refl w2.heap.size w2).alloc (Nat.le_refl _) (.cells #[.int .u8 a.k, str a.n, .slice p2 a.sub.len c2] 57)
  have e0 := (cells_at hs1 0).trans rfl
  have e1 := (cells_at hs1 1).trans rfl
  have e2 := (cells_at hs1 2).trans rfl
  clear c0 c1' c2' d0 d1' d2'
  have hzB : (w2.alloc (.cells #[.int .u8 a.k, str a.n, .slice p2 a.sub.len c2] 57)).heap.size = w2.heap.size + 1 := by simp
  have hbE := hbD.alloc (by simp) (.cells #[.int .u8 t.k, str t.n, .slice p1 t.sub.len c1] 57)
  have hInv : MInv w w1.heap.size w2.heap.size t a (.slice p1 t.sub.len c1) (((w2.alloc (.cells #[.int .u8 a.k, str a.n, .slice p2 a.sub.len c2] 57)).alloc (.cells #[.int .u8 t.k, str t.n, .slice p1 t.sub.len c1] 57)).drew) t a :=
    ⟨heap_up _ hs1, (hfp.mono (D' := fun b => b < w2.heap.size) fun _ _ h => h).below hbE.drew (Nat.le_refl _), ⟨p2, c2, heap_up _ hs2, (hfx.mono (D' := fun b => b < w2.heap.size) fun _ _ h => h).below hbE.drew (Nat.le_refl _)⟩,
      ⟨p1, c1, heap_to hzB _ _, (hfp.mono (D' := fun b => b < w2.heap.size) fun _ _ h => h).below hbE.drew (Nat.le_refl _)⟩, hbC.trans (below_less hbE.drew hbC.size), by omega, hbC.size, HOP.out, rfl⟩
  clear hr1 hr2 hfp hfx hbC hs1 hs2 hbD hbE hzB
  go_wp2_with fail
  go_step3
  go_wp2_with fail
  clear e0 e1 e2
  generalize World.drew _ = WS at *
  go_loopg [13] t.sub.level (fun g _ wr => ∃ wt xt, g = wt.sub.level ∧ MInv w w1.heap.size w2.heap.size t a (.slice p1 t.sub.len c1) wr wt xt)
  case atStart => exact ⟨t, a, rfl, hInv⟩
  case round =>
    obtain ⟨wt, xt, rfl, hI⟩ := hrel
    obtain ⟨px, cx, hra, hfx⟩ := hI.ra
    obtain ⟨pw, cw, hrw, hfw⟩ := hI.rw_
    have c0 := (cells_at hra 0).trans rfl
    have c1' := (cells_at hra 1).trans rfl
    have c2' := (cells_at hra 2).trans rfl
    have d0 := (cells_at hrw 0).trans rfl
    have d1' := (cells_at hrw 1).trans rfl
    have d2' := (cells_at hrw 2).trans rfl
    by_cases h8 : wt.k = 8
    case pos =>
      have e8 : ((wt.k : Int) != 8) = false := by rw [h8]; rfl
      have hfind := hI.eq
      rw [show wt.find xt = some xt by unfold Tr.find; rw [if_pos h8]] at hfind
      obtain ⟨ox, lx⟩ := Tr.find_ok HX.out.2.1 hfind
      have tx := Tr.find_len hfind
      rw [HX.out.2.2] at tx
      have hla := HL.out.2.1
      have hlx : xt.txt.length ≤ 100 := by omega
      have hlx2 : xt.txt.length ≤ 1000000 := by omega
      have hlt : t.txt.length ≤ 100 := by rw [HX.out.1.2]; exact HL.out.1.1
      have hps := put_small HX.out.1.1 hlt hlx
      have HF := Lib.hid (show matchK s u = if (t.put xt).txt = u then (xt.txt, true, 0) else ([], false, 0) by rw [HM.out, hfind]; rfl)
      clear h8 hfind ox lx tx hla
      go_wp2_with fail
      refine (kstring_any xt _ _ _ hfx hlx2).mono ?_
      rintro e w5 ⟨rfl, hb5⟩
      have hI5 := hI.below hb5
      have hra5 := (hb5.block _ (Array.getElem?_eq_some_iff.1 hra).1).trans hra
      have hfx5 := hfx.below hb5 (Nat.le_refl _)
      clear c0 c1' c2' d0 d1' d2' hI hra hrw hfx hfw hb5
      have k0 := (cells_at hI5.rp 0).trans rfl
      have k1 := (cells_at hI5.rp 1).trans rfl
      have k2 := (cells_at hI5.rp 2).trans rfl
      have m0 := (cells_at hra5 0).trans rfl
      have m1 := (cells_at hra5 1).trans rfl
      have m2 := (cells_at hra5 2).trans rfl
      go_wp2_with fail
      refine (with_any t xt (by omega) _ _ _ _ hI5.fp hfx5).mono ?_
      rintro e w6 ⟨v6, rfl, hv6, hb6⟩
      obtain ⟨p6, c6, rfl, _⟩ := hv6.shape
      have hI6 := hI5.below hb6
      clear k0 k1 k2 m0 m1 m2 hI5 hra5 hfx5 hb6
      go_wp2_with fail
      refine (kstring_any (t.put xt) _ _ _ hv6 hps).mono ?_
      rintro e w7 ⟨rfl, hb7⟩
      have hb := (hI6.below hb7).bel
      clear hI6 hv6 hb7
      by_cases he : (t.put xt).txt = u
      · have h9 : ((t.put xt).txt == u) = true := by simpa using he
        have HF2 := Lib.hid (HF.out.trans (if_pos he))
        clear he
        go_wp2_with (go_at_call 54; refine (answer_any _ true _).mono ?_; rintro e w8 ⟨rfl, rfl⟩)
        try rw [Exit.noGoto_ret]
        go_ret3
        unfold MatchPost
        rw [HF2.out]
        exact ⟨rfl, hb⟩
      · have h9 : ((t.put xt).txt == u) = false := by simpa using he
        have HF2 := Lib.hid (HF.out.trans (if_neg he))
        clear he
        go_wp2_with (go_at_call 54; refine (answer_any _ false _).mono ?_; rintro e w8 ⟨rfl, rfl⟩)
        try rw [Exit.noGoto_ret]
        go_ret3
        unfold MatchPost
        rw [HF2.out]
        exact ⟨rfl, hb⟩
    case neg =>
      have e8 : ((wt.k : Int) != 8) = true := by rw [bne_iff_ne]; omega
      have hle1 := hfw.len_le
      have hle2 := hfx.len_le
      unfold maxLen at hle1 hle2
      by_cases hk : wt.k = xt.k
      case neg =>
        have e9 : ((wt.k : Int) != (xt.k : Int)) = true := by rw [bne_iff_ne]; omega
        have hfind := hI.eq
        rw [show wt.find xt = none by unfold Tr.find; rw [if_neg h8, if_neg (fun h => hk h.1)]] at hfind
        have HF := Lib.hid (show matchK s u = ([], false, 0) by rw [HM.out, hfind]; rfl)
        have hb := hI.bel
        clear h8 hk hfind hI
        go_wp2_with fail
        try rw [Exit.noGoto_ret]
        go_ret3
        unfold MatchPost
        rw [HF.out]
        exact ⟨rfl, hb⟩
      case pos =>
        have e9 : ((wt.k : Int) != (xt.k : Int)) = false := by rw [hk]; simp
        by_cases hn : wt.sub.len = xt.sub.len
        case neg =>
          have e10 : ((wt.sub.len : Int) != (xt.sub.len : Int)) = true := by rw [bne_iff_ne]; omega
          have hfind := hI.eq
          rw [show wt.find xt = none by unfold Tr.find; rw [if_neg h8, if_neg (fun h => hn h.2)]] at hfind
          have HF := Lib.hid (show matchK s u = ([], false, 0) by rw [HM.out, hfind]; rfl)
          have hb := hI.bel
          clear h8 hk hn hfind hI
          go_wp2_with fail
          try rw [Exit.noGoto_ret]
          go_ret3
          unfold MatchPost
          rw [HF.out]
          exact ⟨rfl, hb⟩
        case pos =>
          have e10 : ((wt.sub.len : Int) != (xt.sub.len : Int)) = false := by rw [hn]; simp
          have HE := Lib.hid (show t.find a = wt.sub.find xt.sub by rw [hI.eq]; unfold Tr.find; rw [if_neg h8, if_pos ⟨hk, hn⟩])
          have HOW := Lib.hid (show wt.sub.opn = true by have := hI.opn; simpa [Tr.opn, h8] using this)
          have HN := Lib.hid (And.intro hk hn)
          clear h8 hk hn
          obtain ⟨wo, hwo⟩ : ∃ wo : World, wo = wr := ⟨_, rfl⟩
          subst hwo
          go_wp2_with fail
          go_loopg [13, 53] wt.sub.len (fun g _ s53 wi => ∃ i : Nat, i ≤ wt.sub.len ∧ g = wt.sub.len - i ∧ s53 = .int .i64 i ∧ Below wo.heap.size wo wi ∧ Hid (∀ j q u, j < i → wt.sub.at j = some (q, u) → u.opn = false))
          case atStart => exact ⟨0, Nat.zero_le _, rfl, rfl, Below.refl _ _, Lib.hid fun j q u hj => by omega⟩
          case round =>
            obtain ⟨i, hi, rfl, rfl, hbi, hno⟩ := hrel
            by_cases hlt : i < wt.sub.len
            case neg =>
              exfalso
              have h1 := HOW.out
              rw [Fo.opn_none wt.sub fun j q u hj hat => hno.out j q u (by omega) hat] at h1
              simp at h1
            case pos =>
              have hI2 := hI.below hbi
              have hfw2 := hfw.below hbi (Nat.le_refl _)
              have hfx2 := hfx.below hbi (Nat.le_refl _)
              have hra2 := (hbi.block _ (Array.getElem?_eq_some_iff.1 hra).1).trans hra
              have hrw2 := (hbi.block _ (Array.getElem?_eq_some_iff.1 hrw).1).trans hrw
              obtain ⟨g, cg, pn, tt, v, e, hgB, hgl, hat, x0, x1, x2, x3, hu⟩ := hfw2.at hlt
              injection e with q1 _ q2
              subst q1 q2
              obtain ⟨pv, cv, rfl, _⟩ := hu.shape
              obtain ⟨g', cg', pn', tt', v', e, hgB', hgl', hat', y0, y1, y2, y3, hu'⟩ := hfx2.at (i := i) (by have := HN.out.2; omega)
              injection e with q1 _ q2
              subst q1 q2
              obtain ⟨pv', cv', rfl, _⟩ := hu'.shape
              have hlv := wt.sub.at_level i pn tt hat
              have HAT := Lib.hid hat
              have HAT2 := Lib.hid hat'
              have hbq := (Below.refl wr.heap.size wr).alloc (Nat.le_refl _) (.cells #[str pn, .int .u8 tt.k, str tt.n, .slice pv tt.sub.len cv] 63)
              have hrq := heap_alloc_new wr (.cells #[str pn, .int .u8 tt.k, str tt.n, .slice pv tt.sub.len cv] 63)
              have huq := hu.below hbq (Nat.le_refl _)
              clear hat hat' c0 c1' c2' d0 d1' d2'
              go_wp2_with fail
              refine (open_any tt _ _ _ huq).mono ?_
              rintro e w7 ⟨rfl, hb7⟩
              have hb8 := hbq.trans (below_less hb7 (by simp))
              have hI7 := hI2.below hb8
              have hbo := hbi.trans (below_less hb8 hbi.size)
              have hrq7 := (hb7.block wr.heap.size (by simp)).trans hrq
              have hra7 := (hb8.block _ (Array.getElem?_eq_some_iff.1 hra2).1).trans hra2
              have hrw7 := (hb8.block _ (Array.getElem?_eq_some_iff.1 hrw2).1).trans hrw2
              have hu7 := hu.below hb8 (Nat.le_refl _)
              have hu7' := hu'.below hb8 (Nat.le_refl _)
              have z1 := Below.keep hb8 y1
              have z2 := Below.keep hb8 y2
              have z3 := Below.keep hb8 y3
              clear x0 x1 x2 x3 y0 y1 y2 y3 hI2 hfw2 hfx2 hra2 hrw2 hbq hrq huq hb7 hbi hb8 hu hu'
              rcases ho : tt.opn with _ | _
              · have hno2 := Lib.hid (show ∀ j q u, j < i + 1 → wt.sub.at j = some (q, u) → u.opn = false from fun j q u hj hat => by
                  by_cases hji : j < i
                  · exact hno.out j q u hji hat
                  · obtain rfl : j = i := by omega
                    rw [HAT.out] at hat
                    simp only [Option.some.injEq, Prod.mk.injEq] at hat
                    rw [← hat.2]; exact ho)
                clear ho z1 z2 z3
                go_wp2_with fail
                go_roundg (wt.sub.len - (i + 1))
                case rel => exact ⟨i + 1, hlt, rfl, by go_num, hbo, hno2⟩
                case measure => omega
              · have HO := Lib.hid ho
                clear ho
                have f0 := (cells_at hrq7 0).trans rfl
                have f1 := (cells_at hrq7 1).trans rfl
                have f2 := (cells_at hrq7 2).trans rfl
                have f3 := (cells_at hrq7 3).trans rfl
                have k0 := (cells_at hra7 0).trans rfl
                have k1 := (cells_at hra7 1).trans rfl
                have k2 := (cells_at hra7 2).trans rfl
                have k3 := free_at hra7 0
                have k4 := free_at hra7 1
                have k5 := free_at hra7 2
                have m0 := (cells_at hrw7 0).trans rfl
                have m1 := (cells_at hrw7 1).trans rfl
                have m2 := (cells_at hrw7 2).trans rfl
                have m3 := free_at hrw7 0
                have m4 := free_at hrw7 1
                have m5 := free_at hrw7 2
                have hge : (0 : Int) ≤ (i : Int) := by omega
                have hlt' : (i : Int) < (xt.sub.len : Int) := by have := HN.out.2; omega
                go_wp2_with fail
                go_region
                have hI9 := hI7.step hu7 hu7' HO.out (by rw [HE.out]; exact Fo.find_at wt.sub xt.sub i pn pn' tt tt' hno.out HAT.out HO.out HAT2.out)
                clear f0 f1 f2 f3 k0 k1 k2 k3 k4 k5 m0 m1 m2 m3 m4 m5 z1 z2 z3
                go_wp2_with fail
                go_roundg tt.sub.level
                case rel => exact ⟨tt, tt', rfl, hI9⟩
                case measure => omega
theorem kmatch_any (s u : List UInt8) (ms : s.length ≤ maxLen) (mu : u.length ≤ maxLen) (w : World) (ht : Tab w) : Calls Tryz.prog 17 #[str s, str u] w (MatchPost w s u) := by
  by_cases hc : (twoK s u).2.2 = 0
  · rcases ho : (twoK s u).1.opn with _ | _
    · exact kmatch_shut s u ms mu w ht hc ho
    · exact kmatch_open s u ms mu w ht hc ho
  · exact kmatch_no s u ms mu w ht hc
end Go.Proofs.YtakdmnhpoelepaaGreatDoor
