/-
  Contracts: the program's tree.String and tree.inner: the text of a type, and of its parts. Condition: the text is at most a million bytes.
-/
import Derived.Test.YtakdmnhpoelepaaGreatDoorKString0
import Derived.Test.YtakdmnhpoelepaaGreatDoorKJoin
import Derived.Test.YtakdmnhpoelepaaGreatDoorPlain1
import Derived.Test.YtakdmnhpoelepaaGreatDoorRegion
import Derived.Maps.AppendAt
namespace Go.Proofs.YtakdmnhpoelepaaGreatDoor
open Go.RowKit

def StrOk (m : Nat) : Prop := ∀ (fo : Fo), fo.level ≤ m → ∀ (k : Nat) (n : List UInt8) (w : World) (D : Nat → Prop) (v : Value), FoV w D fo v → (Tr.txt ⟨k, n, fo⟩).length ≤ 1000000 →
  Calls Tryz.prog 53 #[.agg #[.int .u8 k, str n, v]] w fun e w' => e = .returned (str (Tr.txt ⟨k, n, fo⟩)) ∧ Below w.heap.size w w'
def InnOk (m : Nat) : Prop := ∀ (fo : Fo), fo.level ≤ m → ∀ (k : Nat) (n : List UInt8) (w : World) (D : Nat → Prop) (v : Value), FoV w D fo v → fo.tx.length ≤ 1000000 →
  Calls Tryz.prog 74 #[.agg #[.int .u8 k, str n, v]] w fun e w' => e = .returned (str fo.tx) ∧ Below w.heap.size w w'

theorem infoStr : (Tryz.prog.info? 9).map (fun i => (i.zero, i.size, i.bytes)) = some (some (.string ⟨#[]⟩), 1, 16) := by kernel_rfl

set_option maxRecDepth 4000 in
set_option maxHeartbeats 3200000 in
theorem inner_step (m : Nat) (hS : ∀ m', m' < m → StrOk m') : InnOk m := by
  intro fo hl k n w D v hv htx
  have hlen := hv.len_le
  have hfl : fo.len ≤ 1000001 := by
    have h1 := joinC_len fo.txt
    rw [Fo.txt_len] at h1
    unfold Fo.tx at htx
    omega
  obtain ⟨p, c, rfl, _⟩ := hv.shape
  obtain ⟨i0, hi0, hz0, hz1, hz2⟩ := info_parts infoStr
  have IH := Lib.hid hS
  clear hS
  have HTX := Lib.hid htx
  clear htx
  go_enter Tryz.func74, Tryz.ntmps74
  go_wp2_with fail
  have hbel := (Below.refl w.heap.size w).alloc (Nat.le_refl _) (.cells #[.int .u8 k, str n, .slice p fo.len c] 57)
  have hsz1 : w.heap.size + 1 ≤ (w.alloc (.cells #[.int .u8 k, str n, .slice p fo.len c] 57)).heap.size := by simp
  generalize w.alloc (.cells #[.int .u8 k, str n, .slice p fo.len c] 57) = W1 at *
  go_loopw [3, 10] (fun a b wr => ∃ i : Nat, i ≤ fo.len ∧ b = .int .i64 i ∧ wr.ownsRow w.heap.size 9 1 a i (strsC (fo.txt.take i)) ∧ Below w.heap.size w wr) (fun _ b _ => fo.len - (intOf b).toNat)
  case atStart => exact ⟨0, Nat.zero_le _, rfl, by simpa [strsC] using World.ownsRow_nil _ _ _ _, hbel⟩
  case round =>
    obtain ⟨i, hi, rfl, hown, hb⟩ := hrel
    by_cases hlt : i < fo.len
    case pos =>
      obtain ⟨g, c', pn, t, u, e, _, hg, hat, x0, x1, x2, x3, hu⟩ := hv.at hlt
      injection e with e1 _ e2
      subst e1 e2
      obtain ⟨p', c', rfl, _⟩ := hu.shape
      have y0 := (hb.cell (by exact hg)).trans x0
      have y1 := (hb.cell (by exact hg)).trans x1
      have y2 := (hb.cell (by exact hg)).trans x2
      have y3 := (hb.cell (by exact hg)).trans x3
      clear x0 x1 x2 x3
      have hlv := fo.at_level i pn t hat
      have hTT := fo.at_txt i pn t hat
      have hle := joinC_get _ _ _ hTT
      have hle2 : (preN pn ++ t.txt).length ≤ 1000000 := Nat.le_trans hle HTX.out
      have HSn := Lib.hid (show strsC (fo.txt.take (i + 1)) = strsC (fo.txt.take i) ++ [str (preN pn ++ t.txt)] by rw [take_snoc' _ _ _ hTT]; simp [strsC])
      rw [List.length_append] at hle2
      have hpn : pn.length ≤ (preN pn).length := by unfold preN; split <;> simp_all
      clear hle hTT
      have hbA := hb.alloc hb.size (.cells #[.string ⟨pn.toArray⟩, .int .u8 t.k, .string ⟨t.n.toArray⟩, .slice p' t.sub.len c'] 63)
      have hownA := hown.alloc (.cells #[.string ⟨pn.toArray⟩, .int .u8 t.k, .string ⟨t.n.toArray⟩, .slice p' t.sub.len c'] 63)
      go_wp2_with fail
      refine (IH.out t.sub.level (by omega) t.sub (Nat.le_refl _) t.k t.n _ D _ (hu.below hbA (Nat.le_refl _)) (by show t.txt.length ≤ _; omega)).mono ?_
      rintro e w2 ⟨rfl, hb2⟩
      have r4 := (hb2.block wr.heap.size (by simp)).trans (heap_alloc_new wr _)
      have d0 := (cells_at r4 0).trans rfl
      have hb3 := hbA.trans (below_less hb2 hbA.size)
      have hown3 := ownsRow_below hownA hb2 (Nat.le_refl _)
      clear y0 y1 y2 y3 hb2 hbA r4 hownA
      have hB1 : pn.length + 1 + (Tr.txt ⟨t.k, t.n, t.sub⟩).length ≤ 9223372036854775807 := by show pn.length + 1 + t.txt.length ≤ _; omega
      by_cases hp : pn = []
      case pos =>
        subst hp
        go_wp2_with (at_builtin; refine wpList_append_own _ rfl _ _ 30 rfl w.heap.size 9 i0 (.string ⟨#[]⟩) 1 16 Tryz.underlying30 hi0 hz0 hz1 hz2 rfl (by decide) _ _ _ rfl (hown3.alloc _) ⟨w2.heap.size, 0, none⟩ 1 1 [str (Tr.txt ⟨t.k, t.n, t.sub⟩)] rfl rfl (cell_one_new _ _ _) (fun x hx => by simp at hx; subst hx; rfl) (by unfold maxLen; omega) (by omega) (by have := hb3.size; simp; omega) ?_; intro v' w3 hown4 hgr _)
        refine ⟨⟨i + 1, hlt, by go_num, ?_, ?_⟩, by simp only [intOf]; omega⟩
        · rw [HSn.out]
          exact hown4
        · exact (hb3.alloc hb3.size _).grown hgr (by have := hb3.size; simp; omega) (fun b e => (hown3.lt b e).1)
      case neg =>
        have hpe : (!pn.isEmpty) = true := by simpa using hp
        go_wp2_with (at_builtin; refine wpList_append_own _ rfl _ _ 30 rfl w.heap.size 9 i0 (.string ⟨#[]⟩) 1 16 Tryz.underlying30 hi0 hz0 hz1 hz2 rfl (by decide) _ _ _ rfl (hown3.alloc _) ⟨w2.heap.size, 0, none⟩ 1 1 [str (pn ++ 58 :: (Tr.txt ⟨t.k, t.n, t.sub⟩))] rfl rfl (cell_one_new _ _ _) (fun x hx => by simp at hx; subst hx; rfl) (by unfold maxLen; omega) (by omega) (by have := hb3.size; simp; omega) ?_; intro v' w3 hown4 hgr _)
        refine ⟨⟨i + 1, hlt, by go_num, ?_, ?_⟩, by simp only [intOf]; omega⟩
        · rw [HSn.out]
          rw [show preN pn ++ t.txt = pn ++ 58 :: (Tr.txt ⟨t.k, t.n, t.sub⟩) from by unfold preN; rw [if_neg hp]; simp]
          exact hown4
        · exact (hb3.alloc hb3.size _).grown hgr (by have := hb3.size; simp; omega) (fun b e => (hown3.lt b e).1)
    case neg =>
      have hie : i = fo.txt.length := by rw [Fo.txt_len]; omega
      rw [hie, List.take_of_length_le (Nat.le_refl _)] at hown
      have HJ := Lib.hid hie
      clear hie
      go_wp2_with (go_at_call 97; refine (join_own fo.txt _ _ w.heap.size hown (by have := HTX.out; unfold Fo.tx at this; omega)).mono ?_; rintro e w2 ⟨rfl, hb2⟩)
      go_ret
      exact ⟨rfl, hb.trans (below_less hb2 hb.size)⟩

theorem Below.keep {W w2 : World} (hb : Below W.heap.size W w2) {a : Addr} {v : Value} (h : W.cell? a = some v) : w2.cell? a = some v :=
  (hb.cell (World.block_lt_of_cell? _ _ h)).trans h
/-- The cells of a type at block b; what was there in w is there. -/
def TrAt (w : World) (b k : Nat) (n : List UInt8) (v : Value) (W : World) : Prop :=
  (W.cell? ⟨b, 0, none⟩ = some (.int .u8 k) ∧ W.cell? ⟨b, 1, none⟩ = some (str n) ∧ W.cell? ⟨b, 2, none⟩ = some v) ∧ Below w.heap.size w W
theorem TrAt.keep {w W w2 : World} {b k : Nat} {n : List UInt8} {v : Value} (h : TrAt w b k n v W) (hb : Below W.heap.size W w2) : TrAt w b k n v w2 :=
  ⟨⟨Below.keep hb h.1.1, Below.keep hb h.1.2.1, Below.keep hb h.1.2.2⟩, h.2.trans (below_less hb h.2.size)⟩
theorem txt_br {k : Nat} {n : List UInt8} {fo : Fo} (h : fo.len ≠ 0) : Tr.txt ⟨k, n, fo⟩ = wordK k n ++ 91 :: (fo.tx ++ [93]) := by
  cases fo with
  | nil => exact absurd rfl h
  | cons => rfl
set_option maxRecDepth 4000 in
set_option maxHeartbeats 3200000 in
theorem str_step (m : Nat) (hI : InnOk m) : StrOk m := by
  intro fo hl k n w D v hv htx
  have hlen := hv.len_le
  obtain ⟨p, c, rfl, _⟩ := hv.shape
  by_cases hz : fo.len = 0
  case pos =>
    obtain rfl := fo_zero hz
    go_enter Tryz.func53, Tryz.ntmps53
    go_wp2_with (go_at_call 73; refine (kword_any k n _ _ _ _).mono ?_; rintro e w2 ⟨rfl, hb2⟩)
    go_ret
    exact ⟨rfl, ((Below.refl w.heap.size w).alloc (Nat.le_refl _) _).trans (below_less hb2 (by simp))⟩
  case neg =>
    have h0 := int_not_zero hz
    have HT := Lib.hid (txt_br (k := k) (n := n) hz)
    rw [HT.out] at htx
    simp only [List.length_append, List.length_cons, List.length_nil] at htx
    have HI := Lib.hid hI
    clear hI
    go_enter Tryz.func53, Tryz.ntmps53
    go_wp2_with fail
    have hbel := (Below.refl w.heap.size w).alloc (Nat.le_refl _) (.cells #[.int .u8 k, str n, .slice p fo.len c] 57)
    have hrow := heap_alloc_new w (.cells #[.int .u8 k, str n, .slice p fo.len c] 57)
    generalize w.alloc (.cells #[.int .u8 k, str n, .slice p fo.len c] 57) = W1 at *
    have hT : TrAt w w.heap.size k n (.slice p fo.len c) W1.drew := ⟨⟨(cells_at hrow 0).trans rfl, (cells_at hrow 1).trans rfl, (cells_at hrow 2).trans rfl⟩, hbel.drew⟩
    unfold TrAt at hT
    have b1 : ¬ 9223372036854775807 < (wordK k n).length + 1 := by omega
    have b2 : ¬ 9223372036854775807 < (wordK k n).length + 1 + fo.tx.length := by omega
    have b3 : ¬ 9223372036854775807 < (wordK k n).length + (fo.tx.length + 1) + 1 := by omega
    clear hbel hrow
    go_region_held3 (fun W => (W.cell? ⟨w.heap.size, 0, none⟩ = some (.int .u8 k) ∧ W.cell? ⟨w.heap.size, 1, none⟩ = some (str n) ∧ W.cell? ⟨w.heap.size, 2, none⟩ = some (.slice p fo.len c)) ∧ Below w.heap.size w W)
      (first | exact hT | assumption | exact TrAt.keep (by assumption) hb2)
      (first | (go_at_call 73; refine (kword_any k n _ _ _ _).mono ?_; rintro e w2 ⟨rfl, hb2⟩) | (go_at_call 74; refine (HI.out fo hl k n _ D _ (hv.below (And.right (by assumption)) (Nat.le_refl _)) (by omega)).mono ?_; rintro e w2 ⟨rfl, hb2⟩))
    all_goals go_wp2
    all_goals go_ret
    all_goals exact ⟨by rw [HT.out]; rfl, And.right (by assumption)⟩
theorem str_all : ∀ m, StrOk m := by
  intro m
  induction m using Nat.strongRecOn with
  | _ m ih => exact str_step m (inner_step m ih)
theorem kstring_any (t : Tr) (w : World) (D : Nat → Prop) (v : Value) (hv : FoV w D t.sub v) (hl : t.txt.length ≤ 1000000) :
    Calls Tryz.prog 53 #[.agg #[.int .u8 t.k, str t.n, v]] w fun e w' => e = .returned (str t.txt) ∧ Below w.heap.size w w' :=
  str_all _ t.sub (Nat.le_refl _) t.k t.n w D v hv hl
end Go.Proofs.YtakdmnhpoelepaaGreatDoor
