/-
  Contracts: slices.Contains (bytes), kind.of, Arg, Base, Array, Named. Condition: the texts' length; the variable strings.asciiSpace.
-/
import Derived.Test.YtakdmnhpoelepaaGreatDoorKTop
namespace Go.Proofs.YtakdmnhpoelepaaGreatDoor
open Go.RowKit

/-- The cells of bytes. -/
def bytC (l : List Nat) : List Value := l.map fun (k : Nat) => Value.int .u8 (k : Int)
theorem bytC_get (l : List Nat) (j : Nat) (h : j < l.length) : (bytC l)[j]? = some (.int .u8 l[j]) := by simp [bytC, h]
/-- The first place of a number from k on; -1: none. -/
def ixN (x : Nat) : List Nat → Nat → Int
  | [], _ => -1
  | y :: r, k => if x = y then k else ixN x r (k + 1)
theorem ixN_pos (x : Nat) : ∀ (l : List Nat) (k : Nat), (0 ≤ ixN x l k) ↔ x ∈ l
  | [], k => by simp [ixN]
  | y :: r, k => by
    rw [ixN]
    split
    · rename_i h; subst h; simp
    · rename_i h; rw [ixN_pos x r (k + 1)]; simp [h]
theorem ixN_lo (x : Nat) : ∀ (l : List Nat) (k : Nat), -1 ≤ ixN x l k
  | [], k => by simp [ixN]
  | y :: r, k => by
    rw [ixN]
    split
    · omega
    · exact ixN_lo x r (k + 1)
set_option maxRecDepth 4000 in
set_option maxHeartbeats 3200000 in
theorem index_u8 (l : List Nat) (x : Nat) (b c : Nat) (w : World) (hl : l.length ≤ 100) (hc : ∀ j (h : j < l.length), w.cell? ⟨b, j, none⟩ = some (.int .u8 l[j])) :
    Calls Tryz.prog 118 #[.slice (some ⟨b, 0, none⟩) l.length c, .int .u8 x] w fun e w' => e = .returned (.int .i64 (ixN x l 0)) ∧ Below w.heap.size w w' := by
  have HC := Lib.hid hc
  clear hc
  go_enter Tryz.func118, Tryz.ntmps118
  go_wp2_with fail
  go_loop [8] (fun a => ∃ i : Nat, i ≤ l.length ∧ a = .int .i64 i ∧ Hid (ixN x l 0 = ixN x (l.drop i) i)) (fun a => l.length - (intOf a).toNat)
  case atStart => exact ⟨0, Nat.zero_le _, rfl, rfl⟩
  case round =>
    obtain ⟨i, hi, rfl, HI⟩ := hrel
    by_cases hlt : i < l.length
    case pos =>
      have c0 := HC.out i hlt
      have hd : l.drop i = l[i] :: l.drop (i + 1) := List.drop_eq_getElem_cons hlt
      by_cases he : x = l[i]
      · have HS := Lib.hid (show ixN x l 0 = i by rw [HI.out, hd, ixN, if_pos he])
        have g : ((x : Int) == (l[i] : Int)) = true := by rw [he]; simp
        clear hd he
        go_wp2_with fail
        go_ret
        exact ⟨by rw [HS.out]; rfl, Below.refl _ _⟩
      · have HS := Lib.hid (show ixN x l 0 = ixN x (l.drop (i + 1)) (i + 1) by rw [HI.out, hd, ixN, if_neg he])
        have g : ((x : Int) == (l[i] : Int)) = false := by rw [beq_eq_false_iff_ne]; omega
        clear hd he
        go_wp2_with fail
        go_round
        case rel => exact ⟨i + 1, hlt, by go_num, HS.out⟩
        case measure => simp [intOf]; omega
    case neg =>
      have HS := Lib.hid (show ixN x l 0 = -1 by rw [HI.out, List.drop_of_length_le (by omega)]; rfl)
      go_wp2_with fail
      go_ret
      exact ⟨by rw [HS.out]; rfl, Below.refl _ _⟩
theorem contains_u8 (l : List Nat) (x : Nat) (b c : Nat) (w : World) (hl : l.length ≤ 100) (hc : ∀ j (h : j < l.length), w.cell? ⟨b, j, none⟩ = some (.int .u8 l[j])) (q : Bool) (hq : l.contains x = q) :
    Calls Tryz.prog 96 #[.slice (some ⟨b, 0, none⟩) l.length c, .int .u8 x] w fun e w' => e = .returned (.bool q) ∧ Below w.heap.size w w' := by
  have hI := index_u8 l x b c w hl hc
  have hp := ixN_pos x l 0
  have hlo := ixN_lo x l 0
  generalize ixN x l 0 = I at hI hp hlo
  cases q with
  | true =>
    have h0 : decide (0 ≤ I) = true := by simpa using hp.2 (by simpa using hq)
    clear hp hq hc
    go_enter Tryz.func96, Tryz.ntmps96
    go_wp2_with (go_at_call 118; refine hI.mono ?_; rintro e w1 ⟨rfl, hb1⟩)
    go_ret
    exact ⟨rfl, hb1⟩
  | false =>
    have h0 : decide (0 ≤ I) = false := by
      rw [decide_eq_false_iff_not]
      intro h
      have := hp.1 h
      simp at hq
      exact hq this
    clear hp hq hc
    go_enter Tryz.func96, Tryz.ntmps96
    go_wp2_with (go_at_call 118; refine hI.mono ?_; rintro e w1 ⟨rfl, hb1⟩)
    go_ret
    exact ⟨rfl, hb1⟩

/-- What of answers: the answer's number and the type. -/
def ofK (s : List UInt8) (l : List Nat) : Nat × Tr := if (checkK s).1 = 0 then (if l.contains (checkK s).2.k then checkK s else (30, ⟨0, [], .nil⟩)) else checkK s
def OfPost (w : World) (s : List UInt8) (l : List Nat) (e : Ending) (w' : World) : Prop :=
  ∃ v, e = .returned (.tuple #[.agg #[.int .u8 (ofK s l).2.k, str (ofK s l).2.n, v], .int .i64 (ofK s l).1]) ∧ FoV w' (fun b => w.heap.size ≤ b) (ofK s l).2.sub v ∧ Below w.heap.size w w'
set_option maxRecDepth 4000 in
set_option maxHeartbeats 3200000 in
theorem of_any (s : List UInt8) (l : List Nat) (b c : Nat) (hm : s.length ≤ maxLen) (w : World) (ht : Tab w) (hl : l.length ≤ 100) (hc : ∀ j (h : j < l.length), w.cell? ⟨b, j, none⟩ = some (.int .u8 l[j])) :
    Calls Tryz.prog 69 #[str s, .slice (some ⟨b, 0, none⟩) l.length c] w (OfPost w s l) := by
  have hb0 := (Below.refl _ w).alloc (Nat.le_refl _) (.cells #[.int .u8 0, .string ⟨#[]⟩, .slice none 0 0] 57)
  have HC := kchecked_any s hm _ (ht.below hb0 (Nat.le_refl _))
  unfold CheckedPost at HC
  have hL : ∀ W, Below w.heap.size w W → ∀ x q, l.contains x = q → Calls Tryz.prog 96 #[.slice (some ⟨b, 0, none⟩) l.length c, .int .u8 x] W fun e w' => e = .returned (.bool q) ∧ Below W.heap.size W w' :=
    fun W hW x q hq => contains_u8 l x b c W hl (fun j h => Below.keep hW (hc j h)) q hq
  have HL := Lib.hid hL
  clear hc hL hl
  rcases hq : checkK s with ⟨C, t⟩
  rw [hq] at HC
  simp only at HC
  by_cases h0 : C = 0
  · subst h0
    rcases hk : l.contains t.k with _ | _
    · have HE := Lib.hid (show ofK s l = (30, ⟨0, [], .nil⟩) by unfold ofK; rw [hq]; simp only [if_true]; rw [hk]; rfl)
      have HK := Lib.hid hk
      clear hq hk
      go_enter Tryz.func69, Tryz.ntmps69
      go_wp2_with (first
        | (go_at_call 57; refine HC.mono ?_; clear HC; rintro e w1 ⟨v, rfl, hv, hb1⟩; obtain ⟨p, cc, rfl, _⟩ := hv.shape; have r1 := fun o => heap_old o ((hb1.block w.heap.size (by simp)).trans (heap_alloc_new w (.cells #[.int .u8 0, .string ⟨#[]⟩, .slice none 0 0] 57))))
        | (go_at_call 96; refine (HL.out _ ((hb0.trans (below_less hb1 (by simp))).alloc (by have := hb1.size; simp at this; omega) _) _ _ HK.out).mono ?_; rintro e w2 ⟨rfl, hb2⟩; have r2 := (hb2.block w.heap.size (by have := hb1.size; simp at this ⊢; omega)).trans (r1 _); have c0 := (cells_at r2 0).trans rfl; have c1 := (cells_at r2 1).trans rfl; have c2 := (cells_at r2 2).trans rfl; have f0 := free_at r2 0; have f1 := free_at r2 1; have f2 := free_at r2 2; clear r1 r2))
      have hs1 := hb1.size
      simp only [World.size_alloc] at hs1
      have hb3 := ((hb0.trans (below_less hb1 (by simp))).alloc (by omega) (.cells #[.int .u8 t.k, .string ⟨t.n.toArray⟩, .slice p t.sub.len cc] 57)).trans (below_less hb2 (by simp; omega))
      refine bodyPost_ret (v := .tuple #[.agg #[.int .u8 0, str [], .slice none 0 0], .int .i64 30]) (by simp [results, Tryz.results69, go_sem, c0, c1, c2]) rfl ?_
      unfold OfPost
      rw [HE.out]
      exact ⟨_, rfl, FoV.nil _ _, ((hb3.setCell (p := ⟨w.heap.size, 0, none⟩) (Nat.le_refl _) _).setCell (p := ⟨w.heap.size, 1, none⟩) (Nat.le_refl _) _).setCell (p := ⟨w.heap.size, 2, none⟩) (Nat.le_refl _) _⟩
    · have HE := Lib.hid (show ofK s l = (0, t) by unfold ofK; rw [hq]; simp only [if_true]; rw [hk]; rfl)
      have HK := Lib.hid hk
      clear hq hk
      go_enter Tryz.func69, Tryz.ntmps69
      go_wp2_with (first
        | (go_at_call 57; refine HC.mono ?_; clear HC; rintro e w1 ⟨v, rfl, hv, hb1⟩; obtain ⟨p, cc, rfl, _⟩ := hv.shape; have r1 := fun o => heap_old o ((hb1.block w.heap.size (by simp)).trans (heap_alloc_new w (.cells #[.int .u8 0, .string ⟨#[]⟩, .slice none 0 0] 57))))
        | (go_at_call 96; refine (HL.out _ ((hb0.trans (below_less hb1 (by simp))).alloc (by have := hb1.size; simp at this; omega) _) _ _ HK.out).mono ?_; rintro e w2 ⟨rfl, hb2⟩; have r2 := (hb2.block w.heap.size (by have := hb1.size; simp at this ⊢; omega)).trans (r1 _); have c0 := (cells_at r2 0).trans rfl; have c1 := (cells_at r2 1).trans rfl; have c2 := (cells_at r2 2).trans rfl; have f0 := free_at r2 0; have f1 := free_at r2 1; have f2 := free_at r2 2; have r4 := (hb2.block w1.heap.size (by simp)).trans (heap_alloc_new w1 _); have d0 := (cells_at r4 0).trans rfl; have d1 := (cells_at r4 1).trans rfl; have d2 := (cells_at r4 2).trans rfl; clear r1 r2 r4))
      have hs1 := hb1.size
      simp only [World.size_alloc] at hs1
      have hb3 := ((hb0.trans (below_less hb1 (by simp))).alloc (by omega) (.cells #[.int .u8 t.k, .string ⟨t.n.toArray⟩, .slice p t.sub.len cc] 57)).trans (below_less hb2 (by simp; omega))
      refine bodyPost_ret (v := .tuple #[.agg #[.int .u8 t.k, str t.n, .slice p t.sub.len cc], .int .i64 0]) (by simp [results, Tryz.results69, go_sem, c0, c1, c2]) rfl ?_
      unfold OfPost
      rw [HE.out]
      refine ⟨_, rfl, ?_, ((hb3.setCell (p := ⟨w.heap.size, 0, none⟩) (Nat.le_refl _) _).setCell (p := ⟨w.heap.size, 1, none⟩) (Nat.le_refl _) _).setCell (p := ⟨w.heap.size, 2, none⟩) (Nat.le_refl _) _⟩
      have hv3 := (hv.below (B := w1.heap.size) ((Below.refl _ w1).alloc (Nat.le_refl _) (.cells #[.int .u8 t.k, .string ⟨t.n.toArray⟩, .slice p t.sub.len cc] 57)) (Nat.le_refl _)).below hb2 (Nat.le_refl _)
      have hv4 := hv3.mono (D' := fun b => w.heap.size < b) fun b hb _ => by simp only [World.size_alloc] at hb; show w.heap.size < b; omega
      exact (hv4.set3 (fun b hb => Nat.ne_of_gt hb) _ _ _).mono fun b hb _ => Nat.le_of_lt hb
  · have HE := Lib.hid (show ofK s l = (C, ⟨0, [], .nil⟩) by
      unfold ofK; rw [hq]; simp only; rw [if_neg h0, (checkK_bad hq h0).2])
    obtain rfl := (checkK_bad hq h0).2
    obtain ⟨g1, g2⟩ := nat_ne0 h0
    clear hq h0
    go_enter Tryz.func69, Tryz.ntmps69
    go_wp2_with (go_at_call 57; refine HC.mono ?_; clear HC; rintro e w1 ⟨v, rfl, hv, hb1⟩; obtain ⟨p, cc, rfl, _⟩ := hv.shape; have r1 := fun o => heap_old o ((hb1.block w.heap.size (by simp)).trans (heap_alloc_new w (.cells #[.int .u8 0, .string ⟨#[]⟩, .slice none 0 0] 57))); have c0 := fun o => (cells_at (r1 o) 0).trans rfl; have c1 := fun o => (cells_at (r1 o) 1).trans rfl; have c2 := fun o => (cells_at (r1 o) 2).trans rfl; have f0 := fun o => free_at (r1 o) 0; have f1 := fun o => free_at (r1 o) 1; have f2 := fun o => free_at (r1 o) 2; clear r1)
    have hs1 := hb1.size
    simp only [World.size_alloc] at hs1
    have hb3 := (hb0.trans (below_less hb1 (by simp))).alloc (by omega) (.cells #[.int .u8 0, .string ⟨#[]⟩, .slice p 0 cc] 57)
    refine bodyPost_ret (v := .tuple #[.agg #[.int .u8 0, str [], .slice p 0 cc], .int .i64 C]) (by simp [results, Tryz.results69, go_sem, c0, c1, c2]; rfl) rfl ?_
    unfold OfPost
    rw [HE.out]
    refine ⟨_, rfl, ?_, ((hb3.setCell (p := ⟨w.heap.size, 0, none⟩) (Nat.le_refl _) _).setCell (p := ⟨w.heap.size, 1, none⟩) (Nat.le_refl _) _).setCell (p := ⟨w.heap.size, 2, none⟩) (Nat.le_refl _) _⟩
    have hv3 := hv.below (B := w1.heap.size) ((Below.refl _ w1).alloc (Nat.le_refl _) (.cells #[.int .u8 0, .string ⟨#[]⟩, .slice p 0 cc] 57)) (Nat.le_refl _)
    have hv4 := hv3.mono (D' := fun b => w.heap.size < b) fun b hb _ => by simp only [World.size_alloc] at hb; show w.heap.size < b; omega
    exact (hv4.set3 (fun b hb => Nat.ne_of_gt hb) _ _ _).mono fun b hb _ => Nat.le_of_lt hb
end Go.Proofs.YtakdmnhpoelepaaGreatDoor
