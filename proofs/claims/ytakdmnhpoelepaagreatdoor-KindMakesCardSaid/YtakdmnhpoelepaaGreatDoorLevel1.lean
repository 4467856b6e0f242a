/-
  Contract: the program's tree.level.
-/
import Derived.Test.YtakdmnhpoelepaaGreatDoorLevel0
import Derived.Test.YtakdmnhpoelepaaGreatDoorKRead4
namespace Go.Proofs.YtakdmnhpoelepaaGreatDoor
open Go.RowKit

theorem FoV.at {w : World} {D : Nat → Prop} {fo : Fo} {v : Value} (h : FoV w D fo v) {i : Nat} (hi : i < fo.len) : ∃ g c pn t u, v = .slice (some ⟨g, 0, none⟩) fo.len c ∧ D g ∧ g < w.heap.size ∧ fo.at i = some (pn, t) ∧
    w.cell? ⟨g, i * 4, none⟩ = some (str pn) ∧ w.cell? ⟨g, i * 4 + 1, none⟩ = some (.int .u8 t.k) ∧ w.cell? ⟨g, i * 4 + 2, none⟩ = some (str t.n) ∧ w.cell? ⟨g, i * 4 + 3, none⟩ = some u ∧ FoV w D t.sub u := by
  obtain ⟨sc, h1, h2, h3⟩ := h
  obtain ⟨pn, t, u, a, b0, b1, b2, b3, c⟩ := h3.at fo sc i hi
  rcases h1.2 with ⟨rfl, hz⟩ | ⟨g, cap, cur, rfl, _, _, h4, _⟩
  · omega
  · have hc : ∀ j x, sc[j]? = some x → w.cell? ⟨g, j, none⟩ = some x := by
      intro j x hx
      have := h1.cells (g := g) rfl _ _ hx
      simp only [Addr.add] at this
      split at this
      · rename_i e; rw [e]; exact this
      · simpa using this
    exact ⟨g, cap, pn, t, u, rfl, h2 g rfl, ownsRow_lt h1 rfl, a, hc _ _ b0, hc _ _ b1, hc _ _ b2, hc _ _ b3, c⟩
theorem FoV.len_le {w : World} {D : Nat → Prop} {fo : Fo} {v : Value} (h : FoV w D fo v) : fo.len ≤ maxLen := by
  obtain ⟨sc, h1, h2, h3⟩ := h
  rcases h1.2 with ⟨rfl, hz⟩ | ⟨g, cap, cur, rfl, _, _, h4, h5, _⟩
  · omega
  · omega

set_option maxRecDepth 4000 in
set_option maxHeartbeats 3200000 in
theorem level_any : ∀ (m : Nat) (fo : Fo), fo.level ≤ m → m ≤ 1000 → ∀ (w : World) (D : Nat → Prop) (v : Value) (k : Nat) (n : List UInt8), FoV w D fo v → Calls Tryz.prog 64 #[.agg #[.int .u8 k, str n, v]] w fun e w' => e = .returned (.int .i64 ((fo.level + 1 : Nat) : Int)) ∧ Below w.heap.size w w' := by
  intro m
  induction m with
  | zero =>
    intro fo hl hm w D v k n hv
    have hz : fo = .nil := by
      cases fo with
      | nil => rfl
      | cons pn k n sub rest => simp only [Fo.level] at hl; omega
    subst hz
    obtain ⟨p, c, rfl, _⟩ := hv.shape
    go_enter Tryz.func64, Tryz.ntmps64
    go_wp2_with fail
    have hbel := (Below.refl w.heap.size w).alloc (Nat.le_refl _) (.cells #[.int .u8 k, str n, .slice p Fo.nil.len c] 57)
    generalize w.alloc (.cells #[.int .u8 k, str n, .slice p Fo.nil.len c] 57) = W1 at *
    go_loopw [3, 9] (fun a b wr => a = .int .i64 0 ∧ b = .int .i64 0 ∧ wr = W1) (fun _ _ _ => 0)
    case atStart => exact ⟨rfl, rfl, rfl⟩
    case round =>
      obtain ⟨rfl, rfl, rfl⟩ := hrel
      go_wp2_with fail
      exact bodyPost_ret (v := .int .i64 1) (by simp [results, Tryz.results64]) rfl ⟨rfl, hbel⟩
  | succ m ih =>
    intro fo hl hm w D v k n hv
    have hlen := hv.len_le
    obtain ⟨p, c, rfl, _⟩ := hv.shape
    have IH := Lib.hid ih
    clear ih
    go_enter Tryz.func64, Tryz.ntmps64
    go_wp2_with fail
    have hbel := (Below.refl w.heap.size w).alloc (Nat.le_refl _) (.cells #[.int .u8 k, str n, .slice p fo.len c] 57)
    generalize w.alloc (.cells #[.int .u8 k, str n, .slice p fo.len c] 57) = W1 at *
    go_loopw [3, 9] (fun a b wr => ∃ i : Nat, i ≤ fo.len ∧ a = .int .i64 (fo.levTo i) ∧ b = .int .i64 i ∧ Below w.heap.size w wr) (fun _ b _ => fo.len - (intOf b).toNat)
    case atStart => exact ⟨0, Nat.zero_le _, by cases fo <;> rfl, rfl, hbel⟩
    case round =>
      obtain ⟨i, hi, rfl, rfl, hb⟩ := hrel
      by_cases hlt : i < fo.len
      case pos =>
        obtain ⟨g, c', pn, t, u, e, _, hg, hat, x0, x1, x2, x3, hu⟩ := hv.at hlt
        injection e with e1 _ e2
        subst e1 e2
        obtain ⟨p', c', rfl, _⟩ := hu.shape
        have y0 := (hb.cell (by exact hg)).trans x0
        have y1 := (hb.cell (by exact hg)).trans x1
        have y2 := (hb.cell (by exact hg)).trans x2
        have y3 := (hb.cell (by exact hg)).trans x3
        clear x0 x1 x2 x3
        have hlv := fo.at_level i pn t hat
        have HS := Lib.hid (fo.levTo_succ i pn t hat)
        have hle := fo.levTo_le i
        have hbA := hb.alloc hb.size (.cells #[.string ⟨pn.toArray⟩, .int .u8 t.k, .string ⟨t.n.toArray⟩, .slice p' t.sub.len c'] 63)
        go_wp2_with fail
        refine (IH.out t.sub (by omega) (by omega) _ D _ t.k t.n (hu.below hbA (Nat.le_refl _))).mono ?_
        rintro e w2 ⟨rfl, hb2⟩
        have hb3 := hbA.trans (⟨hb2.os, hb2.tape, hb2.output, hb2.size, fun k hk => hb2.block k (by have := hbA.size; omega)⟩ : Below w.heap.size _ _)
        clear y0 y1 y2 y3 hb2 hbA
        go_wp2_with fail
        have hwi : wrap64 ((i : Int) + 1) = ((i + 1 : Nat) : Int) := by unfold wrap64; unfold maxLen at hlen; omega
        rw [hwi]
        refine ⟨⟨i + 1, hlt, ?_, rfl, hb3⟩, ?_⟩
        · rw [HS.out]; congr 1; omega
        · simp only [intOf, Int.toNat_natCast]; omega
      case neg =>
        have hie : i = fo.len := by omega
        have HL := Lib.hid (show fo.levTo i = fo.level by rw [hie]; exact fo.levTo_all)
        clear hie
        go_wp2_with fail
        refine bodyPost_ret (v := .int .i64 (wrap64 ((fo.levTo i : Int) + 1))) (by simp [results, Tryz.results64]) rfl ⟨?_, hb⟩
        rw [HL.out]
        have : wrap64 ((fo.level : Int) + 1) = ((fo.level + 1 : Nat) : Int) := by unfold wrap64; omega
        rw [this]
end Go.Proofs.YtakdmnhpoelepaaGreatDoor
