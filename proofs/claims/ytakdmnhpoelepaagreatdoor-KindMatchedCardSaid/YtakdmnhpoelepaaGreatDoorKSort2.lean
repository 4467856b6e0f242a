/-
  Contracts: slices.stableCmpFunc, slices.SortStableFunc and kind.sorted at a few parts. Condition: at most twelve parts, in a row of the call's own.
-/
import Derived.Test.YtakdmnhpoelepaaGreatDoorKSort
namespace Go.Proofs.YtakdmnhpoelepaaGreatDoor
open Go.RowKit Go.Sort Go.Shelf

def SortPost (W : World) (base g cap : Nat) (ps : List PV) (w' : World) : Prop :=
  ∃ qs : List PV, qs.Perm ps ∧ Asc qs ∧ w'.ownsRow base 63 4 (.slice (some ⟨g, 0, none⟩) ps.length cap) ps.length (qs.flatMap encP) ∧ W.grownBy w' (some g)

set_option maxRecDepth 4000 in
set_option maxHeartbeats 3200000 in
theorem stable_any (ps : List PV) (g cap Kb base : Nat) (W : World) (hrow : W.ownsRow base 63 4 (.slice (some ⟨g, 0, none⟩) ps.length cap) ps.length (ps.flatMap encP)) (hk : W.cell? ⟨Kb, 0, none⟩ = some (.func (.func 95) #[] #[])) (hne : Kb ≠ g) (hl : ps.length ≤ 12) :
    Calls Tryz.prog 135 #[.slice (some ⟨g, 0, none⟩) ps.length cap, .int .i64 ps.length, .func (.func 116) #[] #[.pointer (some ⟨Kb, 0, none⟩)]] W fun e w' => e = .returned (.tuple #[]) ∧ SortPost W base g cap ps w' := by
  have HI := ins_any ps g cap Kb base W hrow hk hne (by omega)
  clear hrow hk
  go_enter Tryz.func135, Tryz.ntmps135
  go_wp2_with fail
  go_loopw [7, 8] (fun a b wr => a = .int .i64 0 ∧ b = .int .i64 20 ∧ wr = W) (fun _ _ _ => 0)
  case atStart => exact ⟨rfl, rfl, rfl⟩
  case round =>
    obtain ⟨rfl, rfl, rfl⟩ := hrel
    go_wp2_with (go_at_call 146; refine HI.mono ?_; clear HI; rintro e w1 ⟨rfl, hp⟩)
    have HP := Lib.hid hp
    clear hp
    go_loopw [6] (fun a wr => a = .int .i64 20 ∧ wr = w1) (fun _ _ => 0)
    case atStart => exact ⟨rfl, rfl⟩
    case round =>
      obtain ⟨rfl, rfl⟩ := hrel
      go_wp2_with fail
      go_end0
      exact ⟨rfl, HP.out⟩

set_option maxRecDepth 4000 in
set_option maxHeartbeats 3200000 in
theorem sortstable_any (ps : List PV) (g cap Kb base : Nat) (W : World) (hrow : W.ownsRow base 63 4 (.slice (some ⟨g, 0, none⟩) ps.length cap) ps.length (ps.flatMap encP)) (hk : W.cell? ⟨Kb, 0, none⟩ = some (.func (.func 95) #[] #[])) (hne : Kb ≠ g) (hl : ps.length ≤ 12) :
    Calls Tryz.prog 115 #[.slice (some ⟨g, 0, none⟩) ps.length cap, .func (.func 116) #[] #[.pointer (some ⟨Kb, 0, none⟩)]] W fun e w' => e = .returned (.tuple #[]) ∧ SortPost W base g cap ps w' := by
  have HI := stable_any ps g cap Kb base W hrow hk hne hl
  clear hrow hk
  go_enter Tryz.func115, Tryz.ntmps115
  go_wp2_with (go_at_call 135; refine HI.mono ?_; clear HI; rintro e w1 ⟨rfl, hp⟩)
  go_end0
  exact ⟨rfl, hp⟩

set_option maxRecDepth 4000 in
set_option maxHeartbeats 3200000 in
theorem ksorted_any (ps : List PV) (g cap base : Nat) (W : World) (hrow : W.ownsRow base 63 4 (.slice (some ⟨g, 0, none⟩) ps.length cap) ps.length (ps.flatMap encP)) (hl : ps.length ≤ 12) :
    Calls Tryz.prog 94 #[.slice (some ⟨g, 0, none⟩) ps.length cap, .func (.func 95) #[] #[]] W fun e w' => e = .returned (.slice (some ⟨g, 0, none⟩) ps.length cap) ∧ SortPost W base g cap ps w' := by
  have hgl := ownsRow_lt hrow (b := g) rfl
  have HI := sortstable_any ps g cap W.heap.size base (W.alloc (.cells #[.func (.func 95) #[] #[]] 99)) (hrow.alloc _) ((cells_at (heap_alloc_new W _) 0).trans rfl) (by omega) hl
  clear hrow
  go_enter Tryz.func94, Tryz.ntmps94
  go_wp2_with (go_at_call 115; refine HI.mono ?_; clear HI; rintro e w1 ⟨rfl, hp⟩)
  obtain ⟨qs, h1, h2, h3, h4⟩ := hp
  go_ret
  exact ⟨rfl, qs, h1, h2, h3, (World.grownBy_alloc W _ (some g)).trans h4⟩
end Go.Proofs.YtakdmnhpoelepaaGreatDoor
