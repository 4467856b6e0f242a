/-
  Contract: the program's tree.word.
-/
import Derived.Test.YtakdmnhpoelepaaGreatDoorLevel1
import Derived.Test.YtakdmnhpoelepaaGreatDoorPlain1
namespace Go.Proofs.YtakdmnhpoelepaaGreatDoor
open Go.RowKit

set_option maxRecDepth 4000 in
set_option maxHeartbeats 3200000 in
theorem kword_any (k : Nat) (n : List UInt8) (p : Option Addr) (l c : Nat) (w : World) : Calls Tryz.prog 73 #[.agg #[.int .u8 k, str n, .slice p l c]] w fun e w' => e = .returned (str (wordK k n)) ∧ Below w.heap.size w w' := by
  have hbel := (Below.refl w.heap.size w).alloc (Nat.le_refl _) (.cells #[.int .u8 k, str n, .slice p l c] 57)
  have e1 : ((k : Int) == 1) = decide (k = 1) := by rw [Bool.eq_iff_iff]; simp; omega
  have e2 : ((k : Int) == 2) = decide (k = 2) := by rw [Bool.eq_iff_iff]; simp; omega
  have e3 : ((k : Int) == 3) = decide (k = 3) := by rw [Bool.eq_iff_iff]; simp; omega
  have e4 : ((k : Int) == 4) = decide (k = 4) := by rw [Bool.eq_iff_iff]; simp; omega
  have e5 : ((k : Int) == 5) = decide (k = 5) := by rw [Bool.eq_iff_iff]; simp; omega
  have e6 : ((k : Int) == 6) = decide (k = 6) := by rw [Bool.eq_iff_iff]; simp; omega
  have e8 : ((k : Int) == 8) = decide (k = 8) := by rw [Bool.eq_iff_iff]; simp; omega
  go_enter Tryz.func73, Tryz.ntmps73
  go_wp2_with fail
  all_goals refine bodyPost_ret (v := str (wordK k n)) ?_ rfl ⟨rfl, hbel⟩
  all_goals simp [results, Tryz.results73, wordK, wInt, wBool, wNull, wArray, wRecord, wOneof, *]
end Go.Proofs.YtakdmnhpoelepaaGreatDoor
