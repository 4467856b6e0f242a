/-
  The deferred closure of kind.read (kind.read$1): a text that is no type leaves the zero type and false.
-/
import Derived.Test.YtakdmnhpoelepaaGreatDoorKRead1
import Derived.Defers
import Derived.Recover
import Derived.Tactics
import Derived.Tactics2
namespace Go.Proofs.YtakdmnhpoelepaaGreatDoor
open Go.RowKit

set_option maxRecDepth 4000 in
theorem catch_none (pb qb : Nat) (x0 x1 x2 y : Value) (tq : TypeId) (older : List PanicEntry) (w : World) (hP : w.heap[pb]? = some (.cells #[x0, x1, x2] 57 (0, 0))) (hQ : w.heap[qb]? = some (.cells #[y] tq (0, 0))) (hne : pb ≠ qb) :
    CallsD Tryz.prog 98 #[.pointer (some ⟨pb, 0, none⟩), .pointer (some ⟨qb, 0, none⟩)] (.panicking ({ v := .iface 104 (.agg #[]), recovered := false } :: older)) w fun e u' w' =>
      e = .returned (.tuple #[]) ∧ u' = .panicking ({ v := .iface 104 (.agg #[]), recovered := true } :: older) ∧ w' = ((((w.setCell ⟨pb, 0, none⟩ (.int .u8 0)).setCell ⟨pb, 1, none⟩ (str [])).setCell ⟨pb, 2, none⟩ (.slice none 0 0)).setCell ⟨qb, 0, none⟩ (.bool false)).alloc (.cells #[] 104) := by
  have hlP := (Array.getElem?_eq_some_iff.1 hP).1
  have hlQ := (Array.getElem?_eq_some_iff.1 hQ).1
  have c0 := (cells_at hP 0).trans rfl
  have c1 := (cells_at hP 1).trans rfl
  have c2 := (cells_at hP 2).trans rfl
  have d0 := (cells_at hQ 0).trans rfl
  have f0 := free_at hP 0
  have f1 := free_at hP 1
  have f2 := free_at hP 2
  have g0 := free_at hQ 0
  clear hP hQ
  have hta : ∀ w : World, Sem.run Tryz.prog (Instr.typeAssert (.iface 104 (.agg #[])) 20 104 true) w = .ok (.tuple #[.agg #[], .bool true]) w := fun _ => rfl
  refine callsD_of_wpS Tryz.func98 rfl fun c₀ cs hu => ?_
  apply wpS_seq
  apply wpS_region
  simp [wpOpsS, go_sem, recoverD, hu, Tryz.ntmps98, Exit.thenS]
  refine wpS_of_wp ?_
  simp only [List.replicate, Array.replicate, List.append_toArray, List.cons_append, List.nil_append, List.setIfInBounds_toArray, List.set_cons_zero, List.set_cons_succ]
  go_wp2
  exact ⟨rfl, _, rfl, _, by simp [results, Tryz.results98], rfl, rfl, rfl⟩
theorem catch_idle (pb qb : Nat) (w : World) :
    CallsD Tryz.prog 98 #[.pointer (some ⟨pb, 0, none⟩), .pointer (some ⟨qb, 0, none⟩)] .returning w fun e u' w' => e = .returned (.tuple #[]) ∧ u' = .returning ∧ w' = w := by
  refine callsD_of_wpS Tryz.func98 rfl fun c₀ cs hu => ?_
  apply wpS_seq
  apply wpS_region
  simp [wpOpsS, go_sem, recoverD, hu, Tryz.ntmps98, Exit.thenS]
  refine wpS_of_wp ?_
  simp only [List.replicate, Array.replicate, List.append_toArray, List.cons_append, List.nil_append, List.setIfInBounds_toArray, List.set_cons_zero, List.set_cons_succ]
  go_wp2
  exact ⟨rfl, _, by cases c₀; simp_all, _, by simp [results, Tryz.results98], rfl, rfl, rfl⟩
end Go.Proofs.YtakdmnhpoelepaaGreatDoor
