/-
  Contracts: the small functions with which the program reads a type ((*kind.text).take, kind.wordKind, the closure need). No condition but on lengths.
-/
import Derived.Test.YtakdmnhpoelepaaGreatDoorTNames
import Derived.Test.YtakdmnhpoelepaaGreatDoorPlain0
namespace Go.Proofs.YtakdmnhpoelepaaGreatDoor
open Go.RowKit

@[go_sem] theorem bytes_append (a b : List UInt8) : (⟨a.toArray⟩ : ByteArray) ++ ⟨b.toArray⟩ = ⟨(a ++ b).toArray⟩ := by
  apply ByteArray.ext
  simp

/-- Only block b may have changed; there may be new blocks. -/
def Kept (b : Nat) (w w' : World) : Prop := w.grownBy w' (some b)
theorem Kept.refl (b : Nat) (w : World) : Kept b w w := ⟨rfl, rfl, rfl, Nat.le_refl _, fun _ _ _ => rfl⟩
theorem Kept.trans {b : Nat} {w1 w2 w3 : World} (h : Kept b w1 w2) (k : Kept b w2 w3) : Kept b w1 w3 :=
  ⟨k.os.trans h.os, k.tape.trans h.tape, k.output.trans h.output, Nat.le_trans h.size k.size, fun i hi hne => (k.block i (Nat.lt_of_lt_of_le hi h.size) hne).trans (h.block i hi hne)⟩
theorem Kept.of_below {b B : Nat} {w w' : World} (h : Below B w w') (hB : w.heap.size ≤ B) : Kept b w w' :=
  ⟨h.os, h.tape, h.output, h.size, fun i hi _ => h.block i (by omega)⟩
theorem Kept.setCell (w : World) (b o : Nat) (u : Value) : Kept b w (w.setCell ⟨b, o, none⟩ u) :=
  ⟨rfl, rfl, rfl, by simp [World.setCell], fun i _ hne => Below.heap_setCell _ _ _ _ (fun e => hne (by rw [e]))⟩
theorem Kept.alloc (b : Nat) (w : World) (o : Obj) : Kept b w (w.alloc o) := World.grownBy_alloc w o _
theorem Kept.drew {b : Nat} {w w' : World} (h : Kept b w w') : Kept b w w'.drew := ⟨h.os, h.tape, h.output, h.size, h.block⟩
theorem Kept.cell {b : Nat} {w w' : World} (h : Kept b w w') {a : Addr} {v : Value} (hc : w.cell? a = some v) (hne : a.block ≠ b) : w'.cell? a = some v :=
  World.grownBy.cell h hc (fun e => hne (Option.some.inj e))
theorem Kept.heap {b : Nat} {w w' : World} (h : Kept b w w') {k : Nat} {o : Obj} (hc : w.heap[k]? = some o) (hne : k ≠ b) : w'.heap[k]? = some o :=
  (h.block k (Array.getElem?_eq_some_iff.1 hc).1 (fun e => hne (Option.some.inj e))).trans hc
theorem Tab.kept {b : Nat} {w w' : World} (h : Tab w) (k : Kept b w w') (hne : b ≠ 0) : Tab w' := by
  have h' := h
  unfold Tab Lib.TabIs World.var? at h' ⊢
  rw [gTab] at h' ⊢
  simp only [Option.bind_some] at h' ⊢
  rcases hk : w.heap[0]? with _ | o
  · rw [hk] at h'; simp at h'
  · rw [k.heap hk (Ne.symm hne)]
    rw [hk] at h'
    exact h'

theorem trimPrefix_app (p r : List UInt8) : Lib.hasPrefix (p ++ r) p = true ∧ Lib.trimPrefix (p ++ r) p = r := by
  have : Lib.hasPrefix (p ++ r) p = true := by unfold Lib.hasPrefix; simp
  exact ⟨this, by unfold Lib.trimPrefix; rw [if_pos this]; simp⟩
theorem cut_yes (p r : List UInt8) (w : World) : Calls Tryz.prog 122 #[str (p ++ r), str p] w fun e w' => e = .returned (.tuple #[str r, .bool true]) ∧ w' = w := by
  have h := Tryz.strings_CutPrefix ⟨(p ++ r).toArray⟩ ⟨p.toArray⟩ w
  obtain ⟨h1, h2⟩ := trimPrefix_app p r
  simp only at h
  rw [h1, h2] at h
  exact h
theorem cut_no (s p : List UInt8) (w : World) (hn : Lib.hasPrefix s p = false) : Calls Tryz.prog 122 #[str s, str p] w fun e w' => e = .returned (.tuple #[str s, .bool false]) ∧ w' = w := by
  have h := Tryz.strings_CutPrefix ⟨s.toArray⟩ ⟨p.toArray⟩ w
  have h2 : Lib.trimPrefix s p = s := by unfold Lib.trimPrefix; rw [if_neg (by rw [hn]; simp)]
  simp only at h
  rw [hn, h2] at h
  exact h

theorem take_yes (p r : List UInt8) (b : Nat) (w : World) (hc : w.cell? ⟨b, 0, none⟩ = some (str (p ++ r))) (hf : w.frozen? ⟨b, 0, none⟩ = false) :
    Calls Tryz.prog 101 #[.pointer (some ⟨b, 0, none⟩), str p] w fun e w' => e = .returned (.bool true) ∧ w' = w.setCell ⟨b, 0, none⟩ (str r) := by
  have hcp := cut_yes p r
  go_enter Tryz.func101, Tryz.ntmps101
  go_wp2_with (go_at_call 122; refine (hcp _).mono ?_; rintro e w1 ⟨rfl, rfl⟩)
  go_ret
  exact ⟨rfl, rfl⟩
theorem take_no (s p : List UInt8) (b : Nat) (w : World) (hc : w.cell? ⟨b, 0, none⟩ = some (str s)) (hn : Lib.hasPrefix s p = false) :
    Calls Tryz.prog 101 #[.pointer (some ⟨b, 0, none⟩), str p] w fun e w' => e = .returned (.bool false) ∧ w = w' := by
  have hcp := cut_no s p
  go_enter Tryz.func101, Tryz.ntmps101
  go_wp2_with (go_at_call 122; refine (hcp _ hn).mono ?_; rintro e w1 ⟨rfl, rfl⟩)
  go_ret
  exact ⟨rfl, rfl⟩

/-- The panic of a text that is no type. -/
def nonePanic : List PanicEntry := [{ v := .iface 104 (.agg #[]), recovered := false }]
theorem need_yes (w : World) : Calls Tryz.prog 99 #[.bool true] w fun e w' => e = .returned (.tuple #[]) ∧ w = w' := by
  go_enter Tryz.func99, Tryz.ntmps99
  go_wp2
  go_end0
  exact ⟨rfl, rfl⟩
theorem need_no (w : World) : Calls Tryz.prog 99 #[.bool false] w fun e w' => e = .panicked nonePanic ∧ w = w' := by
  go_enter Tryz.func99, Tryz.ntmps99
  go_wp2
  exact ⟨rfl, rfl, rfl⟩

/-- The kind that a word stands for. -/
def wk (w : List UInt8) : Nat :=
  if w = [105, 110, 116] then 1 else if w = [98, 111, 111, 108] then 2 else if w = [110, 117, 108, 108] then 3 else if w = [97, 114, 114, 97, 121, 91] then 4 else if w = [114, 101, 99, 111, 114, 100, 91] then 5 else if w = [111, 110, 101, 111, 102, 91] then 6 else 0
theorem wk_any (s : List UInt8) (w : World) : Calls Tryz.prog 103 #[str s] w fun e w' => e = .returned (.int .u8 (wk s)) ∧ w = w' := by
  by_cases h1 : s = [105, 110, 116]
  · subst h1
    go_enter Tryz.func103, Tryz.ntmps103
    go_wp2
    go_ret
    exact ⟨rfl, rfl⟩
  by_cases h2 : s = [98, 111, 111, 108]
  · subst h2
    go_enter Tryz.func103, Tryz.ntmps103
    go_wp2
    go_ret
    exact ⟨rfl, rfl⟩
  by_cases h3 : s = [110, 117, 108, 108]
  · subst h3
    go_enter Tryz.func103, Tryz.ntmps103
    go_wp2
    go_ret
    exact ⟨rfl, rfl⟩
  by_cases h4 : s = [97, 114, 114, 97, 121, 91]
  · subst h4
    go_enter Tryz.func103, Tryz.ntmps103
    go_wp2
    go_ret
    exact ⟨rfl, rfl⟩
  by_cases h5 : s = [114, 101, 99, 111, 114, 100, 91]
  · subst h5
    go_enter Tryz.func103, Tryz.ntmps103
    go_wp2
    go_ret
    exact ⟨rfl, rfl⟩
  by_cases h6 : s = [111, 110, 101, 111, 102, 91]
  · subst h6
    go_enter Tryz.func103, Tryz.ntmps103
    go_wp2
    go_ret
    exact ⟨rfl, rfl⟩
  have H : Hid (wk s = 0) := by show _ = _; unfold wk; rw [if_neg h1, if_neg h2, if_neg h3, if_neg h4, if_neg h5, if_neg h6]
  have g1 : (s == [105, 110, 116]) = false := by simpa using h1
  have g2 : (s == [98, 111, 111, 108]) = false := by simpa using h2
  have g3 : (s == [110, 117, 108, 108]) = false := by simpa using h3
  have g4 : (s == [97, 114, 114, 97, 121, 91]) = false := by simpa using h4
  have g5 : (s == [114, 101, 99, 111, 114, 100, 91]) = false := by simpa using h5
  have g6 : (s == [111, 110, 101, 111, 102, 91]) = false := by simpa using h6
  clear h1 h2 h3 h4 h5 h6
  go_enter Tryz.func103, Tryz.ntmps103
  go_wp2
  go_ret
  exact ⟨by rw [H.out]; rfl, rfl⟩
end Go.Proofs.YtakdmnhpoelepaaGreatDoor
