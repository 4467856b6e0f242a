/-
  The closure with which the program reads a type (kind.read$3): what it needs, what it leaves. Its ways.
-/
import Derived.Test.YtakdmnhpoelepaaGreatDoorKRead0
import Derived.Test.YtakdmnhpoelepaaGreatDoorForest
import Derived.Test.YtakdmnhpoelepaaGreatDoorAppend
namespace Go.Proofs.YtakdmnhpoelepaaGreatDoor
open Go.RowKit

/-- The variables that the closure has: the reader, need, itself. -/
structure Env (w : World) (R Nd X rb : Nat) : Prop where
  r : w.cell? ⟨R, 0, none⟩ = some (.pointer (some ⟨rb, 0, none⟩))
  need : w.cell? ⟨Nd, 0, none⟩ = some (.func (.func 99) #[] #[])
  next : w.cell? ⟨X, 0, none⟩ = some (.func (.func 100) #[] #[.pointer (some ⟨R, 0, none⟩), .pointer (some ⟨Nd, 0, none⟩), .pointer (some ⟨X, 0, none⟩)])
  nr : R ≠ rb
  nn : Nd ≠ rb
  nx : X ≠ rb
  nt : rb ≠ 0
/-- What is left of the text. -/
structure Rest (w : World) (rb : Nat) (s : List UInt8) : Prop where
  cell : w.cell? ⟨rb, 0, none⟩ = some (str s)
  free : w.frozen? ⟨rb, 0, none⟩ = false

theorem Env.kept {w w' : World} {R Nd X rb : Nat} (h : Env w R Nd X rb) (k : Kept rb w w') : Env w' R Nd X rb :=
  ⟨k.cell h.r h.nr, k.cell h.need h.nn, k.cell h.next h.nx, h.nr, h.nn, h.nx, h.nt⟩
theorem Rest.below {B : Nat} {w w' : World} {rb : Nat} {s : List UInt8} (h : Rest w rb s) (hb : Below B w w') (hB : w.heap.size ≤ B) : Rest w' rb s := by
  have := World.block_lt_of_cell? _ _ h.cell
  simp at this
  exact ⟨(hb.cell (by simp; omega)).trans h.cell, (hb.frozen (by simp; omega)).trans h.free⟩

/-- What the closure does: it reads a type, or gives up. -/
def NextPost (w : World) (rb : Nat) (s : List UInt8) (e : Ending) (w' : World) : Prop :=
  match parseT s with
  | some (t, r) => (∃ v, e = .returned (.agg #[.int .u8 t.k, str t.n, v]) ∧ FoV w' (fun b => w.heap.size ≤ b) t.sub v) ∧ Rest w' rb r ∧ Kept rb w w'
  | none => e = .panicked nonePanic ∧ Kept rb w w'
def NextOk (s : List UInt8) : Prop := ∀ (R Nd X rb : Nat) (w : World), Tab w → Env w R Nd X rb → Rest w rb s →
  Calls Tryz.prog 100 #[.pointer (some ⟨R, 0, none⟩), .pointer (some ⟨Nd, 0, none⟩), .pointer (some ⟨X, 0, none⟩)] w (NextPost w rb s)

theorem take_yes' (p r : List UInt8) (rb : Nat) (w : World) (h : Rest w rb (p ++ r)) :
    Calls Tryz.prog 101 #[.pointer (some ⟨rb, 0, none⟩), str p] w fun e w' => e = .returned (.bool true) ∧ Rest w' rb r ∧ Kept rb w w' := by
  refine (take_yes p r rb w h.cell h.free).mono ?_
  rintro e w' ⟨he, rfl⟩
  exact ⟨he, ⟨World.cell?_setCell_same' _ _ _ (by rw [h.cell]; rfl), by rw [World.frozen?_setCell]; exact h.free⟩, Kept.setCell _ _ _ _⟩
theorem word_any' (l : List UInt8) (rb : Nat) (w : World) (hl : l.length ≤ maxLen) (h : Rest w rb l) :
    Calls Tryz.prog 102 #[.pointer (some ⟨rb, 0, none⟩)] w fun e w' => e = .returned (str (l.take (cutN l))) ∧ Rest w' rb (l.drop (cutN l)) ∧ Kept rb w w' := by
  refine (word_any l rb w hl h.cell h.free).mono ?_
  rintro e w' ⟨he, rfl⟩
  exact ⟨he, ⟨World.cell?_setCell_same' _ _ _ (by rw [h.cell]; rfl), by rw [World.frozen?_setCell]; exact h.free⟩, Kept.setCell _ _ _ _⟩

theorem Env.alloc {w : World} {R Nd X rb : Nat} (h : Env w R Nd X rb) (o : Obj) : Env (w.alloc o) R Nd X rb := h.kept (Kept.alloc rb w o)
theorem Rest.alloc {w : World} {rb : Nat} {s : List UInt8} (h : Rest w rb s) (o : Obj) : Rest (w.alloc o) rb s := h.below (B := w.heap.size) ((Below.refl _ _).alloc (Nat.le_refl _) _) (Nat.le_refl _)
theorem free_at {w : World} {b : Nat} {cs : Array Value} {t : TypeId} (h : w.heap[b]? = some (.cells cs t (0, 0))) (j : Nat) : w.frozen? ⟨b, j, none⟩ = false := by
  unfold World.frozen?
  rw [h]
  simp

theorem Kept.set_new {rb : Nat} {w w1 : World} (h : Kept rb w w1) {B : Nat} (hB : w.heap.size ≤ B) (j : Nat) (u : Value) : Kept rb w (w1.setCell ⟨B, j, none⟩ u) :=
  ⟨h.os, h.tape, h.output, by simpa [World.setCell] using h.size, fun i hi hne => (Below.heap_setCell _ _ _ _ (by simp; omega)).trans (h.block i hi hne)⟩
theorem Rest.set_other {w : World} {rb : Nat} {s : List UInt8} (h : Rest w rb s) {B : Nat} (hB : B ≠ rb) (j : Nat) (u : Value) : Rest (w.setCell ⟨B, j, none⟩ u) rb s :=
  ⟨by rw [World.cell?_of_block (Below.heap_setCell _ _ _ _ (Ne.symm hB))]; exact h.cell, by rw [World.frozen?_setCell]; exact h.free⟩

set_option maxHeartbeats 800000 in
theorem next_param (r : List UInt8) : NextOk (63 :: 116 :: r) := by
  intro R Nd X rb w ht he hs
  have a1 := fun o => (he.alloc o).r
  have hlt := World.block_lt_of_cell? _ _ hs.cell
  simp only at hlt
  have hP : ∀ e w', NextPost w rb (63 :: 116 :: r) e w' ↔ ((∃ v, e = .returned (.agg #[.int .u8 (8 : Nat), str [], v]) ∧ FoV w' (fun b => w.heap.size ≤ b) .nil v) ∧ Rest w' rb r ∧ Kept rb w w') := by
    intro e w'; unfold NextPost; rw [parseT_param]
  have HP := Lib.hid hP
  clear hP
  go_enter Tryz.func100, Tryz.ntmps100
  go_wp2_with fail
  refine (take_yes' [63, 116] r rb _ (hs.alloc _)).mono ?_
  rintro e w1 ⟨rfl, hr1, hk1⟩
  have hB := hk1.heap (heap_alloc_new w _) (by omega)
  have c0 := (cells_at hB 0).trans rfl
  have c1 := (cells_at hB 1).trans rfl
  have c2 := (cells_at hB 2).trans rfl
  have f0 := free_at hB 0
  have f1 := free_at hB 1
  have f2 := free_at hB 2
  go_wp2_with fail
  refine bodyPost_ret (v := .agg #[.int .u8 8, .string ⟨#[]⟩, .slice none 0 0]) (by simp [results, Tryz.results100, go_sem, c0, c1, c2]) rfl ?_
  rw [HP.out]
  have hk := ((Kept.alloc rb w _).trans hk1)
  have hne : w.heap.size ≠ rb := by omega
  exact ⟨⟨_, rfl, FoV.nil _ _⟩, ((hr1.set_other hne _ _).set_other hne _ _).set_other hne _ _, ((hk.set_new (Nat.le_refl _) _ _).set_new (Nat.le_refl _) _ _).set_new (Nat.le_refl _) _ _⟩

/-! ### Words -/
theorem take_alnum (s : List UInt8) : ∀ c ∈ s.take (cutN s), alnum c = true := by
  intro c hc
  have e : s.take (cutN s) = s.takeWhile alnum := by
    unfold cutN
    conv => lhs; arg 2; rw [← List.takeWhile_append_dropWhile (p := alnum) (l := s)]
    rw [List.take_left']
    rfl
  rw [e] at hc
  exact List.all_eq_true.1 List.all_takeWhile c hc
theorem wk_word (s : List UInt8) : wk (s.take (cutN s)) = kind0 (s.take (cutN s)) := by
  have h := take_alnum s
  generalize s.take (cutN s) = w at h
  unfold wk kind0 wInt wBool wNull
  have hn : ∀ x, w ≠ x ++ [91] := by
    rintro x rfl
    have := h 91 (by simp)
    revert this; decide
  rw [if_neg (show w ≠ [97, 114, 114, 97, 121, 91] from hn [97, 114, 114, 97, 121]), if_neg (show w ≠ [114, 101, 99, 111, 114, 100, 91] from hn [114, 101, 99, 111, 114, 100]), if_neg (show w ≠ [111, 110, 101, 111, 102, 91] from hn [111, 110, 101, 111, 102])]
theorem wk_bracket (w : List UInt8) : wk (w ++ [91]) = kindB w := by
  have hne : ∀ (x : List UInt8) (c : UInt8), c ≠ 91 → w ++ [91] ≠ x ++ [c] := by
    intro x c hc e
    have := congrArg List.getLast? e
    simp at this
    exact hc this.symm
  have heq : ∀ x : List UInt8, (w ++ [91] = x ++ [91]) ↔ w = x := by intro x; simp
  unfold wk kindB wArray wRecord wOneof
  rw [if_neg (show w ++ [91] ≠ [105, 110, 116] from hne [105, 110] 116 (by decide)), if_neg (show w ++ [91] ≠ [98, 111, 111, 108] from hne [98, 111, 111] 108 (by decide)), if_neg (show w ++ [91] ≠ [110, 117, 108, 108] from hne [110, 117, 108] 108 (by decide))]
  have e1 : (w ++ [91] = [97, 114, 114, 97, 121, 91]) = (w = [97, 114, 114, 97, 121]) := propext (heq [97, 114, 114, 97, 121])
  have e2 : (w ++ [91] = [114, 101, 99, 111, 114, 100, 91]) = (w = [114, 101, 99, 111, 114, 100]) := propext (heq [114, 101, 99, 111, 114, 100])
  have e3 : (w ++ [91] = [111, 110, 101, 111, 102, 91]) = (w = [111, 110, 101, 111, 102]) := propext (heq [111, 110, 101, 111, 102])
  simp only [e1, e2, e3]
theorem noPar_prefix {s : List UInt8} (h : noPar s) : Lib.hasPrefix s [63, 116] = false := by
  unfold Lib.hasPrefix
  match s, h with
  | [], _ => rfl
  | [a], _ => simp [List.isPrefixOf]
  | a :: b :: r, h =>
    simp [List.isPrefixOf]
    rintro rfl rfl
    exact h r rfl
theorem prefix_one {s : List UInt8} {c : UInt8} (h : ∀ r, s ≠ c :: r) : Lib.hasPrefix s [c] = false := by
  unfold Lib.hasPrefix
  match s, h with
  | [], _ => rfl
  | a :: r, h =>
    simp [List.isPrefixOf]
    rintro rfl
    exact h r rfl

/-- Where a walk through the closure stands: what is left of the text; the result's variable is untouched. -/
structure St (w W : World) (R Nd X rb : Nat) (s : List UInt8) : Prop where
  env0 : Env w R Nd X rb
  tab0 : Tab w
  rest : Rest W rb s
  kept : Kept rb w W
  lt : rb < w.heap.size
  res : W.heap[w.heap.size]? = some (.cells #[.int .u8 0, .string ⟨#[]⟩, .slice none 0 0] 57 (0, 0))
section
variable {w W W' : World} {R Nd X rb : Nat} {s s' : List UInt8}
theorem St.env (h : St w W R Nd X rb s) : Env W R Nd X rb := h.env0.kept h.kept
theorem St.tab (h : St w W R Nd X rb s) : Tab W := h.tab0.kept h.kept h.env0.nt
theorem St.start (ht : Tab w) (he : Env w R Nd X rb) (hs : Rest w rb s) : St w (w.alloc (.cells #[.int .u8 0, .string ⟨#[]⟩, .slice none 0 0] 57)) R Nd X rb s :=
  ⟨he, ht, hs.alloc _, Kept.alloc rb w _, by have := World.block_lt_of_cell? _ _ hs.cell; simpa using this, heap_alloc_new w _⟩
theorem St.next (h : St w W R Nd X rb s) (k : Kept rb W W') (hr : Rest W' rb s') : St w W' R Nd X rb s' :=
  ⟨h.env0, h.tab0, hr, h.kept.trans k, h.lt, k.heap h.res (by have := h.lt; omega)⟩
theorem St.quiet (h : St w W R Nd X rb s) (hb : Below W.heap.size W W') : St w W' R Nd X rb s :=
  h.next (Kept.of_below hb (Nat.le_refl _)) (h.rest.below hb (Nat.le_refl _))
theorem St.alloc (h : St w W R Nd X rb s) (o : Obj) : St w (W.alloc o) R Nd X rb s := h.next (Kept.alloc _ _ _) (h.rest.alloc o)
theorem St.size (h : St w W R Nd X rb s) : w.heap.size < W.heap.size := (Array.getElem?_eq_some_iff.1 h.res).1
theorem St.drew (h : St w W R Nd X rb s) : St w W.drew R Nd X rb s := ⟨h.env0, h.tab0, ⟨h.rest.cell, h.rest.free⟩, h.kept.drew, h.lt, h.res⟩
theorem St.drewN (h : St w W R Nd X rb s) (n : Nat) : St w (W.drewN n) R Nd X rb s :=
  ⟨h.env0, h.tab0, ⟨h.rest.cell, h.rest.free⟩, ⟨h.kept.os, h.kept.tape, h.kept.output, h.kept.size, h.kept.block⟩, h.lt, h.res⟩
/-- A store into a block of the call's own, behind the result's. -/
theorem St.set (h : St w W R Nd X rb s) {B : Nat} (hB : w.heap.size < B) (j : Nat) (u : Value) : St w (W.setCell ⟨B, j, none⟩ u) R Nd X rb s :=
  ⟨h.env0, h.tab0, h.rest.set_other (by have := h.lt; omega) j u, h.kept.set_new (by omega) j u, h.lt, by rw [Below.heap_setCell _ _ _ _ (by simp; omega)]; exact h.res⟩
/-- An append to a row of the call's own. -/
theorem St.grown (h : St w W R Nd X rb s) {row : Option Nat} (hg : W.grownBy W' row) (hrow : ∀ b, row = some b → w.heap.size < b) : St w W' R Nd X rb s := by
  have hl := h.lt
  have hz := h.size
  refine ⟨h.env0, h.tab0, ⟨?_, ?_⟩, ⟨hg.os.trans h.kept.os, hg.tape.trans h.kept.tape, hg.output.trans h.kept.output, Nat.le_trans h.kept.size hg.size, fun i hi hne => (hg.block i (by omega) (fun e => by have := hrow i e.symm; omega)).trans (h.kept.block i hi hne)⟩, h.lt, ?_⟩
  · rw [World.cell?_of_block (hg.block rb (by omega) (fun e => by have := hrow rb e.symm; omega))]; exact h.rest.cell
  · rw [World.frozen?_of_block (hg.block rb (by omega) (fun e => by have := hrow rb e.symm; omega))]; exact h.rest.free
  · rw [hg.block _ hz (fun e => by have := hrow _ e.symm; omega)]; exact h.res
end
theorem St.resc {w W : World} {R Nd X rb : Nat} {s : List UInt8} (h : St w W R Nd X rb s) :
    (W.cell? ⟨w.heap.size, 0, none⟩ = some (.int .u8 0) ∧ W.cell? ⟨w.heap.size, 1, none⟩ = some (.string ⟨#[]⟩) ∧ W.cell? ⟨w.heap.size, 2, none⟩ = some (.slice none 0 0)) ∧
    W.frozen? ⟨w.heap.size, 0, none⟩ = false ∧ W.frozen? ⟨w.heap.size, 1, none⟩ = false ∧ W.frozen? ⟨w.heap.size, 2, none⟩ = false :=
  ⟨⟨cells_at h.res 0, cells_at h.res 1, cells_at h.res 2⟩, free_at h.res 0, free_at h.res 1, free_at h.res 2⟩
theorem St.done {w W : World} {R Nd X rb : Nat} {s : List UInt8} (h : St w W R Nd X rb s) (a b c : Value) :
    Rest (((W.setCell ⟨w.heap.size, 0, none⟩ a).setCell ⟨w.heap.size, 1, none⟩ b).setCell ⟨w.heap.size, 2, none⟩ c) rb s ∧ Kept rb w (((W.setCell ⟨w.heap.size, 0, none⟩ a).setCell ⟨w.heap.size, 1, none⟩ b).setCell ⟨w.heap.size, 2, none⟩ c) := by
  have hne : w.heap.size ≠ rb := by have := h.lt; omega
  exact ⟨((h.rest.set_other hne _ _).set_other hne _ _).set_other hne _ _, ((h.kept.set_new (Nat.le_refl _) _ _).set_new (Nat.le_refl _) _ _).set_new (Nat.le_refl _) _ _⟩
theorem set_row {w : World} {b : Nat} {cs : Array Value} {t : TypeId} {z : Nat × Nat} (h : w.heap[b]? = some (.cells cs t z)) (j : Nat) (u : Value) : (w.setCell ⟨b, j, none⟩ u).heap[b]? = some (.cells (cs.setIfInBounds j u) t z) := by
  simp [World.setCell, Array.getElem?_modify, h]
/-- A row written out. -/
theorem own_lit {w : World} {g : Nat} {cs : List Value} {e : TypeId} {n : Nat} (h : w.heap[g]? = some (.cells cs.toArray e (0, 0))) (hl : cs.length = n * 4) (hn : n ≤ maxLen) : w.ownsRow 0 e 4 (.slice (some ⟨g, 0, none⟩) n n) n cs :=
  ⟨hl, .inr ⟨g, n, cs.toArray, rfl, Nat.zero_le _, h, Nat.le_refl _, hn, by simpa using hl, by rw [← hl]; simp⟩⟩
theorem FoV.set3 {w W : World} {D : Nat → Prop} {fo : Fo} {v : Value} (h : FoV W D fo v) (hD : ∀ b, D b → b ≠ w.heap.size) (a b c : Value) : FoV (((W.setCell ⟨w.heap.size, 0, none⟩ a).setCell ⟨w.heap.size, 1, none⟩ b).setCell ⟨w.heap.size, 2, none⟩ c) D fo v :=
  h.kept fun k hk _ => by rw [Below.heap_setCell _ _ _ _ (hD k hk), Below.heap_setCell _ _ _ _ (hD k hk), Below.heap_setCell _ _ _ _ (hD k hk)]

set_option maxHeartbeats 1600000 in
theorem next_word (s : List UInt8) (hm : s.length ≤ maxLen) (hp : noPar s) (h0 : kind0 (s.take (cutN s)) ≠ 0) : NextOk s := by
  intro R Nd X rb w ht he hs
  have hP : ∀ e w', NextPost w rb s e w' ↔ ((∃ v, e = .returned (.agg #[.int .u8 (kind0 (s.take (cutN s))), str [], v]) ∧ FoV w' (fun b => w.heap.size ≤ b) .nil v) ∧ Rest w' rb (s.drop (cutN s)) ∧ Kept rb w w') := by
    intro e w'; unfold NextPost; rw [parseT_word hp h0]
  have HP := Lib.hid hP
  have hpre := noPar_prefix hp
  have HK := Lib.hid (wk_word s)
  have hk0 : ((wk (s.take (cutN s)) : Int) != 0) = true := by rw [HK.out, bne_iff_ne]; omega
  clear hP h0 hp
  have h1 := St.start ht he hs
  have a1 := h1.env.r
  go_enter Tryz.func100, Tryz.ntmps100
  go_wp2_with fail
  generalize w.alloc (.cells #[.int .u8 0, .string ⟨#[]⟩, .slice none 0 0] 57) = W1 at *
  refine (take_no s [63, 116] rb _ h1.rest.cell hpre).mono ?_
  rintro e w1 ⟨rfl, rfl⟩
  go_wp2_with fail
  refine (word_any' s rb _ hm h1.rest).mono ?_
  rintro e w2 ⟨rfl, hr2, hk2⟩
  have h2 := h1.next hk2 hr2
  have b1 := h2.env.r
  obtain ⟨⟨c0, c1, c2⟩, f0, f1, f2⟩ := h2.resc
  go_wp2_with (go_at_call 103; refine (wk_any _ _).mono ?_; rintro e w3 ⟨rfl, rfl⟩)
  refine bodyPost_ret (v := .agg #[.int .u8 (wk (s.take (cutN s))), .string ⟨#[]⟩, .slice none 0 0]) (by simp [results, Tryz.results100, go_sem, c0, c1, c2]) rfl ?_
  rw [HP.out, HK.out]
  obtain ⟨g1, g2⟩ := h2.done (.int .u8 (kind0 (s.take (cutN s)))) (.string ⟨#[]⟩) (.slice none 0 0)
  exact ⟨⟨_, rfl, FoV.nil _ _⟩, g1, g2⟩
end Go.Proofs.YtakdmnhpoelepaaGreatDoor
