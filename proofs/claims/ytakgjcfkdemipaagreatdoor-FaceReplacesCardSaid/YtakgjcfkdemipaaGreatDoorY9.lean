/-
  The closure with which the program reads a type (kind.read$3): what it needs, what it leaves. Its ways.
  The closure with which the program reads a type (kind.read$3): the loop over parts: what holds at its head (plain).
  Contract: the program's tree.level.
  Contract: the program's tree.word.
  Contract: strings.Join with a comma, in the words of Txt. Condition: the text is not too long.
  The parts of a type while the parameter's place is filled, part by part (plain, and in memory). No condition.
  The deferred closure of kind.read (kind.read$1): a text that is no type leaves the zero type and false.
-/
import Derived.Defers
import Derived.Laws.OwnMore
import Derived.Recover
import Derived.Tactics
import Derived.Tactics2
import Derived.Test.YtakgjcfkdemipaaGreatDoorYn
import Derived.Test.YtakgjcfkdemipaaGreatDoorY0
import Derived.Test.YtakgjcfkdemipaaGreatDoorY6
import Derived.Test.YtakgjcfkdemipaaGreatDoorY7
import Derived.Test.YtakgjcfkdemipaaGreatDoorY8
namespace Go.Proofs.YtakgjcfkdemipaaGreatDoor
open Go.RowKit
structure Env (w : World) (R Nd X rb : Nat) : Prop where
 r : w.cell? ⟨R, 0, none⟩ = some (.pointer (some ⟨rb, 0, none⟩))
 need : w.cell? ⟨Nd, 0, none⟩ = some (.func (.func 251) #[] #[])
 next : w.cell? ⟨X, 0, none⟩ = some (.func (.func 252) #[] #[.pointer (some ⟨R, 0, none⟩), .pointer (some ⟨Nd, 0, none⟩), .pointer (some ⟨X, 0, none⟩)])
 nr : R ≠ rb
 nn : Nd ≠ rb
 nx : X ≠ rb
 nt : rb ≠ 1
structure Rest (w : World) (rb : Nat) (s : List UInt8) : Prop where
 cell : w.cell? ⟨rb, 0, none⟩ = some (str s)
 free : w.frozen? ⟨rb, 0, none⟩ = false
theorem Env.kept {w w' : World} {R Nd X rb : Nat} (h : Env w R Nd X rb) (k : Kept rb w w') : Env w' R Nd X rb :=
 ⟨k.cell h.r h.nr, k.cell h.need h.nn, k.cell h.next h.nx, h.nr, h.nn, h.nx, h.nt⟩
theorem Rest.below {B : Nat} {w w' : World} {rb : Nat} {s : List UInt8} (h : Rest w rb s) (hb : Below B w w') (hB : w.heap.size ≤ B) : Rest w' rb s := by
 have := World.block_lt_of_cell? _ _ h.cell
 simp at this
 exact ⟨(hb.cell (by simp; omega)).trans h.cell, (hb.frozen (by simp; omega)).trans h.free⟩
def NextPost (w : World) (rb : Nat) (s : List UInt8) (e : Ending) (w' : World) : Prop :=
 match parseT s with
 | some (t, r) => (∃ v, e = .returned (.agg #[.int .u8 t.k, str t.n, v]) ∧ FoV w' (fun b => w.heap.size ≤ b) t.sub v) ∧ Rest w' rb r ∧ Kept rb w w'
 | none => e = .panicked nonePanic ∧ Kept rb w w'
def NextOk (s : List UInt8) : Prop := ∀ (R Nd X rb : Nat) (w : World), Tab w → Env w R Nd X rb → Rest w rb s →
 Calls Tryz.prog 252 #[.pointer (some ⟨R, 0, none⟩), .pointer (some ⟨Nd, 0, none⟩), .pointer (some ⟨X, 0, none⟩)] w (NextPost w rb s)
theorem take_yes' (p r : List UInt8) (rb : Nat) (w : World) (h : Rest w rb (p ++ r)) :
 Calls Tryz.prog 253 #[.pointer (some ⟨rb, 0, none⟩), str p] w fun e w' => e = .returned (.bool true) ∧ Rest w' rb r ∧ Kept rb w w' := by
 refine (take_yes p r rb w h.cell h.free).mono ?_
 rintro e w' ⟨he, rfl⟩
 exact ⟨he, ⟨World.cell?_setCell_same' _ _ _ (by rw [h.cell]; rfl), by rw [World.frozen?_setCell]; exact h.free⟩, Kept.setCell _ _ _ _⟩
theorem word_any' (l : List UInt8) (rb : Nat) (w : World) (hl : l.length ≤ maxLen) (h : Rest w rb l) :
 Calls Tryz.prog 254 #[.pointer (some ⟨rb, 0, none⟩)] w fun e w' => e = .returned (str (l.take (cutN l))) ∧ Rest w' rb (l.drop (cutN l)) ∧ Kept rb w w' := by
 refine (word_any l rb w hl h.cell h.free).mono ?_
 rintro e w' ⟨he, rfl⟩
 exact ⟨he, ⟨World.cell?_setCell_same' _ _ _ (by rw [h.cell]; rfl), by rw [World.frozen?_setCell]; exact h.free⟩, Kept.setCell _ _ _ _⟩
theorem Env.alloc {w : World} {R Nd X rb : Nat} (h : Env w R Nd X rb) (o : Obj) : Env (w.alloc o) R Nd X rb := h.kept (Kept.alloc rb w o)
theorem Rest.alloc {w : World} {rb : Nat} {s : List UInt8} (h : Rest w rb s) (o : Obj) : Rest (w.alloc o) rb s := h.below (B := w.heap.size) ((Below.refl _ _).alloc (nl _) _) (nl _)
theorem Kept.set_new {rb : Nat} {w w1 : World} (h : Kept rb w w1) {B : Nat} (hB : w.heap.size ≤ B) (j : Nat) (u : Value) : Kept rb w (w1.setCell ⟨B, j, none⟩ u) :=
 ⟨h.os, h.tape, h.output, by simpa [World.setCell] using h.size, fun i hi hne => (Below.heap_setCell _ _ _ _ (by simp; omega)).trans (h.block i hi hne)⟩
theorem Rest.set_other {w : World} {rb : Nat} {s : List UInt8} (h : Rest w rb s) {B : Nat} (hB : B ≠ rb) (j : Nat) (u : Value) : Rest (w.setCell ⟨B, j, none⟩ u) rb s :=
 ⟨by rw [World.cell?_of_block (Below.heap_setCell _ _ _ _ (Ne.symm hB))]; exact h.cell, by rw [World.frozen?_setCell]; exact h.free⟩
set_option maxHeartbeats 800000 in
theorem next_param (r : List UInt8) : NextOk (63 :: 116 :: r) := by
 intro R Nd X rb w ht he hs
 have a1 := fun o => (he.alloc o).r
 have hlt := World.block_lt_of_cell? _ _ hs.cell
 simp only at hlt
 have hP : ∀ e w', NextPost w rb (63 :: 116 :: r) e w' ↔ ((∃ v, e = .returned (.agg #[.int .u8 (8 : Nat), str [], v]) ∧ FoV w' (fun b => w.heap.size ≤ b) .nil v) ∧ Rest w' rb r ∧ Kept rb w w') := by
  intro e w'; unfold NextPost; rw [parseT_param]
 have HP := Lib.hid hP
 clear hP
 go_enter Tryz.func252, Tryz.ntmps252
 go_wp2_with fail
 refine (take_yes' [63, 116] r rb _ (hs.alloc _)).mono ?_
 rintro e w1 ⟨rfl, hr1, hk1⟩
 have hB := hk1.heap (heap_alloc_new w _) (by omega)
 have c0 := (cells_at hB 0).trans rfl
 have c1 := (cells_at hB 1).trans rfl
 have c2 := (cells_at hB 2).trans rfl
 have f0 := free_at hB 0
 have f1 := free_at hB 1
 have f2 := free_at hB 2
 go_wp2_with fail
 refine bodyPost_ret (v := .agg #[.int .u8 8, .string ⟨#[]⟩, .slice none 0 0]) (by simp [results, Tryz.results252, go_sem, c0, c1, c2]) rfl ?_
 rw [HP.out]
 have hk := ((Kept.alloc rb w _).trans hk1)
 have hne : w.heap.size ≠ rb := by omega
 exact ⟨⟨_, rfl, FoV.nil _ _⟩, ((hr1.set_other hne _ _).set_other hne _ _).set_other hne _ _, ((hk.set_new (nl _) _ _).set_new (nl _) _ _).set_new (nl _) _ _⟩
theorem take_alnum (s : List UInt8) : ∀ c ∈ s.take (cutN s), alnum c = true := by
 intro c hc
 have e : s.take (cutN s) = s.takeWhile alnum := by
  unfold cutN
  conv => lhs; arg 2; rw [← List.takeWhile_append_dropWhile (p := alnum) (l := s)]
  rw [List.take_left']
  rfl
 rw [e] at hc
 exact List.all_eq_true.1 List.all_takeWhile c hc
theorem wk_word (s : List UInt8) : wk (s.take (cutN s)) = kind0 (s.take (cutN s)) := by
 have h := take_alnum s
 generalize s.take (cutN s) = w at h
 unfold wk kind0 wInt wBool wNull
 have hn : ∀ x, w ≠ x ++ [91] := by
  rintro x rfl;have := h 91 (by simp);revert this; decide
 rw [if_neg (show w ≠ [97, 114, 114, 97, 121, 91] from hn [97, 114, 114, 97, 121]), if_neg (show w ≠ [114, 101, 99, 111, 114, 100, 91] from hn [114, 101, 99, 111, 114, 100]), if_neg (show w ≠ [111, 110, 101, 111, 102, 91] from hn [111, 110, 101, 111, 102])]
theorem wk_bracket (w : List UInt8) : wk (w ++ [91]) = kindB w := by
 have hne : ∀ (x : List UInt8) (c : UInt8), c ≠ 91 → w ++ [91] ≠ x ++ [c] := by
  intro x c hc e;have := congrArg List.getLast? e;simp at this;exact hc this.symm
 have heq : ∀ x : List UInt8, (w ++ [91] = x ++ [91]) ↔ w = x := by intro x; simp
 unfold wk kindB wArray wRecord wOneof
 rw [if_neg (show w ++ [91] ≠ [105, 110, 116] from hne [105, 110] 116 (by decide)), if_neg (show w ++ [91] ≠ [98, 111, 111, 108] from hne [98, 111, 111] 108 (by decide)), if_neg (show w ++ [91] ≠ [110, 117, 108, 108] from hne [110, 117, 108] 108 (by decide))]
 have e1 : (w ++ [91] = [97, 114, 114, 97, 121, 91]) = (w = [97, 114, 114, 97, 121]) := propext (heq [97, 114, 114, 97, 121])
 have e2 : (w ++ [91] = [114, 101, 99, 111, 114, 100, 91]) = (w = [114, 101, 99, 111, 114, 100]) := propext (heq [114, 101, 99, 111, 114, 100])
 have e3 : (w ++ [91] = [111, 110, 101, 111, 102, 91]) = (w = [111, 110, 101, 111, 102]) := propext (heq [111, 110, 101, 111, 102])
 simp only [e1, e2, e3]
theorem noPar_prefix {s : List UInt8} (h : noPar s) : Lib.hasPrefix s [63, 116] = false := by
 unfold Lib.hasPrefix
 match s, h with
 | [], _ => rfl
 | [a], _ => simp [List.isPrefixOf]
 | a :: b :: r, h =>
  simp [List.isPrefixOf];rintro rfl rfl;exact h r rfl
theorem prefix_one {s : List UInt8} {c : UInt8} (h : ∀ r, s ≠ c :: r) : Lib.hasPrefix s [c] = false := by
 unfold Lib.hasPrefix
 match s, h with
 | [], _ => rfl
 | a :: r, h =>
  simp [List.isPrefixOf];rintro rfl;exact h r rfl
structure St (w W : World) (R Nd X rb : Nat) (s : List UInt8) : Prop where
 env0 : Env w R Nd X rb
 tab0 : Tab w
 rest : Rest W rb s
 kept : Kept rb w W
 lt : rb < w.heap.size
 res : W.heap[w.heap.size]? = some (.cells #[.int .u8 0, .string ⟨#[]⟩, .slice none 0 0] 174 (0, 0))
section
variable {w W W' : World} {R Nd X rb : Nat} {s s' : List UInt8}
theorem St.env (h : St w W R Nd X rb s) : Env W R Nd X rb := h.env0.kept h.kept
theorem St.tab (h : St w W R Nd X rb s) : Tab W := h.tab0.kept h.kept h.env0.nt
theorem St.start (ht : Tab w) (he : Env w R Nd X rb) (hs : Rest w rb s) : St w (w.alloc (.cells #[.int .u8 0, .string ⟨#[]⟩, .slice none 0 0] 174)) R Nd X rb s :=
 ⟨he, ht, hs.alloc _, Kept.alloc rb w _, by have := World.block_lt_of_cell? _ _ hs.cell; simpa using this, heap_alloc_new w _⟩
theorem St.next (h : St w W R Nd X rb s) (k : Kept rb W W') (hr : Rest W' rb s') : St w W' R Nd X rb s' :=
 ⟨h.env0, h.tab0, hr, h.kept.trans k, h.lt, k.heap h.res (by have := h.lt; omega)⟩
theorem St.quiet (h : St w W R Nd X rb s) (hb : Below W.heap.size W W') : St w W' R Nd X rb s :=
 h.next (Kept.of_below hb (nl _)) (h.rest.below hb (nl _))
theorem St.alloc (h : St w W R Nd X rb s) (o : Obj) : St w (W.alloc o) R Nd X rb s := h.next (Kept.alloc _ _ _) (h.rest.alloc o)
theorem St.size (h : St w W R Nd X rb s) : w.heap.size < W.heap.size := (Array.getElem?_eq_some_iff.1 h.res).1
theorem St.drew (h : St w W R Nd X rb s) : St w W.drew R Nd X rb s := ⟨h.env0, h.tab0, ⟨h.rest.cell, h.rest.free⟩, h.kept.drew, h.lt, h.res⟩
theorem St.drewN (h : St w W R Nd X rb s) (n : Nat) : St w (W.drewN n) R Nd X rb s :=
 ⟨h.env0, h.tab0, ⟨h.rest.cell, h.rest.free⟩, ⟨h.kept.os, h.kept.tape, h.kept.output, h.kept.size, h.kept.block⟩, h.lt, h.res⟩
theorem St.set (h : St w W R Nd X rb s) {B : Nat} (hB : w.heap.size < B) (j : Nat) (u : Value) : St w (W.setCell ⟨B, j, none⟩ u) R Nd X rb s :=
 ⟨h.env0, h.tab0, h.rest.set_other (by have := h.lt; omega) j u, h.kept.set_new (by omega) j u, h.lt, by rw [Below.heap_setCell _ _ _ _ (by simp; omega)]; exact h.res⟩
theorem St.grown (h : St w W R Nd X rb s) {row : Option Nat} (hg : W.grownBy W' row) (hrow : ∀ b, row = some b → w.heap.size < b) : St w W' R Nd X rb s := by
 have hl := h.lt
 have hz := h.size
 refine ⟨h.env0, h.tab0, ⟨?_, ?_⟩, ⟨hg.os.trans h.kept.os, hg.tape.trans h.kept.tape, hg.output.trans h.kept.output, Nat.le_trans h.kept.size hg.size, fun i hi hne => (hg.block i (by omega) (fun e => by have := hrow i e.symm; omega)).trans (h.kept.block i hi hne)⟩, h.lt, ?_⟩
 · rw [World.cell?_of_block (hg.block rb (by omega) (fun e => by have := hrow rb e.symm; omega))]; exact h.rest.cell
 · rw [World.frozen?_of_block (hg.block rb (by omega) (fun e => by have := hrow rb e.symm; omega))]; exact h.rest.free
 · rw [hg.block _ hz (fun e => by have := hrow _ e.symm; omega)]; exact h.res
end
theorem St.resc {w W : World} {R Nd X rb : Nat} {s : List UInt8} (h : St w W R Nd X rb s) :
 (W.cell? ⟨w.heap.size, 0, none⟩ = some (.int .u8 0) ∧ W.cell? ⟨w.heap.size, 1, none⟩ = some (.string ⟨#[]⟩) ∧ W.cell? ⟨w.heap.size, 2, none⟩ = some (.slice none 0 0)) ∧
 W.frozen? ⟨w.heap.size, 0, none⟩ = false ∧ W.frozen? ⟨w.heap.size, 1, none⟩ = false ∧ W.frozen? ⟨w.heap.size, 2, none⟩ = false :=
 ⟨⟨cells_at h.res 0, cells_at h.res 1, cells_at h.res 2⟩, free_at h.res 0, free_at h.res 1, free_at h.res 2⟩
theorem St.done {w W : World} {R Nd X rb : Nat} {s : List UInt8} (h : St w W R Nd X rb s) (a b c : Value) :
 Rest (((W.setCell ⟨w.heap.size, 0, none⟩ a).setCell ⟨w.heap.size, 1, none⟩ b).setCell ⟨w.heap.size, 2, none⟩ c) rb s ∧ Kept rb w (((W.setCell ⟨w.heap.size, 0, none⟩ a).setCell ⟨w.heap.size, 1, none⟩ b).setCell ⟨w.heap.size, 2, none⟩ c) := by
 have hne : w.heap.size ≠ rb := by have := h.lt; omega
 exact ⟨((h.rest.set_other hne _ _).set_other hne _ _).set_other hne _ _, ((h.kept.set_new (nl _) _ _).set_new (nl _) _ _).set_new (nl _) _ _⟩
theorem set_row {w : World} {b : Nat} {cs : Array Value} {t : TypeId} {z : Nat × Nat} (h : w.heap[b]? = some (.cells cs t z)) (j : Nat) (u : Value) : (w.setCell ⟨b, j, none⟩ u).heap[b]? = some (.cells (cs.setIfInBounds j u) t z) := by
 simp [World.setCell, Array.getElem?_modify, h]
theorem own_lit {w : World} {g : Nat} {cs : List Value} {e : TypeId} {n : Nat} (h : w.heap[g]? = some (.cells cs.toArray e (0, 0))) (hl : cs.length = n * 4) (hn : n ≤ maxLen) : w.ownsRow 0 e 4 (.slice (some ⟨g, 0, none⟩) n n) n cs :=
 ⟨hl, .inr ⟨g, n, cs.toArray, rfl, Nat.zero_le _, h, nl _, hn, by simpa using hl, by rw [← hl]; simp⟩⟩
theorem FoV.set3 {w W : World} {D : Nat → Prop} {fo : Fo} {v : Value} (h : FoV W D fo v) (hD : ∀ b, D b → b ≠ w.heap.size) (a b c : Value) : FoV (((W.setCell ⟨w.heap.size, 0, none⟩ a).setCell ⟨w.heap.size, 1, none⟩ b).setCell ⟨w.heap.size, 2, none⟩ c) D fo v :=
 h.kept fun k hk _ => by rw [Below.heap_setCell _ _ _ _ (hD k hk), Below.heap_setCell _ _ _ _ (hD k hk), Below.heap_setCell _ _ _ _ (hD k hk)]
set_option maxHeartbeats 1600000 in
theorem next_word (s : List UInt8) (hm : s.length ≤ maxLen) (hp : noPar s) (h0 : kind0 (s.take (cutN s)) ≠ 0) : NextOk s := by
 intro R Nd X rb w ht he hs
 have hP : ∀ e w', NextPost w rb s e w' ↔ ((∃ v, e = .returned (.agg #[.int .u8 (kind0 (s.take (cutN s))), str [], v]) ∧ FoV w' (fun b => w.heap.size ≤ b) .nil v) ∧ Rest w' rb (s.drop (cutN s)) ∧ Kept rb w w') := by
  intro e w'; unfold NextPost; rw [parseT_word hp h0]
 have HP := Lib.hid hP
 have hpre := noPar_prefix hp
 have HK := Lib.hid (wk_word s)
 have hk0 : ((wk (s.take (cutN s)) : Int) != 0) = true := by rw [HK.out, bne_iff_ne]; omega
 clear hP h0 hp
 have h1 := St.start ht he hs
 have a1 := h1.env.r
 go_enter Tryz.func252, Tryz.ntmps252
 go_wp2_with fail
 generalize w.alloc (.cells #[.int .u8 0, .string ⟨#[]⟩, .slice none 0 0] 174) = W1 at *
 refine (take_no s [63, 116] rb _ h1.rest.cell hpre).mono ?_
 rintro e w1 ⟨rfl, rfl⟩
 go_wp2_with fail
 refine (word_any' s rb _ hm h1.rest).mono ?_
 rintro e w2 ⟨rfl, hr2, hk2⟩
 have h2 := h1.next hk2 hr2
 have b1 := h2.env.r
 obtain ⟨⟨c0, c1, c2⟩, f0, f1, f2⟩ := h2.resc
 go_wp2_with (go_at_call 255; refine (wk_any _ _).mono ?_; rintro e w3 ⟨rfl, rfl⟩)
 refine bodyPost_ret (v := .agg #[.int .u8 (wk (s.take (cutN s))), .string ⟨#[]⟩, .slice none 0 0]) (by simp [results, Tryz.results252, go_sem, c0, c1, c2]) rfl ?_
 rw [HP.out, HK.out]
 obtain ⟨g1, g2⟩ := h2.done (.int .u8 (kind0 (s.take (cutN s)))) (.string ⟨#[]⟩) (.slice none 0 0)
 exact ⟨⟨_, rfl, FoV.nil _ _⟩, g1, g2⟩
end Go.Proofs.YtakgjcfkdemipaaGreatDoor
namespace Go.Proofs.YtakgjcfkdemipaaGreatDoor
open Go.RowKit
theorem FoV.shape {w : World} {D : Nat → Prop} {fo : Fo} {v : Value} (h : FoV w D fo v) : ∃ p c, v = .slice p fo.len c ∧ (fo.len ≠ 0 → ∃ g, p = some ⟨g, 0, none⟩ ∧ D g ∧ g < w.heap.size ∧ fo.len ≤ c ∧ w.cell? ⟨g, (fo.len - 1) * 4, none⟩ = some (str fo.last)) := by
 obtain ⟨sc, h1, h2, h3⟩ := h
 rcases h1.2 with ⟨rfl, hz⟩ | ⟨g, cap, cur, rfl, _, _, h4, _⟩
 · exact ⟨none, 0, by rw [hz], fun hne => absurd hz hne⟩
 · refine ⟨some ⟨g, 0, none⟩, cap, rfl, fun hne => ⟨g, rfl, h2 g rfl, ownsRow_lt h1 rfl, h4, ?_⟩⟩
   have := h1.cells (g := g) rfl _ _ (FoC.last fo sc h3 hne);simp only [Addr.add] at this;split at this
   · rename_i e; rw [e]; exact this
   · simpa using this
theorem int_zero {n : Nat} (h : n = 0) : ((n : Int) == 0) = true := by subst h; rfl
theorem int_not_zero {n : Nat} (h : n ≠ 0) : ((n : Int) == 0) = false := by rw [beq_eq_false_iff_ne]; omega
theorem wrap_pred {n : Nat} (h : n ≠ 0) (hm : n ≤ 1000) : IntKind.i64.wrap ((n : Int) - 1) = ((n - 1 : Nat) : Int) := by rw [IntKind.wrap_i64]; omega
def FoR (w : World) (D : Nat → Prop) (fo : Fo) (v : Value) : Prop := ∃ sc, w.ownsRow 0 192 4 v fo.len sc ∧ (∀ b, v.ownBlock = some b → D b) ∧ FoC w (fun b => D b ∧ v.ownBlock ≠ some b) fo sc
theorem FoR.foV {w : World} {D : Nat → Prop} {fo : Fo} {v : Value} (h : FoR w D fo v) : FoV w D fo v := by
 obtain ⟨sc, h1, h2, h3⟩ := h
 exact ⟨sc, h1, h2, h3.mono fun b hb _ => hb.1⟩
theorem FoR.nil (w : World) (D : Nat → Prop) : FoR w D .nil (.slice none 0 0) := ⟨[], World.ownsRow_nil _ _ _ _, by intro b h; simp [Value.ownBlock] at h, rfl⟩
theorem FoR.kept {w w' : World} {D : Nat → Prop} (hb : ∀ b, D b → b < w.heap.size → w'.heap[b]? = w.heap[b]?) {fo : Fo} {v : Value} (h : FoR w D fo v) : FoR w' D fo v := by
 obtain ⟨sc, h1, h2, h3⟩ := h
 exact ⟨sc, ownsRow_of_block h1 (fun b e => hb b (h2 b e) (ownsRow_lt h1 e)), h2, h3.kept fun b hD => hb b hD.1⟩
theorem FoR.mono {w : World} {D D' : Nat → Prop} (hD : ∀ b, D b → b < w.heap.size → D' b) {fo : Fo} {v : Value} (h : FoR w D fo v) : FoR w D' fo v := by
 obtain ⟨sc, h1, h2, h3⟩ := h
 exact ⟨sc, h1, fun b e => hD b (h2 b e) (ownsRow_lt h1 e), h3.mono fun b hb hlt => ⟨hD b hb.1 hlt, hb.2⟩⟩
theorem FoR.grow {W W' : World} {D : Nat → Prop} {fo sub : Fo} {v v' vt : Value} {sc : List Value} {pn n : List UInt8} {k : Nat} (h2 : ∀ b, v.ownBlock = some b → D b) (h3 : FoC W (fun b => D b ∧ v.ownBlock ≠ some b) fo sc)
 (ht : FoV W (fun b => D b ∧ v.ownBlock ≠ some b) sub vt) (hN : D W.heap.size) (h' : W'.ownsRow 0 192 4 v' (fo.len + 1) (sc ++ [str pn, .int .u8 k, str n, vt])) (hg : W.grownBy W' v.ownBlock)
 (ho : v'.ownBlock = v.ownBlock ∨ v'.ownBlock = some W.heap.size) : FoR W' D (fo.app (.cons pn k n sub .nil)) v' := by
 refine ⟨_, by rw [Fo.len_app]; exact h', ?_, ?_⟩
 · intro b hb
   rcases ho with ho | ho
   · exact h2 b (ho ▸ hb)
   · rw [ho] at hb
     injection hb with hb;exact hb ▸ hN
 · have hall := (FoC.single (pn := pn) (k := k) (n := n) ht).app fo sc h3
   refine ((hall.mono (D' := fun b => D b ∧ v'.ownBlock ≠ some b ∧ v.ownBlock ≠ some b) fun b hb hlt => ⟨hb.1, ?_, hb.2⟩).kept (w' := W') fun b hb hlt => hg.block b hlt (fun e => hb.2.2 e.symm)).mono fun b hb _ => ⟨hb.1, hb.2.1⟩
   rcases ho with ho | ho
   · rw [ho]; exact hb.2
   · rw [ho]
     intro e;injection e with e;omega
theorem infoPart : (Tryz.prog.info? 192).map (fun i => (i.zero, i.size, i.bytes)) = some (some (.agg #[.string ⟨#[]⟩, .int .u8 0, .string ⟨#[]⟩, .slice none 0 0]), 4, 64) := by kernel_rfl
theorem underPart : Tryz.prog.underlying 172 = some (.slice 192) := by kernel_rfl
theorem fo_zero {fo : Fo} (h : fo.len = 0) : fo = .nil := by
 cases fo with
 | nil => rfl
 | cons => simp [Fo.len] at h
structure Lp (w : World) (R Nd X rb B1 KN : Nat) (nm s2 : List UInt8) (wr : World) (dn : Fo) (u : List UInt8) : Prop where
 st : St w wr R Nd X rb u
 lo : w.heap.size < B1
 len : dn.len + u.length ≤ s2.length
 row : ∃ v, wr.heap[B1]? = some (.cells #[.int .u8 KN, str nm, v] 174 (0, 0)) ∧ FoR wr (fun b => B1 < b) dn v
 eq : Hid (parseP [] s2 = (parseP dn.last u).map fun p => (dn.app p.1, p.2))
section
variable {w wr : World} {R Nd X rb B1 KN : Nat} {nm s2 : List UInt8} {dn : Fo} {u : List UInt8}
theorem Lp.no_parse (h : Lp w R Nd X rb B1 KN nm s2 wr dn u) (hn : parseP dn.last u = none) : parseP [] s2 = none := by
 rw [h.eq.out, hn]; rfl
theorem Lp.start (h : St w wr R Nd X rb s2) (hB : w.heap.size < B1) (hx : wr.heap[B1]? = some (.cells #[.int .u8 KN, str nm, .slice none 0 0] 174 (0, 0))) : Lp w R Nd X rb B1 KN nm s2 wr .nil s2 := by
 refine ⟨h, hB, by simp [Fo.len], ⟨_, hx, FoR.nil wr _⟩, ?_⟩
 show parseP [] s2 = (parseP [] s2).map _
 rcases parseP [] s2 with _ | ⟨a, b⟩
 · rfl
 · rfl
def okName (dn : Fo) (n : List UInt8) : Prop := isName n = true ∧ (dn.len = 0 ∨ Op.bytesLess dn.last n = true)
theorem okName_iff {dn : Fo} {n : List UInt8} : okName dn n ↔ (isName n = true ∧ Op.bytesLess dn.last n = true) := by
 unfold okName
 constructor
 · rintro ⟨h1, h2⟩
   refine ⟨h1, ?_⟩;rcases h2 with h2 | h2
   · rw [fo_zero h2]
     have := name_pos h1;cases n with
     | nil => simp at this
     | cons => rfl
   · exact h2
 · rintro ⟨h1, h2⟩
   exact ⟨h1, .inr h2⟩
theorem round_bad (h : ¬ okName dn (u.take (cutN u))) : parseP dn.last u = none := parseP_bad fun e => h (okName_iff.2 e)
theorem round_ok (h : okName dn (u.take (cutN u))) {u2 : List UInt8} (hb : u.drop (cutN u) = 58 :: u2) :
 parseP dn.last u = match parseT u2 with
  | some (t, r) => match r with
   | 44 :: r2 => match parseP (u.take (cutN u)) r2 with
    | some (fo, r3) => some (.cons (u.take (cutN u)) t.k t.n t.sub fo, r3)
    | none => none
   | _ => some (.cons (u.take (cutN u)) t.k t.n t.sub .nil, r)
  | none => none := parseP_ok (okName_iff.1 h).1 (okName_iff.1 h).2 hb
def Fo.snoc (dn : Fo) (n : List UInt8) (t : Tr) : Fo := dn.app (.cons n t.k t.n t.sub .nil)
theorem Fo.len_snoc (dn : Fo) (n : List UInt8) (t : Tr) : (dn.snoc n t).len = dn.len + 1 := by unfold Fo.snoc; rw [Fo.len_app]; rfl
theorem Fo.last_snoc' (dn : Fo) (n : List UInt8) (t : Tr) : (dn.snoc n t).last = n := Fo.last_snoc _ _ _ _ _
theorem Lp.end_eq (h : Lp w R Nd X rb B1 KN nm s2 wr dn u) (hn : okName dn (u.take (cutN u))) {u2 r : List UInt8} {t : Tr} (hb : u.drop (cutN u) = 58 :: u2) (hq : parseT u2 = some (t, r)) (hr : ∀ r', r ≠ 44 :: r') : parseP [] s2 = some (dn.snoc (u.take (cutN u)) t, r) := by
 rw [h.eq.out, round_ok hn hb, hq]
 simp only
 rfl
theorem Lp.step_eq (h : Lp w R Nd X rb B1 KN nm s2 wr dn u) (hn : okName dn (u.take (cutN u))) {u2 r : List UInt8} {t : Tr} (hb : u.drop (cutN u) = 58 :: u2) (hq : parseT u2 = some (t, 44 :: r)) : parseP [] s2 = (parseP (dn.snoc (u.take (cutN u)) t).last r).map fun p => ((dn.snoc (u.take (cutN u)) t).app p.1, p.2) := by
 rw [h.eq.out, round_ok hn hb, hq, Fo.last_snoc']
 simp only
 rcases parseP (u.take (cutN u)) r with _ | ⟨fo, r3⟩
 · rfl
 · simp only [Option.map_some, Option.some.injEq, Prod.mk.injEq, and_true]
   unfold Fo.snoc;rw [Fo.app_assoc]
   rfl
end
end Go.Proofs.YtakgjcfkdemipaaGreatDoor
namespace Go.Proofs.YtakgjcfkdemipaaGreatDoor
open Go.RowKit
theorem FoV.at {w : World} {D : Nat → Prop} {fo : Fo} {v : Value} (h : FoV w D fo v) {i : Nat} (hi : i < fo.len) : ∃ g c pn t u, v = .slice (some ⟨g, 0, none⟩) fo.len c ∧ D g ∧ g < w.heap.size ∧ fo.at i = some (pn, t) ∧
 w.cell? ⟨g, i * 4, none⟩ = some (str pn) ∧ w.cell? ⟨g, i * 4 + 1, none⟩ = some (.int .u8 t.k) ∧ w.cell? ⟨g, i * 4 + 2, none⟩ = some (str t.n) ∧ w.cell? ⟨g, i * 4 + 3, none⟩ = some u ∧ FoV w D t.sub u := by
 obtain ⟨sc, h1, h2, h3⟩ := h
 obtain ⟨pn, t, u, a, b0, b1, b2, b3, c⟩ := h3.at fo sc i hi
 rcases h1.2 with ⟨rfl, hz⟩ | ⟨g, cap, cur, rfl, _, _, h4, _⟩
 · omega
 · have hc : ∀ j x, sc[j]? = some x → w.cell? ⟨g, j, none⟩ = some x := by
    intro j x hx;have := h1.cells (g := g) rfl _ _ hx;simp only [Addr.add] at this;split at this
    · rename_i e; rw [e]; exact this
    · simpa using this
   exact ⟨g, cap, pn, t, u, rfl, h2 g rfl, ownsRow_lt h1 rfl, a, hc _ _ b0, hc _ _ b1, hc _ _ b2, hc _ _ b3, c⟩
theorem FoV.len_le {w : World} {D : Nat → Prop} {fo : Fo} {v : Value} (h : FoV w D fo v) : fo.len ≤ maxLen := by
 obtain ⟨sc, h1, h2, h3⟩ := h
 rcases h1.2 with ⟨rfl, hz⟩ | ⟨g, cap, cur, rfl, _, _, h4, h5, _⟩
 · omega
 · omega
set_option maxRecDepth 4000 in
set_option maxHeartbeats 3200000 in
theorem level_any : ∀ (m : Nat) (fo : Fo), fo.level ≤ m → m ≤ 1000 → ∀ (w : World) (D : Nat → Prop) (v : Value) (k : Nat) (n : List UInt8), FoV w D fo v → Calls Tryz.prog 212 #[.agg #[.int .u8 k, str n, v]] w fun e w' => e = .returned (.int .i64 ((fo.level + 1 : Nat) : Int)) ∧ Below w.heap.size w w' := by
 intro m
 induction m with
 | zero =>
  intro fo hl hm w D v k n hv;have hz : fo = .nil := by
   cases fo with
   | nil => rfl
   | cons pn k n sub rest => simp only [Fo.level] at hl; omega
  subst hz;obtain ⟨p, c, rfl, _⟩ := hv.shape;go_enter Tryz.func212, Tryz.ntmps212;go_wp2_with fail;have hbel := (Below.refl w.heap.size w).alloc (nl _) (.cells #[.int .u8 k, str n, .slice p Fo.nil.len c] 174);generalize w.alloc (.cells #[.int .u8 k, str n, .slice p Fo.nil.len c] 174) = W1 at *;go_loopw [3, 9] (fun a b wr => a = .int .i64 0 ∧ b = .int .i64 0 ∧ wr = W1) (fun _ _ _ => 0)
  case atStart => exact ⟨rfl, rfl, rfl⟩
  case round =>
   obtain ⟨rfl, rfl, rfl⟩ := hrel;go_wp2_with fail;exact bodyPost_ret (v := .int .i64 1) (by simp [results, Tryz.results212]) rfl ⟨rfl, hbel⟩
 | succ m ih =>
  intro fo hl hm w D v k n hv;have hlen := hv.len_le;obtain ⟨p, c, rfl, _⟩ := hv.shape;have IH := Lib.hid ih;clear ih;go_enter Tryz.func212, Tryz.ntmps212;go_wp2_with fail;have hbel := (Below.refl w.heap.size w).alloc (nl _) (.cells #[.int .u8 k, str n, .slice p fo.len c] 174);generalize w.alloc (.cells #[.int .u8 k, str n, .slice p fo.len c] 174) = W1 at *;go_loopw [3, 9] (fun a b wr => ∃ i : Nat, i ≤ fo.len ∧ a = .int .i64 (fo.levTo i) ∧ b = .int .i64 i ∧ Below w.heap.size w wr) (fun _ b _ => fo.len - (intOf b).toNat)
  case atStart => exact ⟨0, Nat.zero_le _, by cases fo <;> rfl, rfl, hbel⟩
  case round =>
   obtain ⟨i, hi, rfl, rfl, hb⟩ := hrel
   by_cases hlt : i < fo.len
   case pos =>
    obtain ⟨g, c', pn, t, u, e, _, hg, hat, x0, x1, x2, x3, hu⟩ := hv.at hlt;injection e with e1 _ e2;subst e1 e2;obtain ⟨p', c', rfl, _⟩ := hu.shape;have y0 := (hb.cell (by exact hg)).trans x0;have y1 := (hb.cell (by exact hg)).trans x1;have y2 := (hb.cell (by exact hg)).trans x2;have y3 := (hb.cell (by exact hg)).trans x3;clear x0 x1 x2 x3;have hlv := fo.at_level i pn t hat;have HS := Lib.hid (fo.levTo_succ i pn t hat);have hle := fo.levTo_le i;have hbA := hb.alloc hb.size (.cells #[.string ⟨pn.toArray⟩, .int .u8 t.k, .string ⟨t.n.toArray⟩, .slice p' t.sub.len c'] 192);go_wp2_with fail;refine (IH.out t.sub (by omega) (by omega) _ D _ t.k t.n (hu.below hbA (nl _))).mono ?_;rintro e w2 ⟨rfl, hb2⟩;have hb3 := hbA.trans (⟨hb2.os, hb2.tape, hb2.output, hb2.size, fun k hk => hb2.block k (by have := hbA.size; omega)⟩ : Below w.heap.size _ _);clear y0 y1 y2 y3 hb2 hbA;go_wp2_with fail;have hwi : wrap64 ((i : Int) + 1) = ((i + 1 : Nat) : Int) := by unfold wrap64; unfold maxLen at hlen; omega
    rw [hwi];refine ⟨⟨i + 1, hlt, ?_, rfl, hb3⟩, ?_⟩
    · rw [HS.out]; congr 1; omega
    · simp only [intOf, Int.toNat_natCast]; omega
   case neg =>
    have hie : i = fo.len := by omega
    have HL := Lib.hid (show fo.levTo i = fo.level by rw [hie]; exact fo.levTo_all);clear hie;go_wp2_with fail;refine bodyPost_ret (v := .int .i64 (wrap64 ((fo.levTo i : Int) + 1))) (by simp [results, Tryz.results212]) rfl ⟨?_, hb⟩;rw [HL.out];have : wrap64 ((fo.level : Int) + 1) = ((fo.level + 1 : Nat) : Int) := by unfold wrap64; omega
    rw [this]
end Go.Proofs.YtakgjcfkdemipaaGreatDoor
namespace Go.Proofs.YtakgjcfkdemipaaGreatDoor
open Go.RowKit
set_option maxRecDepth 4000 in
set_option maxHeartbeats 3200000 in
theorem kword_any (k : Nat) (n : List UInt8) (p : Option Addr) (l c : Nat) (w : World) : Calls Tryz.prog 235 #[.agg #[.int .u8 k, str n, .slice p l c]] w fun e w' => e = .returned (str (wordK k n)) ∧ Below w.heap.size w w' := by
 have hbel := (Below.refl w.heap.size w).alloc (nl _) (.cells #[.int .u8 k, str n, .slice p l c] 174)
 have e1 : ((k : Int) == 1) = decide (k = 1) := by rw [Bool.eq_iff_iff]; simp; omega
 have e2 : ((k : Int) == 2) = decide (k = 2) := by rw [Bool.eq_iff_iff]; simp; omega
 have e3 : ((k : Int) == 3) = decide (k = 3) := by rw [Bool.eq_iff_iff]; simp; omega
 have e4 : ((k : Int) == 4) = decide (k = 4) := by rw [Bool.eq_iff_iff]; simp; omega
 have e5 : ((k : Int) == 5) = decide (k = 5) := by rw [Bool.eq_iff_iff]; simp; omega
 have e6 : ((k : Int) == 6) = decide (k = 6) := by rw [Bool.eq_iff_iff]; simp; omega
 have e8 : ((k : Int) == 8) = decide (k = 8) := by rw [Bool.eq_iff_iff]; simp; omega
 go_enter Tryz.func235, Tryz.ntmps235
 go_wp2_with fail
 all_goals refine bodyPost_ret (v := str (wordK k n)) ?_ rfl ⟨rfl, hbel⟩
 all_goals simp [results, Tryz.results235, wordK, wInt, wBool, wNull, wArray, wRecord, wOneof, *]
end Go.Proofs.YtakgjcfkdemipaaGreatDoor
namespace Go.Proofs.YtakgjcfkdemipaaGreatDoor
open Go.RowKit
theorem join_eq : ∀ ss : List (List UInt8), Lib.join ss [44] = joinC ss
 | [] => rfl
 | [a] => by simp [Lib.join, joinC]
 | a :: b :: l => by
  have := join_eq (b :: l);rw [joinC, ← this];simp [Lib.join, List.intercalate]
theorem join_own (ss : List (List UInt8)) (v : Value) (w : World) (base : Nat) (h : w.ownsRow base 9 1 v ss.length (strsC ss)) (hlen : (joinC ss).length < 140737488355328) :
 Calls Tryz.prog 165 #[v, str [44]] w fun e w' => e = .returned (str (joinC ss)) ∧ Below w.heap.size w w' := by
 rcases h.2 with ⟨rfl, h0⟩ | ⟨g, cap, cur, rfl, hg, hh, h1, h2, h3, h4⟩
 · rw [List.length_eq_zero_iff] at h0
   subst h0;refine (Tryz.strings_Join_none none 0 ⟨#[44]⟩ w).mono ?_;rintro e w' ⟨rfl, rfl⟩;exact ⟨rfl, Below.refl _ _⟩
 · have hm : (ss.map fun s => (⟨s.toArray⟩ : ByteArray)).map (·.data.toList) = ss := by
    rw [List.map_map];exact (List.map_congr_left fun _ _ => rfl).trans (List.map_id ss)
   have hj : Lib.join ((ss.map fun s => (⟨s.toArray⟩ : ByteArray)).map (·.data.toList)) (⟨#[44]⟩ : ByteArray).data.toList = joinC ss := by
    rw [hm]; exact join_eq ss
   have hn : ss.length ≤ 140737488355328 := by
    have := joinC_len ss;omega
   have hcell := h.cells (g := g) rfl;have := Tryz.strings_Join g 0 cap (ss.map fun s => ⟨s.toArray⟩) ⟨#[44]⟩ w ?_ (Array.getElem?_eq_some_iff.1 hh).1 (by simpa using hn) (by simpa using h1) (by rw [hj]; omega)
   · rw [hj, List.length_map] at this
     exact this
   · intro j x hx
     rw [List.getElem?_map, Option.map_eq_some_iff] at hx;obtain ⟨s, hs, rfl⟩ := hx;have := hcell j (str s) (by simp [strsC, hs])
     rwa [show (⟨g, 0, none⟩ : Addr).add j = ⟨g, 0 + j, none⟩ from by unfold Addr.add; simp; omega] at this
end Go.Proofs.YtakgjcfkdemipaaGreatDoor
namespace Go.Proofs.YtakgjcfkdemipaaGreatDoor
open Go.RowKit
theorem Fo.put_cons (a : Tr) (pn : List UInt8) (k : Nat) (n : List UInt8) (sub rest : Fo) : (Fo.cons pn k n sub rest).put a = .cons pn ((Tr.mk k n sub).put a).k ((Tr.mk k n sub).put a).n ((Tr.mk k n sub).put a).sub (rest.put a) := by
 rw [Fo.put]
 unfold Tr.put
 split <;> rfl
def Fo.putTo (a : Tr) : Fo → Nat → Fo
 | fo, 0 => fo
 | .nil, _ + 1 => .nil
 | .cons pn k n sub rest, i + 1 => .cons pn ((Tr.mk k n sub).put a).k ((Tr.mk k n sub).put a).n ((Tr.mk k n sub).put a).sub (rest.putTo a i)
theorem Fo.putTo_all (a : Tr) : ∀ fo : Fo, fo.putTo a fo.len = fo.put a
 | .nil => rfl
 | .cons pn k n sub rest => by rw [Fo.len, Fo.putTo, Fo.putTo_all a rest, Fo.put_cons]
theorem Fo.putTo_len (a : Tr) : ∀ (fo : Fo) (i : Nat), (fo.putTo a i).len = fo.len
 | .nil, 0 => rfl
 | .nil, _ + 1 => rfl
 | .cons pn k n sub rest, 0 => rfl
 | .cons pn k n sub rest, i + 1 => by rw [Fo.putTo, Fo.len, Fo.putTo_len a rest i, Fo.len]
theorem Fo.putTo_at (a : Tr) : ∀ (fo : Fo) (i : Nat), (fo.putTo a i).at i = fo.at i
 | .nil, 0 => rfl
 | .nil, _ + 1 => rfl
 | .cons pn k n sub rest, 0 => rfl
 | .cons pn k n sub rest, i + 1 => by rw [Fo.putTo, Fo.at, Fo.putTo_at a rest i, Fo.at]
def Fo.setAt (t : Tr) : Fo → Nat → Fo
 | .nil, _ => .nil
 | .cons pn _ _ _ rest, 0 => .cons pn t.k t.n t.sub rest
 | .cons pn k n sub rest, i + 1 => .cons pn k n sub (rest.setAt t i)
theorem Fo.putTo_succ (a : Tr) : ∀ (fo : Fo) (i : Nat) (pn : List UInt8) (t : Tr), fo.at i = some (pn, t) → fo.putTo a (i + 1) = (fo.putTo a i).setAt (t.put a) i
 | .nil, _, _, _, h => by simp [Fo.at] at h
 | .cons pn' k n sub rest, 0, pn, t, h => by
  simp only [Fo.at, Option.some.injEq, Prod.mk.injEq] at h;obtain ⟨rfl, rfl⟩ := h;simp only [Fo.putTo, Fo.setAt]
 | .cons pn' k n sub rest, i + 1, pn, t, h => by
  rw [Fo.putTo, Fo.putTo_succ a rest i pn t h, Fo.putTo, Fo.setAt]
theorem FoC.setAt {w : World} {D : Nat → Prop} {t : Tr} {v : Value} (ht : FoV w D t.sub v) : ∀ (fo : Fo) (cs : List Value) (i : Nat), FoC w D fo cs → i < fo.len →
 FoC w D (fo.setAt t i) (((cs.set (i * 4 + 1) (.int .u8 t.k)).set (i * 4 + 2) (str t.n)).set (i * 4 + 3) v)
 | .nil, _, _, _, h => by simp [Fo.len] at h
 | .cons pn k n sub rest, _, 0, ⟨v', cs', sc, e, h1, h2, h3, h4⟩, _ => by
  obtain ⟨sc', g1, g2, g3⟩ := ht;rw [e];exact ⟨v, cs', sc', rfl, g1, g2, g3, h4⟩
 | .cons pn k n sub rest, _, i + 1, ⟨v', cs', sc, e, h1, h2, h3, h4⟩, hi => by
  have := FoC.setAt ht rest cs' i h4 (by simp only [Fo.len] at hi; omega);refine ⟨v', _, sc, ?_, h1, h2, h3, this⟩;rw [e];rw [show (i + 1) * 4 + 1 = (i * 4 + 1) + 1 + 1 + 1 + 1 from by omega, show (i + 1) * 4 + 2 = (i * 4 + 2) + 1 + 1 + 1 + 1 from by omega, show (i + 1) * 4 + 3 = (i * 4 + 3) + 1 + 1 + 1 + 1 from by omega];simp only [List.set_cons_succ]
def RowAt (wr : World) (base : Nat) (D : Nat → Prop) (fo : Fo) (v : Value) : Prop :=
 ∃ cs, wr.ownsRow base 192 4 v fo.len cs ∧ FoC wr (fun b => D b ∧ v.ownBlock ≠ some b) fo cs
theorem RowAt.kept {w w' : World} {base : Nat} {D : Nat → Prop} {fo : Fo} {v : Value} (h : RowAt w base D fo v) (hb : ∀ b, (D b ∨ base ≤ b) → b < w.heap.size → w'.heap[b]? = w.heap[b]?) : RowAt w' base D fo v := by
 obtain ⟨cs, h1, h2⟩ := h
 exact ⟨cs, ownsRow_of_block h1 (fun b e => hb b (.inr (h1.lt b e).1) (ownsRow_lt h1 e)), h2.kept fun b hb' hlt => hb b (.inl hb'.1) hlt⟩
theorem RowAt.below {B : Nat} {w w' : World} {base : Nat} {D : Nat → Prop} {fo : Fo} {v : Value} (h : RowAt w base D fo v) (hb : Below B w w') (hB : w.heap.size ≤ B) : RowAt w' base D fo v :=
 h.kept fun b _ hlt => hb.block b (by omega)
theorem RowAt.shape {w : World} {base : Nat} {D : Nat → Prop} {fo : Fo} {v : Value} (h : RowAt w base D fo v) : ∃ p c, v = .slice p fo.len c := by
 obtain ⟨cs, h1, h2⟩ := h
 exact row_shape h1
theorem RowAt.at {w : World} {base : Nat} {D : Nat → Prop} {fo : Fo} {v : Value} (h : RowAt w base D fo v) {i : Nat} (hi : i < fo.len) : ∃ g c pn t u, v = .slice (some ⟨g, 0, none⟩) fo.len c ∧ base ≤ g ∧ g < w.heap.size ∧ fo.at i = some (pn, t) ∧
 w.cell? ⟨g, i * 4, none⟩ = some (str pn) ∧ w.cell? ⟨g, i * 4 + 1, none⟩ = some (.int .u8 t.k) ∧ w.cell? ⟨g, i * 4 + 2, none⟩ = some (str t.n) ∧ w.cell? ⟨g, i * 4 + 3, none⟩ = some u ∧ FoV w (fun b => D b ∧ b ≠ g) t.sub u ∧ (∀ j, w.frozen? ⟨g, j, none⟩ = false) := by
 obtain ⟨cs, h1, h2⟩ := h
 obtain ⟨pn, t, u, a, b0, b1, b2, b3, c⟩ := h2.at fo cs i hi
 rcases h1.2 with ⟨rfl, hz⟩ | ⟨g, cap, cur, rfl, hb, hh, _, _⟩
 · omega
 · have hc : ∀ j x, cs[j]? = some x → w.cell? ⟨g, j, none⟩ = some x := by
    intro j x hx;have := h1.cells (g := g) rfl _ _ hx;simp only [Addr.add] at this;split at this
    · rename_i e; rw [e]; exact this
    · simpa using this
   exact ⟨g, cap, pn, t, u, rfl, hb, ownsRow_lt h1 rfl, a, hc _ _ b0, hc _ _ b1, hc _ _ b2, hc _ _ b3, c.mono (fun b hb _ => ⟨hb.1, fun e => hb.2 (by rw [e]; rfl)⟩), fun j => free_at hh j⟩
theorem RowAt.set {w : World} {base : Nat} {D : Nat → Prop} {fo : Fo} {g c : Nat} (h : RowAt w base D fo (.slice (some ⟨g, 0, none⟩) fo.len c)) {i : Nat} (hi : i < fo.len) {t : Tr} {v : Value} (ht : FoV w (fun b => D b ∧ b ≠ g) t.sub v) (_hn : base ≤ g) :
 RowAt (((w.setCell ⟨g, i * 4 + 1, none⟩ (.int .u8 t.k)).setCell ⟨g, i * 4 + 2, none⟩ (str t.n)).setCell ⟨g, i * 4 + 3, none⟩ v) base D (fo.setAt t i) (.slice (some ⟨g, 0, none⟩) fo.len c) := by
 obtain ⟨cs, h1, h2⟩ := h
 have hl : (fo.setAt t i).len = fo.len := by
  have : ∀ (fo : Fo) (i : Nat), (fo.setAt t i).len = fo.len := by
   intro fo
   induction fo with
   | nil => intro i; rfl
   | cons pn k n sub rest _ ih =>
    intro i;cases i with
    | zero => rfl
    | succ i => rw [Fo.setAt, Fo.len, ih, Fo.len]
  exact this fo i
 refine ⟨_, by rw [hl]; exact (((h1.stored (i * 4 + 1) (.int .u8 t.k)).1.stored (i * 4 + 2) (str t.n)).1.stored (i * 4 + 3) v).1, ?_⟩
 have h3 := FoC.setAt (t := t) (v := v) (ht.mono (D' := fun b => D b ∧ (Value.slice (some ⟨g, 0, none⟩) fo.len c).ownBlock ≠ some b) fun b hb _ => ⟨hb.1, fun e => hb.2 (by simpa [Value.ownBlock] using e.symm)⟩) fo cs i h2 hi
 refine h3.kept fun b hb _ => ?_
 have hne : b ≠ g := fun e => hb.2 (by rw [e]; rfl)
 rw [Below.heap_setCell _ _ _ _ hne, Below.heap_setCell _ _ _ _ hne, Below.heap_setCell _ _ _ _ hne]
end Go.Proofs.YtakgjcfkdemipaaGreatDoor
namespace Go.Proofs.YtakgjcfkdemipaaGreatDoor
open Go.RowKit
set_option maxRecDepth 4000 in
theorem catch_none (pb qb : Nat) (x0 x1 x2 y : Value) (tq : TypeId) (older : List PanicEntry) (w : World) (hP : w.heap[pb]? = some (.cells #[x0, x1, x2] 174 (0, 0))) (hQ : w.heap[qb]? = some (.cells #[y] tq (0, 0))) (hne : pb ≠ qb) :
 CallsD Tryz.prog 250 #[.pointer (some ⟨pb, 0, none⟩), .pointer (some ⟨qb, 0, none⟩)] (.panicking ({ v := .iface 250 (.agg #[]), recovered := false } :: older)) w fun e u' w' =>
  e = .returned (.tuple #[]) ∧ u' = .panicking ({ v := .iface 250 (.agg #[]), recovered := true } :: older) ∧ w' = ((((w.setCell ⟨pb, 0, none⟩ (.int .u8 0)).setCell ⟨pb, 1, none⟩ (str [])).setCell ⟨pb, 2, none⟩ (.slice none 0 0)).setCell ⟨qb, 0, none⟩ (.bool false)).alloc (.cells #[] 250) := by
 have hlP := (Array.getElem?_eq_some_iff.1 hP).1
 have hlQ := (Array.getElem?_eq_some_iff.1 hQ).1
 have c0 := (cells_at hP 0).trans rfl
 have c1 := (cells_at hP 1).trans rfl
 have c2 := (cells_at hP 2).trans rfl
 have d0 := (cells_at hQ 0).trans rfl
 have f0 := free_at hP 0
 have f1 := free_at hP 1
 have f2 := free_at hP 2
 have g0 := free_at hQ 0
 clear hP hQ
 have hta : ∀ w : World, Sem.run Tryz.prog (Instr.typeAssert (.iface 250 (.agg #[])) 20 250 true) w = .ok (.tuple #[.agg #[], .bool true]) w := fun _ => rfl
 refine callsD_of_wpS Tryz.func250 rfl fun c₀ cs hu => ?_
 apply wpS_seq
 apply wpS_region
 simp [wpOpsS, go_sem, recoverD, hu, Tryz.ntmps250, Exit.thenS]
 refine wpS_of_wp ?_
 simp only [List.replicate, Array.replicate, List.append_toArray, List.cons_append, List.nil_append, List.setIfInBounds_toArray, List.set_cons_zero, List.set_cons_succ]
 go_wp2
 exact ⟨rfl, _, rfl, _, by simp [results, Tryz.results250], rfl, rfl, rfl⟩
theorem catch_idle (pb qb : Nat) (w : World) :
 CallsD Tryz.prog 250 #[.pointer (some ⟨pb, 0, none⟩), .pointer (some ⟨qb, 0, none⟩)] .returning w fun e u' w' => e = .returned (.tuple #[]) ∧ u' = .returning ∧ w' = w := by
 refine callsD_of_wpS Tryz.func250 rfl fun c₀ cs hu => ?_
 apply wpS_seq
 apply wpS_region
 simp [wpOpsS, go_sem, recoverD, hu, Tryz.ntmps250, Exit.thenS]
 refine wpS_of_wp ?_
 simp only [List.replicate, Array.replicate, List.append_toArray, List.cons_append, List.nil_append, List.setIfInBounds_toArray, List.set_cons_zero, List.set_cons_succ]
 go_wp2
 exact ⟨rfl, _, by cases c₀; simp_all, _, by simp [results, Tryz.results250], rfl, rfl, rfl⟩
end Go.Proofs.YtakgjcfkdemipaaGreatDoor
