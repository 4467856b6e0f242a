/-
  Contracts: of the package face: ascend, said, needed. Condition: the number of texts; the variable strings.asciiSpace.
  Contracts: of the package face: said, needed. Condition: the number of texts; the variable strings.asciiSpace.
  Contracts: sig and raising of the package face, in the words of signatures; rows of operations that the call makes and appends to. No condition but on lengths.
-/
import Derived.Test.YtakgjcfkdemipaaGreatDoorYn
import Derived.Test.YtakgjcfkdemipaaGreatDoorY3
import Derived.Test.YtakgjcfkdemipaaGreatDoorY8
import Derived.Test.YtakgjcfkdemipaaGreatDoorY16
import Derived.Test.YtakgjcfkdemipaaGreatDoorY21
namespace Go.Proofs.YtakgjcfkdemipaaGreatDoor
open Go.RowKit
def ascP : Option (List UInt8) → List (List UInt8) → Bool
 | _, [] => true
 | p, a :: l => isName a && (p.all fun q => Op.bytesLess q a) && ascP (some a) l
theorem ascK_ascP : ∀ (l : List (List UInt8)) (a : List UInt8), ascK (a :: l) = (isName a && ascP (some a) l)
 | [], a => by simp [ascK, ascP]
 | b :: l, a => by
  rw [ascK, ascK_ascP l b, ascP];simp only [Option.all_some];cases isName a <;> cases isName b <;> cases Op.bytesLess a b <;> simp
theorem ascK_none (l : List (List UInt8)) : ascK l = ascP none l := by
 cases l with
 | nil => rfl
 | cons a l => rw [ascK_ascP, ascP]; simp
def prevN (l : List (List UInt8)) : Nat → Option (List UInt8)
 | 0 => none
 | i + 1 => l[i]?
set_option maxRecDepth 4000 in
set_option maxHeartbeats 3200000 in
theorem ascend_any {D : Nat → Prop} (l : List (List UInt8)) (v : Value) (w : World) (ht : Tab w) (hv : SS D w v l) :
 Calls Tryz.prog 138 #[v] w fun e w' => e = .returned (.bool (ascK l)) ∧ Below w.heap.size w w' := by
 obtain ⟨p, c, rfl, _, hm, hle⟩ := hv.shape
 unfold maxLen at hm
 have HL := Lib.hid hle
 clear hle
 go_enter Tryz.func138, Tryz.ntmps138
 go_wp2_with fail
 go_loopw [7] (fun y wx => ∃ i : Nat, i ≤ l.length ∧ y = .int .i64 i ∧ Below w.heap.size w wx ∧ Hid (ascK l = ascP (prevN l i) (l.drop i))) (fun y _ => l.length - (intOf y).toNat)
 case atStart => exact ⟨0, Nat.zero_le _, by go_num, Below.refl _ _, ascK_none l⟩
 case round =>
  obtain ⟨i, hi, rfl, hb, hA⟩ := hrel
  by_cases hlt : i < l.length
  case neg =>
   have HX := Lib.hid (show ascK l = true by rw [hA.out, List.drop_eq_nil_of_le (by omega)]; rfl);clear hA;go_wp2_with fail;go_ret;exact ⟨ret_bool HX.out.symm, hb⟩
  case pos =>
   obtain ⟨x, hkx⟩ : ∃ x, l[i]? = some x := ⟨_, List.getElem?_eq_getElem hlt⟩
   have hvx := hv.below hb (nl _);obtain ⟨b1, o1, rfl, _, c1⟩ := hvx.at hkx;have HN := tIsName_any x wr (ht.below hb (nl _)) (HL.out x (List.mem_of_getElem? hkx));have hd := hA.out;rw [fdrop_at hkx, ascP] at hd;clear hA;rcases hn : isName x with _ | _
   · rw [hn] at HN hd
     have HX := Lib.hid hd;clear hd hn hkx;go_wp2_with (go_at_call 88; refine HN.mono ?_; clear HN; rintro e w1 ⟨rfl, hb1⟩);go_ret;exact ⟨by rw [HX.out]; rfl, hb.trans (below_less hb1 hb.size)⟩
   · rw [hn] at HN hd
     cases i with
     | zero =>
      have HX := Lib.hid (show ascK l = ascP (prevN l 1) (l.drop 1) by rw [hd]; simp [prevN, hkx]);rw [Nat.add_zero] at c1;clear hd hn hkx;go_wp2_with (go_at_call 88; refine HN.mono ?_; clear HN; rintro e w1 ⟨rfl, hb1⟩);exact ⟨⟨1, by omega, by go_num, hb.trans (below_less hb1 hb.size), HX⟩, by simp only [intOf]; omega⟩
     | succ j =>
      have hj : j < l.length := by omega
      obtain ⟨y, hky⟩ : ∃ y, l[j]? = some y := ⟨_, List.getElem?_eq_getElem hj⟩
      obtain ⟨b2, o2, e2, _, c2⟩ := hvx.at hky;injection e2 with e2;injection e2 with e2 e3;subst e2 e3;rcases hl : Op.bytesLess y x with _ | _
      · have HX := Lib.hid (show ascK l = false by rw [hd, show prevN l (j + 1) = some y from hky]; simp [hl])
        clear hd hn hkx hky;go_wp2_with (go_at_call 88; refine HN.mono ?_; clear HN; rintro e w1 ⟨rfl, hb1⟩; have c2 := Below.keep hb1 c2);go_ret;exact ⟨by rw [HX.out]; rfl, hb.trans (below_less hb1 hb.size)⟩
      · have HX := Lib.hid (show ascK l = ascP (prevN l (j + 2)) (l.drop (j + 2)) by rw [hd, show prevN l (j + 1) = some y from hky]; simp [hl, prevN, hkx])
        clear hd hn hkx hky;go_wp2_with (go_at_call 88; refine HN.mono ?_; clear HN; rintro e w1 ⟨rfl, hb1⟩; have c2 := Below.keep hb1 c2);exact ⟨⟨j + 2, by omega, by go_num, hb.trans (below_less hb1 hb.size), HX⟩, by simp only [intOf]; omega⟩
def badTy (o : Bool) (t : List UInt8) : Bool := decide ((checkK t).1 ≠ 0) || (openK t && !o)
set_option maxRecDepth 4000 in
set_option maxHeartbeats 3200000 in
theorem said1_any (t : List UInt8) (o : Bool) (ob : Nat) (w : World) (ht : Tab w) (hl : t.length ≤ maxLen) (hc : w.cell? ⟨ob, 0, none⟩ = some (.bool o)) :
 Calls Tryz.prog 150 #[str t, .pointer (some ⟨ob, 0, none⟩)] w fun e w' => e = .returned (.bool (badTy o t)) ∧ Below w.heap.size w w' := by
 have HO := kopen_any t hl w ht
 unfold badTy
 have h0 : (checkK t).1 ≠ 0 → openK t = false := fun h => by unfold openK; rw [if_neg h]
 generalize (checkK t).1 = C at *
 generalize openK t = O at *
 by_cases hC : C = 0
 · subst hC
   cases O <;> cases o
   all_goals
    go_enter Tryz.func150, Tryz.ntmps150;go_wp2_with (go_at_call 117; refine HO.mono ?_; clear HO; rintro e w1 ⟨rfl, hb1⟩; have hc := Below.keep hb1 hc);go_ret;exact ⟨rfl, hb1⟩
 · obtain ⟨g1, g2⟩ := nat_ne0 hC
   obtain rfl := h0 hC;have HX := Lib.hid (show decide (C ≠ 0) = true by simpa using hC);clear hC h0;go_enter Tryz.func150, Tryz.ntmps150;go_wp2_with (go_at_call 117; refine HO.mono ?_; clear HO; rintro e w1 ⟨rfl, hb1⟩; have hc := Below.keep hb1 hc);go_ret;exact ⟨by rw [HX.out]; rfl, hb1⟩
def ixP {α : Type} (p : α → Bool) : List α → Nat → Int
 | [], _ => -1
 | x :: r, k => if p x then k else ixP p r (k + 1)
theorem ixP_pos {α : Type} (p : α → Bool) : ∀ (l : List α) (k : Nat), (0 ≤ ixP p l k) ↔ l.any p = true
 | [], k => by simp [ixP]
 | x :: r, k => by
  rw [ixP, List.any_cons];rcases h : p x with _ | _
  · simp only [Bool.false_eq_true, if_false, Bool.false_or]
    exact ixP_pos p r (k + 1)
  · simp
set_option maxRecDepth 4000 in
set_option maxHeartbeats 3200000 in
theorem index_said {D : Nat → Prop} (l : List (List UInt8)) (v : Value) (o : Bool) (ob : Nat) (w : World) (ht : Tab w) (hv : SS D w v l) (hc : w.cell? ⟨ob, 0, none⟩ = some (.bool o)) :
 Calls Tryz.prog 209 #[v, .func (.func 150) #[] #[.pointer (some ⟨ob, 0, none⟩)]] w fun e w' => e = .returned (.int .i64 (ixP (badTy o) l 0)) ∧ Below w.heap.size w w' := by
 obtain ⟨p, c, rfl, _, hm, hle⟩ := hv.shape
 unfold maxLen at hm
 have HL := Lib.hid hle
 clear hle
 go_enter Tryz.func209, Tryz.ntmps209
 go_wp2_with fail
 go_loopw [8] (fun a wr => ∃ i : Nat, i ≤ l.length ∧ a = .int .i64 i ∧ Below w.heap.size w wr ∧ Hid (ixP (badTy o) l 0 = ixP (badTy o) (l.drop i) i)) (fun a _ => l.length - (intOf a).toNat)
 case atStart => exact ⟨0, Nat.zero_le _, rfl, Below.refl _ _, rfl⟩
 case round =>
  obtain ⟨i, hi, rfl, hb, hA⟩ := hrel
  by_cases hlt : i < l.length
  case neg =>
   have HX := Lib.hid (show ixP (badTy o) l 0 = -1 by rw [hA.out, List.drop_eq_nil_of_le (by omega)]; rfl);clear hA;go_wp2_with fail;go_ret;exact ⟨by rw [HX.out]; rfl, hb⟩
  case pos =>
   obtain ⟨x, hkx⟩ : ∃ x, l[i]? = some x := ⟨_, List.getElem?_eq_getElem hlt⟩
   obtain ⟨b1, o1, rfl, _, c1⟩ := (hv.below hb (nl _)).at hkx;have HN := said1_any x o ob wr (ht.below hb (nl _)) (HL.out x (List.mem_of_getElem? hkx)) (Below.keep hb hc);have hd := hA.out;rw [fdrop_at hkx, ixP] at hd;clear hA hkx;rcases hn : badTy o x with _ | _
   · rw [hn] at HN hd
     have HX := Lib.hid (hd.trans (if_neg (by simp)));clear hd hn;go_wp2_with (go_at_call 150; refine HN.mono ?_; clear HN; rintro e w1 ⟨rfl, hb1⟩);exact ⟨⟨i + 1, by omega, by go_num, hb.trans (below_less hb1 hb.size), HX⟩, by simp only [intOf]; omega⟩
   · rw [hn] at HN hd
     have HX := Lib.hid (hd.trans (if_pos rfl));clear hd hn;go_wp2_with (go_at_call 150; refine HN.mono ?_; clear HN; rintro e w1 ⟨rfl, hb1⟩);go_ret;exact ⟨by rw [HX.out]; rfl, hb.trans (below_less hb1 hb.size)⟩
set_option maxRecDepth 4000 in
set_option maxHeartbeats 3200000 in
theorem contains_said {D : Nat → Prop} (l : List (List UInt8)) (v : Value) (o : Bool) (ob : Nat) (w : World) (ht : Tab w) (hv : SS D w v l) (hc : w.cell? ⟨ob, 0, none⟩ = some (.bool o)) :
 Calls Tryz.prog 149 #[v, .func (.func 150) #[] #[.pointer (some ⟨ob, 0, none⟩)]] w fun e w' => e = .returned (.bool (l.any (badTy o))) ∧ Below w.heap.size w w' := by
 have HI := index_said l v o ob w ht hv hc
 have HB := Lib.hid (ixP_pos (badTy o) l 0)
 obtain ⟨p, c, rfl, _⟩ := hv.shape
 clear hv
 generalize ixP (badTy o) l 0 = i at HI HB
 rcases hq : l.any (badTy o) with _ | _
 · have hn : i < 0 := by have := HB.out; rw [hq] at this; simp at this; exact this
   clear hq;go_enter Tryz.func149, Tryz.ntmps149;go_wp2_with (go_at_call 209; refine HI.mono ?_; rintro e w1 ⟨rfl, hb1⟩);go_ret;exact ⟨by first | (simp; done) | (simp; omega), hb1⟩
 · have hn : 0 ≤ i := by have := HB.out; rw [hq] at this; simpa using this
   clear hq;go_enter Tryz.func149, Tryz.ntmps149;go_wp2_with (go_at_call 209; refine HI.mono ?_; rintro e w1 ⟨rfl, hb1⟩);go_ret;exact ⟨by first | (simp; done) | (simp; omega), hb1⟩
set_option maxRecDepth 4000 in
set_option maxHeartbeats 3200000 in
theorem index_ss {D : Nat → Prop} (l : List (List UInt8)) (s : List UInt8) (v : Value) (w : World) (hv : SS D w v l) :
 Calls Tryz.prog 111 #[v, str s] w fun e w' => e = .returned (.int .i64 (ixP (fun x => s == x) l 0)) ∧ Below w.heap.size w w' := by
 obtain ⟨p, c, rfl, _, hm, _⟩ := hv.shape
 unfold maxLen at hm
 go_enter Tryz.func111, Tryz.ntmps111
 go_wp2_with fail
 go_loopw [8] (fun a wr => ∃ i : Nat, i ≤ l.length ∧ a = .int .i64 i ∧ Below w.heap.size w wr ∧ Hid (ixP (fun x => s == x) l 0 = ixP (fun x => s == x) (l.drop i) i)) (fun a _ => l.length - (intOf a).toNat)
 case atStart => exact ⟨0, Nat.zero_le _, rfl, Below.refl _ _, rfl⟩
 case round =>
  obtain ⟨i, hi, rfl, hb, hA⟩ := hrel
  by_cases hlt : i < l.length
  case neg =>
   have HX := Lib.hid (show ixP (fun x => s == x) l 0 = -1 by rw [hA.out, List.drop_eq_nil_of_le (by omega)]; rfl);clear hA;go_wp2_with fail;go_ret;exact ⟨by rw [HX.out]; rfl, hb⟩
  case pos =>
   obtain ⟨x, hkx⟩ : ∃ x, l[i]? = some x := ⟨_, List.getElem?_eq_getElem hlt⟩
   obtain ⟨b1, o1, rfl, _, c1⟩ := (hv.below hb (nl _)).at hkx;have hd := hA.out;rw [fdrop_at hkx, ixP] at hd;clear hA hkx;rcases hn : (s == x) with _ | _
   · simp only [hn] at hd
     have HX := Lib.hid (hd.trans (if_neg (by simp)));clear hd;go_wp2_with fail;exact ⟨⟨i + 1, by omega, by go_num, hb, HX⟩, by simp only [intOf]; omega⟩
   · simp only [hn] at hd
     have HX := Lib.hid (hd.trans (if_pos trivial));clear hd;go_wp2_with fail;go_ret;exact ⟨by rw [HX.out]; rfl, hb⟩
set_option maxRecDepth 4000 in
set_option maxHeartbeats 3200000 in
theorem contains_ss {D : Nat → Prop} (l : List (List UInt8)) (s : List UInt8) (v : Value) (w : World) (hv : SS D w v l) :
 Calls Tryz.prog 151 #[v, str s] w fun e w' => e = .returned (.bool (l.any fun x => s == x)) ∧ Below w.heap.size w w' := by
 have HI := index_ss l s v w hv
 have HB := Lib.hid (ixP_pos (fun x => s == x) l 0)
 obtain ⟨p, c, rfl, _⟩ := hv.shape
 clear hv
 generalize ixP (fun x => s == x) l 0 = i at HI HB
 rcases hq : l.any (fun x => s == x) with _ | _
 · have hn : i < 0 := by have := HB.out; rw [hq] at this; simp at this; exact this
   clear hq;go_enter Tryz.func151, Tryz.ntmps151;go_wp2_with (go_at_call 111; refine HI.mono ?_; rintro e w1 ⟨rfl, hb1⟩);go_ret;exact ⟨by first | (simp; done) | (simp; omega), hb1⟩
 · have hn : 0 ≤ i := by have := HB.out; rw [hq] at this; simpa using this
   clear hq;go_enter Tryz.func151, Tryz.ntmps151;go_wp2_with (go_at_call 111; refine HI.mono ?_; rintro e w1 ⟨rfl, hb1⟩);go_ret;exact ⟨by first | (simp; done) | (simp; omega), hb1⟩
end Go.Proofs.YtakgjcfkdemipaaGreatDoor
namespace Go.Proofs.YtakgjcfkdemipaaGreatDoor
open Go.RowKit
theorem saidK_eq (s : SigP) (o : Bool) : saidK s o = (decide (s.args.length ≤ 6) && (decide (s.sigs.length ≤ 6) && (ascK s.sigs && (!(s.iter && decide (s.res = [])) && !(typesK s).any (badTy o))))) := by
 unfold saidK
 have : (typesK s).all (fun t => decide ((checkK t).1 = 0) && (!openK t || o)) = !(typesK s).any (badTy o) := by
  induction typesK s with
  | nil => rfl
  | cons t l ih =>
   rw [List.all_cons, List.any_cons, ih];unfold badTy
   by_cases h : (checkK t).1 = 0 <;> cases openK t <;> cases o <;> simp [h]
 rw [this]
 simp only [Bool.and_assoc]
theorem types_empty (s : SigP) (o : Bool) (h : (typesK s).any (badTy o) = false) : s.args.any (fun x => ([] : List UInt8) == x) = false := by
 rw [List.any_eq_false] at h ⊢
 intro x hx he
 have h0 : x = [] := by
  have : ([] : List UInt8) = x := by simpa using he
  exact this.symm
 subst h0
 refine h [] ?_ ?_
 · unfold typesK
   exact List.mem_append_left _ hx
 · unfold badTy
   rw [show (checkK []).1 = 4 from by decide +kernel]
   rfl
theorem box1 {w : World} {b : Nat} {a0 : Value} {t : TypeId} (h : w.heap[b]? = some (.cells #[a0] t (0, 0))) : w.cell? ⟨b, 0, none⟩ = some a0 ∧ w.frozen? ⟨b, 0, none⟩ = false := ⟨(cells_at h 0).trans rfl, free_at h 0⟩
set_option maxRecDepth 8000 in
set_option maxHeartbeats 6400000 in
theorem said_any {D : Nat → Prop} (x : Value) (s : SigP) (o : Bool) (w : World) (ht : Tab w) (hx : SigV D w x s) :
 Calls Tryz.prog 89 #[x, .bool o] w fun e w' => e = .returned (.bool (saidK s o)) ∧ Below w.heap.size w w' := by
 rw [saidK_eq]
 have hTE := types_empty s o
 have HT := fun W x (h : SigV D W x s) (h1 : s.args.length ≤ 100000) => types_any x s W h h1
 generalize typesK s = T at *
 obtain ⟨av, sv, rfl, hr, ha, hs⟩ := hx
 have HA := fun W (hW : Below w.heap.size w W) => ascend_any _ _ W (ht.below hW (nl _)) (hs.below hW (nl _))
 have HS := fun W (hW : Below w.heap.size w W) => (⟨av, sv, rfl, hr, ha.below hW (nl _), hs.below hW (nl _)⟩ : SigV D W (.agg #[.bool s.iter, av, str s.res, sv]) s)
 have HC := fun W (hW : Below w.heap.size w W) => contains_ss s.args [] av W (ha.below hW (nl _))
 obtain ⟨p1, c1, rfl, _⟩ := ha.shape
 obtain ⟨p2, c2, rfl, _⟩ := hs.shape
 obtain ⟨it, ar, re, sg⟩ := s
 dsimp only at *
 have hA := ((Below.refl _ w).alloc (nl _) (.cells #[.bool it, .slice p1 ar.length c1, str re, .slice p2 sg.length c2] 36))
 have hB := hA.alloc (by simp) (.cells #[.bool o] 4)
 have hg := heap_up (.cells #[.bool o] 4) (heap_alloc_new w (.cells #[.bool it, .slice p1 ar.length c1, str re, .slice p2 sg.length c2] 36))
 have hg2 := heap_to (w := w.alloc (.cells #[.bool it, .slice p1 ar.length c1, str re, .slice p2 sg.length c2] 36)) (n := w.heap.size + 1) (by simp) #[.bool o] 4
 clear ha hs
 by_cases h1 : ar.length ≤ 6
 case neg =>
  have g1 : (6 : Int) < (ar.length : Int) := by omega
  have HX := Lib.hid (show decide (ar.length ≤ 6) = false by simpa using h1);clear h1;go_enter Tryz.func89, Tryz.ntmps89;go_wp2_with fail;go_ret;exact ⟨by rw [HX.out]; rfl, hB⟩
 case pos =>
 have g1 : ¬ (6 : Int) < (ar.length : Int) := by omega
 have HX1 := Lib.hid (show decide (ar.length ≤ 6) = true by simpa using h1)
 have h1' : Hid (ar.length ≤ 100000) := show ar.length ≤ 100000 by omega
 clear h1
 by_cases h2 : sg.length ≤ 6
 case neg =>
  have g2 : (6 : Int) < (sg.length : Int) := by omega
  have HX := Lib.hid (show decide (sg.length ≤ 6) = false by simpa using h2);clear h2;go_enter Tryz.func89, Tryz.ntmps89;go_wp2_with fail;go_ret;exact ⟨by rw [HX.out]; simp, hB⟩
 case pos =>
 have g2 : ¬ (6 : Int) < (sg.length : Int) := by omega
 have HX2 := Lib.hid (show decide (sg.length ≤ 6) = true by simpa using h2)
 clear h2
 have HA := HA _ hB
 rcases h3 : ascK sg with _ | _
 · rw [h3] at HA
   clear h3;go_enter Tryz.func89, Tryz.ntmps89;go_wp2_with (go_at_call 138; refine HA.mono ?_; clear HA; rintro e w1 ⟨rfl, hb1⟩);go_ret;exact ⟨by simp, hB.trans (below_less hb1 (by simp; omega))⟩
 rw [h3] at HA
 clear h3
 by_cases h4 : it = true ∧ re = []
 · obtain ⟨rfl, rfl⟩ := h4
   go_enter Tryz.func89, Tryz.ntmps89;go_wp2_with (go_at_call 138; refine HA.mono ?_; clear HA; rintro e w1 ⟨rfl, hb1⟩; have hg := kept_call hg hb1; have bx := (box4 hg).1);go_ret;exact ⟨by simp, hB.trans (below_less hb1 (by simp; omega))⟩
 have HX4 := Lib.hid (show (!(it && decide (re = []))) = true by
  cases it
  · rfl
  · have : re ≠ [] := fun e => h4 ⟨rfl, e⟩
    simpa using this)
 have h5 : it = false ∨ (it = true ∧ re.isEmpty = false) := by
  cases it
  · exact .inl rfl
  · exact .inr ⟨rfl, by simpa using fun e => h4 ⟨rfl, e⟩⟩
 clear h4
 have HSb := HS
 rcases h6 : T.any (badTy o) with _ | _
 · have HTE := Lib.hid (hTE h6)
   clear hTE;have HC' := fun W hW => (HC W hW)
   rcases h5 with rfl | ⟨rfl, h5⟩
   all_goals
    go_enter Tryz.func89, Tryz.ntmps89;go_wp2_with (first
     | (go_at_call 138; refine HA.mono ?_; clear HA; rintro e w1 ⟨rfl, hb1⟩; have hB := hB.trans (below_less hb1 (by simp; omega)); have hg := kept_call hg hb1; have hg2 := kept_call hg2 hb1; have bx := (box4 hg).1)
     | (go_at_call 92; refine (HT _ _ (HS _ hB) h1'.out).mono ?_; clear HT; rintro e w2 ⟨v2, rfl, hv2, hb2⟩; have hB := hB.trans (below_less hb2 hB.size); have hg := kept_call hg hb2; have hg2 := kept_call hg2 hb2; have bx := (box4 hg).1; obtain ⟨p3, c3, rfl, _⟩ := hv2.shape)
     | (go_at_call 149; refine (contains_said _ _ o (w.heap.size + 1) _ (ht.below hB (nl _)) hv2 (box1 hg2).1).mono ?_; rw [h6]; rintro e w3 ⟨rfl, hb3⟩; have hB := hB.trans (below_less hb3 hB.size); have hg := kept_call hg hb3; have bx := (box4 hg).1)
     | (go_at_call 151; refine (HC _ hB).mono ?_; rw [HTE.out]; rintro e w4 ⟨rfl, hb4⟩; have hB := hB.trans (below_less hb4 hB.size)))
    go_ret;exact ⟨by rw [HX1.out, HX2.out, HX4.out]; rfl, hB⟩
 · rcases h5 with rfl | ⟨rfl, h5⟩
   all_goals
    go_enter Tryz.func89, Tryz.ntmps89;go_wp2_with (first
     | (go_at_call 138; refine HA.mono ?_; clear HA; rintro e w1 ⟨rfl, hb1⟩; have hB := hB.trans (below_less hb1 (by simp; omega)); have hg := kept_call hg hb1; have hg2 := kept_call hg2 hb1; have bx := (box4 hg).1)
     | (go_at_call 92; refine (HT _ _ (HS _ hB) h1'.out).mono ?_; clear HT; rintro e w2 ⟨v2, rfl, hv2, hb2⟩; have hB := hB.trans (below_less hb2 hB.size); have hg := kept_call hg hb2; have hg2 := kept_call hg2 hb2; have bx := (box4 hg).1; obtain ⟨p3, c3, rfl, _⟩ := hv2.shape)
     | (go_at_call 149; refine (contains_said _ _ o (w.heap.size + 1) _ (ht.below hB (nl _)) hv2 (box1 hg2).1).mono ?_; rw [h6]; rintro e w3 ⟨rfl, hb3⟩; have hB := hB.trans (below_less hb3 hB.size); have hg := kept_call hg hb3; have bx := (box4 hg).1))
    go_ret;exact ⟨by first | rfl | simp, hB⟩
theorem cell_one_at {w : World} {n : Nat} (hn : w.heap.size = n) (x : Value) (t : TypeId) : ∀ j u, [x][j]? = some u → (w.alloc (.cells #[x] t)).cell? ((⟨n, 0, none⟩ : Addr).add j) = some u := by
 subst hn
 exact cell_one_new _ _ _
theorem grown_heap {w w' : World} {row : Option Nat} (h : w.grownBy w' row) {b : Nat} {o : Obj} (hb : w.heap[b]? = some o) (hn : row ≠ some b) : w'.heap[b]? = some o :=
 (h.block b (heap_lt hb) (fun e => hn e.symm)).trans hb
theorem neededK_eq (l : List OpP) : neededK l = (l.all (fun n => saidK n.sig true) && (decide (l.length ≤ 4) && ascK (l.map (·.name)))) := by unfold neededK; rw [Bool.and_assoc]
set_option maxRecDepth 8000 in
set_option maxHeartbeats 6400000 in
theorem needed_any {D : Nat → Prop} (l : List OpP) (v : Value) (w : World) (ht : Tab w) (hv : OpsM D w v l) (hn : l.length ≤ 100000) :
 Calls Tryz.prog 78 #[v] w fun e w' => e = .returned (.bool (neededK l)) ∧ Below w.heap.size w w' := by
 obtain ⟨i0, hi0, hz0, hz1, hz2⟩ := finfo_parts finfoStr
 obtain ⟨p, c, rfl, _, hm, hle⟩ := hv.shape
 unfold maxLen at hm
 have HL := Lib.hid hle
 rw [neededK_eq]
 clear hle
 go_enter Tryz.func78, Tryz.ntmps78
 go_wp2_with fail
 go_loopw [3, 8] (fun a y wx => ∃ i : Nat, i ≤ l.length ∧ y = .int .i64 i ∧ wx.ownsRow w.heap.size 9 1 a i (strsC ((l.take i).map (·.name))) ∧ Below w.heap.size w wx ∧ Hid (l.all (fun n => saidK n.sig true) = (l.drop i).all (fun n => saidK n.sig true))) (fun _ y _ => l.length - (intOf y).toNat)
 case atStart => exact ⟨0, Nat.zero_le _, by go_num, World.ownsRow_nil _ _ _ _, Below.refl _ _, rfl⟩
 case round =>
  obtain ⟨i, hi, rfl, ho, hb, hA⟩ := hrel;obtain ⟨pr, cr, rfl⟩ := row_shape ho
  by_cases hlt : i < l.length
  case neg =>
   have hie : i = l.length := by omega
   subst hie;rw [List.take_length] at ho;have HX := Lib.hid (show l.all (fun n => saidK n.sig true) = true by rw [hA.out, List.drop_eq_nil_of_le (nl _)]; rfl);clear hA;have hN : (l.map (·.name)).length = l.length := by simp
   have hss : SS (fun b => w.heap.size ≤ b) wr (.slice pr l.length cr) (l.map (·.name)) := SS.of_own (by rw [hN]; exact ho) (by
    intro s hs;obtain ⟨x, hx, rfl⟩ := List.mem_map.1 hs;exact (HL.out x hx).1) (fun b hb => (ho.lt b hb).1)
   have HA := ascend_any _ _ wr (ht.below hb (nl _)) hss;obtain ⟨r, hr⟩ : ∃ r, r = ascK (l.map (·.name)) := ⟨_, rfl⟩
   rw [← hr] at HA;have HR := Lib.hid hr;clear hr
   by_cases h4 : l.length ≤ 4
   · have g : (l.length : Int) ≤ 4 := by omega
     have HD := Lib.hid (show decide (l.length ≤ 4) = true by simpa using h4);clear h4;go_wp2_with (go_at_call 138; refine HA.mono ?_; clear HA; rintro e w1 ⟨rfl, hb1⟩);go_ret;exact ⟨by rw [HX.out, HD.out, ← HR.out]; simp, hb.trans (below_less hb1 hb.size)⟩
   · have g : ¬ (l.length : Int) ≤ 4 := by omega
     have HD := Lib.hid (show decide (l.length ≤ 4) = false by simpa using h4);clear h4;go_wp2_with fail;go_ret;exact ⟨by rw [HX.out, HD.out]; simp, hb⟩
  case pos =>
   obtain ⟨x, hkx⟩ : ∃ x, l[i]? = some x := ⟨_, List.getElem?_eq_getElem hlt⟩
   obtain ⟨b1, o1, av, sv, rfl, _, hxl, ha, hs, d0, d1, d2, d3, d4⟩ := hv.at hkx;have d0 := Below.keep hb d0;have d1 := Below.keep hb d1;have d2 := Below.keep hb d2;have d3 := Below.keep hb d3;have d4 := Below.keep hb d4;have hd := hA.out;rw [fdrop_at hkx, List.all_cons] at hd;have HT := Lib.hid (show strsC ((l.take i).map (·.name)) ++ [str x.name] = strsC ((l.take (i + 1)).map (·.name)) by rw [List.take_add_one, hkx]; simp [strsC]);clear hA hkx;have HS := fun W (hW : Below w.heap.size w W) => said_any (.agg #[.bool x.sig.iter, av, str x.sig.res, sv]) x.sig true W (ht.below hW (nl _)) ⟨av, sv, rfl, hxl.2, ha.below hW (nl _), hs.below hW (nl _)⟩
   obtain ⟨pa, ca, rfl, _⟩ := ha.shape;obtain ⟨ps, cs, rfl, _⟩ := hs.shape;have hbB := (hb.alloc hb.size (.cells #[str x.name, .bool x.sig.iter, .slice pa x.sig.args.length ca, str x.sig.res, .slice ps x.sig.sigs.length cs] 79)).alloc (by have := hb.size; simp; omega) (.cells #[str x.name] 9);have hg := heap_up (.cells #[str x.name] 9) (heap_alloc_new wr (.cells #[str x.name, .bool x.sig.iter, .slice pa x.sig.args.length ca, str x.sig.res, .slice ps x.sig.sigs.length cs] 79));have hrow : (Value.slice pr i cr).ownBlock ≠ some wr.heap.size := fun e => by have := ownsRow_lt ho e; omega
   have hlen : ((l.take i).map (·.name)).length = i := by rw [List.length_map, List.length_take]; omega
   have hbase : w.heap.size ≤ wr.heap.size := hb.size;have HCE := cell_one_at (w := wr.alloc (.cells #[str x.name, .bool x.sig.iter, .slice pa x.sig.args.length ca, str x.sig.res, .slice ps x.sig.sigs.length cs] 79)) (n := wr.heap.size + 1) (by simp) (str x.name) 9;have HO := (ho.alloc (.cells #[str x.name, .bool x.sig.iter, .slice pa x.sig.args.length ca, str x.sig.res, .slice ps x.sig.sigs.length cs] 79)).alloc (.cells #[str x.name] 9);clear hlen ha hs;rcases hn2 : saidK x.sig true with _ | _
   · rw [hn2] at HS hd
     have HX := Lib.hid hd;clear hd hn2;go_wp2_with (first
      | (at_builtin; refine wpList_append_own _ rfl _ _ 34 rfl w.heap.size 9 i0 _ 1 16 underStrs hi0 hz0 hz1 hz2 rfl (by decide) _ _ _ rfl HO ⟨wr.heap.size + 1, 0, none⟩ 1 1 [str x.name] rfl rfl HCE (by intro u hu; rw [List.mem_singleton.1 hu]; rfl) (by unfold maxLen; omega) (by omega) (by simp; omega) ?_; intro v' w3 hown4 hgr _; have hg := grown_heap hgr hg hrow; have bx := (box5 hg).1; have hW := hbB.grown hgr (by simp; omega) (fun k e => (ho.lt k e).1))
      | (go_at_call 89; refine (HS _ hW).mono ?_; clear HS; rintro e w4 ⟨rfl, hb4⟩))
     go_ret;exact ⟨by rw [HX.out]; rfl, hW.trans (below_less hb4 hW.size)⟩
   · rw [hn2] at HS hd
     have HX := Lib.hid hd;clear hd hn2;go_wp2_with (first
      | (at_builtin; refine wpList_append_own _ rfl _ _ 34 rfl w.heap.size 9 i0 _ 1 16 underStrs hi0 hz0 hz1 hz2 rfl (by decide) _ _ _ rfl HO ⟨wr.heap.size + 1, 0, none⟩ 1 1 [str x.name] rfl rfl HCE (by intro u hu; rw [List.mem_singleton.1 hu]; rfl) (by unfold maxLen; omega) (by omega) (by simp; omega) ?_; intro v' w3 hown4 hgr _; have hg := grown_heap hgr hg hrow; have bx := (box5 hg).1; have hW := hbB.grown hgr (by simp; omega) (fun k e => (ho.lt k e).1))
      | (go_at_call 89; refine (HS _ hW).mono ?_; clear HS; rintro e w4 ⟨rfl, hb4⟩))
     rw [HT.out] at hown4;refine ⟨⟨i + 1, by omega, by go_num, ownsRow_below hown4 hb4 (nl _), hW.trans (below_less hb4 hW.size), ?_⟩, by simp only [intOf]; omega⟩;have := HX.out
     simpa [Hid] using this
end Go.Proofs.YtakgjcfkdemipaaGreatDoor
namespace Go.Proofs.YtakgjcfkdemipaaGreatDoor
open Go.RowKit
def OwnO (B : Nat) (w : World) (v : Value) (l : List OpP) : Prop := ∃ cs, w.ownsRow B 50 5 v l.length cs ∧ OpsC (fun b => v.ownBlock ≠ some b) w cs l
theorem OwnO.below {B K : Nat} {w w' : World} {v : Value} {l : List OpP} (h : OwnO B w v l) (hb : Below K w w') (hK : w.heap.size ≤ K) : OwnO B w' v l := by
 obtain ⟨cs, h1, h2⟩ := h
 exact ⟨cs, ownsRow_below h1 hb hK, h2.below hb hK⟩
theorem OwnO.shape {B : Nat} {w : World} {v : Value} {l : List OpP} (h : OwnO B w v l) : ∃ p c, v = .slice p l.length c := by
 obtain ⟨cs, h1, _⟩ := h
 exact row_shape h1
theorem OwnO.opsM {B : Nat} {w : World} {v : Value} {l : List OpP} (h : OwnO B w v l) : OpsM (fun _ => True) w v l := by
 obtain ⟨cs, h1, h2⟩ := h
 exact OpsM.of_own h1 (fun _ _ => trivial) (h2.mono fun _ _ => trivial)
theorem OwnO.nil (B : Nat) (w : World) : OwnO B w (.slice none 0 0) [] := ⟨[], World.ownsRow_nil _ _ _ _, rfl⟩
theorem OpsC.one_cell {D : Nat → Prop} {w : World} : ∀ {l : List OpP} {cs : List Value}, OpsC D w cs l → ∀ u ∈ cs, u.oneCell' = true
 | [], _, h => by rw [show _ = _ from h]; intro u hu; cases hu
 | x :: l, _, ⟨a, s, r, h1, _, h2, h3, h4⟩ => by
  subst h1;obtain ⟨p1, c1, rfl, _⟩ := h2;obtain ⟨p2, c2, rfl, _⟩ := h3;intro u hu;simp only [List.mem_cons] at hu;rcases hu with rfl | rfl | rfl | rfl | rfl | hu
  · rfl
  · rfl
  · rfl
  · rfl
  · rfl
  · exact OpsC.one_cell h4 u hu
theorem OpsC.fresh {D : Nat → Prop} {w : World} : ∀ {l : List OpP} {cs : List Value}, OpsC D w cs l → OpsC (fun b => D b ∧ b < w.heap.size) w cs l
 | [], _, h => h
 | _ :: _, _, ⟨a, s, r, h1, h0, h2, h3, h4⟩ => ⟨a, s, r, h1, h0, h2.fresh, h3.fresh, OpsC.fresh h4⟩
theorem OpsC.agree {D : Nat → Prop} {w w' : World} (hk : ∀ b, D b → b < w.heap.size → w'.heap[b]? = w.heap[b]?) : ∀ {l : List OpP} {cs : List Value}, OpsC D w cs l → OpsC D w' cs l
 | [], _, h => h
 | _ :: _, _, ⟨a, s, r, h1, h0, h2, h3, h4⟩ => ⟨a, s, r, h1, h0, h2.agree hk, h3.agree hk, OpsC.agree hk h4⟩
theorem OpsC.length {D : Nat → Prop} {w : World} : ∀ {l : List OpP} {cs : List Value}, OpsC D w cs l → cs.length = l.length * 5
 | [], _, h => by rw [show _ = _ from h]; rfl
 | _ :: _, _, ⟨a, s, r, h1, _, _, _, h4⟩ => by rw [h1]; simp only [List.length_cons, OpsC.length h4]; omega
theorem own_newO {D : Nat → Prop} {B n : Nat} (w : World) (hB : B ≤ w.heap.size) {l : List OpP} {cs : List Value} (hn : l.length = n) (hm : n ≤ maxLen) (hc : OpsC D w cs l) : OwnO B (w.alloc (.cells cs.toArray 50)) (.slice (some ⟨w.heap.size, 0, none⟩) n n) l := by
 subst hn
 have hb := (Below.refl _ w).alloc (nl _) (.cells cs.toArray 50)
 refine ⟨cs, ⟨hc.length, .inr ⟨w.heap.size, l.length, cs.toArray, rfl, hB, heap_alloc_new w _, nl _, hm, by simpa using hc.length, by rw [← hc.length]; simp⟩⟩, ?_⟩
 exact (hc.fresh.below hb (nl _)).mono fun b hb e => by
  simp only [Value.ownBlock, Option.some.injEq] at e;omega
theorem OwnO.append {B : Nat} {W W' : World} {v v' : Value} {l k : List OpP} {ds cs : List Value} (hC : OpsC (fun b => v.ownBlock ≠ some b) W cs l) (hk : OpsC (fun b => v.ownBlock ≠ some b) W ds k) (h' : W'.ownsRow B 50 5 v' (l.length + k.length) (cs ++ ds)) (hg : W.grownBy W' v.ownBlock) (ho : v'.ownBlock = v.ownBlock ∨ v'.ownBlock = some W.heap.size) : OwnO B W' v' (l ++ k) := by
 refine ⟨cs ++ ds, by rw [List.length_append]; exact h', ?_⟩
 have key : ∀ {l : List OpP} {cs : List Value}, OpsC (fun b => v.ownBlock ≠ some b) W cs l → OpsC (fun b => v'.ownBlock ≠ some b) W' cs l := by
  intro l cs hc;refine (hc.fresh.agree (w' := W') fun b hb hlt => hg.block b hlt fun e => hb.1 e.symm).mono fun b hb e => ?_
  rcases ho with ho | ho
  · exact hb.1 (by rw [← ho]; exact e)
  · rw [ho] at e
    injection e with e;omega
 exact OpsC.append (key hk) (key hC)
theorem sig_sig {D : Nat → Prop} (r : List UInt8) (L : List (List UInt8)) (v : Value) (w : World) (hv : SS D w v L) (hr : r.length ≤ maxLen) :
 Calls Tryz.prog 239 #[str r, v] w fun e w' => ∃ u, e = .returned u ∧ SigV D w' u ⟨false, L, r, []⟩ ∧ Below w.heap.size w w' := by
 obtain ⟨p, c, e, _⟩ := hv.shape
 refine (sig_any r v w ⟨p, _, c, e⟩).mono ?_
 rintro e w' ⟨rfl, hb⟩
 exact ⟨_, rfl, ⟨_, _, rfl, hr, hv.below hb (nl _), SS.nil _ _ _ _⟩, hb⟩
theorem raising_sig {D : Nat → Prop} (x : Value) (s : SigP) (g : List UInt8) (w : World) (hx : SigV D w x s) (hg : g.length ≤ maxLen) (hD : ∀ b, w.heap.size ≤ b → D b) :
 Calls Tryz.prog 240 #[x, str g] w fun e w' => ∃ u, e = .returned u ∧ SigV D w' u ⟨s.iter, s.args, s.res, [g]⟩ ∧ Below w.heap.size w w' := by
 have hx' := hx
 obtain ⟨a, q, e, h1, h2, h3⟩ := hx'
 refine (raising_any x s g w hx hg).mono ?_
 rintro e' w' ⟨v, rfl, ⟨a', q', e2, t, rfl, ht⟩, hb⟩
 rw [e] at e2
 simp only [Value.agg.injEq, Array.mk.injEq, List.cons.injEq, true_and, and_true] at e2
 obtain ⟨rfl, rfl⟩ := e2
 exact ⟨_, rfl, ⟨_, _, rfl, h1, h2.below hb (nl _), ht.mono hD⟩, hb⟩
theorem own_step {w W w5 : World} {v v' : Value} {L : List OpP} {x : OpP} {cs ds : List Value} (o : Obj) (hB : Below w.heap.size w W)
 (hcs : W.ownsRow w.heap.size 50 5 v L.length cs) (hC : OpsC (fun b => v.ownBlock ≠ some b) W cs L) (hd : OpsC (fun b => v.ownBlock ≠ some b) W ds [x])
 (h5 : w5.ownsRow w.heap.size 50 5 v' (L.length + 1) (cs ++ ds)) (hg : (W.alloc o).grownBy w5 v.ownBlock) (ho : v'.ownBlock = v.ownBlock ∨ v'.ownBlock = some (W.alloc o).heap.size) :
 OwnO w.heap.size w5 v' (L ++ [x]) ∧ Below w.heap.size w w5 ∧ (∀ b, b < W.heap.size → v.ownBlock ≠ some b → w5.heap[b]? = W.heap[b]?) ∧ ∀ b, v'.ownBlock = some b → v.ownBlock = some b ∨ W.heap.size < b := by
 have hA := (Below.refl W.heap.size W).alloc (nl _) o
 refine ⟨OwnO.append (hC.below hA (nl _)) (hd.below hA (nl _)) h5 hg ho, (hB.alloc hB.size o).grown hg (by have := hB.size; simp; omega) (fun k e => (hcs.lt k e).1), ?_, ?_⟩
 · intro b hb hn
   rw [hg.block b (by simp; omega) (fun e => hn e.symm)];exact hA.block b hb
 · intro b hb
   rcases ho with h | h
   · exact .inl (h ▸ hb)
   · rw [h] at hb
     injection hb with hb;simp at hb;exact .inr (by omega)
theorem row_other {B : Nat} {e t : TypeId} {n : Nat} {w : World} {v : Value} {xs : List Value} (h : w.ownsRow B e 5 v n xs) {b : Nat} {cs : Array Value} (hb : w.heap[b]? = some (.cells cs t (0, 0))) (hne : e ≠ t) : v.ownBlock ≠ some b := by
 intro hv
 rcases h.2 with ⟨rfl, _⟩ | ⟨g, cap, cur, rfl, _, hg, _⟩
 · cases hv
 · simp only [Value.ownBlock, Option.some.injEq] at hv
   subst hv;rw [hb] at hg;injection hg with hg;injection hg with _ ht _;exact hne ht.symm
theorem cell_lt {w : World} {b o : Nat} {u : Value} (h : w.cell? ⟨b, o, none⟩ = some u) : b < w.heap.size := by
 apply Classical.byContradiction
 intro hn
 unfold World.cell? at h
 rw [show w.heap[b]? = none from Array.getElem?_eq_none (by omega)] at h
 simp at h
end Go.Proofs.YtakgjcfkdemipaaGreatDoor
