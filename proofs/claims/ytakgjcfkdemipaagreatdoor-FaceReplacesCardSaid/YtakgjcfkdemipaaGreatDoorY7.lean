/-
  Contracts: reserved words and names, the program's (token.IsName and what it calls) and the reference's (argusref01.IsName and what it calls).
  Contracts: the reference reads a type (argusref03.read, argusref03.parts): how many bytes and how many levels. Condition: the text's length and the depth are small.
  Contracts: reserved words and names as the program has them (token.Words, reserved, IsWord, IsName). Condition: strings.asciiSpace holds its table.
  Contracts: the small functions with which the program reads a type ((*kind.text).take, kind.wordKind, the closure need). No condition but on lengths.
-/
import Derived.Laws.RangeAny
import Derived.Shelf.Abstract
import Derived.WalkSmall
import Derived.Test.YtakgjcfkdemipaaGreatDoorYn
import Derived.Test.YtakgjcfkdemipaaGreatDoorY0
import Derived.Test.YtakgjcfkdemipaaGreatDoorY6
namespace Go.Proofs.YtakgjcfkdemipaaGreatDoor
open Go.RowKit
theorem name_cases (s : List UInt8) : (s = [] ∧ isName s = false) ∨ (∃ h : 0 < s.length, (12 < s.length ∧ isName s = false) ∨ (s.length ≤ 12 ∧
 (((((s[0]).toNat : Int) < 97 ∨ (122 : Int) < ((s[0]).toNat : Int)) ∧ isName s = false) ∨ ((97 : Int) ≤ ((s[0]).toNat : Int) ∧ ((s[0]).toNat : Int) ≤ 122 ∧
  ((cutN s ≠ s.length ∧ isName s = false) ∨ (cutN s = s.length ∧ ((isWord s = true ∧ isName s = false) ∨ (isWord s = false ∧ isName s = true)))))))) := by
 cases s with
 | nil => exact .inl ⟨rfl, rfl⟩
 | cons c r =>
  refine .inr ⟨by simp, ?_⟩;simp only [List.getElem_cons_zero]
  by_cases h1 : (c :: r).length ≤ 12
  · refine .inr ⟨h1, ?_⟩
    by_cases h2 : low c = true
    · have h2' := h2
      simp only [low, Bool.and_eq_true, decide_eq_true_eq] at h2';refine .inr ⟨by omega, by omega, ?_⟩
      by_cases h3 : cutN (c :: r) = (c :: r).length
      · refine .inr ⟨h3, ?_⟩
        cases h4 : isWord (c :: r)
        · exact .inr ⟨rfl, by simp only [isName, h1, h2, h3, h4]; rfl⟩
        · exact .inl ⟨rfl, by simp only [isName, h1, h2, h3, h4]; rfl⟩
      · exact .inl ⟨h3, by simp only [isName, h1, h2, h3]; simp⟩
    · have h2' := h2
      simp only [low, Bool.and_eq_true, decide_eq_true_eq] at h2';simp only [Bool.not_eq_true] at h2;refine .inl ⟨by omega, by simp only [isName, h2]; simp⟩
  · exact .inl ⟨by omega, by simp only [isName]; simp at h1 ⊢; intro h; omega⟩
end Go.Proofs.YtakgjcfkdemipaaGreatDoor
namespace Go.Proofs.YtakgjcfkdemipaaGreatDoor
open Go.RowKit
def rdN (s : List UInt8) : Nat := match parseT s with | some (_, r) => s.length - r.length | none => 0
theorem beq_f {α : Type} [BEq α] [LawfulBEq α] {a b : α} (h : a ≠ b) : (a == b) = false := by simpa using h
theorem kindB_facts {w : List UInt8} : (kindB w = 4 ∧ w = [97, 114, 114, 97, 121]) ∨ (kindB w = 5 ∧ w = [114, 101, 99, 111, 114, 100]) ∨ (kindB w = 6 ∧ w = [111, 110, 101, 111, 102]) ∨
 (kindB w = 0 ∧ (w == [97, 114, 114, 97, 121]) = false ∧ (w == [114, 101, 99, 111, 114, 100]) = false ∧ (w == [111, 110, 101, 111, 102]) = false) := by
 unfold kindB
 by_cases h1 : w = wArray
 · exact .inl ⟨by rw [if_pos h1], h1⟩
 · by_cases h2 : w = wRecord
   · exact .inr (.inl ⟨by rw [if_neg h1, if_pos h2], h2⟩)
   · by_cases h3 : w = wOneof
     · exact .inr (.inr (.inl ⟨by rw [if_neg h1, if_neg h2, if_pos h3], h3⟩))
     · exact .inr (.inr (.inr ⟨by rw [if_neg h1, if_neg h2, if_neg h3], beq_f h1, beq_f h2, beq_f h3⟩))
theorem name_pos {w : List UInt8} (h : isName w = true) : 1 ≤ w.length := by
 cases w with
 | nil => simp [isName] at h
 | cons => simp
end Go.Proofs.YtakgjcfkdemipaaGreatDoor
namespace Go.Proofs.YtakgjcfkdemipaaGreatDoor
open Go.RowKit
def Tab (w : World) : Prop := Lib.TabIs Tryz.prog w "strings.asciiSpace" .u8 Lib.asciiSpaceTab
theorem gTab : Tryz.prog.globalNamed "strings.asciiSpace" = some 1 := by kernel_rfl
theorem Tab.below {B : Nat} {w w' : World} (h : Tab w) (hb : Below B w w') (hB : w.heap.size ≤ B) : Tab w' := by
 have hlt : 1 < w.heap.size := by
  have h' := h;unfold Tab Lib.TabIs World.var? at h';rw [gTab] at h';simp only [Option.bind_some] at h';rcases hk : w.heap[1]? with _ | o
  · rw [hk] at h'; simp at h'
  · exact (Array.getElem?_eq_some_iff.1 hk).1
 exact var?_below hb gTab (by omega) h
def wordsT : List UInt8 := [97, 110, 100, 32, 97, 114, 114, 97, 121, 32, 98, 101, 103, 105, 110, 32, 98, 111, 111, 108, 32, 98, 114, 101, 97, 107, 32, 99, 108, 117, 115, 116, 101, 114, 32, 100, 111, 32, 100, 111, 119, 110, 32, 101, 108, 115, 101, 32, 101, 108, 115, 101, 105, 102, 32, 101, 110, 100, 32, 101, 120, 99, 101, 112, 116, 32, 102, 97, 108, 115, 101, 32, 102, 111, 114, 32, 104, 97, 115, 32, 105, 102, 32, 105, 110, 32, 105, 110, 116, 32, 105, 115, 32, 105, 116, 101, 114, 32, 109, 111, 100, 32, 110, 105, 108, 32, 110, 111, 116, 32, 110, 117, 108, 108, 32, 111, 110, 101, 111, 102, 32, 111, 114, 32, 111, 116, 104, 101, 114, 115, 32, 112, 114, 111, 99, 32, 112, 117, 116, 32, 114, 101, 99, 111, 114, 100, 32, 114, 101, 112, 32, 114, 101, 116, 117, 114, 110, 32, 114, 101, 116, 117, 114, 110, 115, 32, 115, 105, 103, 110, 97, 108, 32, 115, 105, 103, 110, 97, 108, 115, 32, 116, 97, 103, 32, 116, 97, 103, 99, 97, 115, 101, 32, 116, 104, 101, 110, 32, 116, 114, 117, 101, 32, 117, 112, 32, 118, 97, 114, 32, 119, 104, 101, 110, 32, 119, 104, 101, 114, 101, 32, 119, 104, 105, 108, 101, 32, 121, 105, 101, 108, 100, 32, 121, 105, 101, 108, 100, 115]
theorem wordsT_fields : Lib.fields wordsT = wordsL := by decide +kernel
theorem wordsT_ascii : ∀ (j : Nat) (b : UInt8), wordsT[j]? = some b → b.toNat < 128 := by
 have h : (wordsT.all fun b => decide (b.toNat < 128)) = true := by decide +kernel
 intro j b hj
 simpa using List.all_eq_true.1 h b (List.mem_of_getElem? hj)
set_option maxRecDepth 100000 in
theorem fields_words (w : World) (ht : Tab w) : Calls Tryz.prog 273 #[.string ⟨#[97, 110, 100, 32, 97, 114, 114, 97, 121, 32, 98, 101, 103, 105, 110, 32, 98, 111, 111, 108, 32, 98, 114, 101, 97, 107, 32, 99, 108, 117, 115, 116, 101, 114, 32, 100, 111, 32, 100, 111, 119, 110, 32, 101, 108, 115, 101, 32, 101, 108, 115, 101, 105, 102, 32, 101, 110, 100, 32, 101, 120, 99, 101, 112, 116, 32, 102, 97, 108, 115, 101, 32, 102, 111, 114, 32, 104, 97, 115, 32, 105, 102, 32, 105, 110, 32, 105, 110, 116, 32, 105, 115, 32, 105, 116, 101, 114, 32, 109, 111, 100, 32, 110, 105, 108, 32, 110, 111, 116, 32, 110, 117, 108, 108, 32, 111, 110, 101, 111, 102, 32, 111, 114, 32, 111, 116, 104, 101, 114, 115, 32, 112, 114, 111, 99, 32, 112, 117, 116, 32, 114, 101, 99, 111, 114, 100, 32, 114, 101, 112, 32, 114, 101, 116, 117, 114, 110, 32, 114, 101, 116, 117, 114, 110, 115, 32, 115, 105, 103, 110, 97, 108, 32, 115, 105, 103, 110, 97, 108, 115, 32, 116, 97, 103, 32, 116, 97, 103, 99, 97, 115, 101, 32, 116, 104, 101, 110, 32, 116, 114, 117, 101, 32, 117, 112, 32, 118, 97, 114, 32, 119, 104, 101, 110, 32, 119, 104, 101, 114, 101, 32, 119, 104, 105, 108, 101, 32, 121, 105, 101, 108, 100, 32, 121, 105, 101, 108, 100, 115]⟩] w fun e w' => e = .returned (.slice (some ⟨w.heap.size, 0, none⟩) 46 46) ∧ w' = w.alloc (.cells (strsC wordsL).toArray 9) := by
 have hf := Tryz.strings_Fields ⟨wordsT.toArray⟩ w (by decide +kernel) wordsT_ascii ht
 have he : wordsL.length = 46 := by decide
 rw [show (⟨wordsT.toArray⟩ : ByteArray).data.toList = wordsT from rfl, wordsT_fields, he] at hf
 exact hf
set_option maxRecDepth 100000 in
theorem tWords_any (w : World) (ht : Tab w) : Calls Tryz.prog 249 #[] w fun e w' => e = .returned (.slice (some ⟨w.heap.size, 0, none⟩) 46 46) ∧ w' = w.alloc (.cells (strsC wordsL).toArray 9) := by
 have hf := fields_words w ht
 go_enter Tryz.func249, Tryz.ntmps249
 go_wp2_with fail
 refine hf.mono ?_
 rintro e w1 ⟨rfl, rfl⟩
 go_wp2_with fail
 go_ret
 exact ⟨rfl, rfl⟩
theorem wordsL_small : ∀ x ∈ wordsL, x.length ≤ 12 := by
 have h : (wordsL.all fun x => decide (x.length ≤ 12)) = true := by decide +kernel
 intro x hx
 simpa using List.all_eq_true.1 h x hx
theorem take_snoc' {α : Type} (l : List α) (k : Nat) (x : α) (h : l[k]? = some x) : l.take (k + 1) = l.take k ++ [x] := by
 obtain ⟨hk, rfl⟩ := List.getElem?_eq_some_iff.1 h
 exact List.take_succ_eq_append_getElem hk
set_option maxRecDepth 100000 in
set_option maxHeartbeats 800000 in
theorem reserved_any (w : World) (ht : Tab w) : Calls Tryz.prog 208 #[] w fun e w' => e = .returned (.map (some w.heap.size)) ∧ SetMap w' w.heap.size wordsL ∧ Below w.heap.size w w' := by
 have hmm := @run_makeMap Tryz.prog
 have hl : wordsL.length = 46 := by decide
 have Hl := Lib.hid hl
 clear hl
 go_enter Tryz.func208, Tryz.ntmps208
 go_wp2_with fail
 refine (tWords_any _ (ht.below (B := w.heap.size) ((Below.refl _ _).alloc (nl _) _) (nl _))).mono ?_
 rintro e w1 ⟨rfl, rfl⟩
 go_wp2_with fail
 have h0 : SetMap ((w.alloc (.map #[] 0)).alloc (.cells (strsC wordsL).toArray 9)) w.heap.size [] := (SetMap.made w).kept (World.grownBy_alloc _ _ none) (by simp)
 have h1 : ((w.alloc (.map #[] 0)).alloc (.cells (strsC wordsL).toArray 9)).heap[w.heap.size + 1]? = some (.cells (strsC wordsL).toArray 9) := by
  have := heap_alloc_new (w.alloc (.map #[] 0)) (.cells (strsC wordsL).toArray 9)
  rwa [World.size_alloc] at this
 have h2 : Below w.heap.size w ((w.alloc (.map #[] 0)).alloc (.cells (strsC wordsL).toArray 9)) := ((Below.refl _ _).alloc (nl _) _).alloc (by simp) _
 have hs : w.heap.size + 1 < ((w.alloc (.map #[] 0)).alloc (.cells (strsC wordsL).toArray 9)).heap.size := by simp
 generalize (w.alloc (.map #[] 0)).alloc (.cells (strsC wordsL).toArray 9) = W at *
 go_loopw [3, 7] (fun _ i wr => ∃ k : Nat, k ≤ 46 ∧ i = .int .i64 k ∧ SetMap wr w.heap.size (wordsL.take k) ∧ wr.heap[w.heap.size + 1]? = some (.cells (strsC wordsL).toArray 9) ∧ Below w.heap.size w wr) (fun _ i _ => 46 - (intOf i).toNat)
 case atStart => exact ⟨0, by omega, rfl, h0, h1, h2⟩
 case round =>
  obtain ⟨k, hk, rfl, hset, hcells, hnx⟩ := hrel
  by_cases hlt : k < 46
  · obtain ⟨x, hx⟩ : ∃ x, wordsL[k]? = some x := ⟨wordsL[k]'(by rw [Hl.out]; exact hlt), List.getElem?_eq_getElem _⟩
    have hc : wr.cell? ⟨w.heap.size + 1, k, none⟩ = some (str x) := by rw [cells_at hcells]; simp [strsC, hx]
    have HT := Lib.hid (take_snoc' wordsL k x hx);have hxl := wordsL_small x (List.mem_of_getElem? hx);clear hx;go_wp2_with (at_mapUpdate; refine wpList_set_add _ rfl _ _ _ rfl w.heap.size (wordsL.take k) rfl hset (by rw [List.length_take]; unfold maxLen; omega) x rfl rfl (by unfold maxLen; omega) ?_; intro w1 hset1 hgrow1; clear hc)
    go_roundw
    case rel => exact ⟨k + 1, by omega, by go_num, by rw [HT.out]; exact hset1, (hgrow1.block _ (Array.getElem?_eq_some_iff.1 hcells).1 (by simp)).trans hcells, hnx.grown hgrow1 hnx.size (by intro j hj; cases hj; exact nl _)⟩
    case measure => simp [intOf]; omega
  · have HT : Hid (wordsL.take k = wordsL) := List.take_of_length_le (by rw [Hl.out]; omega)
    go_wp2
    go_ret;rw [HT.out] at hset;exact ⟨rfl, hset, hnx⟩
theorem tIsWord_any (s : List UInt8) (w : World) (ht : Tab w) (hl : s.length ≤ maxLen) : Calls Tryz.prog 148 #[str s] w fun e w' => e = .returned (.bool (isWord s)) ∧ Below w.heap.size w w' := by
 go_enter Tryz.func148, Tryz.ntmps148
 go_wp2_with fail
 refine (reserved_any _ ht).mono ?_
 rintro e w1 ⟨rfl, hset, hb⟩
 have hlk := hset.look hl
 go_wp2
 go_ret
 exact ⟨rfl, hb⟩
def badRune (x : Nat) : Bool := decide (126 < x) || !alnum (UInt8.ofNat x)
theorem badRune_big {x : Nat} (h : 126 < x) : badRune x = true := by simp [badRune, h]
theorem badRune_small {x : Nat} (h : x ≤ 126) : badRune x = !alnum (UInt8.ofNat x) := by simp [badRune]; omega
theorem alnum_ofNat {x : Nat} (h : x ≤ 126) : alnum (UInt8.ofNat x) = (decide (97 ≤ x) && decide (x ≤ 122) || decide (48 ≤ x) && decide (x ≤ 57)) := by
 have : (UInt8.ofNat x).toNat = x := by simp; omega
 unfold alnum
 rw [this]
theorem bad_any (x : Nat) (W : World) : Calls Tryz.prog 146 #[.int .i32 x] W fun e w' => e = .returned (.bool (badRune x)) ∧ W = w' := by
 rcases (show (126 < x) ∨ (x ≤ 126 ∧ ((97 ≤ x ∧ x ≤ 122) ∨ (48 ≤ x ∧ x ≤ 57) ∨ (x < 48) ∨ (57 < x ∧ x < 97) ∨ (122 < x))) from by omega) with h | ⟨h, h1⟩
 · have H := Lib.hid (badRune_big h)
   go_enter Tryz.func146, Tryz.ntmps146
   go_wp2
   go_ret;exact ⟨ret_bool H.out.symm, rfl⟩
 · have H := Lib.hid (badRune_small h)
   have H2 := Lib.hid (alnum_ofNat h);rcases h1 with ⟨h1, h2⟩ | ⟨h1, h2⟩ | h1 | ⟨h1, h2⟩ | h1
   all_goals
    go_enter Tryz.func146, Tryz.ntmps146
    go_wp2
    go_ret;refine ⟨ret_bool ?_, rfl⟩; rw [H.out, H2.out, Bool.eq_iff_iff]; simp; omega
theorem alnum_ascii {c : UInt8} (h : alnum c = true) : c.toNat ≤ 122 := by
 simp only [alnum, Bool.or_eq_true, Bool.and_eq_true, decide_eq_true_eq] at h; omega
theorem cutN_get : ∀ (l : List UInt8) (k : Nat) (h : k < l.length), k < cutN l → alnum l[k] = true
 | [], k, h, _ => by simp at h
 | c :: l, 0, _, hc => by
  rw [cutN_cons] at hc;split at hc
  · simpa
  · omega
 | c :: l, k + 1, h, hc => by
  rw [cutN_cons] at hc;split at hc
  · simpa using cutN_get l k (by simpa using h) (by omega)
  · omega
theorem cutN_not : ∀ (l : List UInt8) (h : cutN l < l.length), alnum l[cutN l] = false
 | [], h => by simp at h
 | c :: l, h => by
  by_cases hc : alnum c = true
  · have e : cutN (c :: l) = cutN l + 1 := by rw [cutN_cons, if_pos hc]
    have h' := cutN_not l (by rw [e] at h; simpa using h);simp only [e, List.getElem_cons_succ];exact h'
  · have e : cutN (c :: l) = 0 := by rw [cutN_cons, if_neg hc]
    simp only [e, List.getElem_cons_zero]
    simpa using hc
theorem idx_from (s : List UInt8) : ∀ (f pos : Nat), pos ≤ cutN s → s.length ≤ pos + f → Lib.idxFuncFrom badRune true ⟨s.toArray⟩ f pos = if cutN s = s.length then -1 else (cutN s : Int)
 | 0, pos, h1, h2 => by
  have := cutN_le s;rw [if_pos (by omega)]; rfl
 | f + 1, pos, h1, h2 => by
  have hle := cutN_le s;unfold Lib.idxFuncFrom;have hsz : (⟨s.toArray⟩ : ByteArray).size = s.length := by simp [ByteArray.size]
  by_cases hp : pos < s.length
  · rw [if_pos (by rw [hsz]; exact hp)]
    have hp' : pos < (⟨s.toArray⟩ : ByteArray).size := by rw [hsz]; exact hp
    by_cases hc : pos < cutN s
    · have ha := cutN_get s pos hp hc
      have hb := alnum_ascii ha;rw [decode_ascii _ pos hp' (by show (s[pos]).toNat < 128; omega)];have e : badRune (s[pos]).toNat = false := by
       rw [badRune_small (by omega)];simp [ha]
      have e2 : badRune ((⟨s.toArray⟩ : ByteArray)[pos]'hp').toNat = false := e;simp only [e2, Bool.false_eq_true, if_false];exact idx_from s f (pos + 1) (by omega) (by omega)
    · have hm : pos = cutN s := by omega
      subst hm;have ha := cutN_not s hp;have e : badRune (Utf8.decode ⟨s.toArray⟩ (cutN s)).1 = true := by
       by_cases hb : (s[cutN s]).toNat < 128
       · rw [decode_ascii _ _ hp' hb]
         show badRune (s[cutN s]).toNat = true
         by_cases h126 : 126 < (s[cutN s]).toNat
         · exact badRune_big h126
         · rw [badRune_small (by omega)]; simp [ha]
       · exact badRune_big (by have := (decode_high _ _ hp' (by show 128 ≤ (s[cutN s]).toNat; omega)).1; omega)
      rw [if_pos e, if_neg (by omega)]
  · rw [if_neg (by rw [hsz]; exact hp), if_pos (by omega)]
theorem idx_eq (s : List UInt8) : Lib.idxFunc badRune true ⟨s.toArray⟩ = if cutN s = s.length then -1 else (cutN s : Int) :=
 idx_from s _ 0 (by omega) (by simp [ByteArray.size])
theorem bad_pred (w : World) : PredAt Tryz.prog 146 #[] encR badRune w := fun W x _ => by
 refine (bad_any x W).mono ?_
 rintro e w' ⟨he, rfl⟩
 exact ⟨he, 0, rfl⟩
theorem index_any (s : List UInt8) (w : World) : Calls Tryz.prog 145 #[str s, .func (.func 146) #[] #[]] w fun e w' => e = .returned (.int .i64 (if cutN s = s.length then -1 else (cutN s : Int))) ∧ Below w.heap.size w w' := by
 rw [← idx_eq]
 exact Tryz.strings_IndexFunc 146 #[] (enters_of Tryz.func146 (by kernel_rfl) rfl) badRune ⟨s.toArray⟩ w (bad_pred w)
theorem index_yes (s : List UInt8) (w : World) (h : cutN s = s.length) : Calls Tryz.prog 145 #[str s, .func (.func 146) #[] #[]] w fun e w' => e = .returned (.int .i64 (-1)) ∧ Below w.heap.size w w' := by
 have := index_any s w
 rwa [if_pos h] at this
theorem index_no (s : List UInt8) (w : World) (h : cutN s ≠ s.length) : Calls Tryz.prog 145 #[str s, .func (.func 146) #[] #[]] w fun e w' => e = .returned (.int .i64 (cutN s : Int)) ∧ Below w.heap.size w w' := by
 have := index_any s w
 rwa [if_neg h] at this
set_option maxHeartbeats 800000 in
theorem tIsName_any (s : List UInt8) (w : World) (ht : Tab w) (hl : s.length ≤ maxLen) : Calls Tryz.prog 88 #[str s] w fun e w' => e = .returned (.bool (isName s)) ∧ Below w.heap.size w w' := by
 have hl' := hl
 unfold maxLen at hl'
 rcases name_cases s with ⟨rfl, hn⟩ | ⟨h0, ⟨h1, hn⟩ | ⟨h1, ⟨h2, hn⟩ | ⟨h2, h3, ⟨h4, hn⟩ | ⟨h4, ⟨h5, hn⟩ | ⟨h5, hn⟩⟩⟩⟩⟩
 · have HN := Lib.hid hn
   clear hn;go_enter Tryz.func88, Tryz.ntmps88;go_wp2_with fail;go_ret;exact ⟨ret_bool HN.out.symm, Below.refl _ _⟩
 · have HN := Lib.hid hn
   clear hn;go_enter Tryz.func88, Tryz.ntmps88;go_wp2_with fail;go_ret;exact ⟨ret_bool HN.out.symm, Below.refl _ _⟩
 · have HN := Lib.hid hn
   clear hn;rcases h2 with h2 | h2
   all_goals
    go_enter Tryz.func88, Tryz.ntmps88
    go_wp2
    go_ret;exact ⟨ret_bool HN.out.symm, Below.refl _ _⟩
 · have HN := Lib.hid hn
   have H4 := Lib.hid h4;have hc2 : ¬ (cutN s : Int) < 0 := by omega
   clear hn h4;go_enter Tryz.func88, Tryz.ntmps88;go_wp2_with (first | (go_at_call 145; refine (index_no _ _ H4.out).mono ?_; rintro e w1 ⟨rfl, hb⟩) | (go_at_call 144; go_in));go_ret;exact ⟨ret_bool HN.out.symm, hb⟩
 all_goals
  have HN := Lib.hid hn;have H4 := Lib.hid h4;clear hn h4;go_enter Tryz.func88, Tryz.ntmps88;go_wp2_with (first | (go_at_call 145; refine (index_yes _ _ H4.out).mono ?_; rintro e w1 ⟨rfl, hb⟩) | (go_at_call 144; go_in) | (go_at_call 148; refine (tIsWord_any _ _ (ht.below hb (nl _)) hl).mono ?_; rintro e w2 ⟨rfl, hb2⟩));go_ret;exact ⟨ret_bool HN.out.symm, hb.trans (hb2.mono hb.size)⟩
end Go.Proofs.YtakgjcfkdemipaaGreatDoor
namespace Go.Proofs.YtakgjcfkdemipaaGreatDoor
open Go.RowKit
@[go_sem] theorem bytes_append (a b : List UInt8) : (⟨a.toArray⟩ : ByteArray) ++ ⟨b.toArray⟩ = ⟨(a ++ b).toArray⟩ := by
 apply ByteArray.ext
 simp
def Kept (b : Nat) (w w' : World) : Prop := w.grownBy w' (some b)
theorem Kept.refl (b : Nat) (w : World) : Kept b w w := ⟨rfl, rfl, rfl, nl _, fun _ _ _ => rfl⟩
theorem Kept.trans {b : Nat} {w1 w2 w3 : World} (h : Kept b w1 w2) (k : Kept b w2 w3) : Kept b w1 w3 :=
 ⟨k.os.trans h.os, k.tape.trans h.tape, k.output.trans h.output, Nat.le_trans h.size k.size, fun i hi hne => (k.block i (Nat.lt_of_lt_of_le hi h.size) hne).trans (h.block i hi hne)⟩
theorem Kept.of_below {b B : Nat} {w w' : World} (h : Below B w w') (hB : w.heap.size ≤ B) : Kept b w w' :=
 ⟨h.os, h.tape, h.output, h.size, fun i hi _ => h.block i (by omega)⟩
theorem Kept.setCell (w : World) (b o : Nat) (u : Value) : Kept b w (w.setCell ⟨b, o, none⟩ u) :=
 ⟨rfl, rfl, rfl, by simp [World.setCell], fun i _ hne => Below.heap_setCell _ _ _ _ (fun e => hne (by rw [e]))⟩
theorem Kept.alloc (b : Nat) (w : World) (o : Obj) : Kept b w (w.alloc o) := World.grownBy_alloc w o _
theorem Kept.drew {b : Nat} {w w' : World} (h : Kept b w w') : Kept b w w'.drew := ⟨h.os, h.tape, h.output, h.size, h.block⟩
theorem Kept.cell {b : Nat} {w w' : World} (h : Kept b w w') {a : Addr} {v : Value} (hc : w.cell? a = some v) (hne : a.block ≠ b) : w'.cell? a = some v :=
 World.grownBy.cell h hc (fun e => hne (Option.some.inj e))
theorem Kept.heap {b : Nat} {w w' : World} (h : Kept b w w') {k : Nat} {o : Obj} (hc : w.heap[k]? = some o) (hne : k ≠ b) : w'.heap[k]? = some o :=
 (h.block k (Array.getElem?_eq_some_iff.1 hc).1 (fun e => hne (Option.some.inj e))).trans hc
theorem Tab.kept {b : Nat} {w w' : World} (h : Tab w) (k : Kept b w w') (hne : b ≠ 1) : Tab w' := by
 have h' := h
 unfold Tab Lib.TabIs World.var? at h' ⊢
 rw [gTab] at h' ⊢
 simp only [Option.bind_some] at h' ⊢
 rcases hk : w.heap[1]? with _ | o
 · rw [hk] at h'; simp at h'
 · rw [k.heap hk (Ne.symm hne)]
   rw [hk] at h';exact h'
theorem trimPrefix_app (p r : List UInt8) : Lib.hasPrefix (p ++ r) p = true ∧ Lib.trimPrefix (p ++ r) p = r := by
 have : Lib.hasPrefix (p ++ r) p = true := by unfold Lib.hasPrefix; simp
 exact ⟨this, by unfold Lib.trimPrefix; rw [if_pos this]; simp⟩
theorem cut_yes (p r : List UInt8) (w : World) : Calls Tryz.prog 274 #[str (p ++ r), str p] w fun e w' => e = .returned (.tuple #[str r, .bool true]) ∧ w' = w := by
 have h := Tryz.strings_CutPrefix ⟨(p ++ r).toArray⟩ ⟨p.toArray⟩ w
 obtain ⟨h1, h2⟩ := trimPrefix_app p r
 simp only at h
 rw [h1, h2] at h
 exact h
theorem cut_no (s p : List UInt8) (w : World) (hn : Lib.hasPrefix s p = false) : Calls Tryz.prog 274 #[str s, str p] w fun e w' => e = .returned (.tuple #[str s, .bool false]) ∧ w' = w := by
 have h := Tryz.strings_CutPrefix ⟨s.toArray⟩ ⟨p.toArray⟩ w
 have h2 : Lib.trimPrefix s p = s := by unfold Lib.trimPrefix; rw [if_neg (by rw [hn]; simp)]
 simp only at h
 rw [hn, h2] at h
 exact h
theorem take_yes (p r : List UInt8) (b : Nat) (w : World) (hc : w.cell? ⟨b, 0, none⟩ = some (str (p ++ r))) (hf : w.frozen? ⟨b, 0, none⟩ = false) :
 Calls Tryz.prog 253 #[.pointer (some ⟨b, 0, none⟩), str p] w fun e w' => e = .returned (.bool true) ∧ w' = w.setCell ⟨b, 0, none⟩ (str r) := by
 have hcp := cut_yes p r
 go_enter Tryz.func253, Tryz.ntmps253
 go_wp2_with (go_at_call 274; refine (hcp _).mono ?_; rintro e w1 ⟨rfl, rfl⟩)
 go_ret
 exact ⟨rfl, rfl⟩
theorem take_no (s p : List UInt8) (b : Nat) (w : World) (hc : w.cell? ⟨b, 0, none⟩ = some (str s)) (hn : Lib.hasPrefix s p = false) :
 Calls Tryz.prog 253 #[.pointer (some ⟨b, 0, none⟩), str p] w fun e w' => e = .returned (.bool false) ∧ w = w' := by
 have hcp := cut_no s p
 go_enter Tryz.func253, Tryz.ntmps253
 go_wp2_with (go_at_call 274; refine (hcp _ hn).mono ?_; rintro e w1 ⟨rfl, rfl⟩)
 go_ret
 exact ⟨rfl, rfl⟩
def nonePanic : List PanicEntry := [{ v := .iface 250 (.agg #[]), recovered := false }]
theorem need_yes (w : World) : Calls Tryz.prog 251 #[.bool true] w fun e w' => e = .returned (.tuple #[]) ∧ w = w' := by
 go_enter Tryz.func251, Tryz.ntmps251
 go_wp2
 go_end0
 exact ⟨rfl, rfl⟩
theorem need_no (w : World) : Calls Tryz.prog 251 #[.bool false] w fun e w' => e = .panicked nonePanic ∧ w = w' := by
 go_enter Tryz.func251, Tryz.ntmps251
 go_wp2
 exact ⟨rfl, rfl, rfl⟩
def wk (w : List UInt8) : Nat :=
 if w = [105, 110, 116] then 1 else if w = [98, 111, 111, 108] then 2 else if w = [110, 117, 108, 108] then 3 else if w = [97, 114, 114, 97, 121, 91] then 4 else if w = [114, 101, 99, 111, 114, 100, 91] then 5 else if w = [111, 110, 101, 111, 102, 91] then 6 else 0
theorem wk_any (s : List UInt8) (w : World) : Calls Tryz.prog 255 #[str s] w fun e w' => e = .returned (.int .u8 (wk s)) ∧ w = w' := by
 by_cases h1 : s = [105, 110, 116]
 · subst h1
   go_enter Tryz.func255, Tryz.ntmps255
   go_wp2
   go_ret;exact ⟨rfl, rfl⟩
 by_cases h2 : s = [98, 111, 111, 108]
 · subst h2
   go_enter Tryz.func255, Tryz.ntmps255
   go_wp2
   go_ret;exact ⟨rfl, rfl⟩
 by_cases h3 : s = [110, 117, 108, 108]
 · subst h3
   go_enter Tryz.func255, Tryz.ntmps255
   go_wp2
   go_ret;exact ⟨rfl, rfl⟩
 by_cases h4 : s = [97, 114, 114, 97, 121, 91]
 · subst h4
   go_enter Tryz.func255, Tryz.ntmps255
   go_wp2
   go_ret;exact ⟨rfl, rfl⟩
 by_cases h5 : s = [114, 101, 99, 111, 114, 100, 91]
 · subst h5
   go_enter Tryz.func255, Tryz.ntmps255
   go_wp2
   go_ret;exact ⟨rfl, rfl⟩
 by_cases h6 : s = [111, 110, 101, 111, 102, 91]
 · subst h6
   go_enter Tryz.func255, Tryz.ntmps255
   go_wp2
   go_ret;exact ⟨rfl, rfl⟩
 have H : Hid (wk s = 0) := by show _ = _; unfold wk; rw [if_neg h1, if_neg h2, if_neg h3, if_neg h4, if_neg h5, if_neg h6]
 have g1 : (s == [105, 110, 116]) = false := by simpa using h1
 have g2 : (s == [98, 111, 111, 108]) = false := by simpa using h2
 have g3 : (s == [110, 117, 108, 108]) = false := by simpa using h3
 have g4 : (s == [97, 114, 114, 97, 121, 91]) = false := by simpa using h4
 have g5 : (s == [114, 101, 99, 111, 114, 100, 91]) = false := by simpa using h5
 have g6 : (s == [111, 110, 101, 111, 102, 91]) = false := by simpa using h6
 clear h1 h2 h3 h4 h5 h6
 go_enter Tryz.func255, Tryz.ntmps255
 go_wp2
 go_ret
 exact ⟨by rw [H.out]; rfl, rfl⟩
end Go.Proofs.YtakgjcfkdemipaaGreatDoor
