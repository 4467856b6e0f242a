/-
  The base of this seat's texts: words of the walk for strings that are given as lists of bytes. No condition.
  Plain functions on lists of bytes: letters and digits, the end of a name, reserved words, names. No condition. The order of texts (plain). No condition. A slice value that holds cells (read only), and lists of texts held so. No condition. Contracts: the end of the name that a text begins with (argusref03.cut, argusref01.run, (*kind.text).word). No condition but the length's bound. Types as trees, and how they are read from bytes (plain; no program in sight). A forest is a list of parts: each has a name and a type; an argument is a part without a name.
-/
import Derived.BigQuiet
import Derived.Deep.QuietTactic
import Derived.Deep.RegionHeld3
import Derived.Laws.EntriesVeiled
import Derived.Laws.Pointers
import Derived.Laws.ResultCell
import Derived.Lib.Hide
import Derived.StillTactics
import Derived.StillTailTactics
import Derived.Test.YtakgjcfkdemipaaGreatDoorRows
import Derived.WalkKit
import Derived.WalkLawsBesides
import Derived.WalkSpells
namespace Go.Proofs.YtakgjcfkdemipaaGreatDoor
open Go.RowKit
@[go_sem] theorem bytes_get (l : List UInt8) (k : Nat) (h : k < (⟨l.toArray⟩ : ByteArray).size) : (⟨l.toArray⟩ : ByteArray)[k]'h = l[k]'h := rfl
@[go_sem] theorem bytes_extract (l : List UInt8) (a b : Nat) : (⟨l.toArray⟩ : ByteArray).extract a b = ⟨((l.take b).drop a).toArray⟩ := by
 apply ByteArray.ext
 simp [ByteArray.data_extract, List.extract_eq_take_drop, List.drop_take]
abbrev str (l : List UInt8) : Value := .string ⟨l.toArray⟩
theorem ret_int {k : IntKind} {a b : Int} (h : a = b) : Ending.returned (.int k a) = .returned (.int k b) := by rw [h]
end Go.Proofs.YtakgjcfkdemipaaGreatDoor
namespace Go.Proofs.YtakgjcfkdemipaaGreatDoor
def alnum (c : UInt8) : Bool := (decide (97 ≤ c.toNat) && decide (c.toNat ≤ 122)) || (decide (48 ≤ c.toNat) && decide (c.toNat ≤ 57))
def cutN (l : List UInt8) : Nat := (l.takeWhile alnum).length
theorem cutN_le (l : List UInt8) : cutN l ≤ l.length := by
 unfold cutN
 exact (List.takeWhile_sublist alnum).length_le
theorem cutN_cons (c : UInt8) (l : List UInt8) : cutN (c :: l) = if alnum c then cutN l + 1 else 0 := by
 unfold cutN
 rw [List.takeWhile_cons]
 split <;> simp
theorem cutN_stop : ∀ (k : Nat) (l : List UInt8), k ≤ cutN l → (h : k < l.length) → alnum l[k] = false → cutN l = k
 | 0, [], _, h, _ => by simp at h
 | 0, c :: l, _, _, ha => by rw [cutN_cons]; simp at ha; simp [ha]
 | k + 1, [], _, h, _ => by simp at h
 | k + 1, c :: l, hk, h, ha => by
  rw [cutN_cons] at hk ⊢;split at hk
  · rename_i hc
    rw [if_pos hc, cutN_stop k l (by omega) (by simpa using h) (by simpa using ha)]
  · omega
theorem cutN_step : ∀ (k : Nat) (l : List UInt8), k ≤ cutN l → (h : k < l.length) → alnum l[k] = true → k + 1 ≤ cutN l
 | 0, [], _, h, _ => by simp at h
 | 0, c :: l, _, _, ha => by rw [cutN_cons]; simp at ha; simp [ha]
 | k + 1, [], _, h, _ => by simp at h
 | k + 1, c :: l, hk, h, ha => by
  rw [cutN_cons] at hk ⊢;split at hk
  · rename_i hc
    rw [if_pos hc];have := cutN_step k l (by omega) (by simpa using h) (by simpa using ha);omega
  · omega
theorem cutN_end (k : Nat) (l : List UInt8) (h1 : k ≤ cutN l) (h2 : ¬ k < l.length) : cutN l = k := by
 have := cutN_le l; omega
theorem alnum_cases (c : UInt8) : (alnum c = true ∧ (((97 : Int) ≤ (c.toNat : Int) ∧ (c.toNat : Int) ≤ 122) ∨ ((48 : Int) ≤ (c.toNat : Int) ∧ (c.toNat : Int) ≤ 57))) ∨
 (alnum c = false ∧ ((c.toNat : Int) < 48 ∨ ((57 : Int) < (c.toNat : Int) ∧ (c.toNat : Int) < 97) ∨ (122 : Int) < (c.toNat : Int))) := by
 simp only [alnum, Bool.or_eq_true, Bool.and_eq_true, decide_eq_true_eq, Bool.or_eq_false_iff, Bool.and_eq_false_iff, decide_eq_false_iff_not]
 omega
def wordsL : List (List UInt8) := [[97, 110, 100], [97, 114, 114, 97, 121], [98, 101, 103, 105, 110], [98, 111, 111, 108], [98, 114, 101, 97, 107], [99, 108, 117, 115, 116, 101, 114], [100, 111], [100, 111, 119, 110], [101, 108, 115, 101], [101, 108, 115, 101, 105, 102], [101, 110, 100], [101, 120, 99, 101, 112, 116], [102, 97, 108, 115, 101], [102, 111, 114], [104, 97, 115], [105, 102], [105, 110], [105, 110, 116], [105, 115], [105, 116, 101, 114], [109, 111, 100], [110, 105, 108], [110, 111, 116], [110, 117, 108, 108], [111, 110, 101, 111, 102], [111, 114], [111, 116, 104, 101, 114, 115], [112, 114, 111, 99], [112, 117, 116], [114, 101, 99, 111, 114, 100], [114, 101, 112], [114, 101, 116, 117, 114, 110], [114, 101, 116, 117, 114, 110, 115], [115, 105, 103, 110, 97, 108], [115, 105, 103, 110, 97, 108, 115], [116, 97, 103], [116, 97, 103, 99, 97, 115, 101], [116, 104, 101, 110], [116, 114, 117, 101], [117, 112], [118, 97, 114], [119, 104, 101, 110], [119, 104, 101, 114, 101], [119, 104, 105, 108, 101], [121, 105, 101, 108, 100], [121, 105, 101, 108, 100, 115]]
def isWord (l : List UInt8) : Bool := wordsL.contains l
def low (c : UInt8) : Bool := decide (97 ≤ c.toNat) && decide (c.toNat ≤ 122)
def isName (l : List UInt8) : Bool :=
 match l with
 | [] => false
 | c :: r => decide ((c :: r).length ≤ 12) && low c && decide (cutN (c :: r) = (c :: r).length) && !isWord (c :: r)
def hasB (ss : List (List UInt8)) (s : List UInt8) : Bool := ss.contains s
end Go.Proofs.YtakgjcfkdemipaaGreatDoor
namespace Go.Proofs.YtakgjcfkdemipaaGreatDoor
theorem less_cons (x y : UInt8) (a b : List UInt8) : Op.bytesLess (x :: a) (y :: b) = true ↔ x.toNat < y.toNat ∨ (x = y ∧ Op.bytesLess a b = true) := by
 rw [Op.bytesLess]
 simp only [Bool.or_eq_true, Bool.and_eq_true, decide_eq_true_eq, beq_iff_eq, UInt8.lt_iff_toNat_lt]
theorem less_nil (a : List UInt8) : Op.bytesLess a [] = false := by cases a <;> rfl
theorem less_total : ∀ (a b : List UInt8), Op.bytesLess a b = false → (Op.bytesLess b a || b == a) = true
 | [], [], _ => rfl
 | [], y :: b, h => by simp [Op.bytesLess] at h
 | x :: a, [], _ => by simp [Op.bytesLess]
 | x :: a, y :: b, h => by
  have h1 : ¬ (x.toNat < y.toNat ∨ (x = y ∧ Op.bytesLess a b = true)) := fun hh => by rw [(less_cons x y a b).2 hh] at h; simp at h
  simp only [not_or, not_and, Nat.not_lt] at h1;rw [Bool.or_eq_true, less_cons]
  by_cases e : x = y
  · subst e
    have h2 := h1.2 rfl;have h3 := less_total a b (by simpa using h2);rw [Bool.or_eq_true] at h3;rcases h3 with h3 | h3
    · exact .inl (.inr ⟨rfl, h3⟩)
    · exact .inr (by simpa using h3)
  · refine .inl (.inl ?_)
    have : x.toNat ≠ y.toNat := fun h => e (UInt8.toNat_inj.1 h)
    omega
theorem less_asymm : ∀ (a b : List UInt8), Op.bytesLess a b = true → Op.bytesLess b a = false
 | [], [], h => by simp [Op.bytesLess] at h
 | [], y :: b, _ => rfl
 | x :: a, [], h => by simp [Op.bytesLess] at h
 | x :: a, y :: b, h => by
  rw [less_cons] at h;rw [← Bool.not_eq_true, less_cons];intro h';rcases h with h | ⟨rfl, h⟩
  · rcases h' with h' | ⟨rfl, _⟩
    · omega
    · omega
  · rcases h' with h' | ⟨_, h'⟩
    · omega
    · rw [less_asymm a b h] at h'; simp at h'
theorem less_irrefl (a : List UInt8) : Op.bytesLess a a = false := by
 cases h : Op.bytesLess a a
 · rfl
 · rw [← h, less_asymm a a h]
theorem less_not (a b : List UInt8) (h : Op.bytesLess a b = true) : (Op.bytesLess b a || b == a) = false := by
 rw [less_asymm a b h, Bool.false_or, beq_eq_false_iff_ne]
 rintro rfl
 rw [less_irrefl] at h; simp at h
theorem less_trans : ∀ (a b c : List UInt8), Op.bytesLess a b = true → Op.bytesLess b c = true → Op.bytesLess a c = true
 | _, _, [], _, h => by rw [less_nil] at h; simp at h
 | [], _, z :: c, _, _ => rfl
 | x :: a, [], z :: c, h, _ => by simp [Op.bytesLess] at h
 | x :: a, y :: b, z :: c, h, h' => by
  rw [less_cons] at *;rcases h with h | ⟨rfl, h⟩
  · rcases h' with h' | ⟨rfl, _⟩
    · exact .inl (by omega)
    · exact .inl h
  · rcases h' with h' | ⟨rfl, h'⟩
    · exact .inl h'
    · exact .inr ⟨rfl, less_trans a b c h h'⟩
end Go.Proofs.YtakgjcfkdemipaaGreatDoor
namespace Go.Proofs.YtakgjcfkdemipaaGreatDoor
open Go.RowKit
def Sl (w : World) (v : Value) (n : Nat) (xs : List Value) : Prop :=
 (v = .slice none 0 0 ∧ n = 0 ∧ xs = []) ∨
 ∃ b o cap, v = .slice (some ⟨b, o, none⟩) n cap ∧ n ≤ maxLen ∧ (n = 0 → xs = []) ∧ ∀ j u, xs[j]? = some u → w.cell? ⟨b, o + j, none⟩ = some u
theorem Sl.nil (w : World) : Sl w (.slice none 0 0) 0 [] := .inl ⟨rfl, rfl, rfl⟩
theorem sl_new (w : World) (xs : List Value) (t : TypeId) (z : Nat × Nat) (cap : Nat) (h : xs.length ≤ maxLen) : Sl (w.alloc (.cells xs.toArray t z)) (.slice (some ⟨w.heap.size, 0, none⟩) xs.length cap) xs.length xs := by
 refine .inr ⟨w.heap.size, 0, cap, rfl, h, fun h0 => List.length_eq_zero_iff.1 h0, fun j u hj => ?_⟩
 have : (w.alloc (.cells xs.toArray t z)).heap[w.heap.size]? = some (.cells xs.toArray t z) := heap_alloc_new w _
 show World.cell? _ _ = _
 unfold World.cell?
 rw [this]
 simpa using hj
def strsC (ss : List (List UInt8)) : List Value := ss.map str
theorem strsC_get (ss : List (List UInt8)) (j : Nat) (h : j < ss.length) : (strsC ss)[j]? = some (str ss[j]) := by simp [strsC, h]
def Strs (w : World) (v : Value) (ss : List (List UInt8)) : Prop := Sl w v ss.length (strsC ss)
theorem strs_new (w : World) (ss : List (List UInt8)) (t : TypeId) (z : Nat × Nat) (cap : Nat) (h : ss.length ≤ maxLen) : Strs (w.alloc (.cells (strsC ss).toArray t z)) (.slice (some ⟨w.heap.size, 0, none⟩) ss.length cap) ss := by
 have := sl_new w (strsC ss) t z cap (by simpa [strsC] using h)
 simpa [strsC, Strs] using this
theorem Strs.shape {w : World} {v : Value} {ss : List (List UInt8)} (h : Strs w v ss) :
 (v = .slice none 0 0 ∧ ss = []) ∨ ∃ b o cap, v = .slice (some ⟨b, o, none⟩) ss.length cap ∧ ss.length ≤ maxLen ∧ ∀ j (hj : j < ss.length), w.cell? ⟨b, o + j, none⟩ = some (str ss[j]) := by
 rcases h with ⟨rfl, h, _⟩ | ⟨b, o, cap, rfl, h1, h2, h3⟩
 · exact .inl ⟨rfl, List.length_eq_zero_iff.1 h⟩
 · exact .inr ⟨b, o, cap, rfl, h1, fun j hj => h3 j _ (strsC_get ss j hj)⟩
theorem hasB_take_succ (ss : List (List UInt8)) (s : List UInt8) (k : Nat) (hk : k < ss.length) (h : hasB (ss.take k) s = false) (h2 : (ss[k] == s) = false) : hasB (ss.take (k + 1)) s = false := by
 unfold hasB at *
 rw [List.take_succ_eq_append_getElem hk]
 simp only [List.contains_eq_any_beq, List.any_append, List.any_cons, List.any_nil, Bool.or_false] at h ⊢
 rw [h]
 simp at h2 ⊢
 exact fun e => h2 e.symm
theorem hasB_hit (ss : List (List UInt8)) (s : List UInt8) (k : Nat) (hk : k < ss.length) (h2 : (ss[k] == s) = true) : hasB ss s = true := by
 unfold hasB
 have : ss[k] = s := by simpa using h2
 rw [List.contains_iff_mem]; rw [← this]; exact List.getElem_mem hk
theorem hasB_end (ss : List (List UInt8)) (s : List UInt8) (k : Nat) (hk : ¬ k < ss.length) (h : hasB (ss.take k) s = false) : hasB ss s = false := by
 rwa [List.take_of_length_le (by omega)] at h
theorem hasB_zero (ss : List (List UInt8)) (s : List UInt8) : hasB (ss.take 0) s = false := rfl
theorem ret_bool {a b : Bool} (h : a = b) : Ending.returned (.bool a) = .returned (.bool b) := by rw [h]
end Go.Proofs.YtakgjcfkdemipaaGreatDoor
namespace Go.Proofs.YtakgjcfkdemipaaGreatDoor
open Go.RowKit
set_option maxHeartbeats 400000 in
theorem cut_any (l : List UInt8) (w : World) (hl : l.length ≤ maxLen) :
 Calls Tryz.prog 162 #[str l] w fun e w' => e = .returned (.int .i64 (cutN l)) ∧ w = w' := by
 unfold maxLen at hl
 go_enter Tryz.func162, Tryz.ntmps162
 go_wp2
 go_loop [3] (fun i => ∃ k : Nat, k ≤ l.length ∧ k ≤ cutN l ∧ i = .int .i64 k) (fun i => l.length - (intOf i).toNat)
 case atStart => exact ⟨0, by omega, by omega, rfl⟩
 case round =>
  obtain ⟨k, hk, hn, rfl⟩ := hrel
  by_cases hlt : k < l.length
  · have hs := cutN_stop k l hn hlt
    have ht := cutN_step k l hn hlt;rcases alnum_cases l[k] with ⟨ha, hc⟩ | ⟨ha, hc⟩
    · have Hn := ht ha
      clear ht hs ha;rcases hc with ⟨h1, h2⟩ | ⟨h1, h2⟩
      all_goals
       go_wp2_with fail
       go_round
       case rel => exact ⟨k + 1, by omega, by omega, by go_num⟩
       case measure => simp [intOf]; omega
    · have Hn : Hid _ := hs ha
      clear ht hs ha;rcases hc with h1 | ⟨h1, h2⟩ | h1
      all_goals
       go_wp2_with fail;go_ret;exact ⟨ret_int (by rw [Hn.out]), rfl⟩
  · have Hn : Hid _ := cutN_end k l hn hlt
    go_wp2_with fail;go_ret;exact ⟨ret_int (by rw [Hn.out]), rfl⟩
set_option maxHeartbeats 400000 in
theorem run_any (l : List UInt8) (w : World) (hl : l.length ≤ maxLen) :
 Calls Tryz.prog 142 #[str l] w fun e w' => e = .returned (.int .i64 (cutN l)) ∧ w = w' := by
 unfold maxLen at hl
 go_enter Tryz.func142, Tryz.ntmps142
 go_wp2
 go_loop [3] (fun i => ∃ k : Nat, k ≤ l.length ∧ k ≤ cutN l ∧ i = .int .i64 k) (fun i => l.length - (intOf i).toNat)
 case atStart => exact ⟨0, by omega, by omega, rfl⟩
 case round =>
  obtain ⟨k, hk, hn, rfl⟩ := hrel
  by_cases hlt : k < l.length
  · have hs := cutN_stop k l hn hlt
    have ht := cutN_step k l hn hlt;rcases alnum_cases l[k] with ⟨ha, hc⟩ | ⟨ha, hc⟩
    · have Hn := ht ha
      clear ht hs ha;rcases hc with ⟨h1, h2⟩ | ⟨h1, h2⟩
      all_goals
       go_wp2
       go_round
       case rel => exact ⟨k + 1, by omega, by omega, by go_num⟩
       case measure => simp [intOf]; omega
    · have Hn : Hid _ := hs ha
      clear ht hs ha;rcases hc with h1 | ⟨h1, h2⟩ | h1
      all_goals
       go_wp2
       go_ret;exact ⟨ret_int (by rw [Hn.out]), rfl⟩
  · have Hn : Hid _ := cutN_end k l hn hlt
    go_wp2
    go_ret;exact ⟨ret_int (by rw [Hn.out]), rfl⟩
set_option maxHeartbeats 800000 in
theorem word_any (l : List UInt8) (b : Nat) (w : World) (hl : l.length ≤ maxLen) (hc : w.cell? ⟨b, 0, none⟩ = some (str l)) (hf : w.frozen? ⟨b, 0, none⟩ = false) :
 Calls Tryz.prog 254 #[.pointer (some ⟨b, 0, none⟩)] w fun e w' => e = .returned (str (l.take (cutN l))) ∧ w' = w.setCell ⟨b, 0, none⟩ (str (l.drop (cutN l))) := by
 unfold maxLen at hl
 go_enter Tryz.func254, Tryz.ntmps254
 go_wp2
 go_loop [3] (fun i => ∃ k : Nat, k ≤ l.length ∧ k ≤ cutN l ∧ i = .int .i64 k) (fun i => l.length - (intOf i).toNat)
 case atStart => exact ⟨0, by omega, by omega, rfl⟩
 case round =>
  obtain ⟨k, hk, hn, rfl⟩ := hrel
  by_cases hlt : k < l.length
  · have hs := cutN_stop k l hn hlt
    have ht := cutN_step k l hn hlt;rcases alnum_cases l[k] with ⟨ha, hc⟩ | ⟨ha, hc⟩
    · have Hn := ht ha
      clear ht hs ha;rcases hc with ⟨h1, h2⟩ | ⟨h1, h2⟩
      all_goals
       go_wp2_with fail
       go_round
       case rel => exact ⟨k + 1, by omega, by omega, by go_num⟩
       case measure => simp [intOf]; omega
    · have Hn : Hid _ := hs ha
      clear ht hs ha;rcases hc with h1 | ⟨h1, h2⟩ | h1
      all_goals
       go_wp2_with fail;go_ret;rw [Hn.out];exact ⟨rfl, rfl⟩
  · have Hn : Hid _ := cutN_end k l hn hlt
    go_wp2_with fail;go_ret;rw [Hn.out];exact ⟨rfl, rfl⟩
end Go.Proofs.YtakgjcfkdemipaaGreatDoor
namespace Go.Proofs.YtakgjcfkdemipaaGreatDoor
inductive Fo where
 | nil
 | cons (pn : List UInt8) (k : Nat) (n : List UInt8) (sub rest : Fo)
structure Tr where
 k : Nat
 n : List UInt8
 sub : Fo
namespace Fo
def len : Fo → Nat
 | nil => 0
 | cons _ _ _ _ rest => rest.len + 1
def level : Fo → Nat
 | nil => 0
 | cons _ _ _ sub rest => max (sub.level + 1) rest.level
end Fo
def Tr.level (t : Tr) : Nat := t.sub.level + 1
def Fo.one (t : Tr) : Fo := .cons [] t.k t.n t.sub .nil
def wInt : List UInt8 := [105, 110, 116]
def wBool : List UInt8 := [98, 111, 111, 108]
def wNull : List UInt8 := [110, 117, 108, 108]
def wArray : List UInt8 := [97, 114, 114, 97, 121]
def wRecord : List UInt8 := [114, 101, 99, 111, 114, 100]
def wOneof : List UInt8 := [111, 110, 101, 111, 102]
def kind0 (w : List UInt8) : Nat := if w = wInt then 1 else if w = wBool then 2 else if w = wNull then 3 else 0
def kindB (w : List UInt8) : Nat := if w = wArray then 4 else if w = wRecord then 5 else if w = wOneof then 6 else 0
def pA : Nat → Option (List UInt8) → List UInt8 → Option (Fo × List UInt8)
 | 0, _, _ => none
 | f + 1, none, s =>
  match s with
  | 63 :: 116 :: r => some (.cons [] 8 [] .nil .nil, r)
  | _ =>
   let w := s.take (cutN s)
   let s1 := s.drop (cutN s)
   if kind0 w ≠ 0 then some (.cons [] (kind0 w) [] .nil .nil, s1)
   else if kindB w = 5 ∨ kindB w = 6 then
    match s1 with
    | 91 :: s2 => match pA f (some []) s2 with
     | some (fo, 93 :: r) => if fo.len ≤ 6 then some (.cons [] (kindB w) w fo .nil, r) else none
     | _ => none
    | _ => none
   else if kindB w = 4 ∨ isName w = true then
    match s1 with
    | 91 :: s2 => match pA f none s2 with
     | some (fo, 93 :: r) => some (.cons [] (if kindB w = 4 then 4 else 7) w fo .nil, r)
     | _ => none
    | _ => if kindB w = 4 then none else some (.cons [] 7 w .nil .nil, s1)
   else none
 | f + 1, some b, s =>
  let w := s.take (cutN s)
  if isName w = true ∧ Op.bytesLess b w = true then
   match s.drop (cutN s) with
   | 58 :: s2 => match pA f none s2 with
    | some (.cons _ k n sub _, r) => match r with
     | 44 :: r2 => match pA f (some w) r2 with
      | some (fo, r3) => some (.cons w k n sub fo, r3)
      | none => none
     | _ => some (.cons w k n sub .nil, r)
    | _ => none
   | _ => none
  else none
theorem pA_param (f : Nat) (r : List UInt8) : pA (f + 1) none (63 :: 116 :: r) = some (.cons [] 8 [] .nil .nil, r) := by simp [pA]
def noPar (s : List UInt8) : Prop := ∀ r, s ≠ 63 :: 116 :: r
def pW (f : Nat) (w s1 : List UInt8) : Option (Fo × List UInt8) :=
 if kind0 w ≠ 0 then some (.cons [] (kind0 w) [] .nil .nil, s1)
 else if kindB w = 5 ∨ kindB w = 6 then
  match s1 with
  | 91 :: s2 => match pA f (some []) s2 with
   | some (fo, 93 :: r) => if fo.len ≤ 6 then some (.cons [] (kindB w) w fo .nil, r) else none
   | _ => none
  | _ => none
 else if kindB w = 4 ∨ isName w = true then
  match s1 with
  | 91 :: s2 => match pA f none s2 with
   | some (fo, 93 :: r) => some (.cons [] (if kindB w = 4 then 4 else 7) w fo .nil, r)
   | _ => none
  | _ => if kindB w = 4 then none else some (.cons [] 7 w .nil .nil, s1)
 else none
theorem pA_none (f : Nat) (s : List UInt8) (h : noPar s) : pA (f + 1) none s = pW f (s.take (cutN s)) (s.drop (cutN s)) := by
 rw [pA]
 · rfl
 · exact fun r e => h r e
def pV (f : Nat) (w s1 : List UInt8) : Option (Fo × List UInt8) :=
 match s1 with
 | 58 :: s2 => match pA f none s2 with
  | some (.cons _ k n sub _, r) => match r with
   | 44 :: r2 => match pA f (some w) r2 with
    | some (fo, r3) => some (.cons w k n sub fo, r3)
    | none => none
   | _ => some (.cons w k n sub .nil, r)
  | _ => none
 | _ => none
theorem pA_some (f : Nat) (b s : List UInt8) : pA (f + 1) (some b) s = if isName (s.take (cutN s)) = true ∧ Op.bytesLess b (s.take (cutN s)) = true then pV f (s.take (cutN s)) (s.drop (cutN s)) else none := rfl
theorem pA_le : ∀ (f : Nat) (tag : Option (List UInt8)) (s : List UInt8) (fo : Fo) (r : List UInt8), pA f tag s = some (fo, r) → r.length < s.length := by
 intro f
 induction f with
 | zero => intro tag s fo r h; simp [pA] at h
 | succ f ih =>
  intro tag s fo r h;have hc := cutN_le s;have hd : (s.drop (cutN s)).length = s.length - cutN s := by simp
  have hw : ∀ w, s.take (cutN s) = w → w.length = cutN s := by intro w e; rw [← e]; simp; omega
  cases tag with
  | none =>
   by_cases hp : noPar s
   · rw [pA_none f s hp] at h
     generalize s.drop (cutN s) = s1 at h hd;generalize s.take (cutN s) = w at h hw;have hw := hw w rfl;unfold pW at h;split at h
     · rename_i h0
       have : 0 < w.length := by
        cases w with
        | nil => exact absurd rfl h0
        | cons => simp
       simp only [Option.some.injEq, Prod.mk.injEq] at h;obtain ⟨_, rfl⟩ := h;omega
     · split at h
       · split at h
         · rename_i s2
           split at h
           · rename_i fo2 r2 e2
             split at h
             · have := ih _ _ _ _ e2
               simp only [Option.some.injEq, Prod.mk.injEq] at h;obtain ⟨_, rfl⟩ := h;simp at hd this;omega
             · simp at h
           · simp at h
         · simp at h
       · split at h
         · rename_i hk
           split at h
           · rename_i s2
             split at h
             · rename_i fo2 r2 e2
               have := ih _ _ _ _ e2;simp only [Option.some.injEq, Prod.mk.injEq] at h;obtain ⟨_, rfl⟩ := h;simp at hd this;omega
             · simp at h
           · split at h
             · simp at h
             · rename_i h4
               have hn : isName w = true := hk.resolve_left h4;have : 0 < w.length := by
                cases w with
                | nil => simp [isName] at hn
                | cons => simp
               simp only [Option.some.injEq, Prod.mk.injEq] at h;obtain ⟨_, rfl⟩ := h;omega
         · simp at h
   · unfold noPar at hp
     simp only [ne_eq, Classical.not_forall, Decidable.not_not] at hp;obtain ⟨r', rfl⟩ := hp;rw [pA_param] at h;simp only [Option.some.injEq, Prod.mk.injEq] at h;obtain ⟨_, rfl⟩ := h;simp;omega
  | some b =>
   rw [pA_some] at h;split at h
   · generalize s.drop (cutN s) = s1 at h hd
     unfold pV at h;split at h
     · rename_i s2
       split at h
       · rename_i k n sub _ r1 e1
         have := ih _ _ _ _ e1;split at h
         · split at h
           · rename_i e2
             have := ih _ _ _ _ e2;simp only [Option.some.injEq, Prod.mk.injEq] at h;obtain ⟨_, rfl⟩ := h;simp at hd this;simp at *;omega
           · simp at h
         · simp only [Option.some.injEq, Prod.mk.injEq] at h
           obtain ⟨_, rfl⟩ := h;simp at hd;omega
       · simp at h
     · simp at h
   · simp at h
theorem pA_fuel : ∀ (f g : Nat) (tag : Option (List UInt8)) (s : List UInt8), s.length < f → s.length < g → pA f tag s = pA g tag s := by
 intro f
 induction f with
 | zero => intro g tag s h; omega
 | succ f ih =>
  intro g tag s hf hg;cases g with
  | zero => omega
  | succ g =>
   have hc := cutN_le s;have hd : (s.drop (cutN s)).length = s.length - cutN s := by simp
   cases tag with
   | none =>
    by_cases hp : noPar s
    · rw [pA_none f s hp, pA_none g s hp]
      generalize s.drop (cutN s) = s1 at hd;generalize s.take (cutN s) = w;unfold pW;split
      · rfl
      · split
        · split
          · rename_i s2
            simp at hd;rw [ih g (some []) s2 (by omega) (by omega)]
          · rfl
        · split
          · split
            · rename_i s2
              simp at hd;rw [ih g none s2 (by omega) (by omega)]
            · rfl
          · rfl
    · unfold noPar at hp
      simp only [ne_eq, Classical.not_forall, Decidable.not_not] at hp;obtain ⟨r', rfl⟩ := hp;rw [pA_param, pA_param]
   | some b =>
    rw [pA_some, pA_some];split
    · generalize s.drop (cutN s) = s1 at hd
      unfold pV;split
      · rename_i s2
        simp at hd;rw [ih g none s2 (by omega) (by omega)];split
        · rename_i k n sub _ r1 e1
          have := pA_le _ _ _ _ _ e1;split
          · rename_i r2
            simp at this;rw [ih g (some _) r2 (by omega) (by omega)]
          · rfl
        · rfl
      · rfl
    · rfl
theorem pA_one (f : Nat) (s : List UInt8) (fo : Fo) (r : List UInt8) (h : pA f none s = some (fo, r)) : ∃ t : Tr, fo = .one t := by
 cases f with
 | zero => simp [pA] at h
 | succ f =>
  by_cases hp : noPar s
  · rw [pA_none f s hp] at h
    generalize s.drop (cutN s) = s1 at h;generalize s.take (cutN s) = w at h;unfold pW at h;split at h
    · simp only [Option.some.injEq, Prod.mk.injEq] at h
      exact ⟨⟨_, _, _⟩, h.1.symm⟩
    · split at h
      · split at h
        · split at h
          · split at h
            · simp only [Option.some.injEq, Prod.mk.injEq] at h
              exact ⟨⟨_, _, _⟩, h.1.symm⟩
            · simp at h
          · simp at h
        · simp at h
      · split at h
        · split at h
          · split at h
            · simp only [Option.some.injEq, Prod.mk.injEq] at h
              exact ⟨⟨_, _, _⟩, h.1.symm⟩
            · simp at h
          · split at h
            · simp at h
            · simp only [Option.some.injEq, Prod.mk.injEq] at h
              exact ⟨⟨_, _, _⟩, h.1.symm⟩
        · simp at h
  · unfold noPar at hp
    simp only [ne_eq, Classical.not_forall, Decidable.not_not] at hp;obtain ⟨r', rfl⟩ := hp;rw [pA_param] at h;simp only [Option.some.injEq, Prod.mk.injEq] at h;exact ⟨⟨_, _, _⟩, h.1.symm⟩
def headT : Option (Fo × List UInt8) → Option (Tr × List UInt8)
 | some (.cons _ k n sub _, r) => some (⟨k, n, sub⟩, r)
 | _ => none
def parseT (s : List UInt8) : Option (Tr × List UInt8) := headT (pA (s.length + 1) none s)
def parseP (b s : List UInt8) : Option (Fo × List UInt8) := pA (s.length + 1) (some b) s
theorem pA_parseP {f : Nat} {b s : List UInt8} (h : s.length < f) : pA f (some b) s = parseP b s := pA_fuel _ _ _ _ h (by omega)
theorem pA_parseT {f : Nat} {s : List UInt8} (h : s.length < f) : pA f none s = (parseT s).map fun x => (Fo.one x.1, x.2) := by
 rw [pA_fuel f (s.length + 1) none s h (by omega)]
 unfold parseT
 cases hx : pA (s.length + 1) none s with
 | none => rfl
 | some x =>
  obtain ⟨fo, r⟩ := x;obtain ⟨t, rfl⟩ := pA_one _ _ _ _ hx
  rfl
theorem parseT_le {s r : List UInt8} {t : Tr} (h : parseT s = some (t, r)) : r.length < s.length := by
 refine pA_le (s.length + 1) none s (.one t) r ?_
 rw [pA_parseT (by omega), h]; rfl
theorem parseP_le {b s r : List UInt8} {fo : Fo} (h : parseP b s = some (fo, r)) : r.length < s.length := pA_le _ _ _ _ _ h
theorem parseT_param (r : List UInt8) : parseT (63 :: 116 :: r) = some (⟨8, [], .nil⟩, r) := by
 unfold parseT; rw [pA_param]; rfl
theorem parseT_none (s : List UInt8) (h : noPar s) : parseT s = headT (pW s.length (s.take (cutN s)) (s.drop (cutN s))) := by
 unfold parseT; rw [pA_none _ _ h]
section
variable {s : List UInt8} (hp : noPar s)
include hp
theorem parseT_word (h0 : kind0 (s.take (cutN s)) ≠ 0) : parseT s = some (⟨kind0 (s.take (cutN s)), [], .nil⟩, s.drop (cutN s)) := by
 rw [parseT_none s hp]; unfold pW; rw [if_pos h0]; rfl
theorem parseT_rec_no (h0 : kind0 (s.take (cutN s)) = 0) (hk : kindB (s.take (cutN s)) = 5 ∨ kindB (s.take (cutN s)) = 6) (hb : ∀ r, s.drop (cutN s) ≠ 91 :: r) : parseT s = none := by
 rw [parseT_none s hp]; unfold pW; rw [if_neg (by simpa using h0), if_pos hk]
 split
 · rename_i e; exact absurd e (hb _)
 · rfl
theorem parseT_rec (h0 : kind0 (s.take (cutN s)) = 0) (hk : kindB (s.take (cutN s)) = 5 ∨ kindB (s.take (cutN s)) = 6) {s2 : List UInt8} (hb : s.drop (cutN s) = 91 :: s2) :
 parseT s = match parseP [] s2 with
  | some (fo, 93 :: r) => if fo.len ≤ 6 then some (⟨kindB (s.take (cutN s)), s.take (cutN s), fo⟩, r) else none
  | _ => none := by
 have hl : s2.length < s.length := by
  have : (s.drop (cutN s)).length = s.length - cutN s := by simp
  rw [hb] at this; simp at this; omega
 rw [parseT_none s hp]; unfold pW; rw [if_neg (by simpa using h0), if_pos hk, hb]
 simp only
 rw [pA_parseP hl]
 rcases parseP [] s2 with _ | ⟨fo, r⟩
 · rfl
 · split
   · split <;> simp_all [headT]
   · rfl
theorem parseT_arg (h0 : kind0 (s.take (cutN s)) = 0) (hk : kindB (s.take (cutN s)) = 4 ∨ (kindB (s.take (cutN s)) = 0 ∧ isName (s.take (cutN s)) = true)) {s2 : List UInt8} (hb : s.drop (cutN s) = 91 :: s2) :
 parseT s = match parseT s2 with
  | some (t, 93 :: r) => some (⟨if kindB (s.take (cutN s)) = 4 then 4 else 7, s.take (cutN s), .one t⟩, r)
  | _ => none := by
 have hl : s2.length < s.length := by
  have : (s.drop (cutN s)).length = s.length - cutN s := by simp
  rw [hb] at this; simp at this; omega
 rw [parseT_none s hp]; unfold pW; rw [if_neg (by simpa using h0), if_neg (by omega), if_pos (by rcases hk with hk | hk; exact .inl hk; exact .inr hk.2), hb]
 simp only
 rw [pA_parseT hl]
 rcases parseT s2 with _ | ⟨fo, r⟩
 · rfl
 · simp only [Option.map_some]
   split
   · simp_all [headT]
   · split
     · simp_all
     · rfl
theorem parseT_arr_no (h0 : kind0 (s.take (cutN s)) = 0) (hk : kindB (s.take (cutN s)) = 4) (hb : ∀ r, s.drop (cutN s) ≠ 91 :: r) : parseT s = none := by
 rw [parseT_none s hp]; unfold pW; rw [if_neg (by simpa using h0), if_neg (by omega), if_pos (.inl hk)]
 split
 · rename_i e; exact absurd e (hb _)
 · rw [if_pos hk]; rfl
theorem parseT_name (h0 : kind0 (s.take (cutN s)) = 0) (hk : kindB (s.take (cutN s)) = 0) (hn : isName (s.take (cutN s)) = true) (hb : ∀ r, s.drop (cutN s) ≠ 91 :: r) :
 parseT s = some (⟨7, s.take (cutN s), .nil⟩, s.drop (cutN s)) := by
 rw [parseT_none s hp]; unfold pW; rw [if_neg (by simpa using h0), if_neg (by omega), if_pos (.inr hn)]
 split
 · rename_i e; exact absurd e (hb _)
 · rw [if_neg (by omega)]; rfl
theorem parseT_bad (h0 : kind0 (s.take (cutN s)) = 0) (hk : kindB (s.take (cutN s)) = 0) (hn : isName (s.take (cutN s)) = false) : parseT s = none := by
 rw [parseT_none s hp]; unfold pW; rw [if_neg (by simpa using h0), if_neg (by omega), if_neg (by simp [hn]; omega)]; rfl
end
theorem parseP_bad {b s : List UInt8} (h : ¬ (isName (s.take (cutN s)) = true ∧ Op.bytesLess b (s.take (cutN s)) = true)) : parseP b s = none := by
 unfold parseP; rw [pA_some, if_neg h]
theorem parseP_colon {b s : List UInt8} (h : ∀ r, s.drop (cutN s) ≠ 58 :: r) : parseP b s = none := by
 unfold parseP; rw [pA_some]
 split
 · unfold pV
   split
   · rename_i e; exact absurd e (h _)
   · rfl
 · rfl
theorem parseP_ok {b s s2 : List UInt8} (h1 : isName (s.take (cutN s)) = true) (h2 : Op.bytesLess b (s.take (cutN s)) = true) (hb : s.drop (cutN s) = 58 :: s2) :
 parseP b s = match parseT s2 with
  | some (t, r) => match r with
   | 44 :: r2 => match parseP (s.take (cutN s)) r2 with
    | some (fo, r3) => some (.cons (s.take (cutN s)) t.k t.n t.sub fo, r3)
    | none => none
   | _ => some (.cons (s.take (cutN s)) t.k t.n t.sub .nil, r)
  | none => none := by
 have hl : s2.length < s.length := by
  have : (s.drop (cutN s)).length = s.length - cutN s := by simp
  rw [hb] at this; simp at this; omega
 unfold parseP
 rw [pA_some, if_pos ⟨h1, h2⟩, hb]
 unfold pV
 simp only
 rw [pA_parseT hl]
 rcases hx : parseT s2 with _ | ⟨t, r⟩
 · rfl
 · simp only [Option.map_some]
   have hr := parseT_le hx;rw [show Fo.one t = .cons [] t.k t.n t.sub .nil from rfl];dsimp only;split
   · rename_i r2
     rw [pA_parseP (by simp at hr; omega)]
     rfl
   · rfl
theorem pA_suf : ∀ (f : Nat) (tag : Option (List UInt8)) (s : List UInt8) (fo : Fo) (r : List UInt8), pA f tag s = some (fo, r) → r <:+ s := by
 intro f
 induction f with
 | zero => intro tag s fo r h; simp [pA] at h
 | succ f ih =>
  intro tag s fo r h;have hd : s.drop (cutN s) <:+ s := List.drop_suffix _ _;cases tag with
  | none =>
   by_cases hp : noPar s
   · rw [pA_none f s hp] at h
     generalize s.drop (cutN s) = s1 at h hd;generalize s.take (cutN s) = w at h;unfold pW at h;split at h
     · simp only [Option.some.injEq, Prod.mk.injEq] at h
       obtain ⟨_, rfl⟩ := h;exact hd
     · split at h
       · split at h
         · rename_i s2
           split at h
           · rename_i fo2 r2 e2
             split at h
             · have := ih _ _ _ _ e2
               simp only [Option.some.injEq, Prod.mk.injEq] at h;obtain ⟨_, rfl⟩ := h;exact (List.suffix_cons _ _).trans (this.trans ((List.suffix_cons _ _).trans hd))
             · simp at h
           · simp at h
         · simp at h
       · split at h
         · split at h
           · rename_i s2
             split at h
             · rename_i fo2 r2 e2
               have := ih _ _ _ _ e2;simp only [Option.some.injEq, Prod.mk.injEq] at h;obtain ⟨_, rfl⟩ := h;exact (List.suffix_cons _ _).trans (this.trans ((List.suffix_cons _ _).trans hd))
             · simp at h
           · split at h
             · simp at h
             · simp only [Option.some.injEq, Prod.mk.injEq] at h
               obtain ⟨_, rfl⟩ := h;exact hd
         · simp at h
   · unfold noPar at hp
     simp only [ne_eq, Classical.not_forall, Decidable.not_not] at hp;obtain ⟨r', rfl⟩ := hp;rw [pA_param] at h;simp only [Option.some.injEq, Prod.mk.injEq] at h;obtain ⟨_, rfl⟩ := h;exact (List.suffix_cons _ _).trans (List.suffix_cons _ _)
  | some b =>
   rw [pA_some] at h;split at h
   · generalize s.drop (cutN s) = s1 at h hd
     unfold pV at h;split at h
     · rename_i s2
       split at h
       · rename_i k n sub _ r1 e1
         have h1 := ih _ _ _ _ e1;split at h
         · split at h
           · rename_i e2
             have h2 := ih _ _ _ _ e2;simp only [Option.some.injEq, Prod.mk.injEq] at h;obtain ⟨_, rfl⟩ := h;exact h2.trans ((List.suffix_cons _ _).trans (h1.trans ((List.suffix_cons _ _).trans hd)))
           · simp at h
         · simp only [Option.some.injEq, Prod.mk.injEq] at h
           obtain ⟨_, rfl⟩ := h;exact h1.trans ((List.suffix_cons _ _).trans hd)
       · simp at h
     · simp at h
   · simp at h
theorem parseT_suf {s r : List UInt8} {t : Tr} (h : parseT s = some (t, r)) : r <:+ s := by
 refine pA_suf (s.length + 1) none s (.one t) r ?_
 rw [pA_parseT (by omega), h]; rfl
theorem suf_drop {r s : List UInt8} (h : r <:+ s) : s.drop (s.length - r.length) = r := by
 obtain ⟨p, rfl⟩ := h
 simp
theorem parseT_drop {s r : List UInt8} {t : Tr} (h : parseT s = some (t, r)) : s.drop (s.length - r.length) = r := suf_drop (parseT_suf h)
theorem parseP_len {b s r : List UInt8} {fo : Fo} (h : parseP b s = some (fo, r)) : 1 ≤ fo.len := by
 unfold parseP at h
 rw [pA_some] at h
 split at h
 · unfold pV at h
   split at h
   · split at h
     · split at h
       · split at h
         · simp only [Option.some.injEq, Prod.mk.injEq] at h
           rw [← h.1]; simp [Fo.len]
         · simp at h
       · simp only [Option.some.injEq, Prod.mk.injEq] at h
         rw [← h.1]; simp [Fo.len]
     · simp at h
   · simp at h
 · simp at h
theorem fo_level : ∀ (f : Nat) (tag : Option (List UInt8)) (s : List UInt8) (fo : Fo) (r : List UInt8), pA f tag s = some (fo, r) → fo.level + r.length ≤ s.length := by
 intro f
 induction f with
 | zero => intro tag s fo r h; simp [pA] at h
 | succ f ih =>
  intro tag s fo r h;have hc := cutN_le s;have hd : (s.drop (cutN s)).length = s.length - cutN s := by simp
  have hw : ∀ w, s.take (cutN s) = w → w.length = cutN s := by intro w e; rw [← e]; simp; omega
  cases tag with
  | none =>
   by_cases hp : noPar s
   · rw [pA_none f s hp] at h
     generalize s.drop (cutN s) = s1 at h hd;generalize s.take (cutN s) = w at h hw;have hw := hw w rfl;unfold pW at h;split at h
     · rename_i h0
       have : 0 < w.length := by
        cases w with
        | nil => exact absurd rfl h0
        | cons => simp
       simp only [Option.some.injEq, Prod.mk.injEq] at h;obtain ⟨rfl, rfl⟩ := h;simp [Fo.level];omega
     · split at h
       · split at h
         · split at h
           · rename_i e2
             split at h
             · have := ih _ _ _ _ e2
               simp only [Option.some.injEq, Prod.mk.injEq] at h;obtain ⟨rfl, rfl⟩ := h;simp [Fo.level] at hd this ⊢;omega
             · simp at h
           · simp at h
         · simp at h
       · split at h
         · rename_i hk
           split at h
           · split at h
             · rename_i e2
               have := ih _ _ _ _ e2;simp only [Option.some.injEq, Prod.mk.injEq] at h;obtain ⟨rfl, rfl⟩ := h;simp [Fo.level] at hd this ⊢;omega
             · simp at h
           · split at h
             · simp at h
             · rename_i h4
               have hn : isName w = true := hk.resolve_left h4;have : 0 < w.length := by
                cases w with
                | nil => simp [isName] at hn
                | cons => simp
               simp only [Option.some.injEq, Prod.mk.injEq] at h;obtain ⟨rfl, rfl⟩ := h;simp [Fo.level];omega
         · simp at h
   · unfold noPar at hp
     simp only [ne_eq, Classical.not_forall, Decidable.not_not] at hp;obtain ⟨r', rfl⟩ := hp;rw [pA_param] at h;simp only [Option.some.injEq, Prod.mk.injEq] at h;obtain ⟨rfl, rfl⟩ := h;simp [Fo.level];omega
  | some b =>
   rw [pA_some] at h;split at h
   · generalize s.drop (cutN s) = s1 at h hd
     unfold pV at h;split at h
     · split at h
       · rename_i e1
         have h1 := ih _ _ _ _ e1;split at h
         · split at h
           · rename_i e2
             have h2 := ih _ _ _ _ e2;simp only [Option.some.injEq, Prod.mk.injEq] at h;obtain ⟨rfl, rfl⟩ := h;simp [Fo.level] at hd h1 h2 ⊢;omega
           · simp at h
         · simp only [Option.some.injEq, Prod.mk.injEq] at h
           obtain ⟨rfl, rfl⟩ := h;simp [Fo.level] at hd h1 ⊢;omega
       · simp at h
     · simp at h
   · simp at h
end Go.Proofs.YtakgjcfkdemipaaGreatDoor
