/-
  The base of this seat's texts: words of the walk for strings that are given as lists of bytes. No condition.
  Plain functions on lists of bytes: letters and digits, the end of a name, reserved words, names. No condition. The order of texts (plain). No condition. A slice value that holds cells (read only), and lists of texts held so. No condition. Contracts: the end of the name that a text begins with (argusref03.cut, argusref01.run, (*kind.text).word). No condition but the length's bound. Types as trees, and how they are read from bytes (plain; no program in sight). A forest is a list of parts: each has a name and a type; an argument is a part without a name.
  Signatures, operations, faces (plain): their parts; when two signatures are equal; their types. No condition.
  Small facts on worlds: cells of a block, what stays where the world only grows. No condition.
  Faces, signatures, needs and operations in memory: what a slice value or a struct value holds; kept where the world only grows. No condition.
  A set of texts that the call itself makes (map[string]bool, only true is stored): made, stored into, looked up. No condition but the bounds that the laws ask.
-/
import Derived.BigQuiet
import Derived.Deep.QuietTactic
import Derived.Deep.RegionHeld3
import Derived.Laws.EntriesVeiled
import Derived.Laws.Pointers
import Derived.Laws.ResultCell
import Derived.Lib.Hide
import Derived.Maps.OwnOps
import Derived.Maps.OwnSet
import Derived.Maps.StringElems
import Derived.StillTactics
import Derived.StillTailTactics
import Derived.Test.YtakgjcfkdemipaaGreatDoorRows
import Derived.WalkKit
import Derived.WalkLawsBesides
import Derived.WalkSpells
import Derived.Test.YtakgjcfkdemipaaGreatDoorYn
namespace Go.Proofs.YtakgjcfkdemipaaGreatDoor
open Go.RowKit
@[go_sem] theorem bytes_get (l : List UInt8) (k : Nat) (h : k < (⟨l.toArray⟩ : ByteArray).size) : (⟨l.toArray⟩ : ByteArray)[k]'h = l[k]'h := rfl
@[go_sem] theorem bytes_extract (l : List UInt8) (a b : Nat) : (⟨l.toArray⟩ : ByteArray).extract a b = ⟨((l.take b).drop a).toArray⟩ := by
 apply ByteArray.ext
 simp [ByteArray.data_extract, List.extract_eq_take_drop, List.drop_take]
abbrev str (l : List UInt8) : Value := .string ⟨l.toArray⟩
end Go.Proofs.YtakgjcfkdemipaaGreatDoor
namespace Go.Proofs.YtakgjcfkdemipaaGreatDoor
def alnum (c : UInt8) : Bool := (decide (97 ≤ c.toNat) && decide (c.toNat ≤ 122)) || (decide (48 ≤ c.toNat) && decide (c.toNat ≤ 57))
def cutN (l : List UInt8) : Nat := (l.takeWhile alnum).length
theorem cutN_le (l : List UInt8) : cutN l ≤ l.length := by
 unfold cutN
 exact (List.takeWhile_sublist alnum).length_le
theorem cutN_cons (c : UInt8) (l : List UInt8) : cutN (c :: l) = if alnum c then cutN l + 1 else 0 := by
 unfold cutN
 rw [List.takeWhile_cons]
 split <;> simp
theorem cutN_stop : ∀ (k : Nat) (l : List UInt8), k ≤ cutN l → (h : k < l.length) → alnum l[k] = false → cutN l = k
 | 0, [], _, h, _ => by simp at h
 | 0, c :: l, _, _, ha => by rw [cutN_cons]; simp at ha; simp [ha]
 | k + 1, [], _, h, _ => by simp at h
 | k + 1, c :: l, hk, h, ha => by
  rw [cutN_cons] at hk ⊢;split at hk
  · rename_i hc
    rw [if_pos hc, cutN_stop k l (by omega) (by simpa using h) (by simpa using ha)]
  · omega
theorem cutN_step : ∀ (k : Nat) (l : List UInt8), k ≤ cutN l → (h : k < l.length) → alnum l[k] = true → k + 1 ≤ cutN l
 | 0, [], _, h, _ => by simp at h
 | 0, c :: l, _, _, ha => by rw [cutN_cons]; simp at ha; simp [ha]
 | k + 1, [], _, h, _ => by simp at h
 | k + 1, c :: l, hk, h, ha => by
  rw [cutN_cons] at hk ⊢;split at hk
  · rename_i hc
    rw [if_pos hc];have := cutN_step k l (by omega) (by simpa using h) (by simpa using ha);omega
  · omega
theorem cutN_end (k : Nat) (l : List UInt8) (h1 : k ≤ cutN l) (h2 : ¬ k < l.length) : cutN l = k := by
 have := cutN_le l; omega
theorem alnum_cases (c : UInt8) : (alnum c = true ∧ (((97 : Int) ≤ (c.toNat : Int) ∧ (c.toNat : Int) ≤ 122) ∨ ((48 : Int) ≤ (c.toNat : Int) ∧ (c.toNat : Int) ≤ 57))) ∨
 (alnum c = false ∧ ((c.toNat : Int) < 48 ∨ ((57 : Int) < (c.toNat : Int) ∧ (c.toNat : Int) < 97) ∨ (122 : Int) < (c.toNat : Int))) := by
 simp only [alnum, Bool.or_eq_true, Bool.and_eq_true, decide_eq_true_eq, Bool.or_eq_false_iff, Bool.and_eq_false_iff, decide_eq_false_iff_not]
 omega
def wordsL : List (List UInt8) := [[97, 110, 100], [97, 114, 114, 97, 121], [98, 101, 103, 105, 110], [98, 111, 111, 108], [98, 114, 101, 97, 107], [99, 108, 117, 115, 116, 101, 114], [100, 111], [100, 111, 119, 110], [101, 108, 115, 101], [101, 108, 115, 101, 105, 102], [101, 110, 100], [101, 120, 99, 101, 112, 116], [102, 97, 108, 115, 101], [102, 111, 114], [104, 97, 115], [105, 102], [105, 110], [105, 110, 116], [105, 115], [105, 116, 101, 114], [109, 111, 100], [110, 105, 108], [110, 111, 116], [110, 117, 108, 108], [111, 110, 101, 111, 102], [111, 114], [111, 116, 104, 101, 114, 115], [112, 114, 111, 99], [112, 117, 116], [114, 101, 99, 111, 114, 100], [114, 101, 112], [114, 101, 116, 117, 114, 110], [114, 101, 116, 117, 114, 110, 115], [115, 105, 103, 110, 97, 108], [115, 105, 103, 110, 97, 108, 115], [116, 97, 103], [116, 97, 103, 99, 97, 115, 101], [116, 104, 101, 110], [116, 114, 117, 101], [117, 112], [118, 97, 114], [119, 104, 101, 110], [119, 104, 101, 114, 101], [119, 104, 105, 108, 101], [121, 105, 101, 108, 100], [121, 105, 101, 108, 100, 115]]
def isWord (l : List UInt8) : Bool := wordsL.contains l
def low (c : UInt8) : Bool := decide (97 ≤ c.toNat) && decide (c.toNat ≤ 122)
def isName (l : List UInt8) : Bool :=
 match l with
 | [] => false
 | c :: r => decide ((c :: r).length ≤ 12) && low c && decide (cutN (c :: r) = (c :: r).length) && !isWord (c :: r)
def hasB (ss : List (List UInt8)) (s : List UInt8) : Bool := ss.contains s
end Go.Proofs.YtakgjcfkdemipaaGreatDoor
namespace Go.Proofs.YtakgjcfkdemipaaGreatDoor
theorem less_cons (x y : UInt8) (a b : List UInt8) : Op.bytesLess (x :: a) (y :: b) = true ↔ x.toNat < y.toNat ∨ (x = y ∧ Op.bytesLess a b = true) := by
 rw [Op.bytesLess]
 simp only [Bool.or_eq_true, Bool.and_eq_true, decide_eq_true_eq, beq_iff_eq, UInt8.lt_iff_toNat_lt]
theorem less_nil (a : List UInt8) : Op.bytesLess a [] = false := by cases a <;> rfl
theorem less_total : ∀ (a b : List UInt8), Op.bytesLess a b = false → (Op.bytesLess b a || b == a) = true
 | [], [], _ => rfl
 | [], y :: b, h => by simp [Op.bytesLess] at h
 | x :: a, [], _ => by simp [Op.bytesLess]
 | x :: a, y :: b, h => by
  have h1 : ¬ (x.toNat < y.toNat ∨ (x = y ∧ Op.bytesLess a b = true)) := fun hh => by rw [(less_cons x y a b).2 hh] at h; simp at h
  simp only [not_or, not_and, Nat.not_lt] at h1;rw [Bool.or_eq_true, less_cons]
  by_cases e : x = y
  · subst e
    have h2 := h1.2 rfl;have h3 := less_total a b (by simpa using h2);rw [Bool.or_eq_true] at h3;rcases h3 with h3 | h3
    · exact .inl (.inr ⟨rfl, h3⟩)
    · exact .inr (by simpa using h3)
  · refine .inl (.inl ?_)
    have : x.toNat ≠ y.toNat := fun h => e (UInt8.toNat_inj.1 h)
    omega
theorem less_asymm : ∀ (a b : List UInt8), Op.bytesLess a b = true → Op.bytesLess b a = false
 | [], [], h => by simp [Op.bytesLess] at h
 | [], y :: b, _ => rfl
 | x :: a, [], h => by simp [Op.bytesLess] at h
 | x :: a, y :: b, h => by
  rw [less_cons] at h;rw [← Bool.not_eq_true, less_cons];intro h';rcases h with h | ⟨rfl, h⟩
  · rcases h' with h' | ⟨rfl, _⟩
    · omega
    · omega
  · rcases h' with h' | ⟨_, h'⟩
    · omega
    · rw [less_asymm a b h] at h'; simp at h'
theorem less_irrefl (a : List UInt8) : Op.bytesLess a a = false := by
 cases h : Op.bytesLess a a
 · rfl
 · rw [← h, less_asymm a a h]
theorem less_trans : ∀ (a b c : List UInt8), Op.bytesLess a b = true → Op.bytesLess b c = true → Op.bytesLess a c = true
 | _, _, [], _, h => by rw [less_nil] at h; simp at h
 | [], _, z :: c, _, _ => rfl
 | x :: a, [], z :: c, h, _ => by simp [Op.bytesLess] at h
 | x :: a, y :: b, z :: c, h, h' => by
  rw [less_cons] at *;rcases h with h | ⟨rfl, h⟩
  · rcases h' with h' | ⟨rfl, _⟩
    · exact .inl (by omega)
    · exact .inl h
  · rcases h' with h' | ⟨rfl, h'⟩
    · exact .inl h'
    · exact .inr ⟨rfl, less_trans a b c h h'⟩
end Go.Proofs.YtakgjcfkdemipaaGreatDoor
namespace Go.Proofs.YtakgjcfkdemipaaGreatDoor
open Go.RowKit
def Sl (w : World) (v : Value) (n : Nat) (xs : List Value) : Prop :=
 (v = .slice none 0 0 ∧ n = 0 ∧ xs = []) ∨
 ∃ b o cap, v = .slice (some ⟨b, o, none⟩) n cap ∧ n ≤ maxLen ∧ (n = 0 → xs = []) ∧ ∀ j u, xs[j]? = some u → w.cell? ⟨b, o + j, none⟩ = some u
theorem Sl.nil (w : World) : Sl w (.slice none 0 0) 0 [] := .inl ⟨rfl, rfl, rfl⟩
def strsC (ss : List (List UInt8)) : List Value := ss.map str
theorem strsC_get (ss : List (List UInt8)) (j : Nat) (h : j < ss.length) : (strsC ss)[j]? = some (str ss[j]) := by simp [strsC, h]
def Strs (w : World) (v : Value) (ss : List (List UInt8)) : Prop := Sl w v ss.length (strsC ss)
theorem Strs.shape {w : World} {v : Value} {ss : List (List UInt8)} (h : Strs w v ss) :
 (v = .slice none 0 0 ∧ ss = []) ∨ ∃ b o cap, v = .slice (some ⟨b, o, none⟩) ss.length cap ∧ ss.length ≤ maxLen ∧ ∀ j (hj : j < ss.length), w.cell? ⟨b, o + j, none⟩ = some (str ss[j]) := by
 rcases h with ⟨rfl, h, _⟩ | ⟨b, o, cap, rfl, h1, h2, h3⟩
 · exact .inl ⟨rfl, List.length_eq_zero_iff.1 h⟩
 · exact .inr ⟨b, o, cap, rfl, h1, fun j hj => h3 j _ (strsC_get ss j hj)⟩
theorem ret_bool {a b : Bool} (h : a = b) : Ending.returned (.bool a) = .returned (.bool b) := by rw [h]
end Go.Proofs.YtakgjcfkdemipaaGreatDoor
namespace Go.Proofs.YtakgjcfkdemipaaGreatDoor
open Go.RowKit
set_option maxHeartbeats 800000 in
theorem word_any (l : List UInt8) (b : Nat) (w : World) (hl : l.length ≤ maxLen) (hc : w.cell? ⟨b, 0, none⟩ = some (str l)) (hf : w.frozen? ⟨b, 0, none⟩ = false) :
 Calls Tryz.prog 254 #[.pointer (some ⟨b, 0, none⟩)] w fun e w' => e = .returned (str (l.take (cutN l))) ∧ w' = w.setCell ⟨b, 0, none⟩ (str (l.drop (cutN l))) := by
 unfold maxLen at hl
 go_enter Tryz.func254, Tryz.ntmps254
 go_wp2
 go_loop [3] (fun i => ∃ k : Nat, k ≤ l.length ∧ k ≤ cutN l ∧ i = .int .i64 k) (fun i => l.length - (intOf i).toNat)
 case atStart => exact ⟨0, by omega, by omega, rfl⟩
 case round =>
  obtain ⟨k, hk, hn, rfl⟩ := hrel
  by_cases hlt : k < l.length
  · have hs := cutN_stop k l hn hlt
    have ht := cutN_step k l hn hlt;rcases alnum_cases l[k] with ⟨ha, hc⟩ | ⟨ha, hc⟩
    · have Hn := ht ha
      clear ht hs ha;rcases hc with ⟨h1, h2⟩ | ⟨h1, h2⟩
      all_goals
       go_wp2_with fail
       go_round
       case rel => exact ⟨k + 1, by omega, by omega, by go_num⟩
       case measure => simp [intOf]; omega
    · have Hn : Hid _ := hs ha
      clear ht hs ha;rcases hc with h1 | ⟨h1, h2⟩ | h1
      all_goals
       go_wp2_with fail;go_ret;rw [Hn.out];exact ⟨rfl, rfl⟩
  · have Hn : Hid _ := cutN_end k l hn hlt
    go_wp2_with fail;go_ret;rw [Hn.out];exact ⟨rfl, rfl⟩
end Go.Proofs.YtakgjcfkdemipaaGreatDoor
namespace Go.Proofs.YtakgjcfkdemipaaGreatDoor
inductive Fo where
 | nil
 | cons (pn : List UInt8) (k : Nat) (n : List UInt8) (sub rest : Fo)
structure Tr where
 k : Nat
 n : List UInt8
 sub : Fo
namespace Fo
def len : Fo → Nat
 | nil => 0
 | cons _ _ _ _ rest => rest.len + 1
def level : Fo → Nat
 | nil => 0
 | cons _ _ _ sub rest => max (sub.level + 1) rest.level
end Fo
def Tr.level (t : Tr) : Nat := t.sub.level + 1
def Fo.one (t : Tr) : Fo := .cons [] t.k t.n t.sub .nil
def wInt : List UInt8 := [105, 110, 116]
def wBool : List UInt8 := [98, 111, 111, 108]
def wNull : List UInt8 := [110, 117, 108, 108]
def wArray : List UInt8 := [97, 114, 114, 97, 121]
def wRecord : List UInt8 := [114, 101, 99, 111, 114, 100]
def wOneof : List UInt8 := [111, 110, 101, 111, 102]
def kind0 (w : List UInt8) : Nat := if w = wInt then 1 else if w = wBool then 2 else if w = wNull then 3 else 0
def kindB (w : List UInt8) : Nat := if w = wArray then 4 else if w = wRecord then 5 else if w = wOneof then 6 else 0
def pA : Nat → Option (List UInt8) → List UInt8 → Option (Fo × List UInt8)
 | 0, _, _ => none
 | f + 1, none, s =>
  match s with
  | 63 :: 116 :: r => some (.cons [] 8 [] .nil .nil, r)
  | _ =>
   let w := s.take (cutN s)
   let s1 := s.drop (cutN s)
   if kind0 w ≠ 0 then some (.cons [] (kind0 w) [] .nil .nil, s1)
   else if kindB w = 5 ∨ kindB w = 6 then
    match s1 with
    | 91 :: s2 => match pA f (some []) s2 with
     | some (fo, 93 :: r) => if fo.len ≤ 6 then some (.cons [] (kindB w) w fo .nil, r) else none
     | _ => none
    | _ => none
   else if kindB w = 4 ∨ isName w = true then
    match s1 with
    | 91 :: s2 => match pA f none s2 with
     | some (fo, 93 :: r) => some (.cons [] (if kindB w = 4 then 4 else 7) w fo .nil, r)
     | _ => none
    | _ => if kindB w = 4 then none else some (.cons [] 7 w .nil .nil, s1)
   else none
 | f + 1, some b, s =>
  let w := s.take (cutN s)
  if isName w = true ∧ Op.bytesLess b w = true then
   match s.drop (cutN s) with
   | 58 :: s2 => match pA f none s2 with
    | some (.cons _ k n sub _, r) => match r with
     | 44 :: r2 => match pA f (some w) r2 with
      | some (fo, r3) => some (.cons w k n sub fo, r3)
      | none => none
     | _ => some (.cons w k n sub .nil, r)
    | _ => none
   | _ => none
  else none
theorem pA_param (f : Nat) (r : List UInt8) : pA (f + 1) none (63 :: 116 :: r) = some (.cons [] 8 [] .nil .nil, r) := by simp [pA]
def noPar (s : List UInt8) : Prop := ∀ r, s ≠ 63 :: 116 :: r
def pW (f : Nat) (w s1 : List UInt8) : Option (Fo × List UInt8) :=
 if kind0 w ≠ 0 then some (.cons [] (kind0 w) [] .nil .nil, s1)
 else if kindB w = 5 ∨ kindB w = 6 then
  match s1 with
  | 91 :: s2 => match pA f (some []) s2 with
   | some (fo, 93 :: r) => if fo.len ≤ 6 then some (.cons [] (kindB w) w fo .nil, r) else none
   | _ => none
  | _ => none
 else if kindB w = 4 ∨ isName w = true then
  match s1 with
  | 91 :: s2 => match pA f none s2 with
   | some (fo, 93 :: r) => some (.cons [] (if kindB w = 4 then 4 else 7) w fo .nil, r)
   | _ => none
  | _ => if kindB w = 4 then none else some (.cons [] 7 w .nil .nil, s1)
 else none
theorem pA_none (f : Nat) (s : List UInt8) (h : noPar s) : pA (f + 1) none s = pW f (s.take (cutN s)) (s.drop (cutN s)) := by
 rw [pA]
 · rfl
 · exact fun r e => h r e
def pV (f : Nat) (w s1 : List UInt8) : Option (Fo × List UInt8) :=
 match s1 with
 | 58 :: s2 => match pA f none s2 with
  | some (.cons _ k n sub _, r) => match r with
   | 44 :: r2 => match pA f (some w) r2 with
    | some (fo, r3) => some (.cons w k n sub fo, r3)
    | none => none
   | _ => some (.cons w k n sub .nil, r)
  | _ => none
 | _ => none
theorem pA_some (f : Nat) (b s : List UInt8) : pA (f + 1) (some b) s = if isName (s.take (cutN s)) = true ∧ Op.bytesLess b (s.take (cutN s)) = true then pV f (s.take (cutN s)) (s.drop (cutN s)) else none := rfl
theorem pA_le : ∀ (f : Nat) (tag : Option (List UInt8)) (s : List UInt8) (fo : Fo) (r : List UInt8), pA f tag s = some (fo, r) → r.length < s.length := by
 intro f
 induction f with
 | zero => intro tag s fo r h; simp [pA] at h
 | succ f ih =>
  intro tag s fo r h;have hc := cutN_le s;have hd : (s.drop (cutN s)).length = s.length - cutN s := by simp
  have hw : ∀ w, s.take (cutN s) = w → w.length = cutN s := by intro w e; rw [← e]; simp; omega
  cases tag with
  | none =>
   by_cases hp : noPar s
   · rw [pA_none f s hp] at h
     generalize s.drop (cutN s) = s1 at h hd;generalize s.take (cutN s) = w at h hw;have hw := hw w rfl;unfold pW at h;split at h
     · rename_i h0
       have : 0 < w.length := by
        cases w with
        | nil => exact absurd rfl h0
        | cons => simp
       simp only [Option.some.injEq, Prod.mk.injEq] at h;obtain ⟨_, rfl⟩ := h;omega
     · split at h
       · split at h
         · rename_i s2
           split at h
           · rename_i fo2 r2 e2
             split at h
             · have := ih _ _ _ _ e2
               simp only [Option.some.injEq, Prod.mk.injEq] at h;obtain ⟨_, rfl⟩ := h;simp at hd this;omega
             · simp at h
           · simp at h
         · simp at h
       · split at h
         · rename_i hk
           split at h
           · rename_i s2
             split at h
             · rename_i fo2 r2 e2
               have := ih _ _ _ _ e2;simp only [Option.some.injEq, Prod.mk.injEq] at h;obtain ⟨_, rfl⟩ := h;simp at hd this;omega
             · simp at h
           · split at h
             · simp at h
             · rename_i h4
               have hn : isName w = true := hk.resolve_left h4;have : 0 < w.length := by
                cases w with
                | nil => simp [isName] at hn
                | cons => simp
               simp only [Option.some.injEq, Prod.mk.injEq] at h;obtain ⟨_, rfl⟩ := h;omega
         · simp at h
   · unfold noPar at hp
     simp only [ne_eq, Classical.not_forall, Decidable.not_not] at hp;obtain ⟨r', rfl⟩ := hp;rw [pA_param] at h;simp only [Option.some.injEq, Prod.mk.injEq] at h;obtain ⟨_, rfl⟩ := h;simp;omega
  | some b =>
   rw [pA_some] at h;split at h
   · generalize s.drop (cutN s) = s1 at h hd
     unfold pV at h;split at h
     · rename_i s2
       split at h
       · rename_i k n sub _ r1 e1
         have := ih _ _ _ _ e1;split at h
         · split at h
           · rename_i e2
             have := ih _ _ _ _ e2;simp only [Option.some.injEq, Prod.mk.injEq] at h;obtain ⟨_, rfl⟩ := h;simp at hd this;simp at *;omega
           · simp at h
         · simp only [Option.some.injEq, Prod.mk.injEq] at h
           obtain ⟨_, rfl⟩ := h;simp at hd;omega
       · simp at h
     · simp at h
   · simp at h
theorem pA_fuel : ∀ (f g : Nat) (tag : Option (List UInt8)) (s : List UInt8), s.length < f → s.length < g → pA f tag s = pA g tag s := by
 intro f
 induction f with
 | zero => intro g tag s h; omega
 | succ f ih =>
  intro g tag s hf hg;cases g with
  | zero => omega
  | succ g =>
   have hc := cutN_le s;have hd : (s.drop (cutN s)).length = s.length - cutN s := by simp
   cases tag with
   | none =>
    by_cases hp : noPar s
    · rw [pA_none f s hp, pA_none g s hp]
      generalize s.drop (cutN s) = s1 at hd;generalize s.take (cutN s) = w;unfold pW;split
      · rfl
      · split
        · split
          · rename_i s2
            simp at hd;rw [ih g (some []) s2 (by omega) (by omega)]
          · rfl
        · split
          · split
            · rename_i s2
              simp at hd;rw [ih g none s2 (by omega) (by omega)]
            · rfl
          · rfl
    · unfold noPar at hp
      simp only [ne_eq, Classical.not_forall, Decidable.not_not] at hp;obtain ⟨r', rfl⟩ := hp;rw [pA_param, pA_param]
   | some b =>
    rw [pA_some, pA_some];split
    · generalize s.drop (cutN s) = s1 at hd
      unfold pV;split
      · rename_i s2
        simp at hd;rw [ih g none s2 (by omega) (by omega)];split
        · rename_i k n sub _ r1 e1
          have := pA_le _ _ _ _ _ e1;split
          · rename_i r2
            simp at this;rw [ih g (some _) r2 (by omega) (by omega)]
          · rfl
        · rfl
      · rfl
    · rfl
theorem pA_one (f : Nat) (s : List UInt8) (fo : Fo) (r : List UInt8) (h : pA f none s = some (fo, r)) : ∃ t : Tr, fo = .one t := by
 cases f with
 | zero => simp [pA] at h
 | succ f =>
  by_cases hp : noPar s
  · rw [pA_none f s hp] at h
    generalize s.drop (cutN s) = s1 at h;generalize s.take (cutN s) = w at h;unfold pW at h;split at h
    · simp only [Option.some.injEq, Prod.mk.injEq] at h
      exact ⟨⟨_, _, _⟩, h.1.symm⟩
    · split at h
      · split at h
        · split at h
          · split at h
            · simp only [Option.some.injEq, Prod.mk.injEq] at h
              exact ⟨⟨_, _, _⟩, h.1.symm⟩
            · simp at h
          · simp at h
        · simp at h
      · split at h
        · split at h
          · split at h
            · simp only [Option.some.injEq, Prod.mk.injEq] at h
              exact ⟨⟨_, _, _⟩, h.1.symm⟩
            · simp at h
          · split at h
            · simp at h
            · simp only [Option.some.injEq, Prod.mk.injEq] at h
              exact ⟨⟨_, _, _⟩, h.1.symm⟩
        · simp at h
  · unfold noPar at hp
    simp only [ne_eq, Classical.not_forall, Decidable.not_not] at hp;obtain ⟨r', rfl⟩ := hp;rw [pA_param] at h;simp only [Option.some.injEq, Prod.mk.injEq] at h;exact ⟨⟨_, _, _⟩, h.1.symm⟩
def headT : Option (Fo × List UInt8) → Option (Tr × List UInt8)
 | some (.cons _ k n sub _, r) => some (⟨k, n, sub⟩, r)
 | _ => none
def parseT (s : List UInt8) : Option (Tr × List UInt8) := headT (pA (s.length + 1) none s)
def parseP (b s : List UInt8) : Option (Fo × List UInt8) := pA (s.length + 1) (some b) s
theorem pA_parseP {f : Nat} {b s : List UInt8} (h : s.length < f) : pA f (some b) s = parseP b s := pA_fuel _ _ _ _ h (by omega)
theorem pA_parseT {f : Nat} {s : List UInt8} (h : s.length < f) : pA f none s = (parseT s).map fun x => (Fo.one x.1, x.2) := by
 rw [pA_fuel f (s.length + 1) none s h (by omega)]
 unfold parseT
 cases hx : pA (s.length + 1) none s with
 | none => rfl
 | some x =>
  obtain ⟨fo, r⟩ := x;obtain ⟨t, rfl⟩ := pA_one _ _ _ _ hx
  rfl
theorem parseT_le {s r : List UInt8} {t : Tr} (h : parseT s = some (t, r)) : r.length < s.length := by
 refine pA_le (s.length + 1) none s (.one t) r ?_
 rw [pA_parseT (by omega), h]; rfl
theorem parseT_param (r : List UInt8) : parseT (63 :: 116 :: r) = some (⟨8, [], .nil⟩, r) := by
 unfold parseT; rw [pA_param]; rfl
theorem parseT_none (s : List UInt8) (h : noPar s) : parseT s = headT (pW s.length (s.take (cutN s)) (s.drop (cutN s))) := by
 unfold parseT; rw [pA_none _ _ h]
section
variable {s : List UInt8} (hp : noPar s)
include hp
theorem parseT_word (h0 : kind0 (s.take (cutN s)) ≠ 0) : parseT s = some (⟨kind0 (s.take (cutN s)), [], .nil⟩, s.drop (cutN s)) := by
 rw [parseT_none s hp]; unfold pW; rw [if_pos h0]; rfl
theorem parseT_rec_no (h0 : kind0 (s.take (cutN s)) = 0) (hk : kindB (s.take (cutN s)) = 5 ∨ kindB (s.take (cutN s)) = 6) (hb : ∀ r, s.drop (cutN s) ≠ 91 :: r) : parseT s = none := by
 rw [parseT_none s hp]; unfold pW; rw [if_neg (by simpa using h0), if_pos hk]
 split
 · rename_i e; exact absurd e (hb _)
 · rfl
theorem parseT_rec (h0 : kind0 (s.take (cutN s)) = 0) (hk : kindB (s.take (cutN s)) = 5 ∨ kindB (s.take (cutN s)) = 6) {s2 : List UInt8} (hb : s.drop (cutN s) = 91 :: s2) :
 parseT s = match parseP [] s2 with
  | some (fo, 93 :: r) => if fo.len ≤ 6 then some (⟨kindB (s.take (cutN s)), s.take (cutN s), fo⟩, r) else none
  | _ => none := by
 have hl : s2.length < s.length := by
  have : (s.drop (cutN s)).length = s.length - cutN s := by simp
  rw [hb] at this; simp at this; omega
 rw [parseT_none s hp]; unfold pW; rw [if_neg (by simpa using h0), if_pos hk, hb]
 simp only
 rw [pA_parseP hl]
 rcases parseP [] s2 with _ | ⟨fo, r⟩
 · rfl
 · split
   · split <;> simp_all [headT]
   · rfl
theorem parseT_arg (h0 : kind0 (s.take (cutN s)) = 0) (hk : kindB (s.take (cutN s)) = 4 ∨ (kindB (s.take (cutN s)) = 0 ∧ isName (s.take (cutN s)) = true)) {s2 : List UInt8} (hb : s.drop (cutN s) = 91 :: s2) :
 parseT s = match parseT s2 with
  | some (t, 93 :: r) => some (⟨if kindB (s.take (cutN s)) = 4 then 4 else 7, s.take (cutN s), .one t⟩, r)
  | _ => none := by
 have hl : s2.length < s.length := by
  have : (s.drop (cutN s)).length = s.length - cutN s := by simp
  rw [hb] at this; simp at this; omega
 rw [parseT_none s hp]; unfold pW; rw [if_neg (by simpa using h0), if_neg (by omega), if_pos (by rcases hk with hk | hk; exact .inl hk; exact .inr hk.2), hb]
 simp only
 rw [pA_parseT hl]
 rcases parseT s2 with _ | ⟨fo, r⟩
 · rfl
 · simp only [Option.map_some]
   split
   · simp_all [headT]
   · split
     · simp_all
     · rfl
theorem parseT_arr_no (h0 : kind0 (s.take (cutN s)) = 0) (hk : kindB (s.take (cutN s)) = 4) (hb : ∀ r, s.drop (cutN s) ≠ 91 :: r) : parseT s = none := by
 rw [parseT_none s hp]; unfold pW; rw [if_neg (by simpa using h0), if_neg (by omega), if_pos (.inl hk)]
 split
 · rename_i e; exact absurd e (hb _)
 · rw [if_pos hk]; rfl
theorem parseT_name (h0 : kind0 (s.take (cutN s)) = 0) (hk : kindB (s.take (cutN s)) = 0) (hn : isName (s.take (cutN s)) = true) (hb : ∀ r, s.drop (cutN s) ≠ 91 :: r) :
 parseT s = some (⟨7, s.take (cutN s), .nil⟩, s.drop (cutN s)) := by
 rw [parseT_none s hp]; unfold pW; rw [if_neg (by simpa using h0), if_neg (by omega), if_pos (.inr hn)]
 split
 · rename_i e; exact absurd e (hb _)
 · rw [if_neg (by omega)]; rfl
theorem parseT_bad (h0 : kind0 (s.take (cutN s)) = 0) (hk : kindB (s.take (cutN s)) = 0) (hn : isName (s.take (cutN s)) = false) : parseT s = none := by
 rw [parseT_none s hp]; unfold pW; rw [if_neg (by simpa using h0), if_neg (by omega), if_neg (by simp [hn]; omega)]; rfl
end
theorem parseP_bad {b s : List UInt8} (h : ¬ (isName (s.take (cutN s)) = true ∧ Op.bytesLess b (s.take (cutN s)) = true)) : parseP b s = none := by
 unfold parseP; rw [pA_some, if_neg h]
theorem parseP_colon {b s : List UInt8} (h : ∀ r, s.drop (cutN s) ≠ 58 :: r) : parseP b s = none := by
 unfold parseP; rw [pA_some]
 split
 · unfold pV
   split
   · rename_i e; exact absurd e (h _)
   · rfl
 · rfl
theorem parseP_ok {b s s2 : List UInt8} (h1 : isName (s.take (cutN s)) = true) (h2 : Op.bytesLess b (s.take (cutN s)) = true) (hb : s.drop (cutN s) = 58 :: s2) :
 parseP b s = match parseT s2 with
  | some (t, r) => match r with
   | 44 :: r2 => match parseP (s.take (cutN s)) r2 with
    | some (fo, r3) => some (.cons (s.take (cutN s)) t.k t.n t.sub fo, r3)
    | none => none
   | _ => some (.cons (s.take (cutN s)) t.k t.n t.sub .nil, r)
  | none => none := by
 have hl : s2.length < s.length := by
  have : (s.drop (cutN s)).length = s.length - cutN s := by simp
  rw [hb] at this; simp at this; omega
 unfold parseP
 rw [pA_some, if_pos ⟨h1, h2⟩, hb]
 unfold pV
 simp only
 rw [pA_parseT hl]
 rcases hx : parseT s2 with _ | ⟨t, r⟩
 · rfl
 · simp only [Option.map_some]
   have hr := parseT_le hx;rw [show Fo.one t = .cons [] t.k t.n t.sub .nil from rfl];dsimp only;split
   · rename_i r2
     rw [pA_parseP (by simp at hr; omega)]
     rfl
   · rfl
theorem fo_level : ∀ (f : Nat) (tag : Option (List UInt8)) (s : List UInt8) (fo : Fo) (r : List UInt8), pA f tag s = some (fo, r) → fo.level + r.length ≤ s.length := by
 intro f
 induction f with
 | zero => intro tag s fo r h; simp [pA] at h
 | succ f ih =>
  intro tag s fo r h;have hc := cutN_le s;have hd : (s.drop (cutN s)).length = s.length - cutN s := by simp
  have hw : ∀ w, s.take (cutN s) = w → w.length = cutN s := by intro w e; rw [← e]; simp; omega
  cases tag with
  | none =>
   by_cases hp : noPar s
   · rw [pA_none f s hp] at h
     generalize s.drop (cutN s) = s1 at h hd;generalize s.take (cutN s) = w at h hw;have hw := hw w rfl;unfold pW at h;split at h
     · rename_i h0
       have : 0 < w.length := by
        cases w with
        | nil => exact absurd rfl h0
        | cons => simp
       simp only [Option.some.injEq, Prod.mk.injEq] at h;obtain ⟨rfl, rfl⟩ := h;simp [Fo.level];omega
     · split at h
       · split at h
         · split at h
           · rename_i e2
             split at h
             · have := ih _ _ _ _ e2
               simp only [Option.some.injEq, Prod.mk.injEq] at h;obtain ⟨rfl, rfl⟩ := h;simp [Fo.level] at hd this ⊢;omega
             · simp at h
           · simp at h
         · simp at h
       · split at h
         · rename_i hk
           split at h
           · split at h
             · rename_i e2
               have := ih _ _ _ _ e2;simp only [Option.some.injEq, Prod.mk.injEq] at h;obtain ⟨rfl, rfl⟩ := h;simp [Fo.level] at hd this ⊢;omega
             · simp at h
           · split at h
             · simp at h
             · rename_i h4
               have hn : isName w = true := hk.resolve_left h4;have : 0 < w.length := by
                cases w with
                | nil => simp [isName] at hn
                | cons => simp
               simp only [Option.some.injEq, Prod.mk.injEq] at h;obtain ⟨rfl, rfl⟩ := h;simp [Fo.level];omega
         · simp at h
   · unfold noPar at hp
     simp only [ne_eq, Classical.not_forall, Decidable.not_not] at hp;obtain ⟨r', rfl⟩ := hp;rw [pA_param] at h;simp only [Option.some.injEq, Prod.mk.injEq] at h;obtain ⟨rfl, rfl⟩ := h;simp [Fo.level];omega
  | some b =>
   rw [pA_some] at h;split at h
   · generalize s.drop (cutN s) = s1 at h hd
     unfold pV at h;split at h
     · split at h
       · rename_i e1
         have h1 := ih _ _ _ _ e1;split at h
         · split at h
           · rename_i e2
             have h2 := ih _ _ _ _ e2;simp only [Option.some.injEq, Prod.mk.injEq] at h;obtain ⟨rfl, rfl⟩ := h;simp [Fo.level] at hd h1 h2 ⊢;omega
           · simp at h
         · simp only [Option.some.injEq, Prod.mk.injEq] at h
           obtain ⟨rfl, rfl⟩ := h;simp [Fo.level] at hd h1 ⊢;omega
       · simp at h
     · simp at h
   · simp at h
end Go.Proofs.YtakgjcfkdemipaaGreatDoor
namespace Go.Proofs.YtakgjcfkdemipaaGreatDoor
structure SigP where
 iter : Bool
 args : List (List UInt8)
 res : List UInt8
 sigs : List (List UInt8)
structure OpP where
 name : List UInt8
 sig : SigP
structure FaceP where
 name : List UInt8
 kind : Nat
 par : Bool
 needs : List OpP
 ops : List OpP
def SigP.zero : SigP := ⟨false, [], [], []⟩
def sameK (a b : SigP) : Bool := decide (a.iter = b.iter) && decide (a.res = b.res) && decide (a.args = b.args) && decide (a.sigs = b.sigs)
theorem sameK_iff (a b : SigP) : sameK a b = true ↔ a = b := by
 rcases a with ⟨i, l, r, s⟩
 rcases b with ⟨i', l', r', s'⟩
 simp only [sameK, Bool.and_eq_true, decide_eq_true_eq, SigP.mk.injEq]
 constructor
 · rintro ⟨⟨⟨h1, h2⟩, h3⟩, h4⟩; exact ⟨h1, h3, h2, h4⟩
 · rintro ⟨h1, h3, h2, h4⟩; exact ⟨⟨⟨h1, h2⟩, h3⟩, h4⟩
def typesK (s : SigP) : List (List UInt8) := s.args ++ if s.res = [] then [] else [s.res]
end Go.Proofs.YtakgjcfkdemipaaGreatDoor
namespace Go.Proofs.YtakgjcfkdemipaaGreatDoor
open Go.RowKit
theorem cells_at {w : World} {b : Nat} {cs : Array Value} {t : TypeId} {z : Nat × Nat} (h : w.heap[b]? = some (.cells cs t z)) (j : Nat) : w.cell? ⟨b, j, none⟩ = cs[j]? := by
 unfold World.cell?
 rw [h]
 simp
theorem Below.keep {W w2 : World} (hb : Below W.heap.size W w2) {a : Addr} {v : Value} (h : W.cell? a = some v) : w2.cell? a = some v :=
 (hb.cell (World.block_lt_of_cell? _ _ h)).trans h
theorem below_less {B B' : Nat} {a b : World} (h : Below B' a b) (hB : B ≤ B') : Below B a b := ⟨h.os, h.tape, h.output, h.size, fun k hk => h.block k (by omega)⟩
theorem ownsRow_lt {w : World} {base : Nat} {e : TypeId} {size n : Nat} {v : Value} {xs : List Value} (h : w.ownsRow base e size v n xs) {b : Nat} (hb : v.ownBlock = some b) : b < w.heap.size := (h.lt b hb).2
theorem ownsRow_of_block {w w' : World} {base : Nat} {e : TypeId} {size n : Nat} {v : Value} {xs : List Value} (h : w.ownsRow base e size v n xs) (hb : ∀ b, v.ownBlock = some b → w'.heap[b]? = w.heap[b]?) : w'.ownsRow base e size v n xs := by
 refine ⟨h.1, ?_⟩
 rcases h.2 with h2 | ⟨g, cap, cur, rfl, h3, h4, h5⟩
 · exact .inl h2
 · exact .inr ⟨g, cap, cur, rfl, h3, by rw [hb g rfl]; exact h4, h5⟩
theorem ownsRow_below {B : Nat} {w w' : World} {base : Nat} {e : TypeId} {size n : Nat} {v : Value} {xs : List Value} (h : w.ownsRow base e size v n xs) (hb : Below B w w') (hB : w.heap.size ≤ B) : w'.ownsRow base e size v n xs :=
 ownsRow_of_block h fun _ e => hb.block _ (Nat.lt_of_lt_of_le (ownsRow_lt h e) hB)
theorem heap_up {w : World} {k : Nat} {o' : Obj} (o : Obj) (h : w.heap[k]? = some o') : (w.alloc o).heap[k]? = some o' :=
 (((Below.refl w.heap.size w).alloc (nl _) o).block k (Array.getElem?_eq_some_iff.1 h).1).trans h
theorem heap_to {w : World} {n : Nat} (hn : w.heap.size = n) (cs : Array Value) (t : TypeId) : (w.alloc (.cells cs t)).heap[n]? = some (.cells cs t (0, 0)) := hn ▸ heap_alloc_new w _
theorem free_at {w : World} {b : Nat} {cs : Array Value} {t : TypeId} (h : w.heap[b]? = some (.cells cs t (0, 0))) (j : Nat) : w.frozen? ⟨b, j, none⟩ = false := by
 unfold World.frozen?
 rw [h]
 simp
theorem box4 {w : World} {b : Nat} {a0 a1 a2 a3 : Value} {t : TypeId} (h : w.heap[b]? = some (.cells #[a0, a1, a2, a3] t (0, 0))) :
 (w.cell? ⟨b, 0, none⟩ = some a0 ∧ w.cell? ⟨b, 1, none⟩ = some a1 ∧ w.cell? ⟨b, 2, none⟩ = some a2 ∧ w.cell? ⟨b, 3, none⟩ = some a3) ∧
 (w.frozen? ⟨b, 0, none⟩ = false ∧ w.frozen? ⟨b, 1, none⟩ = false ∧ w.frozen? ⟨b, 2, none⟩ = false ∧ w.frozen? ⟨b, 3, none⟩ = false) :=
 ⟨⟨(cells_at h 0).trans rfl, (cells_at h 1).trans rfl, (cells_at h 2).trans rfl, (cells_at h 3).trans rfl⟩, ⟨free_at h 0, free_at h 1, free_at h 2, free_at h 3⟩⟩
theorem box5 {w : World} {b : Nat} {a0 a1 a2 a3 a4 : Value} {t : TypeId} (h : w.heap[b]? = some (.cells #[a0, a1, a2, a3, a4] t (0, 0))) :
 (w.cell? ⟨b, 0, none⟩ = some a0 ∧ w.cell? ⟨b, 1, none⟩ = some a1 ∧ w.cell? ⟨b, 2, none⟩ = some a2 ∧ w.cell? ⟨b, 3, none⟩ = some a3 ∧ w.cell? ⟨b, 4, none⟩ = some a4) ∧
 (w.frozen? ⟨b, 0, none⟩ = false ∧ w.frozen? ⟨b, 1, none⟩ = false ∧ w.frozen? ⟨b, 2, none⟩ = false ∧ w.frozen? ⟨b, 3, none⟩ = false ∧ w.frozen? ⟨b, 4, none⟩ = false) :=
 ⟨⟨(cells_at h 0).trans rfl, (cells_at h 1).trans rfl, (cells_at h 2).trans rfl, (cells_at h 3).trans rfl, (cells_at h 4).trans rfl⟩, ⟨free_at h 0, free_at h 1, free_at h 2, free_at h 3, free_at h 4⟩⟩
theorem heap_kept {w w' : World} {b K : Nat} {o : Obj} (h : w.heap[b]? = some o) (hb : Below K w w') (hK : b < K) : w'.heap[b]? = some o := (hb.block b hK).trans h
theorem heap_lt {w : World} {b : Nat} {o : Obj} (h : w.heap[b]? = some o) : b < w.heap.size := (Array.getElem?_eq_some_iff.1 h).1
theorem row_shape {w : World} {base : Nat} {e : TypeId} {size n : Nat} {v : Value} {xs : List Value} (h : w.ownsRow base e size v n xs) : ∃ p c, v = .slice p n c := by
 rcases h.2 with ⟨rfl, rfl⟩ | ⟨g, cap, cur, rfl, _⟩
 · exact ⟨none, 0, rfl⟩
 · exact ⟨some ⟨g, 0, none⟩, cap, rfl⟩
end Go.Proofs.YtakgjcfkdemipaaGreatDoor
namespace Go.Proofs.YtakgjcfkdemipaaGreatDoor
open Go.RowKit
theorem fdrop_at {α : Type} {l : List α} {k : Nat} {x : α} (h : l[k]? = some x) : l.drop k = x :: l.drop (k + 1) := by
 obtain ⟨hj, e⟩ := List.getElem?_eq_some_iff.1 h
 rw [List.drop_eq_getElem_cons hj, e]
def SS (D : Nat → Prop) (w : World) (v : Value) (ss : List (List UInt8)) : Prop :=
 ∃ p c, v = .slice p ss.length c ∧ ss.length ≤ c ∧ ss.length ≤ maxLen ∧ (∀ s ∈ ss, s.length ≤ maxLen) ∧ (ss = [] ∨ ∃ b o, p = some ⟨b, o, none⟩ ∧ D b ∧ b < w.heap.size ∧ ∀ j (h : j < ss.length), w.cell? ⟨b, o + j, none⟩ = some (str ss[j]))
theorem SS.shape {D : Nat → Prop} {w : World} {v : Value} {ss : List (List UInt8)} (h : SS D w v ss) : ∃ p c, v = .slice p ss.length c ∧ ss.length ≤ c ∧ ss.length ≤ maxLen ∧ ∀ s ∈ ss, s.length ≤ maxLen := by
 obtain ⟨p, c, h1, h2, h3, h4, _⟩ := h
 exact ⟨p, c, h1, h2, h3, h4⟩
theorem SS.le {D : Nat → Prop} {w : World} {v : Value} {ss : List (List UInt8)} (h : SS D w v ss) : ∀ s ∈ ss, s.length ≤ maxLen := by
 obtain ⟨p, c, _, _, _, h4, _⟩ := h
 exact h4
theorem SS.at {D : Nat → Prop} {w : World} {p : Option Addr} {n c : Nat} {ss : List (List UInt8)} (h : SS D w (.slice p n c) ss) {k : Nat} {x : List UInt8} (hk : ss[k]? = some x) : ∃ b o, p = some ⟨b, o, none⟩ ∧ D b ∧ w.cell? ⟨b, o + k, none⟩ = some (str x) := by
 obtain ⟨hj, e⟩ := List.getElem?_eq_some_iff.1 hk
 obtain ⟨p', c', h1, _, _, _, h4⟩ := h
 injection h1 with h1
 subst h1
 rcases h4 with rfl | ⟨b, o, e1, h5, _, h6⟩
 · simp at hj
 · exact ⟨b, o, e1, h5, by rw [h6 k hj, e]⟩
theorem SS.below {D : Nat → Prop} {K : Nat} {w w' : World} {v : Value} {ss : List (List UInt8)} (h : SS D w v ss) (hb : Below K w w') (hK : w.heap.size ≤ K) : SS D w' v ss := by
 obtain ⟨p, c, h1, h2, h3, hl, h4⟩ := h
 refine ⟨p, c, h1, h2, h3, hl, ?_⟩
 rcases h4 with h4 | ⟨b, o, e1, h5, h6, h7⟩
 · exact .inl h4
 · exact .inr ⟨b, o, e1, h5, Nat.lt_of_lt_of_le h6 hb.size, fun j hj => by rw [hb.cell (by show b < K; omega)]; exact h7 j hj⟩
theorem SS.mono {D D' : Nat → Prop} {w : World} {v : Value} {ss : List (List UInt8)} (h : SS D w v ss) (hD : ∀ b, D b → D' b) : SS D' w v ss := by
 obtain ⟨p, c, h1, h2, h3, hl, h4⟩ := h
 refine ⟨p, c, h1, h2, h3, hl, ?_⟩
 rcases h4 with h4 | ⟨b, o, e1, h5, h6, h7⟩
 · exact .inl h4
 · exact .inr ⟨b, o, e1, hD _ h5, h6, h7⟩
theorem SS.set {D : Nat → Prop} {w : World} {v : Value} {ss : List (List UInt8)} (h : SS D w v ss) {a : Addr} (ha : ∀ b, D b → b ≠ a.block) (u : Value) : SS D (w.setCell a u) v ss := by
 obtain ⟨p, c, h1, h2, h3, hl, h4⟩ := h
 refine ⟨p, c, h1, h2, h3, hl, ?_⟩
 rcases h4 with h4 | ⟨b, o, e1, h5, h6, h7⟩
 · exact .inl h4
 · refine .inr ⟨b, o, e1, h5, by simpa [World.setCell] using h6, fun j hj => ?_⟩
   rw [World.cell?_of_block (w := w) (heap_setCell_other w a _ u (ha b h5))];exact h7 j hj
theorem lt_agree {w w' : World} {b : Nat} (h : w'.heap[b]? = w.heap[b]?) (hb : b < w.heap.size) : b < w'.heap.size := by
 rw [Array.getElem?_eq_getElem hb] at h
 exact (Array.getElem?_eq_some_iff.1 h).1
theorem SS.agree {D : Nat → Prop} {w w' : World} {v : Value} {ss : List (List UInt8)} (h : SS D w v ss) (hk : ∀ b, D b → b < w.heap.size → w'.heap[b]? = w.heap[b]?) : SS D w' v ss := by
 obtain ⟨p, c, h1, h2, h3, hl, h4⟩ := h
 refine ⟨p, c, h1, h2, h3, hl, ?_⟩
 rcases h4 with h4 | ⟨b, o, e1, h5, h6, h7⟩
 · exact .inl h4
 · refine .inr ⟨b, o, e1, h5, lt_agree (hk b h5 h6) h6, fun j hj => ?_⟩
   rw [World.cell?_of_block (w := w) (a := ⟨b, o + j, none⟩) (hk b h5 h6)];exact h7 j hj
theorem SS.fresh {D : Nat → Prop} {w : World} {v : Value} {ss : List (List UInt8)} (h : SS D w v ss) : SS (fun b => D b ∧ b < w.heap.size) w v ss := by
 obtain ⟨p, c, h1, h2, h3, hl, h4⟩ := h
 refine ⟨p, c, h1, h2, h3, hl, ?_⟩
 rcases h4 with h4 | ⟨b, o, e1, h5, h6, h7⟩
 · exact .inl h4
 · exact .inr ⟨b, o, e1, ⟨h5, h6⟩, h6, h7⟩
theorem SS.nil (D : Nat → Prop) (w : World) (p : Option Addr) (c : Nat) : SS D w (.slice p 0 c) [] := ⟨p, c, rfl, Nat.zero_le _, Nat.zero_le _, (fun _ h => by cases h), .inl rfl⟩
theorem SS.new (D : Nat → Prop) (w : World) (hB : D w.heap.size) (ss : List (List UInt8)) (t : TypeId) (z : Nat × Nat) (h : ss.length ≤ maxLen) (hl : ∀ s ∈ ss, s.length ≤ maxLen) : SS D (w.alloc (.cells (strsC ss).toArray t z)) (.slice (some ⟨w.heap.size, 0, none⟩) ss.length ss.length) ss := by
 refine ⟨_, _, rfl, nl _, h, hl, .inr ⟨w.heap.size, 0, rfl, hB, by simp, fun j hj => ?_⟩⟩
 have hh := heap_alloc_new w (.cells (strsC ss).toArray t z)
 rw [Nat.zero_add]
 refine (cells_at hh j).trans ?_
 simp [strsC, hj]
theorem SS.newAt {D : Nat → Prop} {n : Nat} {w : World} (hn : w.heap.size = n) (hB : D n) (ss : List (List UInt8)) (t : TypeId) (z : Nat × Nat) (h : ss.length ≤ maxLen) (hl : ∀ s ∈ ss, s.length ≤ maxLen) : SS D (w.alloc (.cells (strsC ss).toArray t z)) (.slice (some ⟨n, 0, none⟩) ss.length ss.length) ss := by
 subst hn
 exact SS.new D w hB ss t z h hl
theorem SS.of_own {w : World} {base : Nat} {e : TypeId} {v : Value} {ss : List (List UInt8)} (h : w.ownsRow base e 1 v ss.length (strsC ss)) (hl : ∀ s ∈ ss, s.length ≤ maxLen) {D : Nat → Prop} (hD : ∀ b, v.ownBlock = some b → D b) : SS D w v ss := by
 have hlt := fun b e => ownsRow_lt h (b := b) e
 rcases h.2 with ⟨rfl, h0⟩ | ⟨g, cap, cur, rfl, hg, hh, h1, h2, h3, h4⟩
 · have e0 : ss = [] := List.length_eq_zero_iff.1 (by omega)
   subst e0;exact SS.nil _ _ _ _
 · refine ⟨_, _, rfl, by omega, by omega, hl, .inr ⟨g, 0, rfl, hD g rfl, hlt g rfl, fun j hj => ?_⟩⟩
   have := h.cells (g := g) rfl j _ (strsC_get ss j hj)
   rwa [show (⟨g, 0, none⟩ : Addr).add j = ⟨g, 0 + j, none⟩ from by unfold Addr.add; simp; omega] at this
def SigV (D : Nat → Prop) (w : World) (v : Value) (x : SigP) : Prop :=
 ∃ a s, v = .agg #[.bool x.iter, a, str x.res, s] ∧ x.res.length ≤ maxLen ∧ SS D w a x.args ∧ SS D w s x.sigs
theorem SigV.below {D : Nat → Prop} {K : Nat} {w w' : World} {v : Value} {x : SigP} (h : SigV D w v x) (hb : Below K w w') (hK : w.heap.size ≤ K) : SigV D w' v x := by
 obtain ⟨a, s, h1, h4, h2, h3⟩ := h
 exact ⟨a, s, h1, h4, h2.below hb hK, h3.below hb hK⟩
theorem SigV.mono {D D' : Nat → Prop} {w : World} {v : Value} {x : SigP} (h : SigV D w v x) (hD : ∀ b, D b → D' b) : SigV D' w v x := by
 obtain ⟨a, s, h1, h4, h2, h3⟩ := h
 exact ⟨a, s, h1, h4, h2.mono hD, h3.mono hD⟩
theorem SigV.zero (D : Nat → Prop) (w : World) : SigV D w (.agg #[.bool false, .slice none 0 0, str [], .slice none 0 0]) .zero := ⟨_, _, rfl, Nat.zero_le _, SS.nil _ _ _ _, SS.nil _ _ _ _⟩
def OpLe (x : OpP) : Prop := x.name.length ≤ maxLen ∧ x.sig.res.length ≤ maxLen
def OpsM (D : Nat → Prop) (w : World) (v : Value) (l : List OpP) : Prop :=
 ∃ p c, v = .slice p l.length c ∧ l.length ≤ c ∧ l.length ≤ maxLen ∧ (∀ x ∈ l, OpLe x) ∧ (l = [] ∨ ∃ b o, p = some ⟨b, o, none⟩ ∧ D b ∧ b < w.heap.size ∧ ∀ j (h : j < l.length), ∃ a s, SS D w a l[j].sig.args ∧ SS D w s l[j].sig.sigs ∧
  w.cell? ⟨b, o + j * 5, none⟩ = some (str l[j].name) ∧ w.cell? ⟨b, o + j * 5 + 1, none⟩ = some (.bool l[j].sig.iter) ∧ w.cell? ⟨b, o + j * 5 + 2, none⟩ = some a ∧ w.cell? ⟨b, o + j * 5 + 3, none⟩ = some (str l[j].sig.res) ∧ w.cell? ⟨b, o + j * 5 + 4, none⟩ = some s)
theorem OpsM.shape {D : Nat → Prop} {w : World} {v : Value} {l : List OpP} (h : OpsM D w v l) : ∃ p c, v = .slice p l.length c ∧ l.length ≤ c ∧ l.length ≤ maxLen ∧ ∀ x ∈ l, OpLe x := by
 obtain ⟨p, c, h1, h2, h3, h4, _⟩ := h
 exact ⟨p, c, h1, h2, h3, h4⟩
theorem OpsM.at {D : Nat → Prop} {w : World} {p : Option Addr} {n c : Nat} {l : List OpP} (h : OpsM D w (.slice p n c) l) {k : Nat} {x : OpP} (hk : l[k]? = some x) : ∃ b o a s, p = some ⟨b, o, none⟩ ∧ D b ∧ OpLe x ∧ SS D w a x.sig.args ∧ SS D w s x.sig.sigs ∧
 w.cell? ⟨b, o + k * 5, none⟩ = some (str x.name) ∧ w.cell? ⟨b, o + k * 5 + 1, none⟩ = some (.bool x.sig.iter) ∧ w.cell? ⟨b, o + k * 5 + 2, none⟩ = some a ∧ w.cell? ⟨b, o + k * 5 + 3, none⟩ = some (str x.sig.res) ∧ w.cell? ⟨b, o + k * 5 + 4, none⟩ = some s := by
 obtain ⟨hj, e⟩ := List.getElem?_eq_some_iff.1 hk
 obtain ⟨p', c', h1, _, _, hl, h4⟩ := h
 have hx := hl x (List.mem_of_getElem? hk)
 injection h1 with h1
 subst h1
 rcases h4 with rfl | ⟨b, o, e1, h5, _, h6⟩
 · simp at hj
 · obtain ⟨a, s, h7, h8, h9⟩ := h6 k hj
   rw [e] at h7 h8 h9;exact ⟨b, o, a, s, e1, h5, hx, h7, h8, h9⟩
theorem OpsM.below {D : Nat → Prop} {K : Nat} {w w' : World} {v : Value} {l : List OpP} (h : OpsM D w v l) (hb : Below K w w') (hK : w.heap.size ≤ K) : OpsM D w' v l := by
 obtain ⟨p, c, h1, h2, h3, hl, h4⟩ := h
 refine ⟨p, c, h1, h2, h3, hl, ?_⟩
 rcases h4 with h4 | ⟨b, o, e1, h5, h6, h7⟩
 · exact .inl h4
 · refine .inr ⟨b, o, e1, h5, Nat.lt_of_lt_of_le h6 hb.size, fun j hj => ?_⟩
   obtain ⟨a, s, k1, k2, k3⟩ := h7 j hj;have hc : ∀ i, w'.cell? ⟨b, i, none⟩ = w.cell? ⟨b, i, none⟩ := fun i => hb.cell (by show b < K; omega)
   exact ⟨a, s, k1.below hb hK, k2.below hb hK, by rw [hc, hc, hc, hc, hc]; exact k3⟩
theorem OpsM.mono {D D' : Nat → Prop} {w : World} {v : Value} {l : List OpP} (h : OpsM D w v l) (hD : ∀ b, D b → D' b) : OpsM D' w v l := by
 obtain ⟨p, c, h1, h2, h3, hl, h4⟩ := h
 refine ⟨p, c, h1, h2, h3, hl, ?_⟩
 rcases h4 with h4 | ⟨b, o, e1, h5, h6, h7⟩
 · exact .inl h4
 · refine .inr ⟨b, o, e1, hD _ h5, h6, fun j hj => ?_⟩
   obtain ⟨a, s, k1, k2, k3⟩ := h7 j hj;exact ⟨a, s, k1.mono hD, k2.mono hD, k3⟩
theorem OpsM.agree {D : Nat → Prop} {w w' : World} {v : Value} {l : List OpP} (h : OpsM D w v l) (hk : ∀ b, D b → b < w.heap.size → w'.heap[b]? = w.heap[b]?) : OpsM D w' v l := by
 obtain ⟨p, c, h1, h2, h3, hl, h4⟩ := h
 refine ⟨p, c, h1, h2, h3, hl, ?_⟩
 rcases h4 with h4 | ⟨b, o, e1, h5, h6, h7⟩
 · exact .inl h4
 · refine .inr ⟨b, o, e1, h5, lt_agree (hk b h5 h6) h6, fun j hj => ?_⟩
   obtain ⟨x, s, k1, k2, k3⟩ := h7 j hj;have hc : ∀ i, w'.cell? ⟨b, i, none⟩ = w.cell? ⟨b, i, none⟩ := fun i => World.cell?_of_block (w := w) (a := ⟨b, i, none⟩) (hk b h5 h6)
   exact ⟨x, s, k1.agree hk, k2.agree hk, by rw [hc, hc, hc, hc, hc]; exact k3⟩
theorem OpsM.fresh {D : Nat → Prop} {w : World} {v : Value} {l : List OpP} (h : OpsM D w v l) : OpsM (fun b => D b ∧ b < w.heap.size) w v l := by
 obtain ⟨p, c, h1, h2, h3, hl, h4⟩ := h
 refine ⟨p, c, h1, h2, h3, hl, ?_⟩
 rcases h4 with h4 | ⟨b, o, e1, h5, h6, h7⟩
 · exact .inl h4
 · refine .inr ⟨b, o, e1, ⟨h5, h6⟩, h6, fun j hj => ?_⟩
   obtain ⟨a, s, k1, k2, k3⟩ := h7 j hj;exact ⟨a, s, k1.fresh, k2.fresh, k3⟩
theorem OpsM.set {D : Nat → Prop} {w : World} {v : Value} {l : List OpP} (h : OpsM D w v l) {a : Addr} (ha : ∀ b, D b → b ≠ a.block) (u : Value) : OpsM D (w.setCell a u) v l := by
 obtain ⟨p, c, h1, h2, h3, hl, h4⟩ := h
 refine ⟨p, c, h1, h2, h3, hl, ?_⟩
 rcases h4 with h4 | ⟨b, o, e1, h5, h6, h7⟩
 · exact .inl h4
 · refine .inr ⟨b, o, e1, h5, by simpa [World.setCell] using h6, fun j hj => ?_⟩
   obtain ⟨x, s, k1, k2, k3⟩ := h7 j hj;have hc : ∀ i, (w.setCell a u).cell? ⟨b, i, none⟩ = w.cell? ⟨b, i, none⟩ := fun i => World.cell?_of_block (w := w) (heap_setCell_other w a _ u (ha b h5))
   exact ⟨x, s, k1.set ha u, k2.set ha u, by rw [hc, hc, hc, hc, hc]; exact k3⟩
theorem OpsM.nil (D : Nat → Prop) (w : World) (p : Option Addr) (c : Nat) : OpsM D w (.slice p 0 c) [] := ⟨p, c, rfl, Nat.zero_le _, Nat.zero_le _, (fun _ h => by cases h), .inl rfl⟩
def OpsC (D : Nat → Prop) (w : World) : List Value → List OpP → Prop
 | cs, [] => cs = []
 | cs, x :: l => ∃ a s r, cs = str x.name :: .bool x.sig.iter :: a :: str x.sig.res :: s :: r ∧ OpLe x ∧ SS D w a x.sig.args ∧ SS D w s x.sig.sigs ∧ OpsC D w r l
theorem OpsC.below {D : Nat → Prop} {K : Nat} {w w' : World} (hb : Below K w w') (hK : w.heap.size ≤ K) : ∀ {l : List OpP} {cs : List Value}, OpsC D w cs l → OpsC D w' cs l
 | [], _, h => h
 | _ :: _, _, ⟨a, s, r, h1, h0, h2, h3, h4⟩ => ⟨a, s, r, h1, h0, h2.below hb hK, h3.below hb hK, OpsC.below hb hK h4⟩
theorem OpsC.le {D : Nat → Prop} {w : World} : ∀ {l : List OpP} {cs : List Value}, OpsC D w cs l → ∀ x ∈ l, OpLe x
 | [], _, _ => fun x h => by cases h
 | y :: l, _, ⟨_, _, _, _, h0, _, _, h4⟩ => fun x h => by
  rcases List.mem_cons.1 h with rfl | h
  · exact h0
  · exact OpsC.le h4 x h
theorem OpsC.mono0 {D D' : Nat → Prop} {w : World} (hD : ∀ b, D b → D' b) : ∀ {l : List OpP} {cs : List Value}, OpsC D w cs l → OpsC D' w cs l
 | [], _, h => h
 | _ :: _, _, ⟨a, s, r, h1, h0, h2, h3, h4⟩ => ⟨a, s, r, h1, h0, h2.mono hD, h3.mono hD, OpsC.mono0 hD h4⟩
theorem OpsC.mono {D D' : Nat → Prop} {w : World} {l : List OpP} {cs : List Value} (h : OpsC D w cs l) (hD : ∀ b, D b → D' b) : OpsC D' w cs l := OpsC.mono0 hD h
theorem OpsC.get {D : Nat → Prop} {w : World} : ∀ {l : List OpP} {cs : List Value}, OpsC D w cs l → ∀ j (h : j < l.length), ∃ a s, SS D w a l[j].sig.args ∧ SS D w s l[j].sig.sigs ∧
 cs[j * 5]? = some (str l[j].name) ∧ cs[j * 5 + 1]? = some (.bool l[j].sig.iter) ∧ cs[j * 5 + 2]? = some a ∧ cs[j * 5 + 3]? = some (str l[j].sig.res) ∧ cs[j * 5 + 4]? = some s
 | [], _, _ => fun j h => by simp at h
 | x :: l, _, ⟨a, s, r, h1, _, h2, h3, h4⟩ => fun j h => by
  subst h1;cases j with
  | zero => exact ⟨a, s, h2, h3, rfl, rfl, rfl, rfl, rfl⟩
  | succ j =>
   have hj : j < l.length := by simpa using h
   obtain ⟨a', s', k1, k2, k3, k4, k5, k6, k7⟩ := OpsC.get h4 j hj;have e : (j + 1) * 5 = j * 5 + 1 + 1 + 1 + 1 + 1 := by omega
   refine ⟨a', s', k1, k2, ?_⟩;rw [e];exact ⟨by simpa using k3, by simpa using k4, by simpa using k5, by simpa using k6, by simpa using k7⟩
theorem OpsC.append {D : Nat → Prop} {w : World} {k : List OpP} {ds : List Value} (hk : OpsC D w ds k) : ∀ {l : List OpP} {cs : List Value}, OpsC D w cs l → OpsC D w (cs ++ ds) (l ++ k)
 | [], _, h => by rw [show _ = _ from h]; exact hk
 | _ :: _, _, ⟨a', s', r, h1, k0, k2, k3, k4⟩ => by subst h1; exact ⟨a', s', _, rfl, k0, k2, k3, OpsC.append hk k4⟩
theorem OpsM.of_own {w : World} {base : Nat} {e : TypeId} {v : Value} {l : List OpP} {cs : List Value} (h : w.ownsRow base e 5 v l.length cs) {D : Nat → Prop} (hD : ∀ b, v.ownBlock = some b → D b) (hc : OpsC D w cs l) : OpsM D w v l := by
 have hlt := fun b e => ownsRow_lt h (b := b) e
 rcases h.2 with ⟨rfl, h0⟩ | ⟨g, cap, cur, rfl, hg, hh, h1, h2, h3, h4⟩
 · have e0 : l = [] := List.length_eq_zero_iff.1 (by omega)
   subst e0;exact OpsM.nil _ _ _ _
 · refine ⟨_, _, rfl, by omega, by omega, hc.le, .inr ⟨g, 0, rfl, hD g rfl, hlt g rfl, fun j hj => ?_⟩⟩
   obtain ⟨a, s, k1, k2, k3, k4, k5, k6, k7⟩ := hc.get j hj;have hcell : ∀ i u, cs[i]? = some u → w.cell? ⟨g, 0 + i, none⟩ = some u := fun i u hu => by
    have := h.cells (g := g) rfl i u hu
    rwa [show (⟨g, 0, none⟩ : Addr).add i = ⟨g, 0 + i, none⟩ from by unfold Addr.add; simp; omega] at this
   exact ⟨a, s, k1, k2, hcell _ _ k3, hcell _ _ k4, hcell _ _ k5, hcell _ _ k6, hcell _ _ k7⟩
theorem OpsM.new {D : Nat → Prop} (w : World) (hB : D w.heap.size) {l : List OpP} {cs : List Value} (t : TypeId) (z : Nat × Nat) (hm : l.length ≤ maxLen) (hc : OpsC D w cs l) : OpsM D (w.alloc (.cells cs.toArray t z)) (.slice (some ⟨w.heap.size, 0, none⟩) l.length l.length) l := by
 have hb := (Below.refl _ w).alloc (nl _) (.cells cs.toArray t z)
 refine ⟨_, _, rfl, nl _, hm, hc.le, .inr ⟨w.heap.size, 0, rfl, hB, by simp, fun j hj => ?_⟩⟩
 obtain ⟨a, s, k1, k2, k3, k4, k5, k6, k7⟩ := hc.get j hj
 have hh := heap_alloc_new w (.cells cs.toArray t z)
 have hcell : ∀ i u, cs[i]? = some u → (w.alloc (.cells cs.toArray t z)).cell? ⟨w.heap.size, 0 + i, none⟩ = some u := fun i u hu => by
  rw [Nat.zero_add];refine (cells_at hh i).trans ?_
  simpa using hu
 exact ⟨a, s, k1.below hb (nl _), k2.below hb (nl _), hcell _ _ k3, hcell _ _ k4, hcell _ _ k5, hcell _ _ k6, hcell _ _ k7⟩
def FaceV (D : Nat → Prop) (w : World) (v : Value) (f : FaceP) : Prop :=
 ∃ n o, v = .agg #[str f.name, .int .u8 f.kind, .bool f.par, n, o] ∧ f.name.length ≤ maxLen ∧ OpsM D w n f.needs ∧ OpsM D w o f.ops
theorem FaceV.below {D : Nat → Prop} {K : Nat} {w w' : World} {v : Value} {f : FaceP} (h : FaceV D w v f) (hb : Below K w w') (hK : w.heap.size ≤ K) : FaceV D w' v f := by
 obtain ⟨n, o, h1, h0, h2, h3⟩ := h
 exact ⟨n, o, h1, h0, h2.below hb hK, h3.below hb hK⟩
theorem FaceV.mono {D D' : Nat → Prop} {w : World} {v : Value} {f : FaceP} (h : FaceV D w v f) (hD : ∀ b, D b → D' b) : FaceV D' w v f := by
 obtain ⟨n, o, h1, h0, h2, h3⟩ := h
 exact ⟨n, o, h1, h0, h2.mono hD, h3.mono hD⟩
theorem FaceV.set {D : Nat → Prop} {w : World} {v : Value} {f : FaceP} (h : FaceV D w v f) {a : Addr} (ha : ∀ b, D b → b ≠ a.block) (u : Value) : FaceV D (w.setCell a u) v f := by
 obtain ⟨n, o, h1, h0, h2, h3⟩ := h
 exact ⟨n, o, h1, h0, h2.set ha u, h3.set ha u⟩
theorem FaceV.agree {D : Nat → Prop} {w w' : World} {v : Value} {f : FaceP} (h : FaceV D w v f) (hk : ∀ b, D b → b < w.heap.size → w'.heap[b]? = w.heap[b]?) : FaceV D w' v f := by
 obtain ⟨n, o, h1, h0, h2, h3⟩ := h
 exact ⟨n, o, h1, h0, h2.agree hk, h3.agree hk⟩
theorem FaceV.fresh {D : Nat → Prop} {w : World} {v : Value} {f : FaceP} (h : FaceV D w v f) : FaceV (fun b => D b ∧ b < w.heap.size) w v f := by
 obtain ⟨n, o, h1, h0, h2, h3⟩ := h
 exact ⟨n, o, h1, h0, h2.fresh, h3.fresh⟩
def FacesM (D : Nat → Prop) (w : World) (v : Value) (l : List FaceP) : Prop :=
 ∃ p c, v = .slice p l.length c ∧ l.length ≤ c ∧ l.length ≤ maxLen ∧ (∀ f ∈ l, f.name.length ≤ maxLen) ∧ (l = [] ∨ ∃ b o, p = some ⟨b, o, none⟩ ∧ D b ∧ b < w.heap.size ∧ ∀ j (h : j < l.length), ∃ n q, OpsM D w n l[j].needs ∧ OpsM D w q l[j].ops ∧
  w.cell? ⟨b, o + j * 5, none⟩ = some (str l[j].name) ∧ w.cell? ⟨b, o + j * 5 + 1, none⟩ = some (.int .u8 l[j].kind) ∧ w.cell? ⟨b, o + j * 5 + 2, none⟩ = some (.bool l[j].par) ∧ w.cell? ⟨b, o + j * 5 + 3, none⟩ = some n ∧ w.cell? ⟨b, o + j * 5 + 4, none⟩ = some q)
theorem FacesM.shape {D : Nat → Prop} {w : World} {v : Value} {l : List FaceP} (h : FacesM D w v l) : ∃ p c, v = .slice p l.length c ∧ l.length ≤ c ∧ l.length ≤ maxLen ∧ ∀ f ∈ l, f.name.length ≤ maxLen := by
 obtain ⟨p, c, h1, h2, h3, h4, _⟩ := h
 exact ⟨p, c, h1, h2, h3, h4⟩
theorem FacesM.at {D : Nat → Prop} {w : World} {p : Option Addr} {n c : Nat} {l : List FaceP} (h : FacesM D w (.slice p n c) l) {k : Nat} {x : FaceP} (hk : l[k]? = some x) : ∃ b o nv ov, p = some ⟨b, o, none⟩ ∧ D b ∧ x.name.length ≤ maxLen ∧ OpsM D w nv x.needs ∧ OpsM D w ov x.ops ∧
 w.cell? ⟨b, o + k * 5, none⟩ = some (str x.name) ∧ w.cell? ⟨b, o + k * 5 + 1, none⟩ = some (.int .u8 x.kind) ∧ w.cell? ⟨b, o + k * 5 + 2, none⟩ = some (.bool x.par) ∧ w.cell? ⟨b, o + k * 5 + 3, none⟩ = some nv ∧ w.cell? ⟨b, o + k * 5 + 4, none⟩ = some ov := by
 obtain ⟨hj, e⟩ := List.getElem?_eq_some_iff.1 hk
 obtain ⟨p', c', h1, _, _, hl, h4⟩ := h
 have hx := hl x (List.mem_of_getElem? hk)
 injection h1 with h1
 subst h1
 rcases h4 with rfl | ⟨b, o, e1, h5, _, h6⟩
 · simp at hj
 · obtain ⟨a, s, h7, h8, h9⟩ := h6 k hj
   rw [e] at h7 h8 h9;exact ⟨b, o, a, s, e1, h5, hx, h7, h8, h9⟩
theorem FacesM.below {D : Nat → Prop} {K : Nat} {w w' : World} {v : Value} {l : List FaceP} (h : FacesM D w v l) (hb : Below K w w') (hK : w.heap.size ≤ K) : FacesM D w' v l := by
 obtain ⟨p, c, h1, h2, h3, hl, h4⟩ := h
 refine ⟨p, c, h1, h2, h3, hl, ?_⟩
 rcases h4 with h4 | ⟨b, o, e1, h5, h6, h7⟩
 · exact .inl h4
 · refine .inr ⟨b, o, e1, h5, Nat.lt_of_lt_of_le h6 hb.size, fun j hj => ?_⟩
   obtain ⟨a, s, k1, k2, k3⟩ := h7 j hj;have hc : ∀ i, w'.cell? ⟨b, i, none⟩ = w.cell? ⟨b, i, none⟩ := fun i => hb.cell (by show b < K; omega)
   exact ⟨a, s, k1.below hb hK, k2.below hb hK, by rw [hc, hc, hc, hc, hc]; exact k3⟩
theorem FacesM.nil (D : Nat → Prop) (w : World) (p : Option Addr) (c : Nat) : FacesM D w (.slice p 0 c) [] := ⟨p, c, rfl, Nat.zero_le _, Nat.zero_le _, (fun _ h => by cases h), .inl rfl⟩
end Go.Proofs.YtakgjcfkdemipaaGreatDoor
namespace Go.Proofs.YtakgjcfkdemipaaGreatDoor
open Go.RowKit Go.Maps
theorem plainElem_bool_inv {H : Type} {P : Program} {e : TypeId} (he : P.underlying e = some .bool) {v : Value} {z : DataW H × List MemPlace} (h : plainElem P e v = some z) : ∃ a, v = .bool a ∧ z = (.lit (.bool a), []) := by
 unfold plainElem at h
 rw [he] at h
 cases v <;> simp at h
 exact ⟨_, rfl, h.symm⟩
theorem atKey_fold (u z : DataW Unit) (k : Lit) : ∀ (acc : List Lit) (m : DataW Unit), IsMap m → (∀ x ∈ acc, WideAt.IsKeyLit x) → (acc.foldl (fun m x => m.put x u) m).atKey k z = if acc.any (fun x => x.sameKey k) then u else m.atKey k z
 | [], m, _, _ => by simp
 | x :: acc, m, hm, h => by
  have hx := h x (by simp);rw [List.foldl_cons, atKey_fold u z k acc _ (hm.put x u) (fun y hy => h y (by simp [hy])), List.any_cons]
  by_cases hk : x.sameKey k = true
  · have e := WideAt.sameKey_eq hk
    subst e;rw [atKey_put_same hm hx];simp [hk]
  · have hne : k ≠ x := fun e => hk (by rw [e]; exact WideAt.sameKey_self hx)
    rw [atKey_put_other hne];simp [hk]
def keysOf (acc : List (List UInt8)) : List Lit := acc.map Lit.string
theorem keysOf_lit (acc : List (List UInt8)) : ∀ x ∈ keysOf acc, WideAt.IsKeyLit x := by
 intro x hx
 simp [keysOf] at hx
 obtain ⟨a, _, rfl⟩ := hx
 trivial
theorem keysOf_any (acc : List (List UInt8)) (k : List UInt8) : (keysOf acc).any (fun x => x.sameKey (.string k)) = acc.contains k := by
 induction acc with
 | nil => rfl
 | cons a acc ih =>
  have hs : (Lit.string a).sameKey (.string k) = (k == a) := by
   by_cases h : a = k
   · subst h; simp [Lit.sameKey]
   · rw [sameKey_ne (by simpa using h)]; simp [Ne.symm h]
  rw [keysOf, List.map_cons, List.any_cons, ← keysOf, ih, List.contains_cons, hs]
def SetMap (w : World) (b : Nat) (acc : List (List UInt8)) : Prop :=
 w.ownsMap Tryz.prog 9 (plainElem (H := Unit) Tryz.prog 4) b acc.length (setOf (.lit (.bool true)) (keysOf acc))
theorem SetMap.made (w : World) : SetMap (w.alloc (.map #[] 0)) w.heap.size [] := World.ownsMap_made w _ _ _
theorem SetMap.kept {w w' : World} {b : Nat} {acc : List (List UInt8)} {row : Option Nat} (h : SetMap w b acc) (hg : w.grownBy w' row) (hne : some b ≠ row) : SetMap w' b acc := World.ownsMap.kept h hg hne
theorem SetMap.lt {w : World} {b : Nat} {acc : List (List UInt8)} (h : SetMap w b acc) : b < w.heap.size := World.ownsMap.lt h
theorem SetMap.of_block {w w' : World} {b : Nat} {acc : List (List UInt8)} (h : SetMap w b acc) (hb : w'.heap[b]? = w.heap[b]?) : SetMap w' b acc := by
 obtain ⟨es, clock, h1, rest⟩ := h
 exact ⟨es, clock, hb.trans h1, rest⟩
theorem zeroBool (w : World) : (zeroValue 4).run Tryz.prog w = .ok (.bool false) w := by kernel_rfl
theorem SetMap.look {w : World} {b : Nat} {acc : List (List UInt8)} (h : SetMap w b acc) {k : List UInt8} (hk : k.length ≤ maxLen) :
 (Instr.lookup 112 (.map (some b)) (str k) false).run Tryz.prog w = .ok (.bool (hasB acc k)) w := by
 obtain ⟨v, ps, hrun, hv⟩ := World.ownsMap.lookup h (string_keyed Tryz.underlying9) Tryz.underlying112 (zeroBool w) (plainElem_bool Tryz.underlying4 false) (WideMaps.keyOf_string_mk (s := ⟨k.toArray⟩) Tryz.underlying9 (by simpa [ByteArray.size] using hk))
 obtain ⟨a, rfl, hz⟩ := plainElem_bool_inv Tryz.underlying4 hv
 simp only [Prod.mk.injEq] at hz
 have h1 := hz.1
 simp only [setOf] at h1
 rw [atKey_fold _ _ _ _ _ isMap_empty (keysOf_lit acc), keysOf_any] at h1
 rw [hrun]
 unfold hasB
 cases hc : acc.contains k <;> (rw [hc] at h1; simp [DataW.atKey] at h1; rw [h1])
theorem wpList_set_add (w : World) {ops : Array Oper} {rest : List Oper} {o : Oper} {a : Act} {Q : Exit → Act → World → Prop}
 (hg : o.guard = none) (m x v : Operand) (hop : o.op = Op.mapUpdate 112 m x v) (b : Nat) (acc : List (List UInt8))
 (hm : a.eval m = .map (some b)) (hown : SetMap w b acc) (hn : acc.length < maxLen) (k : List UInt8) (hx : a.eval x = str k) (hv : a.eval v = .bool true) (hk : k.length ≤ maxLen)
 (hK : ∀ w', SetMap w' b (acc ++ [k]) → w.grownBy w' (some b) → wpList Tryz.prog ops Q rest (a.put o.dst undef) w') :
 wpList Tryz.prog ops Q (o :: rest) a w := by
 refine wpList_mapUpdate_own w hg m x v _ hop _ _ (string_keyed Tryz.underlying9) Tryz.underlying112 _ b acc.length _ hm hown hn _ _ _ hx hv (WideMaps.keyOf_string_mk (s := ⟨k.toArray⟩) Tryz.underlying9 (by simpa [ByteArray.size] using hk)) (.lit (.bool true)) [] (plainElem_bool Tryz.underlying4 true) ?_
 intro w' h1 h2
 refine hK w' ?_ h2
 unfold SetMap
 rw [show keysOf (acc ++ [k]) = keysOf acc ++ [Lit.string k] from by simp [keysOf], setOf_snoc, List.length_append]
 exact h1
end Go.Proofs.YtakgjcfkdemipaaGreatDoor
