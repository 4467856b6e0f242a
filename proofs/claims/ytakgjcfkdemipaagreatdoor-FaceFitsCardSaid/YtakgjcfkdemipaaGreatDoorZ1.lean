/-
  The text of a type (plain). Forests that a reader gives (plain): their texts are what was read, and reading their texts gives them back. No condition. A type in the place of the parameter, whether the parameter is in a type, what has to be in its place (plain). No condition.
  Small facts on worlds: cells of a block, what stays where the world only grows. No condition.
  A forest of types in memory: the cells of the parts, and all that is inside. No condition.
  The parts of a forest by number; the levels of the first parts (plain).
  A set of texts that the call itself makes (map[string]bool, only true is stored): made, stored into, looked up. No condition but the bounds that the laws ask.
  append on a slice of the call's own: where the result lies: in the same block, or in a new one. No condition but the law's own bounds.
  Signatures, operations, faces (plain): their parts; when two signatures are equal; their types. No condition.
-/
import Derived.Maps.OwnOps
import Derived.Maps.OwnSet
import Derived.Maps.StringElems
import Derived.Test.YtakgjcfkdemipaaGreatDoorZn
import Derived.Test.YtakgjcfkdemipaaGreatDoorZ0
namespace Go.Proofs.YtakgjcfkdemipaaGreatDoor
def wordK (k : Nat) (n : List UInt8) : List UInt8 :=
 if k = 1 then wInt else if k = 2 then wBool else if k = 3 then wNull else if k = 4 then wArray else if k = 5 then wRecord else if k = 6 then wOneof else if k = 8 then [63, 116] else n
def joinC : List (List UInt8) → List UInt8
 | [] => []
 | [a] => a
 | a :: b :: l => a ++ 44 :: joinC (b :: l)
def preN (pn : List UInt8) : List UInt8 := if pn = [] then [] else pn ++ [58]
def Fo.txt : Fo → List (List UInt8)
 | .nil => []
 | .cons pn k n .nil rest => (preN pn ++ wordK k n) :: rest.txt
 | .cons pn k n (.cons pn' k' n' sub' rest') rest => (preN pn ++ (wordK k n ++ 91 :: (joinC (Fo.cons pn' k' n' sub' rest').txt ++ [93]))) :: rest.txt
def Tr.txt (t : Tr) : List UInt8 :=
 match t.sub with
 | .nil => wordK t.k t.n
 | .cons pn k n sub rest => wordK t.k t.n ++ 91 :: (joinC (Fo.cons pn k n sub rest).txt ++ [93])
theorem Fo.txt_cons (pn : List UInt8) (t : Tr) (rest : Fo) : (Fo.cons pn t.k t.n t.sub rest).txt = (preN pn ++ t.txt) :: rest.txt := by
 rcases t with ⟨k, n, _ | _⟩ <;> rfl
theorem joinC_len : ∀ l : List (List UInt8), l.length ≤ (joinC l).length + 1
 | [] => by simp
 | [a] => by simp
 | a :: b :: l => by
  have := joinC_len (b :: l);simp only [joinC, List.length_append, List.length_cons] at this ⊢;omega
theorem joinC_get : ∀ (l : List (List UInt8)) (i : Nat) (s : List UInt8), l[i]? = some s → s.length ≤ (joinC l).length
 | [], _, _, h => by simp at h
 | [a], i, s, h => by
  cases i with
  | zero => simp only [List.getElem?_cons_zero, Option.some.injEq] at h; subst h; simp [joinC]
  | succ i => simp at h
 | a :: b :: l, i, s, h => by
  simp only [joinC, List.length_append, List.length_cons];cases i with
  | zero => simp only [List.getElem?_cons_zero, Option.some.injEq] at h; subst h; omega
  | succ i =>
   rw [List.getElem?_cons_succ] at h;have := joinC_get (b :: l) i s h;omega
theorem Fo.txt_len : ∀ fo : Fo, fo.txt.length = fo.len
 | .nil => rfl
 | .cons pn k n sub rest => by
  have := Fo.txt_len rest;rw [show Fo.cons pn k n sub rest = .cons pn (Tr.mk k n sub).k (Tr.mk k n sub).n (Tr.mk k n sub).sub rest from rfl, Fo.txt_cons, List.length_cons, this]
  rfl
end Go.Proofs.YtakgjcfkdemipaaGreatDoor
namespace Go.Proofs.YtakgjcfkdemipaaGreatDoor
inductive Wf : Option (List UInt8) → Fo → Prop where
 | par : Wf none (.cons [] 8 [] .nil .nil)
 | word (k : Nat) (h : k = 1 ∨ k = 2 ∨ k = 3) : Wf none (.cons [] k [] .nil .nil)
 | arr (a : Fo) (h : Wf none a) : Wf none (.cons [] 4 wArray a .nil)
 | rcd (k : Nat) (w : List UInt8) (fo : Fo) (hk : k = 5 ∧ w = wRecord ∨ k = 6 ∧ w = wOneof) (h : Wf (some []) fo) (hl : fo.len ≤ 6) : Wf none (.cons [] k w fo .nil)
 | nam (n : List UInt8) (hn : isName n = true) : Wf none (.cons [] 7 n .nil .nil)
 | app (n : List UInt8) (a : Fo) (hn : isName n = true) (h : Wf none a) : Wf none (.cons [] 7 n a .nil)
 | last (b pn : List UInt8) (k : Nat) (n : List UInt8) (sub : Fo) (hn : isName pn = true) (hb : Op.bytesLess b pn = true) (h : Wf none (.cons [] k n sub .nil)) : Wf (some b) (.cons pn k n sub .nil)
 | more (b pn : List UInt8) (k : Nat) (n : List UInt8) (sub rest : Fo) (hn : isName pn = true) (hb : Op.bytesLess b pn = true) (h : Wf none (.cons [] k n sub .nil)) (h2 : Wf (some pn) rest) : Wf (some b) (.cons pn k n sub rest)
theorem Wf.one {fo : Fo} (h : Wf none fo) : ∃ t : Tr, fo = .one t := by
 cases h <;> exact ⟨⟨_, _, _⟩, rfl⟩
theorem Wf.ne {b : List UInt8} {fo : Fo} (h : Wf (some b) fo) : fo ≠ .nil := by
 cases h <;> simp
def Fo.tx (fo : Fo) : List UInt8 := joinC fo.txt
def Fo.br : Fo → List UInt8
 | .nil => []
 | .cons pn k n sub rest => 91 :: ((Fo.cons pn k n sub rest).tx ++ [93])
theorem Fo.br_ne {fo : Fo} (h : fo ≠ .nil) : fo.br = 91 :: (fo.tx ++ [93]) := by
 cases fo with
 | nil => exact absurd rfl h
 | cons => rfl
theorem Fo.tx_one (k : Nat) (n : List UInt8) (sub : Fo) : (Fo.cons [] k n sub .nil).tx = wordK k n ++ sub.br := by
 cases sub <;> simp [Fo.tx, Fo.txt, joinC, preN, Fo.br]
theorem Fo.tx_last (pn : List UInt8) (k : Nat) (n : List UInt8) (sub : Fo) : (Fo.cons pn k n sub .nil).tx = preN pn ++ (Fo.cons [] k n sub .nil).tx := by
 rw [Fo.tx_one]
 cases sub <;> simp [Fo.tx, Fo.txt, joinC, Fo.br]
theorem Fo.tx_more (pn : List UInt8) (k : Nat) (n : List UInt8) (sub rest : Fo) (hr : rest ≠ .nil) : (Fo.cons pn k n sub rest).tx = preN pn ++ ((Fo.cons [] k n sub .nil).tx ++ 44 :: rest.tx) := by
 rw [Fo.tx_one]
 cases rest with
 | nil => exact absurd rfl hr
 | cons pn' k' n' sub' rest' =>
  cases sub <;> cases sub' <;> simp [Fo.tx, Fo.txt, joinC, Fo.br]
theorem Tr.txt_eq (t : Tr) : t.txt = (Fo.one t).tx := by
 obtain ⟨k, n, sub⟩ := t
 rw [Fo.one, Fo.tx_one]
 cases sub <;> simp [Tr.txt, Fo.br, Fo.tx]
theorem name_ne {n : List UInt8} (h : isName n = true) : n ≠ [] := by rintro rfl; simp [isName] at h
theorem preN_name {n : List UInt8} (h : isName n = true) : preN n = n ++ [58] := by unfold preN; rw [if_neg (name_ne h)]
theorem kind0_word {w : List UInt8} (h : kind0 w ≠ 0) : (kind0 w = 1 ∨ kind0 w = 2 ∨ kind0 w = 3) ∧ wordK (kind0 w) [] = w := by
 unfold kind0 at h ⊢
 split
 · rename_i e; exact ⟨.inl rfl, by simp [wordK, e]⟩
 · split
   · rename_i e; exact ⟨.inr (.inl rfl), by simp [wordK, e]⟩
   · split
     · rename_i e; exact ⟨.inr (.inr rfl), by simp [wordK, e]⟩
     · simp_all
theorem kindB_rec {w : List UInt8} (h : kindB w = 5 ∨ kindB w = 6) : (kindB w = 5 ∧ w = wRecord ∨ kindB w = 6 ∧ w = wOneof) ∧ ∀ n, wordK (kindB w) n = w := by
 by_cases h1 : w = wArray
 · subst h1; exact absurd h (by decide)
 · by_cases h2 : w = wRecord
   · subst h2; exact ⟨.inl ⟨by decide, rfl⟩, fun n => by rw [show kindB wRecord = 5 from by decide]; rfl⟩
   · by_cases h3 : w = wOneof
     · subst h3; exact ⟨.inr ⟨by decide, rfl⟩, fun n => by rw [show kindB wOneof = 6 from by decide]; rfl⟩
     · unfold kindB at h; rw [if_neg h1, if_neg h2, if_neg h3] at h; omega
theorem kindB_arr {w : List UInt8} (h : kindB w = 4) : w = wArray := by
 unfold kindB at h
 split at h
 · assumption
 · split at h
   · omega
   · split at h <;> omega
theorem pA_wf : ∀ (f : Nat) (tag : Option (List UInt8)) (s : List UInt8) (fo : Fo) (r : List UInt8), pA f tag s = some (fo, r) → Wf tag fo ∧ s = fo.tx ++ r := by
 intro f
 induction f with
 | zero => intro tag s fo r h; simp [pA] at h
 | succ f ih =>
  intro tag s fo r h;have hd : s = s.take (cutN s) ++ s.drop (cutN s) := (List.take_append_drop _ _).symm;cases tag with
  | none =>
   by_cases hp : noPar s
   · rw [pA_none f s hp] at h
     generalize s.drop (cutN s) = s1 at h hd;generalize s.take (cutN s) = w at h hd;unfold pW at h;split at h
     · rename_i h0
       obtain ⟨h1, h2⟩ := kind0_word h0;simp only [Option.some.injEq, Prod.mk.injEq] at h;obtain ⟨rfl, rfl⟩ := h;refine ⟨.word _ h1, ?_⟩;rw [Fo.tx_one, h2, hd]; simp [Fo.br]
     · split at h
       · rename_i hk
         obtain ⟨h1, h2⟩ := kindB_rec hk;split at h
         · rename_i s2
           split at h
           · rename_i fo2 r2 e2
             split at h
             · rename_i hl
               obtain ⟨i1, i2⟩ := ih _ _ _ _ e2;simp only [Option.some.injEq, Prod.mk.injEq] at h;obtain ⟨rfl, rfl⟩ := h;refine ⟨.rcd _ _ _ h1 i1 hl, ?_⟩;rw [Fo.tx_one, h2, Fo.br_ne i1.ne, hd, i2]; simp
             · simp at h
           · simp at h
         · simp at h
       · rename_i hnr
         split at h
         · rename_i hk
           split at h
           · rename_i s2
             split at h
             · rename_i fo2 r2 e2
               obtain ⟨i1, i2⟩ := ih _ _ _ _ e2;have hne : fo2 ≠ .nil := by obtain ⟨t, rfl⟩ := i1.one; simp [Fo.one]
               simp only [Option.some.injEq, Prod.mk.injEq] at h;obtain ⟨rfl, rfl⟩ := h
               by_cases h4 : kindB w = 4
               · have := kindB_arr h4
                 subst this;rw [if_pos h4];refine ⟨.arr _ i1, ?_⟩;rw [Fo.tx_one, Fo.br_ne hne, hd, i2]; simp [wordK]
               · rw [if_neg h4]
                 refine ⟨.app _ _ (hk.resolve_left h4) i1, ?_⟩;rw [Fo.tx_one, Fo.br_ne hne, hd, i2]; simp [wordK]
             · simp at h
           · split at h
             · simp at h
             · rename_i h4
               simp only [Option.some.injEq, Prod.mk.injEq] at h;obtain ⟨rfl, rfl⟩ := h;refine ⟨.nam _ (hk.resolve_left h4), ?_⟩;rw [Fo.tx_one, hd]; simp [Fo.br, wordK]
         · simp at h
   · unfold noPar at hp
     simp only [ne_eq, Classical.not_forall, Decidable.not_not] at hp;obtain ⟨r', rfl⟩ := hp;rw [pA_param] at h;simp only [Option.some.injEq, Prod.mk.injEq] at h;obtain ⟨rfl, rfl⟩ := h;exact ⟨.par, by rw [Fo.tx_one]; simp [wordK, Fo.br]⟩
  | some b =>
   rw [pA_some] at h;split at h
   · rename_i hn
     obtain ⟨hn1, hn2⟩ := hn;generalize s.drop (cutN s) = s1 at h hd;generalize s.take (cutN s) = w at h hd hn1 hn2;unfold pV at h;split at h
     · rename_i s2
       split at h
       · rename_i px k n sub x r1 e1
         obtain ⟨i1, i2⟩ := ih _ _ _ _ e1;have hx : px = [] ∧ x = .nil := by
          obtain ⟨t, ht⟩ := i1.one;simp only [Fo.one, Fo.cons.injEq] at ht;exact ⟨ht.1, ht.2.2.2.2⟩
         obtain ⟨rfl, rfl⟩ := hx;split at h
         · split at h
           · rename_i fo r3 e2
             obtain ⟨j1, j2⟩ := ih _ _ _ _ e2;simp only [Option.some.injEq, Prod.mk.injEq] at h;obtain ⟨rfl, rfl⟩ := h;refine ⟨.more _ _ _ _ _ _ hn1 hn2 i1 j1, ?_⟩;rw [Fo.tx_more _ _ _ _ _ j1.ne, preN_name hn1, hd, i2, j2]; simp
           · simp at h
         · simp only [Option.some.injEq, Prod.mk.injEq] at h
           obtain ⟨rfl, rfl⟩ := h;refine ⟨.last _ _ _ _ _ hn1 hn2 i1, ?_⟩;rw [Fo.tx_last, preN_name hn1, hd, i2]; simp
       · simp at h
     · simp at h
   · simp at h
def Tr.ok (t : Tr) : Prop := Wf none (.one t)
theorem parseT_ok {s r : List UInt8} {t : Tr} (h : parseT s = some (t, r)) : t.ok ∧ s = t.txt ++ r := by
 rw [Tr.txt_eq]
 refine pA_wf (s.length + 1) none s (.one t) r ?_
 rw [pA_parseT (by omega), h]; rfl
def ends (r : List UInt8) : Prop := cutN r = 0 ∧ ∀ r', r ≠ 91 :: r'
theorem ends_nil : ends [] := ⟨rfl, by simp⟩
theorem ends_shut (r : List UInt8) : ends (93 :: r) := ⟨by rw [cutN_cons]; rfl, by simp⟩
theorem ends_comma (r : List UInt8) : ends (44 :: r) := ⟨by rw [cutN_cons]; rfl, by simp⟩
theorem cutN_all : ∀ w : List UInt8, cutN w = w.length → ∀ r, cutN r = 0 → cutN (w ++ r) = w.length
 | [], _, r, h => h
 | c :: w, h, r, hr => by
  rw [cutN_cons] at h;split at h
  · rename_i hc
    rw [List.cons_append, cutN_cons, if_pos hc, cutN_all w (by simpa using h) r hr]; rfl
  · simp at h
theorem cutN_word {w r : List UInt8} (hw : cutN w = w.length) (hr : cutN r = 0) : (w ++ r).take (cutN (w ++ r)) = w ∧ (w ++ r).drop (cutN (w ++ r)) = r := by
 rw [cutN_all w hw r hr]
 simp
theorem name_cut {n : List UInt8} (h : isName n = true) : cutN n = n.length := by
 cases n with
 | nil => rfl
 | cons c r => simp [isName] at h; exact h.1.2
theorem name_words {n : List UInt8} (h : isName n = true) : kind0 n = 0 ∧ kindB n = 0 := by
 have hw : isWord n = false := by
  cases n with
  | nil => rfl
  | cons c r => simp [isName] at h; exact h.2
 constructor
 · unfold kind0
   rw [if_neg (by rintro rfl; revert hw; decide), if_neg (by rintro rfl; revert hw; decide), if_neg (by rintro rfl; revert hw; decide)]
 · unfold kindB
   rw [if_neg (by rintro rfl; revert hw; decide), if_neg (by rintro rfl; revert hw; decide), if_neg (by rintro rfl; revert hw; decide)]
theorem noPar_word {w : List UInt8} (r : List UInt8) (hw : cutN w = w.length) (hne : w ≠ []) : noPar (w ++ r) := by
 cases w with
 | nil => exact absurd rfl hne
 | cons c w =>
  intro r' e;simp only [List.cons_append, List.cons.injEq] at e;obtain ⟨rfl, _⟩ := e;rw [cutN_cons] at hw;simp [alnum] at hw
def Reads : Option (List UInt8) → Fo → Prop
 | none, fo => ∀ t : Tr, fo = .one t → ∀ r, ends r → parseT (fo.tx ++ r) = some (t, r)
 | some b, fo => ∀ r, ends r → (∀ r', r ≠ 44 :: r') → parseP b (fo.tx ++ r) = some (fo, r)
theorem Wf.reads {tag : Option (List UInt8)} {fo : Fo} (h : Wf tag fo) : Reads tag fo := by
 induction h with
 | par =>
  intro t ht r _;obtain rfl : t = ⟨8, [], .nil⟩ := by cases t; simp [Fo.one] at ht; simp [ht]
  rw [Fo.tx_one];exact parseT_param r
 | word k h =>
  intro t ht r hr;obtain rfl : t = ⟨k, [], .nil⟩ := by cases t; simp [Fo.one] at ht; simp [ht]
  have hw : cutN (wordK k []) = (wordK k []).length ∧ wordK k [] ≠ [] ∧ kind0 (wordK k []) = k := by
   rcases h with rfl | rfl | rfl <;> decide
  rw [Fo.tx_one];simp only [Fo.br, List.append_nil];obtain ⟨e1, e2⟩ := cutN_word hw.1 hr.1;rw [parseT_word (noPar_word r hw.1 hw.2.1) (by rw [e1, hw.2.2]; omega), e1, e2, hw.2.2]
 | arr a h ih =>
  intro t ht r hr;obtain rfl : t = ⟨4, wArray, a⟩ := by cases t; simp [Fo.one] at ht; simp [ht]
  obtain ⟨ta, rfl⟩ := h.one;rw [Fo.tx_one, Fo.br_ne (by simp [Fo.one])];have hc : cutN (91 :: ((Fo.one ta).tx ++ [93]) ++ r) = 0 := by rw [List.cons_append, cutN_cons]; rfl
  have hw : cutN wArray = wArray.length := by decide
  rw [show wordK 4 wArray = wArray from rfl, List.append_assoc];obtain ⟨e1, e2⟩ := cutN_word hw hc;have := ih ta rfl (93 :: r) (ends_shut r);rw [parseT_arg (s2 := (Fo.one ta).tx ++ 93 :: r) (noPar_word _ hw (by decide)) (by rw [e1]; decide) (.inl (by rw [e1]; decide)) (by rw [e2]; simp), this];simp only;rw [e1]
  rfl
 | rcd k w fo hk h hl ih =>
  intro t ht r hr;obtain rfl : t = ⟨k, w, fo⟩ := by cases t; simp [Fo.one] at ht; simp [ht]
  rw [Fo.tx_one, Fo.br_ne h.ne];have hc : cutN (91 :: (fo.tx ++ [93]) ++ r) = 0 := by rw [List.cons_append, cutN_cons]; rfl
  have hw : wordK k w = w ∧ cutN w = w.length ∧ w ≠ [] ∧ kind0 w = 0 ∧ kindB w = k ∧ (k = 5 ∨ k = 6) := by
   rcases hk with ⟨rfl, rfl⟩ | ⟨rfl, rfl⟩ <;> decide
  rw [hw.1, List.append_assoc];obtain ⟨e1, e2⟩ := cutN_word hw.2.1 hc;have := ih (93 :: r) (ends_shut r) (by simp);rw [parseT_rec (s2 := fo.tx ++ 93 :: r) (noPar_word _ hw.2.1 hw.2.2.1) (by rw [e1]; exact hw.2.2.2.1) (by rw [e1, hw.2.2.2.2.1]; exact hw.2.2.2.2.2) (by rw [e2]; simp), this];simp only;rw [e1, if_pos hl, hw.2.2.2.2.1]
 | nam n hn =>
  intro t ht r hr;obtain rfl : t = ⟨7, n, .nil⟩ := by cases t; simp [Fo.one] at ht; simp [ht]
  rw [Fo.tx_one];simp only [Fo.br, List.append_nil];obtain ⟨e1, e2⟩ := cutN_word (name_cut hn) hr.1;obtain ⟨k1, k2⟩ := name_words hn;rw [show wordK 7 n = n from rfl, parseT_name (noPar_word r (name_cut hn) (name_ne hn)) (by rw [e1]; exact k1) (by rw [e1]; exact k2) (by rw [e1]; exact hn) (by rw [e2]; exact hr.2), e1, e2]
 | app n a hn h ih =>
  intro t ht r hr;obtain rfl : t = ⟨7, n, a⟩ := by cases t; simp [Fo.one] at ht; simp [ht]
  obtain ⟨ta, rfl⟩ := h.one;obtain ⟨k1, k2⟩ := name_words hn;rw [Fo.tx_one, Fo.br_ne (by simp [Fo.one])];have hc : cutN (91 :: ((Fo.one ta).tx ++ [93]) ++ r) = 0 := by rw [List.cons_append, cutN_cons]; rfl
  have hw := name_cut hn;rw [show wordK 7 n = n from rfl, List.append_assoc];obtain ⟨e1, e2⟩ := cutN_word hw hc;have := ih ta rfl (93 :: r) (ends_shut r);rw [parseT_arg (s2 := (Fo.one ta).tx ++ 93 :: r) (noPar_word _ hw (name_ne hn)) (by rw [e1]; exact k1) (.inr (by rw [e1]; exact ⟨k2, hn⟩)) (by rw [e2]; simp), this];simp only;rw [e1, k2]
  rfl
 | last b pn k n sub hn hb h ih =>
  intro r hr hr2;rw [Fo.tx_last, preN_name hn];have hc : cutN (58 :: ((Fo.cons [] k n sub .nil).tx ++ r)) = 0 := by rw [cutN_cons]; rfl
  obtain ⟨e1, e2⟩ := cutN_word (name_cut hn) hc;have := ih ⟨k, n, sub⟩ rfl r hr;rw [show pn ++ [58] ++ (Fo.cons [] k n sub Fo.nil).tx ++ r = pn ++ 58 :: ((Fo.cons [] k n sub .nil).tx ++ r) from by simp];rw [parseP_ok (s2 := (Fo.cons [] k n sub .nil).tx ++ r) (by rw [e1]; exact hn) (by rw [e1]; exact hb) e2, this, e1];simp only
 | more b pn k n sub rest hn hb h h2 ih ih2 =>
  intro r hr hr2;rw [Fo.tx_more _ _ _ _ _ h2.ne, preN_name hn];have hc : cutN (58 :: ((Fo.cons [] k n sub .nil).tx ++ 44 :: (rest.tx ++ r))) = 0 := by rw [cutN_cons]; rfl
  obtain ⟨e1, e2⟩ := cutN_word (name_cut hn) hc;have := ih ⟨k, n, sub⟩ rfl (44 :: (rest.tx ++ r)) (ends_comma _);have h3 := ih2 r hr hr2;rw [show pn ++ [58] ++ ((Fo.cons [] k n sub Fo.nil).tx ++ 44 :: rest.tx) ++ r = pn ++ 58 :: ((Fo.cons [] k n sub .nil).tx ++ 44 :: (rest.tx ++ r)) from by simp];rw [parseP_ok (s2 := (Fo.cons [] k n sub .nil).tx ++ 44 :: (rest.tx ++ r)) (by rw [e1]; exact hn) (by rw [e1]; exact hb) e2, this, e1];simp only;rw [h3]
theorem Tr.ok.reads {t : Tr} (h : t.ok) {r : List UInt8} (hr : ends r) : parseT (t.txt ++ r) = some (t, r) := by
 rw [Tr.txt_eq]; exact Wf.reads h t rfl r hr
theorem Tr.ok.reads' {t : Tr} (h : t.ok) : parseT t.txt = some (t, []) := by
 have := h.reads ends_nil; simpa using this
end Go.Proofs.YtakgjcfkdemipaaGreatDoor
namespace Go.Proofs.YtakgjcfkdemipaaGreatDoor
def Fo.put (a : Tr) : Fo → Fo
 | .nil => .nil
 | .cons pn k n sub rest => if k = 8 then .cons pn a.k a.n a.sub (rest.put a) else .cons pn k n (sub.put a) (rest.put a)
def Tr.put (t a : Tr) : Tr := if t.k = 8 then a else ⟨t.k, t.n, t.sub.put a⟩
theorem Fo.put_one (a t : Tr) : (Fo.one t).put a = .one (t.put a) := by
 unfold Tr.put
 rw [Fo.one, Fo.put]
 split <;> simp [Fo.one, Fo.put]
theorem Fo.put_len (a : Tr) : ∀ fo : Fo, (fo.put a).len = fo.len
 | .nil => rfl
 | .cons pn k n sub rest => by
  rw [Fo.put];split <;> simp only [Fo.len, Fo.put_len a rest]
def Fo.opn : Fo → Bool
 | .nil => false
 | .cons _ k _ sub rest => decide (k = 8) || sub.opn || rest.opn
def Tr.opn (t : Tr) : Bool := decide (t.k = 8) || t.sub.opn
theorem Fo.opn_one (t : Tr) : (Fo.one t).opn = t.opn := by simp [Fo.one, Fo.opn, Tr.opn]
theorem Wf.nil8 {n : List UInt8} {sub : Fo} (h : Wf none (.cons [] 8 n sub .nil)) : n = [] ∧ sub = .nil := by
 cases h with
 | par => exact ⟨rfl, rfl⟩
 | word k h => simp
 | rcd k w fo hk => simp at hk
theorem Wf.put {a : Tr} (ha : a.ok) {tag : Option (List UInt8)} {fo : Fo} (h : Wf tag fo) : Wf tag (fo.put a) := by
 induction h with
 | par => rw [Fo.put, if_pos rfl]; exact ha
 | word k h => rw [Fo.put, if_neg (by omega)]; exact .word k h
 | arr x h ih => rw [Fo.put, if_neg (by omega)]; exact .arr _ ih
 | rcd k w fo hk h hl ih => rw [Fo.put, if_neg (by omega)]; exact .rcd k w _ hk ih (by rw [Fo.put_len]; exact hl)
 | nam n hn => rw [Fo.put, if_neg (by omega)]; exact .nam n hn
 | app n x hn h ih => rw [Fo.put, if_neg (by omega)]; exact .app n _ hn ih
 | last b pn k n sub hn hb h ih =>
  rw [Fo.put] at ih ⊢;split at ih
  · rw [if_pos ‹_›]; exact .last _ _ _ _ _ hn hb ih
  · rw [if_neg ‹_›]; exact .last _ _ _ _ _ hn hb ih
 | more b pn k n sub rest hn hb h h2 ih ih2 =>
  rw [Fo.put] at ih ⊢;split at ih
  · rw [if_pos ‹_›]; exact .more _ _ _ _ _ _ hn hb ih ih2
  · rw [if_neg ‹_›]; exact .more _ _ _ _ _ _ hn hb ih ih2
theorem Tr.ok.put {a t : Tr} (ha : a.ok) (ht : t.ok) : (t.put a).ok := by
 unfold Tr.ok; rw [← Fo.put_one]; exact Wf.put ha ht
def subst (a : List UInt8) : List UInt8 → List UInt8
 | [] => []
 | [c] => if c = 63 then a else [c]
 | c :: d :: r => if c = 63 then a ++ subst a r else c :: subst a (d :: r)
theorem subst_two (a : List UInt8) (d : UInt8) (r : List UInt8) : subst a (63 :: d :: r) = a ++ subst a r := by
 rw [subst, if_pos rfl]
theorem subst_other (a : List UInt8) (c : UInt8) (r : List UInt8) (h : c ≠ 63) : subst a (c :: r) = c :: subst a r := by
 cases r with
 | nil => simp [subst, h]
 | cons d r => rw [subst, if_neg h]
theorem subst_word (a : List UInt8) : ∀ (w r : List UInt8), cutN w = w.length → subst a (w ++ r) = w ++ subst a r
 | [], _, _ => rfl
 | c :: w, r, h => by
  rw [cutN_cons] at h;split at h
  · rename_i hc
    rw [List.cons_append, subst_other _ _ _ (by rintro rfl; simp [alnum] at hc), subst_word a w r (by simpa using h)]; rfl
  · simp at h
theorem wordK_cut {k : Nat} {n : List UInt8} {sub : Fo} (h : Wf none (.cons [] k n sub .nil)) (hk : k ≠ 8) : cutN (wordK k n) = (wordK k n).length := by
 cases h with
 | par => exact absurd rfl hk
 | word k h => rcases h with rfl | rfl | rfl <;> decide
 | arr a h => decide
 | rcd k w fo hk => rcases hk with ⟨rfl, rfl⟩ | ⟨rfl, rfl⟩ <;> decide
 | nam n hn => exact name_cut hn
 | app n a hn h => exact name_cut hn
theorem Fo.put_ne (a : Tr) {fo : Fo} (h : fo ≠ .nil) : fo.put a ≠ .nil := by
 cases fo with
 | nil => exact absurd rfl h
 | cons pn k n sub rest => rw [Fo.put]; split <;> simp
theorem subst_br {a : Tr} {sub : Fo} (h : sub ≠ .nil → ∀ r, subst a.txt (sub.tx ++ r) = (sub.put a).tx ++ subst a.txt r) (r : List UInt8) : subst a.txt (sub.br ++ r) = (sub.put a).br ++ subst a.txt r := by
 by_cases hn : sub = .nil
 · subst hn; rfl
 · rw [Fo.br_ne hn, Fo.br_ne (Fo.put_ne a hn), List.cons_append, subst_other _ _ _ (by decide), List.append_assoc, h hn, List.singleton_append, subst_other _ _ _ (by decide)]
   simp
theorem Wf.subst {a : Tr} {tag : Option (List UInt8)} {fo : Fo} (h : Wf tag fo) : ∀ r, subst a.txt (fo.tx ++ r) = (fo.put a).tx ++ subst a.txt r := by
 have key : ∀ (k : Nat) (n : List UInt8) (sub : Fo), Wf none (.cons [] k n sub .nil) → (sub ≠ .nil → ∀ r, Proofs.YtakgjcfkdemipaaGreatDoor.subst a.txt (sub.tx ++ r) = (sub.put a).tx ++ Proofs.YtakgjcfkdemipaaGreatDoor.subst a.txt r) →
  ∀ r, Proofs.YtakgjcfkdemipaaGreatDoor.subst a.txt ((Fo.cons [] k n sub .nil).tx ++ r) = ((Fo.cons [] k n sub .nil).put a).tx ++ Proofs.YtakgjcfkdemipaaGreatDoor.subst a.txt r := by
  intro k n sub h ih r;rw [Fo.put]
  by_cases hk : k = 8
  · subst hk
    obtain ⟨rfl, rfl⟩ := h.nil8;rw [if_pos rfl, Fo.tx_one]
    show Proofs.YtakgjcfkdemipaaGreatDoor.subst a.txt (63 :: 116 :: r) = _
    rw [subst_two]
    show _ = (Fo.one a).tx ++ _
    rw [Tr.txt_eq]
  · rw [if_neg hk, Fo.tx_one, List.append_assoc, subst_word _ _ _ (wordK_cut h hk), subst_br ih]
    show _ = (Fo.cons [] k n (sub.put a) .nil).tx ++ _
    rw [Fo.tx_one, List.append_assoc]
 induction h with
 | par => exact key _ _ _ .par (fun h => absurd rfl h)
 | word k h => exact key _ _ _ (.word k h) (fun h => absurd rfl h)
 | arr x h ih => exact key _ _ _ (.arr x h) (fun _ => ih)
 | rcd k w fo hk h hl ih => exact key _ _ _ (.rcd k w fo hk h hl) (fun _ => ih)
 | nam n hn => exact key _ _ _ (.nam n hn) (fun h => absurd rfl h)
 | app n x hn h ih => exact key _ _ _ (.app n x hn h) (fun _ => ih)
 | last b pn k n sub hn hb h ih =>
  intro r;have hc : cutN pn = pn.length := name_cut hn;have e : ((Fo.cons pn k n sub .nil).put a).tx = preN pn ++ ((Fo.cons [] k n sub .nil).put a).tx := by
   by_cases hk : k = 8
   · simp only [Fo.put, if_pos hk]; rw [Fo.tx_last]
   · simp only [Fo.put, if_neg hk]; rw [Fo.tx_last]
  rw [e, Fo.tx_last, preN_name hn, List.append_assoc, List.append_assoc, subst_word _ _ _ hc, List.singleton_append, subst_other _ _ _ (by decide), ih];simp
 | more b pn k n sub rest hn hb h h2 ih ih2 =>
  intro r;have hc : cutN pn = pn.length := name_cut hn;have e : ((Fo.cons pn k n sub rest).put a).tx = preN pn ++ (((Fo.cons [] k n sub .nil).put a).tx ++ 44 :: (rest.put a).tx) := by
   by_cases hk : k = 8
   · simp only [Fo.put, if_pos hk]; rw [Fo.tx_more _ _ _ _ _ (Fo.put_ne a h2.ne)]
   · simp only [Fo.put, if_neg hk]; rw [Fo.tx_more _ _ _ _ _ (Fo.put_ne a h2.ne)]
  rw [e, Fo.tx_more _ _ _ _ _ h2.ne, preN_name hn];simp only [List.append_assoc, List.nil_append, List.cons_append];rw [subst_word _ _ _ hc, subst_other _ _ _ (by decide), ih, subst_other _ _ _ (by decide), ih2]
theorem Tr.ok.subst {a t : Tr} (ht : t.ok) : subst a.txt t.txt = (t.put a).txt := by
 have := Wf.subst (a := a) ht []
 rw [Fo.put_one, ← Tr.txt_eq, ← Tr.txt_eq] at this
 simpa [Proofs.YtakgjcfkdemipaaGreatDoor.subst] using this
def hasQ (s : List UInt8) : Bool := s.any (fun c => decide (c = 63))
theorem hasQ_word {w : List UInt8} (h : cutN w = w.length) : hasQ w = false := by
 induction w with
 | nil => rfl
 | cons c w ih =>
  rw [cutN_cons] at h;split at h
  · rename_i hc
    have : c ≠ 63 := by rintro rfl; simp [alnum] at hc
    unfold hasQ at ih ⊢;rw [List.any_cons, ih (by simpa using h)];simp [this]
  · simp at h
theorem hasQ_app (s r : List UInt8) : hasQ (s ++ r) = (hasQ s || hasQ r) := by simp [hasQ]
theorem hasQ_cons (c : UInt8) (r : List UInt8) (h : c ≠ 63) : hasQ (c :: r) = hasQ r := by simp [hasQ, h]
theorem Wf.hasQ {tag : Option (List UInt8)} {fo : Fo} (h : Wf tag fo) : hasQ fo.tx = fo.opn := by
 have key : ∀ (k : Nat) (n : List UInt8) (sub : Fo), Wf none (.cons [] k n sub .nil) → (sub ≠ .nil → Proofs.YtakgjcfkdemipaaGreatDoor.hasQ sub.tx = sub.opn) → Proofs.YtakgjcfkdemipaaGreatDoor.hasQ (Fo.cons [] k n sub .nil).tx = (Fo.cons [] k n sub .nil).opn := by
  intro k n sub h ih;rw [Fo.tx_one, hasQ_app, Fo.opn];have hb : Proofs.YtakgjcfkdemipaaGreatDoor.hasQ sub.br = sub.opn := by
   by_cases hn : sub = .nil
   · subst hn; rfl
   · rw [Fo.br_ne hn, hasQ_cons _ _ (by decide), hasQ_app, ih hn]; simp [Proofs.YtakgjcfkdemipaaGreatDoor.hasQ]
  rw [hb]
  by_cases hk : k = 8
  · subst hk; simp [wordK, Proofs.YtakgjcfkdemipaaGreatDoor.hasQ]
  · rw [hasQ_word (wordK_cut h hk)]; simp [hk, Fo.opn]
 induction h with
 | par => exact key _ _ _ .par (fun h => absurd rfl h)
 | word k h => exact key _ _ _ (.word k h) (fun h => absurd rfl h)
 | arr x h ih => exact key _ _ _ (.arr x h) (fun _ => ih)
 | rcd k w fo hk h hl ih => exact key _ _ _ (.rcd k w fo hk h hl) (fun _ => ih)
 | nam n hn => exact key _ _ _ (.nam n hn) (fun h => absurd rfl h)
 | app n x hn h ih => exact key _ _ _ (.app n x hn h) (fun _ => ih)
 | last b pn k n sub hn hb h ih =>
  rw [Fo.tx_last, preN_name hn, hasQ_app, hasQ_app, hasQ_word (name_cut hn), ih];simp [Fo.opn, Proofs.YtakgjcfkdemipaaGreatDoor.hasQ]
 | more b pn k n sub rest hn hb h h2 ih ih2 =>
  rw [Fo.tx_more _ _ _ _ _ h2.ne, preN_name hn, hasQ_app, hasQ_app, hasQ_app, hasQ_word (name_cut hn), ih, hasQ_cons 44 _ (by decide), ih2];simp [Fo.opn, Proofs.YtakgjcfkdemipaaGreatDoor.hasQ]
theorem Tr.ok.hasQ {t : Tr} (h : t.ok) : hasQ t.txt = t.opn := by rw [Tr.txt_eq, Wf.hasQ h, Fo.opn_one]
theorem Fo.put_level (a : Tr) : ∀ fo : Fo, (∀ pn k n sub rest, fo = .cons pn k n sub rest → True) → (fo.put a).level + 1 ≤ fo.level + a.level
 | .nil, _ => by simp only [Fo.put, Fo.level, Tr.level]; omega
 | .cons pn k n sub rest, _ => by
  have h1 := Fo.put_level a sub (fun _ _ _ _ _ _ => trivial);have h2 := Fo.put_level a rest (fun _ _ _ _ _ _ => trivial);rw [Fo.put];split
  · simp only [Fo.level, Tr.level] at *; omega
  · simp only [Fo.level, Tr.level] at *; omega
theorem Tr.put_level (a t : Tr) : (t.put a).level + 1 ≤ t.level + a.level := by
 have h := Fo.put_level a t.sub (fun _ _ _ _ _ _ => trivial)
 unfold Tr.put
 split
 · simp only [Tr.level] at *; omega
 · simp only [Tr.level] at *; omega
theorem Wf.inner {k : Nat} {n : List UInt8} {sub : Fo} (h : Wf none (.cons [] k n sub .nil)) : sub = .nil ∨ ∃ tag, Wf tag sub := by
 cases h with
 | par => exact .inl rfl
 | word => exact .inl rfl
 | arr a h => exact .inr ⟨_, h⟩
 | rcd k w fo hk h => exact .inr ⟨_, h⟩
 | nam => exact .inl rfl
 | app n a hn h => exact .inr ⟨_, h⟩
theorem Wf.head {tag : Option (List UInt8)} {pn : List UInt8} {k : Nat} {n : List UInt8} {sub rest : Fo} (h : Wf tag (.cons pn k n sub rest)) : Wf none (.cons [] k n sub .nil) ∧ (rest = .nil ∨ ∃ tag', Wf tag' rest) := by
 cases h with
 | par => exact ⟨.par, .inl rfl⟩
 | word k h => exact ⟨.word k h, .inl rfl⟩
 | arr _ h => exact ⟨.arr _ h, .inl rfl⟩
 | rcd k w fo hk h hl => exact ⟨.rcd _ _ _ hk h hl, .inl rfl⟩
 | nam n hn => exact ⟨.nam _ hn, .inl rfl⟩
 | app n a hn h => exact ⟨.app _ _ hn h, .inl rfl⟩
 | last b pn k n sub hn hb h => exact ⟨h, .inl rfl⟩
 | more b pn k n sub rest hn hb h h2 => exact ⟨h, .inr ⟨_, h2⟩⟩
end Go.Proofs.YtakgjcfkdemipaaGreatDoor
namespace Go.Proofs.YtakgjcfkdemipaaGreatDoor
open Go.RowKit
theorem cells_at {w : World} {b : Nat} {cs : Array Value} {t : TypeId} {z : Nat × Nat} (h : w.heap[b]? = some (.cells cs t z)) (j : Nat) : w.cell? ⟨b, j, none⟩ = cs[j]? := by
 unfold World.cell?
 rw [h]
 simp
theorem Below.keep {W w2 : World} (hb : Below W.heap.size W w2) {a : Addr} {v : Value} (h : W.cell? a = some v) : w2.cell? a = some v :=
 (hb.cell (World.block_lt_of_cell? _ _ h)).trans h
theorem below_less {B B' : Nat} {a b : World} (h : Below B' a b) (hB : B ≤ B') : Below B a b := ⟨h.os, h.tape, h.output, h.size, fun k hk => h.block k (by omega)⟩
theorem ownsRow_lt {w : World} {base : Nat} {e : TypeId} {size n : Nat} {v : Value} {xs : List Value} (h : w.ownsRow base e size v n xs) {b : Nat} (hb : v.ownBlock = some b) : b < w.heap.size := (h.lt b hb).2
theorem ownsRow_of_block {w w' : World} {base : Nat} {e : TypeId} {size n : Nat} {v : Value} {xs : List Value} (h : w.ownsRow base e size v n xs) (hb : ∀ b, v.ownBlock = some b → w'.heap[b]? = w.heap[b]?) : w'.ownsRow base e size v n xs := by
 refine ⟨h.1, ?_⟩
 rcases h.2 with h2 | ⟨g, cap, cur, rfl, h3, h4, h5⟩
 · exact .inl h2
 · exact .inr ⟨g, cap, cur, rfl, h3, by rw [hb g rfl]; exact h4, h5⟩
theorem ownsRow_below {B : Nat} {w w' : World} {base : Nat} {e : TypeId} {size n : Nat} {v : Value} {xs : List Value} (h : w.ownsRow base e size v n xs) (hb : Below B w w') (hB : w.heap.size ≤ B) : w'.ownsRow base e size v n xs :=
 ownsRow_of_block h fun _ e => hb.block _ (Nat.lt_of_lt_of_le (ownsRow_lt h e) hB)
theorem heap_up {w : World} {k : Nat} {o' : Obj} (o : Obj) (h : w.heap[k]? = some o') : (w.alloc o).heap[k]? = some o' :=
 (((Below.refl w.heap.size w).alloc (nl _) o).block k (Array.getElem?_eq_some_iff.1 h).1).trans h
theorem heap_to {w : World} {n : Nat} (hn : w.heap.size = n) (cs : Array Value) (t : TypeId) : (w.alloc (.cells cs t)).heap[n]? = some (.cells cs t (0, 0)) := hn ▸ heap_alloc_new w _
theorem free_at {w : World} {b : Nat} {cs : Array Value} {t : TypeId} (h : w.heap[b]? = some (.cells cs t (0, 0))) (j : Nat) : w.frozen? ⟨b, j, none⟩ = false := by
 unfold World.frozen?
 rw [h]
 simp
theorem box4 {w : World} {b : Nat} {a0 a1 a2 a3 : Value} {t : TypeId} (h : w.heap[b]? = some (.cells #[a0, a1, a2, a3] t (0, 0))) :
 (w.cell? ⟨b, 0, none⟩ = some a0 ∧ w.cell? ⟨b, 1, none⟩ = some a1 ∧ w.cell? ⟨b, 2, none⟩ = some a2 ∧ w.cell? ⟨b, 3, none⟩ = some a3) ∧
 (w.frozen? ⟨b, 0, none⟩ = false ∧ w.frozen? ⟨b, 1, none⟩ = false ∧ w.frozen? ⟨b, 2, none⟩ = false ∧ w.frozen? ⟨b, 3, none⟩ = false) :=
 ⟨⟨(cells_at h 0).trans rfl, (cells_at h 1).trans rfl, (cells_at h 2).trans rfl, (cells_at h 3).trans rfl⟩, ⟨free_at h 0, free_at h 1, free_at h 2, free_at h 3⟩⟩
theorem box5 {w : World} {b : Nat} {a0 a1 a2 a3 a4 : Value} {t : TypeId} (h : w.heap[b]? = some (.cells #[a0, a1, a2, a3, a4] t (0, 0))) :
 (w.cell? ⟨b, 0, none⟩ = some a0 ∧ w.cell? ⟨b, 1, none⟩ = some a1 ∧ w.cell? ⟨b, 2, none⟩ = some a2 ∧ w.cell? ⟨b, 3, none⟩ = some a3 ∧ w.cell? ⟨b, 4, none⟩ = some a4) ∧
 (w.frozen? ⟨b, 0, none⟩ = false ∧ w.frozen? ⟨b, 1, none⟩ = false ∧ w.frozen? ⟨b, 2, none⟩ = false ∧ w.frozen? ⟨b, 3, none⟩ = false ∧ w.frozen? ⟨b, 4, none⟩ = false) :=
 ⟨⟨(cells_at h 0).trans rfl, (cells_at h 1).trans rfl, (cells_at h 2).trans rfl, (cells_at h 3).trans rfl, (cells_at h 4).trans rfl⟩, ⟨free_at h 0, free_at h 1, free_at h 2, free_at h 3, free_at h 4⟩⟩
theorem heap_kept {w w' : World} {b K : Nat} {o : Obj} (h : w.heap[b]? = some o) (hb : Below K w w') (hK : b < K) : w'.heap[b]? = some o := (hb.block b hK).trans h
theorem heap_lt {w : World} {b : Nat} {o : Obj} (h : w.heap[b]? = some o) : b < w.heap.size := (Array.getElem?_eq_some_iff.1 h).1
theorem row_shape {w : World} {base : Nat} {e : TypeId} {size n : Nat} {v : Value} {xs : List Value} (h : w.ownsRow base e size v n xs) : ∃ p c, v = .slice p n c := by
 rcases h.2 with ⟨rfl, rfl⟩ | ⟨g, cap, cur, rfl, _⟩
 · exact ⟨none, 0, rfl⟩
 · exact ⟨some ⟨g, 0, none⟩, cap, rfl⟩
end Go.Proofs.YtakgjcfkdemipaaGreatDoor
namespace Go.Proofs.YtakgjcfkdemipaaGreatDoor
open Go.RowKit
def FoC (w : World) (D : Nat → Prop) : Fo → List Value → Prop
 | .nil, cs => cs = []
 | .cons pn k n sub rest, cs => ∃ v cs' sc, cs = str pn :: .int .u8 k :: str n :: v :: cs' ∧ w.ownsRow 0 192 4 v sub.len sc ∧ (∀ b, v.ownBlock = some b → D b) ∧ FoC w D sub sc ∧ FoC w D rest cs'
def FoV (w : World) (D : Nat → Prop) (fo : Fo) (v : Value) : Prop := ∃ sc, w.ownsRow 0 192 4 v fo.len sc ∧ (∀ b, v.ownBlock = some b → D b) ∧ FoC w D fo sc
theorem FoC.kept {w w' : World} {D : Nat → Prop} (hb : ∀ b, D b → b < w.heap.size → w'.heap[b]? = w.heap[b]?) : ∀ (fo : Fo) (cs : List Value), FoC w D fo cs → FoC w' D fo cs
 | .nil, _, h => h
 | .cons _ _ _ sub rest, _, ⟨v, cs', sc, e, h1, h2, h3, h4⟩ =>
  ⟨v, cs', sc, e, ownsRow_of_block h1 (fun b e => hb b (h2 b e) (ownsRow_lt h1 e)), h2, FoC.kept hb sub sc h3, FoC.kept hb rest cs' h4⟩
theorem FoC.mono {w : World} {D D' : Nat → Prop} (hD : ∀ b, D b → b < w.heap.size → D' b) : ∀ (fo : Fo) (cs : List Value), FoC w D fo cs → FoC w D' fo cs
 | .nil, _, h => h
 | .cons _ _ _ sub rest, _, ⟨v, cs', sc, e, h1, h2, h3, h4⟩ => ⟨v, cs', sc, e, h1, fun b e => hD b (h2 b e) (ownsRow_lt h1 e), FoC.mono hD sub sc h3, FoC.mono hD rest cs' h4⟩
theorem FoV.kept {w w' : World} {D : Nat → Prop} (hb : ∀ b, D b → b < w.heap.size → w'.heap[b]? = w.heap[b]?) {fo : Fo} {v : Value} (h : FoV w D fo v) : FoV w' D fo v := by
 obtain ⟨sc, h1, h2, h3⟩ := h
 exact ⟨sc, ownsRow_of_block h1 (fun b e => hb b (h2 b e) (ownsRow_lt h1 e)), h2, h3.kept hb⟩
theorem FoV.mono {w : World} {D D' : Nat → Prop} (hD : ∀ b, D b → b < w.heap.size → D' b) {fo : Fo} {v : Value} (h : FoV w D fo v) : FoV w D' fo v := by
 obtain ⟨sc, h1, h2, h3⟩ := h
 exact ⟨sc, h1, fun b e => hD b (h2 b e) (ownsRow_lt h1 e), h3.mono hD⟩
theorem FoV.nil (w : World) (D : Nat → Prop) : FoV w D .nil (.slice none 0 0) := ⟨[], World.ownsRow_nil _ _ _ _, by intro b h; simp [Value.ownBlock] at h, rfl⟩
theorem FoV.below {B : Nat} {w w' : World} {D : Nat → Prop} {fo : Fo} {v : Value} (h : FoV w D fo v) (hb : Below B w w') (hB : w.heap.size ≤ B) : FoV w' D fo v :=
 h.kept fun b _ hlt => hb.block b (by omega)
def Fo.app : Fo → Fo → Fo
 | .nil, g => g
 | .cons pn k n sub rest, g => .cons pn k n sub (rest.app g)
theorem Fo.app_assoc : ∀ f g h : Fo, (f.app g).app h = f.app (g.app h)
 | .nil, _, _ => rfl
 | .cons pn k n sub rest, g, h => by rw [Fo.app, Fo.app, Fo.app, Fo.app_assoc rest g h]
theorem Fo.len_app : ∀ f g : Fo, (f.app g).len = f.len + g.len
 | .nil, g => by simp [Fo.app, Fo.len]
 | .cons pn k n sub rest, g => by rw [Fo.app, Fo.len, Fo.len_app rest g, Fo.len]; omega
theorem FoC.app {w : World} {D : Nat → Prop} {g : Fo} {cg : List Value} (hg : FoC w D g cg) : ∀ (fo : Fo) (cs : List Value), FoC w D fo cs → FoC w D (fo.app g) (cs ++ cg)
 | .nil, _, h => by rw [show _ = [] from h]; exact hg
 | .cons _ _ _ _ rest, _, ⟨v, cs', sc, e, h1, h2, h3, h4⟩ => ⟨v, cs' ++ cg, sc, by rw [e]; rfl, h1, h2, h3, FoC.app hg rest cs' h4⟩
theorem FoC.single {w : World} {D : Nat → Prop} {pn n : List UInt8} {k : Nat} {sub : Fo} {v : Value} (h : FoV w D sub v) : FoC w D (.cons pn k n sub .nil) [str pn, .int .u8 k, str n, v] := by
 obtain ⟨sc, h1, h2, h3⟩ := h
 exact ⟨v, [], sc, rfl, h1, h2, h3, rfl⟩
def Fo.last : Fo → List UInt8
 | .nil => []
 | .cons pn _ _ _ .nil => pn
 | .cons _ _ _ _ (.cons pn k n sub rest) => Fo.last (.cons pn k n sub rest)
theorem Fo.last_snoc (pn : List UInt8) (k : Nat) (n : List UInt8) (sub : Fo) : ∀ f : Fo, (f.app (.cons pn k n sub .nil)).last = pn
 | .nil => rfl
 | .cons _ _ _ _ .nil => rfl
 | .cons _ _ _ _ (.cons pn' k' n' sub' rest) => by
  rw [Fo.app];have := Fo.last_snoc pn k n sub (.cons pn' k' n' sub' rest);rw [Fo.app] at this ⊢;rw [Fo.last];exact this
theorem FoC.last {w : World} {D : Nat → Prop} : ∀ (fo : Fo) (cs : List Value), FoC w D fo cs → fo.len ≠ 0 → cs[(fo.len - 1) * 4]? = some (str fo.last)
 | .nil, _, _, h => by simp [Fo.len] at h
 | .cons pn _ _ _ .nil, _, ⟨v, cs', sc, e, _, _, _, _⟩, _ => by rw [e]; simp [Fo.len, Fo.last]
 | .cons _ _ _ _ (.cons pn k n sub rest), _, ⟨v, cs', sc, e, _, _, _, h4⟩, _ => by
  have := FoC.last (.cons pn k n sub rest) cs' h4 (by simp [Fo.len]);rw [Fo.last, ← this, e];simp only [Fo.len];rw [show (rest.len + 1 + 1 - 1) * 4 = (rest.len + 1 - 1) * 4 + 1 + 1 + 1 + 1 from by omega];simp
end Go.Proofs.YtakgjcfkdemipaaGreatDoor
namespace Go.Proofs.YtakgjcfkdemipaaGreatDoor
open Go.RowKit
def Fo.at : Fo → Nat → Option (List UInt8 × Tr)
 | .nil, _ => none
 | .cons pn k n sub _, 0 => some (pn, ⟨k, n, sub⟩)
 | .cons _ _ _ _ rest, i + 1 => rest.at i
def Fo.levTo : Fo → Nat → Nat
 | _, 0 => 0
 | .nil, _ + 1 => 0
 | .cons _ _ _ sub rest, i + 1 => max (sub.level + 1) (rest.levTo i)
theorem FoC.at {w : World} {D : Nat → Prop} : ∀ (fo : Fo) (cs : List Value) (i : Nat), FoC w D fo cs → i < fo.len → ∃ pn t v, fo.at i = some (pn, t) ∧ cs[i * 4]? = some (str pn) ∧ cs[i * 4 + 1]? = some (.int .u8 t.k) ∧ cs[i * 4 + 2]? = some (str t.n) ∧ cs[i * 4 + 3]? = some v ∧ FoV w D t.sub v
 | .nil, _, _, _, h => by simp [Fo.len] at h
 | .cons pn k n sub rest, _, 0, ⟨v, cs', sc, e, h1, h2, h3, _⟩, _ => ⟨pn, ⟨k, n, sub⟩, v, rfl, by rw [e]; rfl, by rw [e]; rfl, by rw [e]; rfl, by rw [e]; rfl, sc, h1, h2, h3⟩
 | .cons pn k n sub rest, _, i + 1, ⟨v, cs', sc, e, h1, h2, h3, h4⟩, hi => by
  obtain ⟨pn', t, v', a, b0, b1, b2, b3, c⟩ := FoC.at rest cs' i h4 (by simp only [Fo.len] at hi; omega);have hs : ∀ j, (str pn :: .int .u8 k :: str n :: v :: cs')[(i + 1) * 4 + j]? = cs'[i * 4 + j]? := by
   intro j;rw [show (i + 1) * 4 + j = (i * 4 + j) + 1 + 1 + 1 + 1 from by omega];simp
  refine ⟨pn', t, v', a, ?_, ?_, ?_, ?_, c⟩
  · rw [e]; exact (hs 0).trans b0
  · rw [e]; exact (hs 1).trans b1
  · rw [e]; exact (hs 2).trans b2
  · rw [e]; exact (hs 3).trans b3
theorem Fo.levTo_succ : ∀ (fo : Fo) (i : Nat) (pn : List UInt8) (t : Tr), fo.at i = some (pn, t) → fo.levTo (i + 1) = max (fo.levTo i) (t.sub.level + 1)
 | .nil, _, _, _, h => by simp [Fo.at] at h
 | .cons _ _ _ sub rest, 0, _, _, h => by
  simp only [Fo.at, Option.some.injEq, Prod.mk.injEq] at h;obtain ⟨_, rfl⟩ := h;simp [Fo.levTo]
 | .cons _ _ _ sub rest, i + 1, pn, t, h => by
  have := Fo.levTo_succ rest i pn t h;rw [Fo.levTo, this, Fo.levTo];omega
theorem Fo.levTo_all : ∀ fo : Fo, fo.levTo fo.len = fo.level
 | .nil => rfl
 | .cons _ _ _ sub rest => by rw [Fo.len, Fo.levTo, Fo.levTo_all rest, Fo.level]
theorem Fo.at_level : ∀ (fo : Fo) (i : Nat) (pn : List UInt8) (t : Tr), fo.at i = some (pn, t) → t.sub.level + 1 ≤ fo.level
 | .nil, _, _, _, h => by simp [Fo.at] at h
 | .cons _ _ _ sub rest, 0, _, _, h => by
  simp only [Fo.at, Option.some.injEq, Prod.mk.injEq] at h;obtain ⟨_, rfl⟩ := h;rw [Fo.level];exact Nat.le_max_left _ _
 | .cons _ _ _ sub rest, i + 1, pn, t, h => by
  have := Fo.at_level rest i pn t h;rw [Fo.level];omega
theorem Fo.levTo_le : ∀ (fo : Fo) (i : Nat), fo.levTo i ≤ fo.level
 | .nil, 0 => nl _
 | .nil, _ + 1 => nl _
 | .cons _ _ _ _ _, 0 => by simp [Fo.levTo]
 | .cons _ _ _ sub rest, i + 1 => by
  have := Fo.levTo_le rest i;rw [Fo.levTo, Fo.level];omega
theorem Fo.at_txt : ∀ (fo : Fo) (i : Nat) (pn : List UInt8) (t : Tr), fo.at i = some (pn, t) → fo.txt[i]? = some (preN pn ++ t.txt)
 | .nil, _, _, _, h => by simp [Fo.at] at h
 | .cons pn' k n sub rest, 0, pn, t, h => by
  simp only [Fo.at, Option.some.injEq, Prod.mk.injEq] at h;obtain ⟨rfl, rfl⟩ := h;rw [show Fo.cons pn' k n sub rest = .cons pn' (Tr.mk k n sub).k (Tr.mk k n sub).n (Tr.mk k n sub).sub rest from rfl, Fo.txt_cons]
  rfl
 | .cons pn' k n sub rest, i + 1, pn, t, h => by
  rw [show Fo.cons pn' k n sub rest = .cons pn' (Tr.mk k n sub).k (Tr.mk k n sub).n (Tr.mk k n sub).sub rest from rfl, Fo.txt_cons, List.getElem?_cons_succ];exact Fo.at_txt rest i pn t h
end Go.Proofs.YtakgjcfkdemipaaGreatDoor
namespace Go.Proofs.YtakgjcfkdemipaaGreatDoor
open Go.RowKit Go.Maps
theorem plainElem_bool_inv {H : Type} {P : Program} {e : TypeId} (he : P.underlying e = some .bool) {v : Value} {z : DataW H × List MemPlace} (h : plainElem P e v = some z) : ∃ a, v = .bool a ∧ z = (.lit (.bool a), []) := by
 unfold plainElem at h
 rw [he] at h
 cases v <;> simp at h
 exact ⟨_, rfl, h.symm⟩
theorem atKey_fold (u z : DataW Unit) (k : Lit) : ∀ (acc : List Lit) (m : DataW Unit), IsMap m → (∀ x ∈ acc, WideAt.IsKeyLit x) → (acc.foldl (fun m x => m.put x u) m).atKey k z = if acc.any (fun x => x.sameKey k) then u else m.atKey k z
 | [], m, _, _ => by simp
 | x :: acc, m, hm, h => by
  have hx := h x (by simp);rw [List.foldl_cons, atKey_fold u z k acc _ (hm.put x u) (fun y hy => h y (by simp [hy])), List.any_cons]
  by_cases hk : x.sameKey k = true
  · have e := WideAt.sameKey_eq hk
    subst e;rw [atKey_put_same hm hx];simp [hk]
  · have hne : k ≠ x := fun e => hk (by rw [e]; exact WideAt.sameKey_self hx)
    rw [atKey_put_other hne];simp [hk]
def keysOf (acc : List (List UInt8)) : List Lit := acc.map Lit.string
theorem keysOf_lit (acc : List (List UInt8)) : ∀ x ∈ keysOf acc, WideAt.IsKeyLit x := by
 intro x hx
 simp [keysOf] at hx
 obtain ⟨a, _, rfl⟩ := hx
 trivial
theorem keysOf_any (acc : List (List UInt8)) (k : List UInt8) : (keysOf acc).any (fun x => x.sameKey (.string k)) = acc.contains k := by
 induction acc with
 | nil => rfl
 | cons a acc ih =>
  have hs : (Lit.string a).sameKey (.string k) = (k == a) := by
   by_cases h : a = k
   · subst h; simp [Lit.sameKey]
   · rw [sameKey_ne (by simpa using h)]; simp [Ne.symm h]
  rw [keysOf, List.map_cons, List.any_cons, ← keysOf, ih, List.contains_cons, hs]
def SetMap (w : World) (b : Nat) (acc : List (List UInt8)) : Prop :=
 w.ownsMap Tryz.prog 9 (plainElem (H := Unit) Tryz.prog 4) b acc.length (setOf (.lit (.bool true)) (keysOf acc))
theorem SetMap.made (w : World) : SetMap (w.alloc (.map #[] 0)) w.heap.size [] := World.ownsMap_made w _ _ _
theorem SetMap.kept {w w' : World} {b : Nat} {acc : List (List UInt8)} {row : Option Nat} (h : SetMap w b acc) (hg : w.grownBy w' row) (hne : some b ≠ row) : SetMap w' b acc := World.ownsMap.kept h hg hne
theorem SetMap.lt {w : World} {b : Nat} {acc : List (List UInt8)} (h : SetMap w b acc) : b < w.heap.size := World.ownsMap.lt h
theorem SetMap.of_block {w w' : World} {b : Nat} {acc : List (List UInt8)} (h : SetMap w b acc) (hb : w'.heap[b]? = w.heap[b]?) : SetMap w' b acc := by
 obtain ⟨es, clock, h1, rest⟩ := h
 exact ⟨es, clock, hb.trans h1, rest⟩
theorem zeroBool (w : World) : (zeroValue 4).run Tryz.prog w = .ok (.bool false) w := by kernel_rfl
theorem SetMap.look {w : World} {b : Nat} {acc : List (List UInt8)} (h : SetMap w b acc) {k : List UInt8} (hk : k.length ≤ maxLen) :
 (Instr.lookup 112 (.map (some b)) (str k) false).run Tryz.prog w = .ok (.bool (hasB acc k)) w := by
 obtain ⟨v, ps, hrun, hv⟩ := World.ownsMap.lookup h (string_keyed Tryz.underlying9) Tryz.underlying112 (zeroBool w) (plainElem_bool Tryz.underlying4 false) (WideMaps.keyOf_string_mk (s := ⟨k.toArray⟩) Tryz.underlying9 (by simpa [ByteArray.size] using hk))
 obtain ⟨a, rfl, hz⟩ := plainElem_bool_inv Tryz.underlying4 hv
 simp only [Prod.mk.injEq] at hz
 have h1 := hz.1
 simp only [setOf] at h1
 rw [atKey_fold _ _ _ _ _ isMap_empty (keysOf_lit acc), keysOf_any] at h1
 rw [hrun]
 unfold hasB
 cases hc : acc.contains k <;> (rw [hc] at h1; simp [DataW.atKey] at h1; rw [h1])
theorem wpList_set_add (w : World) {ops : Array Oper} {rest : List Oper} {o : Oper} {a : Act} {Q : Exit → Act → World → Prop}
 (hg : o.guard = none) (m x v : Operand) (hop : o.op = Op.mapUpdate 112 m x v) (b : Nat) (acc : List (List UInt8))
 (hm : a.eval m = .map (some b)) (hown : SetMap w b acc) (hn : acc.length < maxLen) (k : List UInt8) (hx : a.eval x = str k) (hv : a.eval v = .bool true) (hk : k.length ≤ maxLen)
 (hK : ∀ w', SetMap w' b (acc ++ [k]) → w.grownBy w' (some b) → wpList Tryz.prog ops Q rest (a.put o.dst undef) w') :
 wpList Tryz.prog ops Q (o :: rest) a w := by
 refine wpList_mapUpdate_own w hg m x v _ hop _ _ (string_keyed Tryz.underlying9) Tryz.underlying112 _ b acc.length _ hm hown hn _ _ _ hx hv (WideMaps.keyOf_string_mk (s := ⟨k.toArray⟩) Tryz.underlying9 (by simpa [ByteArray.size] using hk)) (.lit (.bool true)) [] (plainElem_bool Tryz.underlying4 true) ?_
 intro w' h1 h2
 refine hK w' ?_ h2
 unfold SetMap
 rw [show keysOf (acc ++ [k]) = keysOf acc ++ [Lit.string k] from by simp [keysOf], setOf_snoc, List.length_append]
 exact h1
end Go.Proofs.YtakgjcfkdemipaaGreatDoor
namespace Go.Proofs.YtakgjcfkdemipaaGreatDoor
open Go.RowKit
section
variable {P : Program} (w : World)
theorem run_append_own2 (base : Nat) (t ty e : TypeId) (i : TypeInfo) (z : Value) (size bytes : Nat) (ht : P.underlying t = some (.slice e)) (hi : P.info? e = some i) (hz : i.zero = some z)
 (hsize : i.size = size) (hby : i.bytes = bytes) (hzs : z.cells.size = size) (hsz : 0 < size)
 (v : Value) (n : Nat) (xs : List Value) (hown : w.ownsRow base e size v n xs)
 (a : Addr) (m c : Nat) (news : List Value) (hl : news.length = m * size) (hnews : ∀ j u, news[j]? = some u → w.cell? (a.add j) = some u) (h1 : ∀ u ∈ news, u.oneCell' = true)
 (hm : 0 < m) (h63 : n + m ≤ maxLen) (hbytes : (n + m) * bytes ≤ 140737488355328) (hbase : base ≤ w.heap.size) :
 ∃ v' w', (Builtin.append_ #[t, t] ty #[v, .slice (some a) m c]).run P w = .ok v' w' ∧ w'.ownsRow base e size v' (n + m) (xs ++ news) ∧ w.grownBy w' v.ownBlock ∧
  (v'.ownBlock = v.ownBlock ∨ v'.ownBlock = some w.heap.size) := by
 obtain ⟨v', w', hr, h2, h3, _⟩ := run_append_own (P := P) w base t ty e i z size bytes ht hi hz hsize hby hzs hsz v n xs hown a m c news hl hnews h1 h63 hbytes hbase
 refine ⟨v', w', hr, h2, h3, ?_⟩
 subst hsize
 subst hby
 have hsmall : n + m ≤ 9223372036854775807 := by simp only [maxLen] at h63; omega
 rcases hown.2 with ⟨rfl, rfl⟩ | ⟨g, cap, cur, rfl, hbg, hg, hnc, hcm, hcs, htake⟩
 · have hr2 := run_append_nil (P := P) w t ty e i z ht hi hz a m c news hl hnews (by omega) (by omega) (by have hb := hbytes; simp only [Nat.zero_add] at hb; omega)
   rw [hr] at hr2;injection hr2 with hv _;rw [hv];exact .inr rfl
 · by_cases hroom : n + m ≤ cap
   · have hfit : n * i.size + news.length ≤ cur.size := by rw [hl, hcs, ← Nat.add_mul]; exact Nat.mul_le_mul_right _ hroom
     have hr2 := run_append_room (P := P) w t ty e i ht hi g n cap cur hg a m c news hl hnews h1 hroom hfit;rw [hr] at hr2;injection hr2 with hv _;rw [hv];exact .inl rfl
   · have holds : ∀ j u, xs[j]? = some u → w.cell? ((⟨g, 0, none⟩ : Addr).add j) = some u := hown.cells (g := g) rfl
     have hr2 := run_append_grow (P := P) w t ty e i z ht hi hz ⟨g, 0, none⟩ n cap xs hown.1 holds a m c news hl hnews (by omega) (by omega) (growslice_fits (by omega) hbytes);rw [hr] at hr2;injection hr2 with hv _;rw [hv];exact .inr rfl
theorem wpList_append_own2 {ops : Array Oper} {rest : List Oper} {o : Oper} {a : Act} {Q : Exit → Act → World → Prop} (hgd : o.guard = none) (s x : Operand) (t : TypeId)
 (ho : o.op = .call { callee := .builtin .append, args := #[s, x], argTypes := #[t, t] })
 (base : Nat) (e : TypeId) (i : TypeInfo) (z : Value) (size bytes : Nat) (ht : P.underlying t = some (.slice e)) (hi : P.info? e = some i) (hz : i.zero = some z)
 (hsize : i.size = size) (hby : i.bytes = bytes) (hzs : z.cells.size = size) (hsz : 0 < size)
 (v : Value) (n : Nat) (xs : List Value) (hs : a.eval s = v) (hown : w.ownsRow base e size v n xs)
 (ad : Addr) (m c : Nat) (news : List Value) (hx : a.eval x = .slice (some ad) m c) (hl : news.length = m * size) (hnews : ∀ j u, news[j]? = some u → w.cell? (ad.add j) = some u) (h1 : ∀ u ∈ news, u.oneCell' = true)
 (hm : 0 < m) (h63 : n + m ≤ maxLen) (hbytes : (n + m) * bytes ≤ 140737488355328) (hbase : base ≤ w.heap.size)
 (h : ∀ v' w', w'.ownsRow base e size v' (n + m) (xs ++ news) → w.grownBy w' v.ownBlock → (v'.ownBlock = v.ownBlock ∨ v'.ownBlock = some w.heap.size) → wpList P ops Q rest (a.put o.dst v') w') : wpList P ops Q (o :: rest) a w := by
 refine wpList_plain hgd fun K hK => ?_
 obtain ⟨v', w', hr, h2, h3, h4⟩ := run_append_own2 (P := P) w base t o.type e i z size bytes ht hi hz hsize hby hzs hsz v n xs hown ad m c news hl hnews h1 hm h63 hbytes hbase
 unfold Oper.wp execOp
 simp only [ho, resolve, invoke, builtin, Sem.run_bind, Sem.run_pure, Result.andThen_ok, List.map_toArray, List.map_cons, List.map_nil, hs, hx, hr]
 exact hK _ _ (h v' w' h2 h3 h4)
end
end Go.Proofs.YtakgjcfkdemipaaGreatDoor
namespace Go.Proofs.YtakgjcfkdemipaaGreatDoor
structure SigP where
 iter : Bool
 args : List (List UInt8)
 res : List UInt8
 sigs : List (List UInt8)
structure OpP where
 name : List UInt8
 sig : SigP
structure FaceP where
 name : List UInt8
 kind : Nat
 par : Bool
 needs : List OpP
 ops : List OpP
def SigP.zero : SigP := ⟨false, [], [], []⟩
def sameK (a b : SigP) : Bool := decide (a.iter = b.iter) && decide (a.res = b.res) && decide (a.args = b.args) && decide (a.sigs = b.sigs)
theorem sameK_iff (a b : SigP) : sameK a b = true ↔ a = b := by
 rcases a with ⟨i, l, r, s⟩
 rcases b with ⟨i', l', r', s'⟩
 simp only [sameK, Bool.and_eq_true, decide_eq_true_eq, SigP.mk.injEq]
 constructor
 · rintro ⟨⟨⟨h1, h2⟩, h3⟩, h4⟩; exact ⟨h1, h3, h2, h4⟩
 · rintro ⟨h1, h3, h2, h4⟩; exact ⟨⟨⟨h1, h2⟩, h3⟩, h4⟩
def typesK (s : SigP) : List (List UInt8) := s.args ++ if s.res = [] then [] else [s.res]
end Go.Proofs.YtakgjcfkdemipaaGreatDoor
