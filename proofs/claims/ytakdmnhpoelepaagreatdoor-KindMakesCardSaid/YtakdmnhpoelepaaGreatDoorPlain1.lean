/-
  The text of a type (plain).
  Forests that a reader gives (plain): their texts are what was read, and reading their texts gives them back. No condition.
  A type in the place of the parameter, whether the parameter is in a type, what has to be in its place (plain). No condition.
-/
import Derived.Test.YtakdmnhpoelepaaGreatDoorPlain0
namespace Go.Proofs.YtakdmnhpoelepaaGreatDoor

/-- The word of a type. -/
def wordK (k : Nat) (n : List UInt8) : List UInt8 :=
  if k = 1 then wInt else if k = 2 then wBool else if k = 3 then wNull else if k = 4 then wArray else if k = 5 then wRecord else if k = 6 then wOneof else if k = 8 then [63, 116] else n

/-- Texts with a comma between them. -/
def joinC : List (List UInt8) → List UInt8
  | [] => []
  | [a] => a
  | a :: b :: l => a ++ 44 :: joinC (b :: l)
/-- A part's name and the colon behind it; nothing where it has no name. -/
def preN (pn : List UInt8) : List UInt8 := if pn = [] then [] else pn ++ [58]
/-- The texts of the parts. -/
def Fo.txt : Fo → List (List UInt8)
  | .nil => []
  | .cons pn k n .nil rest => (preN pn ++ wordK k n) :: rest.txt
  | .cons pn k n (.cons pn' k' n' sub' rest') rest => (preN pn ++ (wordK k n ++ 91 :: (joinC (Fo.cons pn' k' n' sub' rest').txt ++ [93]))) :: rest.txt
/-- The text of a type. -/
def Tr.txt (t : Tr) : List UInt8 :=
  match t.sub with
  | .nil => wordK t.k t.n
  | .cons pn k n sub rest => wordK t.k t.n ++ 91 :: (joinC (Fo.cons pn k n sub rest).txt ++ [93])
theorem Fo.txt_cons (pn : List UInt8) (t : Tr) (rest : Fo) : (Fo.cons pn t.k t.n t.sub rest).txt = (preN pn ++ t.txt) :: rest.txt := by
  rcases t with ⟨k, n, _ | _⟩ <;> rfl
theorem joinC_cons (a : List UInt8) {l : List (List UInt8)} (h : l ≠ []) : joinC (a :: l) = a ++ 44 :: joinC l := by
  cases l with
  | nil => exact absurd rfl h
  | cons b l => rfl
theorem joinC_len : ∀ l : List (List UInt8), l.length ≤ (joinC l).length + 1
  | [] => by simp
  | [a] => by simp
  | a :: b :: l => by
    have := joinC_len (b :: l)
    simp only [joinC, List.length_append, List.length_cons] at this ⊢
    omega
theorem joinC_get : ∀ (l : List (List UInt8)) (i : Nat) (s : List UInt8), l[i]? = some s → s.length ≤ (joinC l).length
  | [], _, _, h => by simp at h
  | [a], i, s, h => by
    cases i with
    | zero => simp only [List.getElem?_cons_zero, Option.some.injEq] at h; subst h; simp [joinC]
    | succ i => simp at h
  | a :: b :: l, i, s, h => by
    simp only [joinC, List.length_append, List.length_cons]
    cases i with
    | zero => simp only [List.getElem?_cons_zero, Option.some.injEq] at h; subst h; omega
    | succ i =>
      rw [List.getElem?_cons_succ] at h
      have := joinC_get (b :: l) i s h
      omega
theorem Fo.txt_len : ∀ fo : Fo, fo.txt.length = fo.len
  | .nil => rfl
  | .cons pn k n sub rest => by
    have := Fo.txt_len rest
    rw [show Fo.cons pn k n sub rest = .cons pn (Tr.mk k n sub).k (Tr.mk k n sub).n (Tr.mk k n sub).sub rest from rfl, Fo.txt_cons, List.length_cons, this]
    rfl
end Go.Proofs.YtakdmnhpoelepaaGreatDoor

namespace Go.Proofs.YtakdmnhpoelepaaGreatDoor

/-- A forest that a reader of a type (none), or of parts behind a part of a given name, gives. -/
inductive Wf : Option (List UInt8) → Fo → Prop where
  | par : Wf none (.cons [] 8 [] .nil .nil)
  | word (k : Nat) (h : k = 1 ∨ k = 2 ∨ k = 3) : Wf none (.cons [] k [] .nil .nil)
  | arr (a : Fo) (h : Wf none a) : Wf none (.cons [] 4 wArray a .nil)
  | rcd (k : Nat) (w : List UInt8) (fo : Fo) (hk : k = 5 ∧ w = wRecord ∨ k = 6 ∧ w = wOneof) (h : Wf (some []) fo) (hl : fo.len ≤ 6) : Wf none (.cons [] k w fo .nil)
  | nam (n : List UInt8) (hn : isName n = true) : Wf none (.cons [] 7 n .nil .nil)
  | app (n : List UInt8) (a : Fo) (hn : isName n = true) (h : Wf none a) : Wf none (.cons [] 7 n a .nil)
  | last (b pn : List UInt8) (k : Nat) (n : List UInt8) (sub : Fo) (hn : isName pn = true) (hb : Op.bytesLess b pn = true) (h : Wf none (.cons [] k n sub .nil)) : Wf (some b) (.cons pn k n sub .nil)
  | more (b pn : List UInt8) (k : Nat) (n : List UInt8) (sub rest : Fo) (hn : isName pn = true) (hb : Op.bytesLess b pn = true) (h : Wf none (.cons [] k n sub .nil)) (h2 : Wf (some pn) rest) : Wf (some b) (.cons pn k n sub rest)

theorem Wf.one {fo : Fo} (h : Wf none fo) : ∃ t : Tr, fo = .one t := by
  cases h <;> exact ⟨⟨_, _, _⟩, rfl⟩
theorem Wf.ne {b : List UInt8} {fo : Fo} (h : Wf (some b) fo) : fo ≠ .nil := by
  cases h <;> simp
/-- The text of a forest. -/
def Fo.tx (fo : Fo) : List UInt8 := joinC fo.txt
/-- The text between the brackets, with the brackets; nothing where there is nothing. -/
def Fo.br : Fo → List UInt8
  | .nil => []
  | .cons pn k n sub rest => 91 :: ((Fo.cons pn k n sub rest).tx ++ [93])
theorem Fo.br_ne {fo : Fo} (h : fo ≠ .nil) : fo.br = 91 :: (fo.tx ++ [93]) := by
  cases fo with
  | nil => exact absurd rfl h
  | cons => rfl
theorem Fo.tx_one (k : Nat) (n : List UInt8) (sub : Fo) : (Fo.cons [] k n sub .nil).tx = wordK k n ++ sub.br := by
  cases sub <;> simp [Fo.tx, Fo.txt, joinC, preN, Fo.br]
theorem Fo.tx_last (pn : List UInt8) (k : Nat) (n : List UInt8) (sub : Fo) : (Fo.cons pn k n sub .nil).tx = preN pn ++ (Fo.cons [] k n sub .nil).tx := by
  rw [Fo.tx_one]
  cases sub <;> simp [Fo.tx, Fo.txt, joinC, Fo.br]
theorem Fo.tx_more (pn : List UInt8) (k : Nat) (n : List UInt8) (sub rest : Fo) (hr : rest ≠ .nil) : (Fo.cons pn k n sub rest).tx = preN pn ++ ((Fo.cons [] k n sub .nil).tx ++ 44 :: rest.tx) := by
  rw [Fo.tx_one]
  cases rest with
  | nil => exact absurd rfl hr
  | cons pn' k' n' sub' rest' =>
    cases sub <;> cases sub' <;> simp [Fo.tx, Fo.txt, joinC, Fo.br]
theorem Tr.txt_eq (t : Tr) : t.txt = (Fo.one t).tx := by
  obtain ⟨k, n, sub⟩ := t
  rw [Fo.one, Fo.tx_one]
  cases sub <;> simp [Tr.txt, Fo.br, Fo.tx]
theorem name_ne {n : List UInt8} (h : isName n = true) : n ≠ [] := by rintro rfl; simp [isName] at h
theorem preN_name {n : List UInt8} (h : isName n = true) : preN n = n ++ [58] := by unfold preN; rw [if_neg (name_ne h)]

theorem kind0_word {w : List UInt8} (h : kind0 w ≠ 0) : (kind0 w = 1 ∨ kind0 w = 2 ∨ kind0 w = 3) ∧ wordK (kind0 w) [] = w := by
  unfold kind0 at h ⊢
  split
  · rename_i e; exact ⟨.inl rfl, by simp [wordK, e]⟩
  · split
    · rename_i e; exact ⟨.inr (.inl rfl), by simp [wordK, e]⟩
    · split
      · rename_i e; exact ⟨.inr (.inr rfl), by simp [wordK, e]⟩
      · simp_all
theorem kindB_rec {w : List UInt8} (h : kindB w = 5 ∨ kindB w = 6) : (kindB w = 5 ∧ w = wRecord ∨ kindB w = 6 ∧ w = wOneof) ∧ ∀ n, wordK (kindB w) n = w := by
  by_cases h1 : w = wArray
  · subst h1; exact absurd h (by decide)
  · by_cases h2 : w = wRecord
    · subst h2; exact ⟨.inl ⟨by decide, rfl⟩, fun n => by rw [show kindB wRecord = 5 from by decide]; rfl⟩
    · by_cases h3 : w = wOneof
      · subst h3; exact ⟨.inr ⟨by decide, rfl⟩, fun n => by rw [show kindB wOneof = 6 from by decide]; rfl⟩
      · unfold kindB at h; rw [if_neg h1, if_neg h2, if_neg h3] at h; omega
theorem kindB_arr {w : List UInt8} (h : kindB w = 4) : w = wArray := by
  unfold kindB at h
  split at h
  · assumption
  · split at h
    · omega
    · split at h <;> omega

/-- What a reader gives is well formed, and its text is what was read. -/
theorem pA_wf : ∀ (f : Nat) (tag : Option (List UInt8)) (s : List UInt8) (fo : Fo) (r : List UInt8), pA f tag s = some (fo, r) → Wf tag fo ∧ s = fo.tx ++ r := by
  intro f
  induction f with
  | zero => intro tag s fo r h; simp [pA] at h
  | succ f ih =>
    intro tag s fo r h
    have hd : s = s.take (cutN s) ++ s.drop (cutN s) := (List.take_append_drop _ _).symm
    cases tag with
    | none =>
      by_cases hp : noPar s
      · rw [pA_none f s hp] at h
        generalize s.drop (cutN s) = s1 at h hd
        generalize s.take (cutN s) = w at h hd
        unfold pW at h
        split at h
        · rename_i h0
          obtain ⟨h1, h2⟩ := kind0_word h0
          simp only [Option.some.injEq, Prod.mk.injEq] at h
          obtain ⟨rfl, rfl⟩ := h
          refine ⟨.word _ h1, ?_⟩
          rw [Fo.tx_one, h2, hd]; simp [Fo.br]
        · split at h
          · rename_i hk
            obtain ⟨h1, h2⟩ := kindB_rec hk
            split at h
            · rename_i s2
              split at h
              · rename_i fo2 r2 e2
                split at h
                · rename_i hl
                  obtain ⟨i1, i2⟩ := ih _ _ _ _ e2
                  simp only [Option.some.injEq, Prod.mk.injEq] at h
                  obtain ⟨rfl, rfl⟩ := h
                  refine ⟨.rcd _ _ _ h1 i1 hl, ?_⟩
                  rw [Fo.tx_one, h2, Fo.br_ne i1.ne, hd, i2]; simp
                · simp at h
              · simp at h
            · simp at h
          · rename_i hnr
            split at h
            · rename_i hk
              split at h
              · rename_i s2
                split at h
                · rename_i fo2 r2 e2
                  obtain ⟨i1, i2⟩ := ih _ _ _ _ e2
                  have hne : fo2 ≠ .nil := by obtain ⟨t, rfl⟩ := i1.one; simp [Fo.one]
                  simp only [Option.some.injEq, Prod.mk.injEq] at h
                  obtain ⟨rfl, rfl⟩ := h
                  by_cases h4 : kindB w = 4
                  · have := kindB_arr h4
                    subst this
                    rw [if_pos h4]
                    refine ⟨.arr _ i1, ?_⟩
                    rw [Fo.tx_one, Fo.br_ne hne, hd, i2]; simp [wordK]
                  · rw [if_neg h4]
                    refine ⟨.app _ _ (hk.resolve_left h4) i1, ?_⟩
                    rw [Fo.tx_one, Fo.br_ne hne, hd, i2]; simp [wordK]
                · simp at h
              · split at h
                · simp at h
                · rename_i h4
                  simp only [Option.some.injEq, Prod.mk.injEq] at h
                  obtain ⟨rfl, rfl⟩ := h
                  refine ⟨.nam _ (hk.resolve_left h4), ?_⟩
                  rw [Fo.tx_one, hd]; simp [Fo.br, wordK]
            · simp at h
      · unfold noPar at hp
        simp only [ne_eq, Classical.not_forall, Decidable.not_not] at hp
        obtain ⟨r', rfl⟩ := hp
        rw [pA_param] at h
        simp only [Option.some.injEq, Prod.mk.injEq] at h
        obtain ⟨rfl, rfl⟩ := h
        exact ⟨.par, by rw [Fo.tx_one]; simp [wordK, Fo.br]⟩
    | some b =>
      rw [pA_some] at h
      split at h
      · rename_i hn
        obtain ⟨hn1, hn2⟩ := hn
        generalize s.drop (cutN s) = s1 at h hd
        generalize s.take (cutN s) = w at h hd hn1 hn2
        unfold pV at h
        split at h
        · rename_i s2
          split at h
          · rename_i px k n sub x r1 e1
            obtain ⟨i1, i2⟩ := ih _ _ _ _ e1
            have hx : px = [] ∧ x = .nil := by
              obtain ⟨t, ht⟩ := i1.one
              simp only [Fo.one, Fo.cons.injEq] at ht
              exact ⟨ht.1, ht.2.2.2.2⟩
            obtain ⟨rfl, rfl⟩ := hx
            split at h
            · split at h
              · rename_i fo r3 e2
                obtain ⟨j1, j2⟩ := ih _ _ _ _ e2
                simp only [Option.some.injEq, Prod.mk.injEq] at h
                obtain ⟨rfl, rfl⟩ := h
                refine ⟨.more _ _ _ _ _ _ hn1 hn2 i1 j1, ?_⟩
                rw [Fo.tx_more _ _ _ _ _ j1.ne, preN_name hn1, hd, i2, j2]; simp
              · simp at h
            · simp only [Option.some.injEq, Prod.mk.injEq] at h
              obtain ⟨rfl, rfl⟩ := h
              refine ⟨.last _ _ _ _ _ hn1 hn2 i1, ?_⟩
              rw [Fo.tx_last, preN_name hn1, hd, i2]; simp
          · simp at h
        · simp at h
      · simp at h

/-- A type. -/
def Tr.ok (t : Tr) : Prop := Wf none (.one t)
theorem parseT_ok {s r : List UInt8} {t : Tr} (h : parseT s = some (t, r)) : t.ok ∧ s = t.txt ++ r := by
  rw [Tr.txt_eq]
  refine pA_wf (s.length + 1) none s (.one t) r ?_
  rw [pA_parseT (by omega), h]; rfl

/-! ### Reading a text gives its forest -/
/-- What may stand behind a type. -/
def ends (r : List UInt8) : Prop := cutN r = 0 ∧ ∀ r', r ≠ 91 :: r'
theorem ends_nil : ends [] := ⟨rfl, by simp⟩
theorem ends_shut (r : List UInt8) : ends (93 :: r) := ⟨by rw [cutN_cons]; rfl, by simp⟩
theorem ends_comma (r : List UInt8) : ends (44 :: r) := ⟨by rw [cutN_cons]; rfl, by simp⟩
theorem cutN_all : ∀ w : List UInt8, cutN w = w.length → ∀ r, cutN r = 0 → cutN (w ++ r) = w.length
  | [], _, r, h => h
  | c :: w, h, r, hr => by
    rw [cutN_cons] at h
    split at h
    · rename_i hc
      rw [List.cons_append, cutN_cons, if_pos hc, cutN_all w (by simpa using h) r hr]; rfl
    · simp at h
theorem cutN_word {w r : List UInt8} (hw : cutN w = w.length) (hr : cutN r = 0) : (w ++ r).take (cutN (w ++ r)) = w ∧ (w ++ r).drop (cutN (w ++ r)) = r := by
  rw [cutN_all w hw r hr]
  simp
theorem name_cut {n : List UInt8} (h : isName n = true) : cutN n = n.length := by
  cases n with
  | nil => rfl
  | cons c r => simp [isName] at h; exact h.1.2
theorem name_words {n : List UInt8} (h : isName n = true) : kind0 n = 0 ∧ kindB n = 0 := by
  have hw : isWord n = false := by
    cases n with
    | nil => rfl
    | cons c r => simp [isName] at h; exact h.2
  constructor
  · unfold kind0
    rw [if_neg (by rintro rfl; revert hw; decide), if_neg (by rintro rfl; revert hw; decide), if_neg (by rintro rfl; revert hw; decide)]
  · unfold kindB
    rw [if_neg (by rintro rfl; revert hw; decide), if_neg (by rintro rfl; revert hw; decide), if_neg (by rintro rfl; revert hw; decide)]
theorem noPar_word {w : List UInt8} (r : List UInt8) (hw : cutN w = w.length) (hne : w ≠ []) : noPar (w ++ r) := by
  cases w with
  | nil => exact absurd rfl hne
  | cons c w =>
    intro r' e
    simp only [List.cons_append, List.cons.injEq] at e
    obtain ⟨rfl, _⟩ := e
    rw [cutN_cons] at hw
    simp [alnum] at hw

/-- What is said of a reader at a forest. -/
def Reads : Option (List UInt8) → Fo → Prop
  | none, fo => ∀ t : Tr, fo = .one t → ∀ r, ends r → parseT (fo.tx ++ r) = some (t, r)
  | some b, fo => ∀ r, ends r → (∀ r', r ≠ 44 :: r') → parseP b (fo.tx ++ r) = some (fo, r)

theorem Wf.reads {tag : Option (List UInt8)} {fo : Fo} (h : Wf tag fo) : Reads tag fo := by
  induction h with
  | par =>
    intro t ht r _
    obtain rfl : t = ⟨8, [], .nil⟩ := by cases t; simp [Fo.one] at ht; simp [ht]
    rw [Fo.tx_one]
    exact parseT_param r
  | word k h =>
    intro t ht r hr
    obtain rfl : t = ⟨k, [], .nil⟩ := by cases t; simp [Fo.one] at ht; simp [ht]
    have hw : cutN (wordK k []) = (wordK k []).length ∧ wordK k [] ≠ [] ∧ kind0 (wordK k []) = k := by
      rcases h with rfl | rfl | rfl <;> decide
    rw [Fo.tx_one]
    simp only [Fo.br, List.append_nil]
    obtain ⟨e1, e2⟩ := cutN_word hw.1 hr.1
    rw [parseT_word (noPar_word r hw.1 hw.2.1) (by rw [e1, hw.2.2]; omega), e1, e2, hw.2.2]
  | arr a h ih =>
    intro t ht r hr
    obtain rfl : t = ⟨4, wArray, a⟩ := by cases t; simp [Fo.one] at ht; simp [ht]
    obtain ⟨ta, rfl⟩ := h.one
    rw [Fo.tx_one, Fo.br_ne (by simp [Fo.one])]
    have hc : cutN (91 :: ((Fo.one ta).tx ++ [93]) ++ r) = 0 := by rw [List.cons_append, cutN_cons]; rfl
    have hw : cutN wArray = wArray.length := by decide
    rw [show wordK 4 wArray = wArray from rfl, List.append_assoc]
    obtain ⟨e1, e2⟩ := cutN_word hw hc
    have := ih ta rfl (93 :: r) (ends_shut r)
    rw [parseT_arg (s2 := (Fo.one ta).tx ++ 93 :: r) (noPar_word _ hw (by decide)) (by rw [e1]; decide) (.inl (by rw [e1]; decide)) (by rw [e2]; simp), this]
    simp only
    rw [e1]
    rfl
  | rcd k w fo hk h hl ih =>
    intro t ht r hr
    obtain rfl : t = ⟨k, w, fo⟩ := by cases t; simp [Fo.one] at ht; simp [ht]
    rw [Fo.tx_one, Fo.br_ne h.ne]
    have hc : cutN (91 :: (fo.tx ++ [93]) ++ r) = 0 := by rw [List.cons_append, cutN_cons]; rfl
    have hw : wordK k w = w ∧ cutN w = w.length ∧ w ≠ [] ∧ kind0 w = 0 ∧ kindB w = k ∧ (k = 5 ∨ k = 6) := by
      rcases hk with ⟨rfl, rfl⟩ | ⟨rfl, rfl⟩ <;> decide
    rw [hw.1, List.append_assoc]
    obtain ⟨e1, e2⟩ := cutN_word hw.2.1 hc
    have := ih (93 :: r) (ends_shut r) (by simp)
    rw [parseT_rec (s2 := fo.tx ++ 93 :: r) (noPar_word _ hw.2.1 hw.2.2.1) (by rw [e1]; exact hw.2.2.2.1) (by rw [e1, hw.2.2.2.2.1]; exact hw.2.2.2.2.2) (by rw [e2]; simp), this]
    simp only
    rw [e1, if_pos hl, hw.2.2.2.2.1]
  | nam n hn =>
    intro t ht r hr
    obtain rfl : t = ⟨7, n, .nil⟩ := by cases t; simp [Fo.one] at ht; simp [ht]
    rw [Fo.tx_one]
    simp only [Fo.br, List.append_nil]
    obtain ⟨e1, e2⟩ := cutN_word (name_cut hn) hr.1
    obtain ⟨k1, k2⟩ := name_words hn
    rw [show wordK 7 n = n from rfl, parseT_name (noPar_word r (name_cut hn) (name_ne hn)) (by rw [e1]; exact k1) (by rw [e1]; exact k2) (by rw [e1]; exact hn) (by rw [e2]; exact hr.2), e1, e2]
  | app n a hn h ih =>
    intro t ht r hr
    obtain rfl : t = ⟨7, n, a⟩ := by cases t; simp [Fo.one] at ht; simp [ht]
    obtain ⟨ta, rfl⟩ := h.one
    obtain ⟨k1, k2⟩ := name_words hn
    rw [Fo.tx_one, Fo.br_ne (by simp [Fo.one])]
    have hc : cutN (91 :: ((Fo.one ta).tx ++ [93]) ++ r) = 0 := by rw [List.cons_append, cutN_cons]; rfl
    have hw := name_cut hn
    rw [show wordK 7 n = n from rfl, List.append_assoc]
    obtain ⟨e1, e2⟩ := cutN_word hw hc
    have := ih ta rfl (93 :: r) (ends_shut r)
    rw [parseT_arg (s2 := (Fo.one ta).tx ++ 93 :: r) (noPar_word _ hw (name_ne hn)) (by rw [e1]; exact k1) (.inr (by rw [e1]; exact ⟨k2, hn⟩)) (by rw [e2]; simp), this]
    simp only
    rw [e1, k2]
    rfl
  | last b pn k n sub hn hb h ih =>
    intro r hr hr2
    rw [Fo.tx_last, preN_name hn]
    have hc : cutN (58 :: ((Fo.cons [] k n sub .nil).tx ++ r)) = 0 := by rw [cutN_cons]; rfl
    obtain ⟨e1, e2⟩ := cutN_word (name_cut hn) hc
    have := ih ⟨k, n, sub⟩ rfl r hr
    rw [show pn ++ [58] ++ (Fo.cons [] k n sub Fo.nil).tx ++ r = pn ++ 58 :: ((Fo.cons [] k n sub .nil).tx ++ r) from by simp]
    rw [parseP_ok (s2 := (Fo.cons [] k n sub .nil).tx ++ r) (by rw [e1]; exact hn) (by rw [e1]; exact hb) e2, this, e1]
    simp only
  | more b pn k n sub rest hn hb h h2 ih ih2 =>
    intro r hr hr2
    rw [Fo.tx_more _ _ _ _ _ h2.ne, preN_name hn]
    have hc : cutN (58 :: ((Fo.cons [] k n sub .nil).tx ++ 44 :: (rest.tx ++ r))) = 0 := by rw [cutN_cons]; rfl
    obtain ⟨e1, e2⟩ := cutN_word (name_cut hn) hc
    have := ih ⟨k, n, sub⟩ rfl (44 :: (rest.tx ++ r)) (ends_comma _)
    have h3 := ih2 r hr hr2
    rw [show pn ++ [58] ++ ((Fo.cons [] k n sub Fo.nil).tx ++ 44 :: rest.tx) ++ r = pn ++ 58 :: ((Fo.cons [] k n sub .nil).tx ++ 44 :: (rest.tx ++ r)) from by simp]
    rw [parseP_ok (s2 := (Fo.cons [] k n sub .nil).tx ++ 44 :: (rest.tx ++ r)) (by rw [e1]; exact hn) (by rw [e1]; exact hb) e2, this, e1]
    simp only
    rw [h3]
theorem Tr.ok.reads {t : Tr} (h : t.ok) {r : List UInt8} (hr : ends r) : parseT (t.txt ++ r) = some (t, r) := by
  rw [Tr.txt_eq]; exact Wf.reads h t rfl r hr
theorem Tr.ok.reads' {t : Tr} (h : t.ok) : parseT t.txt = some (t, []) := by
  have := h.reads ends_nil; simpa using this
theorem Tr.ok.inj {t u : Tr} (h : t.ok) (k : u.ok) (e : t.txt = u.txt) : t = u := by
  have h1 := h.reads'
  rw [e, k.reads'] at h1
  simpa using h1.symm
end Go.Proofs.YtakdmnhpoelepaaGreatDoor

namespace Go.Proofs.YtakdmnhpoelepaaGreatDoor

/-- Another type in the place of the parameter. -/
def Fo.put (a : Tr) : Fo → Fo
  | .nil => .nil
  | .cons pn k n sub rest => if k = 8 then .cons pn a.k a.n a.sub (rest.put a) else .cons pn k n (sub.put a) (rest.put a)
def Tr.put (t a : Tr) : Tr := if t.k = 8 then a else ⟨t.k, t.n, t.sub.put a⟩
theorem Fo.put_one (a t : Tr) : (Fo.one t).put a = .one (t.put a) := by
  unfold Tr.put
  rw [Fo.one, Fo.put]
  split <;> simp [Fo.one, Fo.put]
theorem Fo.put_len (a : Tr) : ∀ fo : Fo, (fo.put a).len = fo.len
  | .nil => rfl
  | .cons pn k n sub rest => by
    rw [Fo.put]
    split <;> simp only [Fo.len, Fo.put_len a rest]
/-- Whether the parameter is inside. -/
def Fo.opn : Fo → Bool
  | .nil => false
  | .cons _ k _ sub rest => decide (k = 8) || sub.opn || rest.opn
def Tr.opn (t : Tr) : Bool := decide (t.k = 8) || t.sub.opn
theorem Fo.opn_one (t : Tr) : (Fo.one t).opn = t.opn := by simp [Fo.one, Fo.opn, Tr.opn]

theorem Wf.nil8 {n : List UInt8} {sub : Fo} (h : Wf none (.cons [] 8 n sub .nil)) : n = [] ∧ sub = .nil := by
  cases h with
  | par => exact ⟨rfl, rfl⟩
  | word k h => simp
  | rcd k w fo hk => simp at hk

theorem Wf.put {a : Tr} (ha : a.ok) {tag : Option (List UInt8)} {fo : Fo} (h : Wf tag fo) : Wf tag (fo.put a) := by
  induction h with
  | par => rw [Fo.put, if_pos rfl]; exact ha
  | word k h => rw [Fo.put, if_neg (by omega)]; exact .word k h
  | arr x h ih => rw [Fo.put, if_neg (by omega)]; exact .arr _ ih
  | rcd k w fo hk h hl ih => rw [Fo.put, if_neg (by omega)]; exact .rcd k w _ hk ih (by rw [Fo.put_len]; exact hl)
  | nam n hn => rw [Fo.put, if_neg (by omega)]; exact .nam n hn
  | app n x hn h ih => rw [Fo.put, if_neg (by omega)]; exact .app n _ hn ih
  | last b pn k n sub hn hb h ih =>
    rw [Fo.put] at ih ⊢
    split at ih
    · rw [if_pos ‹_›]; exact .last _ _ _ _ _ hn hb ih
    · rw [if_neg ‹_›]; exact .last _ _ _ _ _ hn hb ih
  | more b pn k n sub rest hn hb h h2 ih ih2 =>
    rw [Fo.put] at ih ⊢
    split at ih
    · rw [if_pos ‹_›]; exact .more _ _ _ _ _ _ hn hb ih ih2
    · rw [if_neg ‹_›]; exact .more _ _ _ _ _ _ hn hb ih ih2
theorem Tr.ok.put {a t : Tr} (ha : a.ok) (ht : t.ok) : (t.put a).ok := by
  unfold Tr.ok; rw [← Fo.put_one]; exact Wf.put ha ht

/-- In a text: another text in the place of each '?' and the byte behind it. -/
def subst (a : List UInt8) : List UInt8 → List UInt8
  | [] => []
  | [c] => if c = 63 then a else [c]
  | c :: d :: r => if c = 63 then a ++ subst a r else c :: subst a (d :: r)
theorem subst_two (a : List UInt8) (d : UInt8) (r : List UInt8) : subst a (63 :: d :: r) = a ++ subst a r := by
  rw [subst, if_pos rfl]
theorem subst_other (a : List UInt8) (c : UInt8) (r : List UInt8) (h : c ≠ 63) : subst a (c :: r) = c :: subst a r := by
  cases r with
  | nil => simp [subst, h]
  | cons d r => rw [subst, if_neg h]
theorem subst_word (a : List UInt8) : ∀ (w r : List UInt8), cutN w = w.length → subst a (w ++ r) = w ++ subst a r
  | [], _, _ => rfl
  | c :: w, r, h => by
    rw [cutN_cons] at h
    split at h
    · rename_i hc
      rw [List.cons_append, subst_other _ _ _ (by rintro rfl; simp [alnum] at hc), subst_word a w r (by simpa using h)]; rfl
    · simp at h
theorem wordK_cut {k : Nat} {n : List UInt8} {sub : Fo} (h : Wf none (.cons [] k n sub .nil)) (hk : k ≠ 8) : cutN (wordK k n) = (wordK k n).length := by
  cases h with
  | par => exact absurd rfl hk
  | word k h => rcases h with rfl | rfl | rfl <;> decide
  | arr a h => decide
  | rcd k w fo hk => rcases hk with ⟨rfl, rfl⟩ | ⟨rfl, rfl⟩ <;> decide
  | nam n hn => exact name_cut hn
  | app n a hn h => exact name_cut hn

theorem Fo.put_ne (a : Tr) {fo : Fo} (h : fo ≠ .nil) : fo.put a ≠ .nil := by
  cases fo with
  | nil => exact absurd rfl h
  | cons pn k n sub rest => rw [Fo.put]; split <;> simp

/-- What is between brackets, put in. -/
theorem subst_br {a : Tr} {sub : Fo} (h : sub ≠ .nil → ∀ r, subst a.txt (sub.tx ++ r) = (sub.put a).tx ++ subst a.txt r) (r : List UInt8) : subst a.txt (sub.br ++ r) = (sub.put a).br ++ subst a.txt r := by
  by_cases hn : sub = .nil
  · subst hn; rfl
  · rw [Fo.br_ne hn, Fo.br_ne (Fo.put_ne a hn), List.cons_append, subst_other _ _ _ (by decide), List.append_assoc, h hn, List.singleton_append, subst_other _ _ _ (by decide)]
    simp
theorem Wf.subst {a : Tr} {tag : Option (List UInt8)} {fo : Fo} (h : Wf tag fo) : ∀ r, subst a.txt (fo.tx ++ r) = (fo.put a).tx ++ subst a.txt r := by
  have key : ∀ (k : Nat) (n : List UInt8) (sub : Fo), Wf none (.cons [] k n sub .nil) → (sub ≠ .nil → ∀ r, Proofs.YtakdmnhpoelepaaGreatDoor.subst a.txt (sub.tx ++ r) = (sub.put a).tx ++ Proofs.YtakdmnhpoelepaaGreatDoor.subst a.txt r) →
      ∀ r, Proofs.YtakdmnhpoelepaaGreatDoor.subst a.txt ((Fo.cons [] k n sub .nil).tx ++ r) = ((Fo.cons [] k n sub .nil).put a).tx ++ Proofs.YtakdmnhpoelepaaGreatDoor.subst a.txt r := by
    intro k n sub h ih r
    rw [Fo.put]
    by_cases hk : k = 8
    · subst hk
      obtain ⟨rfl, rfl⟩ := h.nil8
      rw [if_pos rfl, Fo.tx_one]
      show Proofs.YtakdmnhpoelepaaGreatDoor.subst a.txt (63 :: 116 :: r) = _
      rw [subst_two]
      show _ = (Fo.one a).tx ++ _
      rw [Tr.txt_eq]
    · rw [if_neg hk, Fo.tx_one, List.append_assoc, subst_word _ _ _ (wordK_cut h hk), subst_br ih]
      show _ = (Fo.cons [] k n (sub.put a) .nil).tx ++ _
      rw [Fo.tx_one, List.append_assoc]
  induction h with
  | par => exact key _ _ _ .par (fun h => absurd rfl h)
  | word k h => exact key _ _ _ (.word k h) (fun h => absurd rfl h)
  | arr x h ih => exact key _ _ _ (.arr x h) (fun _ => ih)
  | rcd k w fo hk h hl ih => exact key _ _ _ (.rcd k w fo hk h hl) (fun _ => ih)
  | nam n hn => exact key _ _ _ (.nam n hn) (fun h => absurd rfl h)
  | app n x hn h ih => exact key _ _ _ (.app n x hn h) (fun _ => ih)
  | last b pn k n sub hn hb h ih =>
    intro r
    have hc : cutN pn = pn.length := name_cut hn
    have e : ((Fo.cons pn k n sub .nil).put a).tx = preN pn ++ ((Fo.cons [] k n sub .nil).put a).tx := by
      by_cases hk : k = 8
      · simp only [Fo.put, if_pos hk]; rw [Fo.tx_last]
      · simp only [Fo.put, if_neg hk]; rw [Fo.tx_last]
    rw [e, Fo.tx_last, preN_name hn, List.append_assoc, List.append_assoc, subst_word _ _ _ hc, List.singleton_append, subst_other _ _ _ (by decide), ih]
    simp
  | more b pn k n sub rest hn hb h h2 ih ih2 =>
    intro r
    have hc : cutN pn = pn.length := name_cut hn
    have e : ((Fo.cons pn k n sub rest).put a).tx = preN pn ++ (((Fo.cons [] k n sub .nil).put a).tx ++ 44 :: (rest.put a).tx) := by
      by_cases hk : k = 8
      · simp only [Fo.put, if_pos hk]; rw [Fo.tx_more _ _ _ _ _ (Fo.put_ne a h2.ne)]
      · simp only [Fo.put, if_neg hk]; rw [Fo.tx_more _ _ _ _ _ (Fo.put_ne a h2.ne)]
    rw [e, Fo.tx_more _ _ _ _ _ h2.ne, preN_name hn]
    simp only [List.append_assoc, List.nil_append, List.cons_append]
    rw [subst_word _ _ _ hc, subst_other _ _ _ (by decide), ih, subst_other _ _ _ (by decide), ih2]
theorem Tr.ok.subst {a t : Tr} (ht : t.ok) : subst a.txt t.txt = (t.put a).txt := by
  have := Wf.subst (a := a) ht []
  rw [Fo.put_one, ← Tr.txt_eq, ← Tr.txt_eq] at this
  simpa [Proofs.YtakdmnhpoelepaaGreatDoor.subst] using this

/-- The parameter is inside just where a '?' is in the text. -/
def hasQ (s : List UInt8) : Bool := s.any (fun c => decide (c = 63))
theorem hasQ_word {w : List UInt8} (h : cutN w = w.length) : hasQ w = false := by
  induction w with
  | nil => rfl
  | cons c w ih =>
    rw [cutN_cons] at h
    split at h
    · rename_i hc
      have : c ≠ 63 := by rintro rfl; simp [alnum] at hc
      unfold hasQ at ih ⊢
      rw [List.any_cons, ih (by simpa using h)]
      simp [this]
    · simp at h
theorem hasQ_app (s r : List UInt8) : hasQ (s ++ r) = (hasQ s || hasQ r) := by simp [hasQ]
theorem hasQ_cons (c : UInt8) (r : List UInt8) (h : c ≠ 63) : hasQ (c :: r) = hasQ r := by simp [hasQ, h]
theorem Wf.hasQ {tag : Option (List UInt8)} {fo : Fo} (h : Wf tag fo) : hasQ fo.tx = fo.opn := by
  have key : ∀ (k : Nat) (n : List UInt8) (sub : Fo), Wf none (.cons [] k n sub .nil) → (sub ≠ .nil → Proofs.YtakdmnhpoelepaaGreatDoor.hasQ sub.tx = sub.opn) → Proofs.YtakdmnhpoelepaaGreatDoor.hasQ (Fo.cons [] k n sub .nil).tx = (Fo.cons [] k n sub .nil).opn := by
    intro k n sub h ih
    rw [Fo.tx_one, hasQ_app, Fo.opn]
    have hb : Proofs.YtakdmnhpoelepaaGreatDoor.hasQ sub.br = sub.opn := by
      by_cases hn : sub = .nil
      · subst hn; rfl
      · rw [Fo.br_ne hn, hasQ_cons _ _ (by decide), hasQ_app, ih hn]; simp [Proofs.YtakdmnhpoelepaaGreatDoor.hasQ]
    rw [hb]
    by_cases hk : k = 8
    · subst hk; simp [wordK, Proofs.YtakdmnhpoelepaaGreatDoor.hasQ]
    · rw [hasQ_word (wordK_cut h hk)]; simp [hk, Fo.opn]
  induction h with
  | par => exact key _ _ _ .par (fun h => absurd rfl h)
  | word k h => exact key _ _ _ (.word k h) (fun h => absurd rfl h)
  | arr x h ih => exact key _ _ _ (.arr x h) (fun _ => ih)
  | rcd k w fo hk h hl ih => exact key _ _ _ (.rcd k w fo hk h hl) (fun _ => ih)
  | nam n hn => exact key _ _ _ (.nam n hn) (fun h => absurd rfl h)
  | app n x hn h ih => exact key _ _ _ (.app n x hn h) (fun _ => ih)
  | last b pn k n sub hn hb h ih =>
    rw [Fo.tx_last, preN_name hn, hasQ_app, hasQ_app, hasQ_word (name_cut hn), ih]
    simp [Fo.opn, Proofs.YtakdmnhpoelepaaGreatDoor.hasQ]
  | more b pn k n sub rest hn hb h h2 ih ih2 =>
    rw [Fo.tx_more _ _ _ _ _ h2.ne, preN_name hn, hasQ_app, hasQ_app, hasQ_app, hasQ_word (name_cut hn), ih, hasQ_cons 44 _ (by decide), ih2]
    simp [Fo.opn, Proofs.YtakdmnhpoelepaaGreatDoor.hasQ]
theorem Tr.ok.hasQ {t : Tr} (h : t.ok) : hasQ t.txt = t.opn := by rw [Tr.txt_eq, Wf.hasQ h, Fo.opn_one]

/-! ### Nothing to put in; levels -/
theorem Fo.put_shut (a : Tr) : ∀ fo : Fo, fo.opn = false → fo.put a = fo
  | .nil, _ => rfl
  | .cons pn k n sub rest, h => by
    simp only [Fo.opn, Bool.or_eq_false_iff, decide_eq_false_iff_not] at h
    rw [Fo.put, if_neg h.1.1, Fo.put_shut a sub h.1.2, Fo.put_shut a rest h.2]
theorem Tr.put_shut {a t : Tr} (h : t.opn = false) : t.put a = t := by
  simp only [Tr.opn, Bool.or_eq_false_iff, decide_eq_false_iff_not] at h
  unfold Tr.put
  rw [if_neg h.1, Fo.put_shut a _ h.2]
theorem Fo.level_pos (pn : List UInt8) (k : Nat) (n : List UInt8) (sub rest : Fo) : 1 ≤ (Fo.cons pn k n sub rest).level := by
  simp only [Fo.level]; omega
theorem Fo.put_level (a : Tr) : ∀ fo : Fo, (∀ pn k n sub rest, fo = .cons pn k n sub rest → True) → (fo.put a).level + 1 ≤ fo.level + a.level
  | .nil, _ => by simp only [Fo.put, Fo.level, Tr.level]; omega
  | .cons pn k n sub rest, _ => by
    have h1 := Fo.put_level a sub (fun _ _ _ _ _ _ => trivial)
    have h2 := Fo.put_level a rest (fun _ _ _ _ _ _ => trivial)
    rw [Fo.put]
    split
    · simp only [Fo.level, Tr.level] at *; omega
    · simp only [Fo.level, Tr.level] at *; omega
theorem Tr.put_level (a t : Tr) : (t.put a).level + 1 ≤ t.level + a.level := by
  have h := Fo.put_level a t.sub (fun _ _ _ _ _ _ => trivial)
  unfold Tr.put
  split
  · simp only [Tr.level] at *; omega
  · simp only [Tr.level] at *; omega

/-! ### What has to be in the place of the parameter -/
/-- The program's way: to the first open part, in both. -/
def Fo.find : Fo → Fo → Option Tr
  | .cons _ k _ sub rest, .cons _ k' n' sub' rest' =>
    if k = 8 then some ⟨k', n', sub'⟩
    else if sub.opn then (if k = k' ∧ sub.len = sub'.len then sub.find sub' else none)
    else rest.find rest'
  | _, _ => none
def Tr.find (p x : Tr) : Option Tr :=
  if p.k = 8 then some x else if p.k = x.k ∧ p.sub.len = x.sub.len then p.sub.find x.sub else none
theorem Fo.find_put (a : Tr) : ∀ p : Fo, p.opn = true → p.find (p.put a) = some a
  | .nil, h => by simp [Fo.opn] at h
  | .cons pn k n sub rest, h => by
    rw [Fo.put]
    by_cases hk : k = 8
    · rw [if_pos hk, Fo.find, if_pos hk]
    · rw [if_neg hk, Fo.find, if_neg hk]
      by_cases hs : sub.opn = true
      · rw [if_pos hs, if_pos ⟨rfl, (Fo.put_len a sub).symm⟩, Fo.find_put a sub hs]
      · rw [if_neg hs]
        refine Fo.find_put a rest ?_
        simpa [Fo.opn, hk, hs] using h
theorem Tr.find_put {a p : Tr} (h : p.opn = true) : p.find (p.put a) = some a := by
  unfold Tr.find Tr.put
  by_cases hk : p.k = 8
  · rw [if_pos hk, if_pos hk]
  · rw [if_neg hk, if_neg hk, if_pos ⟨rfl, (Fo.put_len a p.sub).symm⟩, Fo.find_put a p.sub]
    simpa [Tr.opn, hk] using h
/-- What is found lies inside. -/
theorem Wf.inner {k : Nat} {n : List UInt8} {sub : Fo} (h : Wf none (.cons [] k n sub .nil)) : sub = .nil ∨ ∃ tag, Wf tag sub := by
  cases h with
  | par => exact .inl rfl
  | word => exact .inl rfl
  | arr a h => exact .inr ⟨_, h⟩
  | rcd k w fo hk h => exact .inr ⟨_, h⟩
  | nam => exact .inl rfl
  | app n a hn h => exact .inr ⟨_, h⟩
theorem Wf.head {tag : Option (List UInt8)} {pn : List UInt8} {k : Nat} {n : List UInt8} {sub rest : Fo} (h : Wf tag (.cons pn k n sub rest)) : Wf none (.cons [] k n sub .nil) ∧ (rest = .nil ∨ ∃ tag', Wf tag' rest) := by
  cases h with
  | par => exact ⟨.par, .inl rfl⟩
  | word k h => exact ⟨.word k h, .inl rfl⟩
  | arr _ h => exact ⟨.arr _ h, .inl rfl⟩
  | rcd k w fo hk h hl => exact ⟨.rcd _ _ _ hk h hl, .inl rfl⟩
  | nam n hn => exact ⟨.nam _ hn, .inl rfl⟩
  | app n a hn h => exact ⟨.app _ _ hn h, .inl rfl⟩
  | last b pn k n sub hn hb h => exact ⟨h, .inl rfl⟩
  | more b pn k n sub rest hn hb h h2 => exact ⟨h, .inr ⟨_, h2⟩⟩
theorem Fo.find_ok : ∀ (p x : Fo), (x = .nil ∨ ∃ tag, Wf tag x) → ∀ a, p.find x = some a → a.ok ∧ a.level ≤ x.level
  | .nil, _, _, _, h => by simp [Fo.find] at h
  | .cons _ _ _ _ _, .nil, _, _, h => by simp [Fo.find] at h
  | .cons pn k n sub rest, .cons pn' k' n' sub' rest', hx, a, h => by
    obtain ⟨tag, hw⟩ := hx.resolve_left (by simp)
    obtain ⟨h1, h2⟩ := hw.head
    rw [Fo.find] at h
    split at h
    · simp only [Option.some.injEq] at h
      subst h
      exact ⟨h1, by simp only [Tr.level, Fo.level]; omega⟩
    · split at h
      · split at h
        · obtain ⟨i1, i2⟩ := Fo.find_ok sub sub' h1.inner a h
          exact ⟨i1, by simp only [Fo.level]; omega⟩
        · simp at h
      · obtain ⟨i1, i2⟩ := Fo.find_ok rest rest' h2 a h
        exact ⟨i1, by simp only [Fo.level]; omega⟩
theorem Tr.find_ok {p x a : Tr} (hx : x.ok) (h : p.find x = some a) : a.ok ∧ a.level ≤ x.level := by
  unfold Tr.find at h
  split at h
  · simp only [Option.some.injEq] at h
    subst h
    exact ⟨hx, Nat.le_refl _⟩
  · split at h
    · obtain ⟨i1, i2⟩ := Fo.find_ok _ _ (Wf.inner hx) a h
      exact ⟨i1, by simp only [Tr.level] at *; omega⟩
    · simp at h
end Go.Proofs.YtakdmnhpoelepaaGreatDoor
