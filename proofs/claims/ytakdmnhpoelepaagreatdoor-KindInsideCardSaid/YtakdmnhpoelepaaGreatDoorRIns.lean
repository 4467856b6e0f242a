/-
  The reference's way to find what is inside a type (plain): at each place the type that begins there. No condition.
  Contracts: the reference's has, Inside (argusref03), in the words of the program's contracts. Condition: the texts' length.
-/
import Derived.Test.YtakdmnhpoelepaaGreatDoorPMatchR
import Derived.Test.YtakdmnhpoelepaaGreatDoorPNames
import Derived.Test.YtakdmnhpoelepaaGreatDoorRWith
namespace Go.Proofs.YtakdmnhpoelepaaGreatDoor

/-- A colon stands behind the name that a text begins with. -/
def colon (s : List UInt8) : Bool := (s.drop (cutN s)).head? == some 58
/-- What is taken at a place: p is the byte ahead of it. -/
def hereT (p : UInt8) (s : List UInt8) : List (List UInt8) := if (p = 91 ∨ p = 58) ∧ rdN s ≠ 0 ∧ colon s = false then [s.take (rdN s)] else []
/-- What is taken at all places. -/
def scan : UInt8 → List UInt8 → List (List UInt8)
  | _, [] => []
  | p, c :: r => hereT p (c :: r) ++ scan c r
theorem hereT_no {p : UInt8} (s : List UInt8) (h1 : p ≠ 91) (h2 : p ≠ 58) : hereT p s = [] := by
  unfold hereT; rw [if_neg]; rintro ⟨h | h, _⟩
  · exact h1 h
  · exact h2 h
theorem scan_no {p : UInt8} (s : List UInt8) (h1 : p ≠ 91) (h2 : p ≠ 58) : scan p s = scan 0 s := by
  cases s with
  | nil => rfl
  | cons c r => rw [scan, scan, hereT_no _ h1 h2, hereT_no _ (by decide) (by decide)]
theorem alnum_no {c : UInt8} (h : alnum c = true) : c ≠ 91 ∧ c ≠ 58 ∧ c ≠ 63 := by
  refine ⟨?_, ?_, ?_⟩ <;> (rintro rfl; simp [alnum] at h)
theorem scan_word : ∀ (w r : List UInt8) (p : UInt8), cutN w = w.length → p ≠ 91 → p ≠ 58 → scan p (w ++ r) = scan 0 r
  | [], r, p, _, h1, h2 => scan_no r h1 h2
  | c :: w, r, p, h, h1, h2 => by
    rw [cutN_cons] at h
    split at h
    · rename_i hc
      obtain ⟨c1, c2, _⟩ := alnum_no hc
      rw [List.cons_append, scan, hereT_no _ h1 h2, List.nil_append]
      exact scan_word w r c (by simpa using h) c1 c2
    · simp at h
/-- Behind the first byte of a word. -/
theorem scan_rest {w r : List UInt8} (p : UInt8) (hw : cutN w = w.length) (hne : w ≠ []) : scan p (w ++ r) = hereT p (w ++ r) ++ scan 0 r := by
  cases w with
  | nil => exact absurd rfl hne
  | cons c w =>
    rw [cutN_cons] at hw
    split at hw
    · rename_i hc
      obtain ⟨c1, c2, _⟩ := alnum_no hc
      rw [List.cons_append, scan, scan_word w r c (by simpa using hw) c1 c2]
    · simp at hw
theorem colon_word {w r : List UInt8} (hw : cutN w = w.length) (hr : cutN r = 0) : colon (w ++ r) = (r.head? == some 58) := by
  unfold colon; rw [(cutN_word hw hr).2]
theorem stop.colon {r : List UInt8} (h : stop r) : (r.head? == some 58) = false := by
  cases r with
  | nil => rfl
  | cons c r => rcases h c r rfl with rfl | rfl <;> rfl
theorem br_head {sub : Fo} {r : List UInt8} (h : stop r) : ((sub.br ++ r).head? == some 58) = false ∧ cutN (sub.br ++ r) = 0 := by
  cases sub with
  | nil => exact ⟨h.colon, h.ends.1⟩
  | cons pn k n sub rest =>
    constructor
    · rfl
    · rw [Fo.br, List.cons_append, cutN_cons]; rfl
theorem wordK_ne {k : Nat} {n : List UInt8} {sub : Fo} (h : Wf none (.cons [] k n sub .nil)) : wordK k n ≠ [] := by
  cases h with
  | par => decide
  | word k h => rcases h with rfl | rfl | rfl <;> decide
  | arr a h => decide
  | rcd k w fo hk => rcases hk with ⟨rfl, rfl⟩ | ⟨rfl, rfl⟩ <;> decide
  | nam n hn => exact name_ne hn
  | app n a hn h => exact name_ne hn
/-- A type is taken at its place. -/
theorem here_type {k : Nat} {n : List UInt8} {sub : Fo} (h : Wf none (.cons [] k n sub .nil)) {p : UInt8} (hp : p = 91 ∨ p = 58) {r : List UInt8} (hr : stop r) :
    hereT p ((Fo.cons [] k n sub .nil).tx ++ r) = [(Fo.cons [] k n sub .nil).tx] := by
  have ho : (Tr.mk k n sub).ok := h
  have e : (Fo.cons [] k n sub .nil).tx = (Tr.mk k n sub).txt := by rw [Tr.txt_eq]; rfl
  have hn : rdN ((Fo.cons [] k n sub .nil).tx ++ r) = (Fo.cons [] k n sub .nil).tx.length := by rw [e]; exact rdN_reads ho hr.ends
  have hpos := ho.txt_pos
  rw [← e] at hpos
  have hc : colon ((Fo.cons [] k n sub .nil).tx ++ r) = false := by
    rw [Fo.tx_one, List.append_assoc]
    by_cases hk : k = 8
    · subst hk
      obtain ⟨rfl, rfl⟩ := h.nil8
      rfl
    · obtain ⟨b1, b2⟩ := br_head (sub := sub) hr
      rw [colon_word (wordK_cut h hk) b2]; exact b1
  unfold hereT
  rw [hn, if_pos ⟨hp, by omega, hc⟩]
  simp
/-- What is said of the places in a forest. -/
def Scans : Option (List UInt8) → Fo → Prop
  | none, fo => ∀ p r, (p = 91 ∨ p = 58) → stop r → scan p (fo.tx ++ r) = fo.ins.map (·.txt) ++ scan 0 r
  | some _, fo => ∀ p r, (p = 91 ∨ p = 44) → scan p (fo.tx ++ 93 :: r) = fo.ins.map (·.txt) ++ scan 0 (93 :: r)
theorem hereT_part {pn X : List UInt8} {p : UInt8} (hn : isName pn = true) : hereT p (pn ++ 58 :: X) = [] := by
  unfold hereT
  rw [if_neg]
  rintro ⟨_, _, h⟩
  rw [colon_word (name_cut hn) (by rw [cutN_cons]; rfl)] at h
  simp at h
theorem Wf.scans {tag : Option (List UInt8)} {fo : Fo} (h : Wf tag fo) : Scans tag fo := by
  have key : ∀ (k : Nat) (n : List UInt8) (sub : Fo), Wf none (.cons [] k n sub .nil) → (sub ≠ .nil → ∀ r, scan 91 (sub.tx ++ 93 :: r) = sub.ins.map (·.txt) ++ scan 0 (93 :: r)) → Scans none (.cons [] k n sub .nil) := by
    intro k n sub h ih p r hp hr
    have hh := here_type h hp hr
    have e : (Fo.cons [] k n sub .nil).tx = (Tr.mk k n sub).txt := by rw [Tr.txt_eq]; rfl
    have hi : (Fo.cons [] k n sub .nil).ins.map (·.txt) = (Fo.cons [] k n sub .nil).tx :: sub.ins.map (·.txt) := by rw [Fo.ins, e]; simp [Fo.ins]
    rw [hi]
    rw [Fo.tx_one] at hh ⊢
    rw [List.append_assoc] at hh ⊢
    by_cases hk : k = 8
    · subst hk
      obtain ⟨rfl, rfl⟩ := h.nil8
      have e1 : scan p (63 :: 116 :: r) = hereT p (63 :: 116 :: r) ++ (hereT 63 (116 :: r) ++ scan 116 r) := by rw [scan, scan]
      have e2 : hereT p (63 :: 116 :: r) = [wordK 8 [] ++ Fo.nil.br] := hh
      show scan p (63 :: 116 :: r) = _
      rw [e1, e2, hereT_no (p := 63) _ (by decide) (by decide), scan_no (p := 116) r (by decide) (by decide)]
      simp [Fo.ins]
    · rw [scan_rest p (wordK_cut h hk) (wordK_ne h), hh]
      by_cases hs : sub = .nil
      · subst hs; simp [Fo.ins, Fo.br]
      · have e2 : scan 0 (sub.br ++ r) = sub.ins.map (·.txt) ++ scan 0 r := by
          rw [Fo.br_ne hs, show (91 :: (sub.tx ++ [93])) ++ r = 91 :: (sub.tx ++ 93 :: r) from by simp, scan, hereT_no (p := 0) _ (by decide) (by decide), List.nil_append, ih hs, scan, hereT_no (p := 0) _ (by decide) (by decide), List.nil_append, scan_no (p := 93) r (by decide) (by decide)]
        rw [e2]
        simp
  induction h with
  | par => exact key _ _ _ .par (fun h => absurd rfl h)
  | word k h => exact key _ _ _ (.word k h) (fun h => absurd rfl h)
  | arr x h ih => exact key _ _ _ (.arr x h) (fun _ r => ih 91 (93 :: r) (.inl rfl) (stop_shut r))
  | rcd k w fo hk h hl ih => exact key _ _ _ (.rcd k w fo hk h hl) (fun _ r => ih 91 r (.inl rfl))
  | nam n hn => exact key _ _ _ (.nam n hn) (fun h => absurd rfl h)
  | app n x hn h ih => exact key _ _ _ (.app n x hn h) (fun _ r => ih 91 (93 :: r) (.inl rfl) (stop_shut r))
  | last b pn k n sub hn hb h ih =>
    intro p r hp
    have hi : (Fo.cons pn k n sub .nil).ins = (Fo.cons [] k n sub .nil).ins := by simp [Fo.ins]
    rw [hi, Fo.tx_last, preN_name hn, List.append_assoc, List.append_assoc, List.singleton_append, scan_rest p (name_cut hn) (name_ne hn), hereT_part hn, List.nil_append, scan, hereT_no _ (by decide) (by decide), List.nil_append]
    exact ih 58 (93 :: r) (.inr rfl) (stop_shut r)
  | more b pn k n sub rest hn hb h h2 ih ih2 =>
    intro p r hp
    have hi : (Fo.cons pn k n sub rest).ins = (Fo.cons [] k n sub .nil).ins ++ rest.ins := by simp [Fo.ins]
    have e1 := ih 58 (44 :: (rest.tx ++ 93 :: r)) (.inr rfl) (stop_comma _)
    have e2 := ih2 44 r (.inr rfl)
    rw [hi, Fo.tx_more _ _ _ _ _ h2.ne, preN_name hn, List.map_append]
    rw [show pn ++ [58] ++ ((Fo.cons [] k n sub Fo.nil).tx ++ 44 :: rest.tx) ++ 93 :: r = pn ++ 58 :: ((Fo.cons [] k n sub .nil).tx ++ 44 :: (rest.tx ++ 93 :: r)) from by simp]
    rw [scan_rest p (name_cut hn) (name_ne hn), hereT_part hn, List.nil_append, scan, hereT_no _ (by decide) (by decide), List.nil_append, e1, scan, hereT_no _ (by decide) (by decide), List.nil_append, e2]
    simp
/-- All places of a type. -/
theorem Tr.ok.scan {t : Tr} (h : t.ok) : scan 91 t.txt = t.ins.map (·.txt) := by
  have hs : Scans none (.one t) := Wf.scans h
  have := hs 91 [] (.inl rfl) stop_nil
  rw [List.append_nil, ← Tr.txt_eq, Proofs.YtakdmnhpoelepaaGreatDoor.scan, List.append_nil] at this
  rw [this]
  simp [Fo.one, Fo.ins, Tr.ins]
/-- Texts that are not there yet are put behind. -/
def onceOn (acc l : List (List UInt8)) : List (List UInt8) := l.foldl (fun acc s => if hasB acc s then acc else acc ++ [s]) acc
theorem onceOn_ins {t : Tr} (h : t.ok) : onceOn [] (scan 91 t.txt) = insF t.ins := by
  rw [h.scan, insF_once]; rfl
theorem onceOn_nil (acc : List (List UInt8)) : onceOn acc [] = acc := rfl
theorem onceOn_cons (acc l : List (List UInt8)) (s : List UInt8) : onceOn acc (s :: l) = onceOn (if hasB acc s then acc else acc ++ [s]) l := rfl

/-! ### Strictly ascending lists -/
def asc (l : List (List UInt8)) : Prop := l.Pairwise fun a b => Op.bytesLess a b = true
theorem asc_unique : ∀ (l m : List (List UInt8)), asc l → asc m → (∀ s, s ∈ l ↔ s ∈ m) → l = m
  | [], [], _, _, _ => rfl
  | [], y :: m, _, _, h => by simpa using (h y).2 (by simp)
  | x :: l, [], _, _, h => by simpa using (h x).1 (by simp)
  | x :: l, y :: m, h1, h2, h => by
    obtain ⟨a1, a2⟩ := List.pairwise_cons.1 h1
    obtain ⟨b1, b2⟩ := List.pairwise_cons.1 h2
    have hxy : x = y := by
      rcases List.mem_cons.1 ((h x).1 (by simp)) with e | e
      · exact e
      · rcases List.mem_cons.1 ((h y).2 (by simp)) with e' | e'
        · exact e'.symm
        · have := less_asymm _ _ (b1 x e)
          rw [a1 y e'] at this
          simp at this
    subst hxy
    have hnx : ∀ s, s ∈ l → s ≠ x := fun s hs e => by
      subst e
      have := a1 s hs
      rw [less_irrefl] at this
      simp at this
    have hmx : ∀ s, s ∈ m → s ≠ x := fun s hs e => by
      subst e
      have := b1 s hs
      rw [less_irrefl] at this
      simp at this
    rw [asc_unique l m a2 b2 fun s => ⟨fun hs => by
      rcases List.mem_cons.1 ((h s).1 (List.mem_cons_of_mem _ hs)) with e | e
      · exact absurd e (hnx s hs)
      · exact e, fun hs => by
      rcases List.mem_cons.1 ((h s).2 (List.mem_cons_of_mem _ hs)) with e | e
      · exact absurd e (hmx s hs)
      · exact e⟩]
/-- A text put into its place. -/
theorem asc_put {l : List (List UInt8)} {s : List UInt8} {k : Nat} (h : asc l) (hk : k ≤ l.length) (hlo : ∀ j (hj : j < l.length), j < k → Op.bytesLess l[j] s = true) (hhi : ∀ j (hj : j < l.length), k ≤ j → Op.bytesLess s l[j] = true) :
    asc (l.take k ++ s :: l.drop k) := by
  unfold asc at *
  rw [List.pairwise_append]
  refine ⟨h.take, ?_, ?_⟩
  · rw [List.pairwise_cons]
    refine ⟨fun x hx => ?_, h.drop⟩
    obtain ⟨i, hi, rfl⟩ := List.getElem_of_mem hx
    rw [List.getElem_drop]
    exact hhi _ _ (by omega)
  · intro a ha b hb
    obtain ⟨i, hi, rfl⟩ := List.getElem_of_mem ha
    rw [List.getElem_take]
    have hi' : i < k ∧ i < l.length := by simp at hi; omega
    rcases List.mem_cons.1 hb with rfl | hb
    · exact hlo i hi'.2 hi'.1
    · obtain ⟨j, hj, rfl⟩ := List.getElem_of_mem hb
      rw [List.getElem_drop]
      exact less_trans _ _ _ (hlo i hi'.2 hi'.1) (hhi _ _ (by omega))
theorem put_mem {l : List (List UInt8)} {s x : List UInt8} {k : Nat} : x ∈ l.take k ++ s :: l.drop k ↔ x = s ∨ x ∈ l := by
  have : x ∈ l ↔ x ∈ l.take k ++ l.drop k := by rw [List.take_append_drop]
  rw [this]
  simp only [List.mem_append, List.mem_cons]
  constructor
  · rintro (h | h | h)
    · exact .inr (.inl h)
    · exact .inl h
    · exact .inr (.inr h)
  · rintro (h | h | h)
    · exact .inr (.inl h)
    · exact .inl h
    · exact .inr (.inr h)
/-- The list that is asc and has the names is the one of the program. -/
theorem asc_sortU {l m : List (List UInt8)} (h : asc l) (hm : ∀ s, s ∈ l ↔ s ∈ m) : l = sortU m :=
  asc_unique _ _ h (sortU_asc m) fun s => by rw [hm, sortU_mem]
end Go.Proofs.YtakdmnhpoelepaaGreatDoor

namespace Go.Proofs.YtakdmnhpoelepaaGreatDoor
open Go.RowKit

set_option maxHeartbeats 400000 in
theorem rhas_any (v : Value) (ss : List (List UInt8)) (s : List UInt8) (w : World) (hv : Strs w v ss) :
    Calls Tryz.prog 60 #[v, str s] w fun e w' => e = .returned (.bool (hasB ss s)) ∧ w = w' := by
  rcases hv.shape with ⟨rfl, rfl⟩ | ⟨b, o, cap, rfl, hm, hc⟩
  · go_enter Tryz.func60, Tryz.ntmps60
    go_wp2
    refine wp_loop_rounds 1 ?_
    rw [rounds_succ]
    go_wp2
    go_ret
    exact ⟨rfl, rfl⟩
  · unfold maxLen at hm
    go_enter Tryz.func60, Tryz.ntmps60
    go_wp2
    go_loop [5] (fun i => ∃ k : Nat, k ≤ ss.length ∧ hasB (ss.take k) s = false ∧ i = .int .i64 k) (fun i => ss.length - (intOf i).toNat)
    case atStart => exact ⟨0, by omega, hasB_zero _ _, rfl⟩
    case round =>
      obtain ⟨k, hk, hn, rfl⟩ := hrel
      have Hn := Lib.hid hn
      clear hn
      by_cases hlt : k < ss.length
      · have hck := hc k hlt
        clear hc
        cases he : (ss[k] == s)
        · have Hs := Lib.hid (hasB_take_succ ss s k hlt Hn.out he)
          go_wp2
          go_round
          case rel => exact ⟨k + 1, by omega, Hs.out, by go_num⟩
          case measure => simp [intOf]; omega
        · have Hs := Lib.hid (hasB_hit ss s k hlt he)
          go_wp2
          go_ret
          exact ⟨ret_bool Hs.out.symm, rfl⟩
      · have Hs := Lib.hid (hasB_end ss s k hlt Hn.out)
        clear hc
        go_wp2
        go_ret
        exact ⟨ret_bool Hs.out.symm, rfl⟩
theorem rhas_at {v : Value} {ss : List (List UInt8)} {s : List UInt8} {w : World} {q : Bool} (hv : Strs w v ss) (h : hasB ss s = q) :
    Calls Tryz.prog 60 #[v, str s] w fun e w' => e = .returned (.bool q) ∧ w = w' := by
  have := rhas_any v ss s w hv
  rwa [h] at this

/-- The byte ahead of a place. -/
def prevB (s : List UInt8) : Nat → UInt8
  | 0 => 91
  | j + 1 => s.getD j 0
theorem prevB_succ {s : List UInt8} {i : Nat} (h : i < s.length) : prevB s (i + 1) = s[i] := by simp [prevB, h]
theorem scan_at {s : List UInt8} {i : Nat} (h : i < s.length) : scan (prevB s i) (s.drop i) = hereT (prevB s i) (s.drop i) ++ scan (prevB s (i + 1)) (s.drop (i + 1)) := by
  rw [List.drop_eq_getElem_cons h, scan, prevB_succ h]
theorem colon_out {s : List UInt8} {i : Nat} (h : ¬ i + cutN (s.drop i) < s.length) : colon (s.drop i) = false := by
  unfold colon
  rw [List.drop_drop, List.drop_of_length_le (by omega)]
  rfl
theorem colon_in {s : List UInt8} {i : Nat} (h : i + cutN (s.drop i) < s.length) : colon (s.drop i) = (s[i + cutN (s.drop i)] == 58) := by
  unfold colon
  rw [List.drop_drop, List.drop_eq_getElem_cons h]
  rfl
theorem step_no {s : List UInt8} {i : Nat} {acc tot : List (List UInt8)} (h : i < s.length) (he : hereT (prevB s i) (s.drop i) = []) (ht : onceOn acc (scan (prevB s i) (s.drop i)) = tot) : onceOn acc (scan (prevB s (i + 1)) (s.drop (i + 1))) = tot := by
  rw [← ht, scan_at h, he]; rfl
theorem step_yes {s x : List UInt8} {i : Nat} {acc tot : List (List UInt8)} (h : i < s.length) (he : hereT (prevB s i) (s.drop i) = [x]) (ht : onceOn acc (scan (prevB s i) (s.drop i)) = tot) : onceOn (if hasB acc x then acc else acc ++ [x]) (scan (prevB s (i + 1)) (s.drop (i + 1))) = tot := by
  rw [← ht, scan_at h, he]; rfl
/-- The ways of a round. -/
theorem ins_cases {s : List UInt8} {i : Nat} {acc tot : List (List UInt8)} (h : i < s.length) (ht : onceOn acc (scan (prevB s i) (s.drop i)) = tot) :
    ((prevB s i ≠ 91 ∧ prevB s i ≠ 58) ∧ onceOn acc (scan (prevB s (i + 1)) (s.drop (i + 1))) = tot) ∨
    (prevB s i = 91 ∨ prevB s i = 58) ∧
      (rdN (s.drop i) = 0 ∧ onceOn acc (scan (prevB s (i + 1)) (s.drop (i + 1))) = tot ∨
      0 < rdN (s.drop i) ∧ ((∃ h : i + cutN (s.drop i) < s.length, s[i + cutN (s.drop i)] = 58 ∧ onceOn acc (scan (prevB s (i + 1)) (s.drop (i + 1))) = tot) ∨
        (¬ i + cutN (s.drop i) < s.length ∨ ∃ h : i + cutN (s.drop i) < s.length, s[i + cutN (s.drop i)] ≠ 58) ∧
          (hasB acc (List.drop i (List.take (i + rdN (s.drop i)) s)) = true ∧ onceOn acc (scan (prevB s (i + 1)) (s.drop (i + 1))) = tot ∨
           hasB acc (List.drop i (List.take (i + rdN (s.drop i)) s)) = false ∧ onceOn (acc ++ [List.drop i (List.take (i + rdN (s.drop i)) s)]) (scan (prevB s (i + 1)) (s.drop (i + 1))) = tot))) := by
  by_cases hp : prevB s i = 91 ∨ prevB s i = 58
  · refine .inr ⟨hp, ?_⟩
    by_cases h0 : rdN (s.drop i) = 0
    · exact .inl ⟨h0, step_no h (by unfold hereT; rw [if_neg]; rintro ⟨_, h, _⟩; exact h h0) ht⟩
    · refine .inr ⟨by omega, ?_⟩
      rcases hc : colon (s.drop i) with _ | _
      · refine .inr ⟨?_, ?_⟩
        · by_cases hl : i + cutN (s.drop i) < s.length
          · rw [colon_in hl] at hc
            exact .inr ⟨hl, by simpa using hc⟩
          · exact .inl hl
        · have he : hereT (prevB s i) (s.drop i) = [List.drop i (List.take (i + rdN (s.drop i)) s)] := by
            unfold hereT
            rw [if_pos ⟨hp, h0, hc⟩, List.drop_take, show i + rdN (s.drop i) - i = rdN (s.drop i) from by omega]
          have hs := step_yes h he ht
          rcases hb : hasB acc (List.drop i (List.take (i + rdN (s.drop i)) s)) with _ | _
          · rw [hb] at hs; exact .inr ⟨rfl, hs⟩
          · rw [hb] at hs; exact .inl ⟨rfl, hs⟩
      · refine .inl ?_
        by_cases hl : i + cutN (s.drop i) < s.length
        · refine ⟨hl, ?_, step_no h (by unfold hereT; rw [if_neg]; rintro ⟨_, _, h⟩; rw [hc] at h; simp at h) ht⟩
          rw [colon_in hl] at hc
          simpa using hc
        · rw [colon_out hl] at hc; simp at hc
  · have hp' : prevB s i ≠ 91 ∧ prevB s i ≠ 58 := ⟨fun h => hp (.inl h), fun h => hp (.inr h)⟩
    exact .inl ⟨hp', step_no h (hereT_no _ hp'.1 hp'.2) ht⟩

set_option maxRecDepth 8000 in
set_option maxHeartbeats 6400000 in
theorem rinside_good (s : List UInt8) (T : Tr) (hs : checkK s = (0, T)) (w : World) :
    Calls Tryz.prog 20 #[str s] w fun e w' => ∃ v, e = .returned (.tuple #[v, .int .i64 0]) ∧ Strs w' v (insF T.ins) ∧ Below w.heap.size w w' := by
  obtain ⟨o1, e1, l1, _⟩ := checkK_ok hs
  have hC := fun W => rcheck_any s (by unfold maxLen; omega) W
  rw [hs] at hC
  have hT : onceOn [] (scan (prevB s 0) (s.drop 0)) = insF T.ins := by rw [← onceOn_ins o1, e1]; rfl
  generalize insF T.ins = tot at hT ⊢
  have HT := Lib.hid hT
  obtain ⟨i0, hi0, hz0, hz1, hz2⟩ := info_parts infoStr
  clear hs o1 e1 hT
  go_enter Tryz.func20, Tryz.ntmps20
  go_wp2_with (go_at_call 32; refine (hC _).mono ?_; clear hC; rintro e w1 ⟨rfl, hb1⟩)
  go_loopw [5, 6] (fun o y wr => ∃ (i : Nat) (acc : List (List UInt8)), i ≤ s.length ∧ y = .int .i64 i ∧ acc.length ≤ i ∧ wr.ownsRow w.heap.size 9 1 o acc.length (strsC acc) ∧ Hid (onceOn acc (scan (prevB s i) (s.drop i)) = tot) ∧ Below w.heap.size w wr) (fun _ y _ => s.length - (intOf y).toNat)
  case atStart => exact ⟨0, [], Nat.zero_le _, by go_num, by simp, by simpa [strsC] using World.ownsRow_nil _ _ _ _, HT, hb1⟩
  case round =>
    clear hb1
    obtain ⟨i, acc, hi, rfl, ha, hown, HO, hb⟩ := hrel
    obtain ⟨po, co, rfl⟩ := row_shape hown
    by_cases hlt : i < s.length
    case neg =>
      have HS : Hid (acc = tot) := by
        have h := HO.out
        rw [List.drop_of_length_le (by omega)] at h
        exact h
      obtain rfl : acc = tot := HS.out
      go_wp2_with fail
      go_ret2
      exact ⟨_, rfl, Sl.of_own (by simpa [strsC] using hown), hb⟩
    case pos =>
      have hcs := ins_cases hlt HO.out
      have hR := fun W => read_any (s.drop i) 0 W (Int.le_refl _) (by simp; omega)
      have hK := fun W => cut_any (s.drop i) W (by simp; unfold maxLen; omega)
      have hN := rdN_le (s.drop i)
      have hM := cutN_le (s.drop i)
      rw [List.length_drop] at hN hM
      generalize rdN (s.drop i) = N at hcs hR hN
      generalize rdL (s.drop i) = L at hR
      generalize cutN (s.drop i) = M at hcs hK hM
      have hiN : i + N ≤ s.length := by omega
      have hiM : i + M ≤ s.length := by omega
      have hAl : (List.drop i (List.take (i + N) s)).length ≤ 100 := by simp; omega
      rcases hcs with ⟨⟨hp1, hp2⟩, hx⟩ | ⟨hp, hcs⟩
      case inl =>
        have HX := Lib.hid hx
        obtain ⟨j, rfl⟩ : ∃ j, i = j + 1 := by
          cases i with
          | zero => exact absurd rfl hp1
          | succ j => exact ⟨j, rfl⟩
        rw [prevB_succ (by omega)] at hp1 hp2
        have g1 : (((s[j]).toNat : Int) != 91) = true := by rw [bne_iff_ne]; exact u8_ne (d := 91) hp1
        have g2 : (((s[j]).toNat : Int) != 58) = true := by rw [bne_iff_ne]; exact u8_ne (d := 58) hp2
        have hj : j < s.length := by omega
        clear hx hp1 hp2 hR hK HO
        go_wp2_with fail
        exact ⟨⟨j + 2, acc, by omega, by go_num, by omega, hown, HX.out, hb⟩, by simp only [intOf]; omega⟩
      case inr =>
        cases i with
        | zero =>
          clear hp
          simp only [Nat.zero_add, Nat.sub_zero, List.drop_zero] at hcs hR hK hN hM hiN hiM hAl ha
          rcases hcs with ⟨h0, hx⟩ | ⟨h0, ⟨hl, hch, hx⟩ | ⟨hcol, hcs⟩⟩
          · have HX := Lib.hid hx
            have g3 : ((N : Int) == 0) = true := by rw [h0]; rfl
            have HB := Lib.hid (rfl : hasB acc [] = hasB acc [])
            clear hx h0 HO
            go_wp2_with (first
              | (go_at_call 56; refine (hR _).mono ?_; clear hR; rintro e w2 ⟨rfl, hb2⟩; have hb3 := hb.trans (below_less hb2 hb.size); have hown3 := ownsRow_below hown hb2 (Nat.le_refl _); have hst3 : Strs w2 _ acc := Sl.of_own (by simpa [strsC] using hown3))
              | (go_at_call 59; refine (hK _).mono ?_; clear hK; rintro e w3 ⟨rfl, rfl⟩)
              | (go_at_call 60; (with_reducible refine (rhas_at hst3 HB.out).mono ?_); rintro e w4 ⟨rfl, rfl⟩)
              | (at_builtin; refine wpList_append_own _ rfl _ _ 30 rfl w.heap.size 9 i0 (.string ⟨#[]⟩) 1 16 Tryz.underlying30 hi0 hz0 hz1 hz2 rfl (by decide) _ _ _ rfl (hown3.alloc _) ⟨w2.heap.size, 0, none⟩ 1 1 [str (List.take N s)] rfl rfl (cell_one_new _ _ _) (fun x hx => by simp at hx; subst hx; rfl) (by unfold maxLen; omega) (by omega) (by have := hb3.size; simp; omega) ?_; intro v' w5 hown4 hgr _))
            exact ⟨⟨1, acc, by omega, by go_num, by omega, hown3, HX.out, hb3⟩, by simp only [intOf]; omega⟩
          · have HX := Lib.hid hx
            have g3 : ((N : Int) == 0) = false := by rw [beq_eq_false_iff_ne]; omega
            have g4 : (((s[M]).toNat : Int) == 58) = true := by rw [hch]; rfl
            have HB := Lib.hid (rfl : hasB acc [] = hasB acc [])
            clear hx h0 HO hch
            go_wp2_with (first
              | (go_at_call 56; refine (hR _).mono ?_; clear hR; rintro e w2 ⟨rfl, hb2⟩; have hb3 := hb.trans (below_less hb2 hb.size); have hown3 := ownsRow_below hown hb2 (Nat.le_refl _); have hst3 : Strs w2 _ acc := Sl.of_own (by simpa [strsC] using hown3))
              | (go_at_call 59; refine (hK _).mono ?_; clear hK; rintro e w3 ⟨rfl, rfl⟩)
              | (go_at_call 60; (with_reducible refine (rhas_at hst3 HB.out).mono ?_); rintro e w4 ⟨rfl, rfl⟩)
              | (at_builtin; refine wpList_append_own _ rfl _ _ 30 rfl w.heap.size 9 i0 (.string ⟨#[]⟩) 1 16 Tryz.underlying30 hi0 hz0 hz1 hz2 rfl (by decide) _ _ _ rfl (hown3.alloc _) ⟨w2.heap.size, 0, none⟩ 1 1 [str (List.take N s)] rfl rfl (cell_one_new _ _ _) (fun x hx => by simp at hx; subst hx; rfl) (by unfold maxLen; omega) (by omega) (by have := hb3.size; simp; omega) ?_; intro v' w5 hown4 hgr _))
            exact ⟨⟨1, acc, by omega, by go_num, by omega, hown3, HX.out, hb3⟩, by simp only [intOf]; omega⟩
          · have g3 : ((N : Int) == 0) = false := by rw [beq_eq_false_iff_ne]; omega
            rcases hcol with hl | ⟨hl, hch⟩
            · -- no colon: the end
              rcases hcs with ⟨hq, hx⟩ | ⟨hq, hx⟩
              · have HX := Lib.hid hx
                have HB := Lib.hid hq
                clear hx h0 HO hq
                go_wp2_with (first
                  | (go_at_call 56; refine (hR _).mono ?_; clear hR; rintro e w2 ⟨rfl, hb2⟩; have hb3 := hb.trans (below_less hb2 hb.size); have hown3 := ownsRow_below hown hb2 (Nat.le_refl _); have hst3 : Strs w2 _ acc := Sl.of_own (by simpa [strsC] using hown3))
                  | (go_at_call 59; refine (hK _).mono ?_; clear hK; rintro e w3 ⟨rfl, rfl⟩)
                  | (go_at_call 60; (with_reducible refine (rhas_at hst3 HB.out).mono ?_); rintro e w4 ⟨rfl, rfl⟩)
                  | (at_builtin; refine wpList_append_own _ rfl _ _ 30 rfl w.heap.size 9 i0 (.string ⟨#[]⟩) 1 16 Tryz.underlying30 hi0 hz0 hz1 hz2 rfl (by decide) _ _ _ rfl (hown3.alloc _) ⟨w2.heap.size, 0, none⟩ 1 1 [str (List.take N s)] rfl rfl (cell_one_new _ _ _) (fun x hx => by simp at hx; subst hx; rfl) (by unfold maxLen; omega) (by omega) (by have := hb3.size; simp; omega) ?_; intro v' w5 hown4 hgr _))
                exact ⟨⟨1, acc, by omega, by go_num, by omega, hown3, HX.out, hb3⟩, by simp only [intOf]; omega⟩
              · have HX := Lib.hid hx
                have HB := Lib.hid hq
                clear hx h0 HO hq
                go_wp2_with (first
                  | (go_at_call 56; refine (hR _).mono ?_; clear hR; rintro e w2 ⟨rfl, hb2⟩; have hb3 := hb.trans (below_less hb2 hb.size); have hown3 := ownsRow_below hown hb2 (Nat.le_refl _); have hst3 : Strs w2 _ acc := Sl.of_own (by simpa [strsC] using hown3))
                  | (go_at_call 59; refine (hK _).mono ?_; clear hK; rintro e w3 ⟨rfl, rfl⟩)
                  | (go_at_call 60; (with_reducible refine (rhas_at hst3 HB.out).mono ?_); rintro e w4 ⟨rfl, rfl⟩)
                  | (at_builtin; refine wpList_append_own _ rfl _ _ 30 rfl w.heap.size 9 i0 (.string ⟨#[]⟩) 1 16 Tryz.underlying30 hi0 hz0 hz1 hz2 rfl (by decide) _ _ _ rfl (hown3.alloc _) ⟨w2.heap.size, 0, none⟩ 1 1 [str (List.take N s)] rfl rfl (cell_one_new _ _ _) (fun x hx => by simp at hx; subst hx; rfl) (by unfold maxLen; omega) (by omega) (by have := hb3.size; simp; omega) ?_; intro v' w5 hown4 hgr _))
                refine ⟨⟨1, acc ++ [List.take N s], by omega, by go_num, by simp only [List.length_append, List.length_cons, List.length_nil]; omega, ?_, HX.out, ?_⟩, by simp only [intOf]; omega⟩
                · rw [List.length_append, show strsC (acc ++ [List.take N s]) = strsC acc ++ [str (List.take N s)] from by simp [strsC]]
                  exact hown4
                · exact (hb3.alloc hb3.size _).grown hgr (by have := hb3.size; simp; omega) (fun b e => (hown3.lt b e).1)
            · -- another byte
              have g4 : (((s[M]).toNat : Int) == 58) = false := by rw [beq_eq_false_iff_ne]; exact u8_ne (d := 58) hch
              clear hch
              rcases hcs with ⟨hq, hx⟩ | ⟨hq, hx⟩
              · have HX := Lib.hid hx
                have HB := Lib.hid hq
                clear hx h0 HO hq
                go_wp2_with (first
                  | (go_at_call 56; refine (hR _).mono ?_; clear hR; rintro e w2 ⟨rfl, hb2⟩; have hb3 := hb.trans (below_less hb2 hb.size); have hown3 := ownsRow_below hown hb2 (Nat.le_refl _); have hst3 : Strs w2 _ acc := Sl.of_own (by simpa [strsC] using hown3))
                  | (go_at_call 59; refine (hK _).mono ?_; clear hK; rintro e w3 ⟨rfl, rfl⟩)
                  | (go_at_call 60; (with_reducible refine (rhas_at hst3 HB.out).mono ?_); rintro e w4 ⟨rfl, rfl⟩)
                  | (at_builtin; refine wpList_append_own _ rfl _ _ 30 rfl w.heap.size 9 i0 (.string ⟨#[]⟩) 1 16 Tryz.underlying30 hi0 hz0 hz1 hz2 rfl (by decide) _ _ _ rfl (hown3.alloc _) ⟨w2.heap.size, 0, none⟩ 1 1 [str (List.take N s)] rfl rfl (cell_one_new _ _ _) (fun x hx => by simp at hx; subst hx; rfl) (by unfold maxLen; omega) (by omega) (by have := hb3.size; simp; omega) ?_; intro v' w5 hown4 hgr _))
                exact ⟨⟨1, acc, by omega, by go_num, by omega, hown3, HX.out, hb3⟩, by simp only [intOf]; omega⟩
              · have HX := Lib.hid hx
                have HB := Lib.hid hq
                clear hx h0 HO hq
                go_wp2_with (first
                  | (go_at_call 56; refine (hR _).mono ?_; clear hR; rintro e w2 ⟨rfl, hb2⟩; have hb3 := hb.trans (below_less hb2 hb.size); have hown3 := ownsRow_below hown hb2 (Nat.le_refl _); have hst3 : Strs w2 _ acc := Sl.of_own (by simpa [strsC] using hown3))
                  | (go_at_call 59; refine (hK _).mono ?_; clear hK; rintro e w3 ⟨rfl, rfl⟩)
                  | (go_at_call 60; (with_reducible refine (rhas_at hst3 HB.out).mono ?_); rintro e w4 ⟨rfl, rfl⟩)
                  | (at_builtin; refine wpList_append_own _ rfl _ _ 30 rfl w.heap.size 9 i0 (.string ⟨#[]⟩) 1 16 Tryz.underlying30 hi0 hz0 hz1 hz2 rfl (by decide) _ _ _ rfl (hown3.alloc _) ⟨w2.heap.size, 0, none⟩ 1 1 [str (List.take N s)] rfl rfl (cell_one_new _ _ _) (fun x hx => by simp at hx; subst hx; rfl) (by unfold maxLen; omega) (by omega) (by have := hb3.size; simp; omega) ?_; intro v' w5 hown4 hgr _))
                refine ⟨⟨1, acc ++ [List.take N s], by omega, by go_num, by simp only [List.length_append, List.length_cons, List.length_nil]; omega, ?_, HX.out, ?_⟩, by simp only [intOf]; omega⟩
                · rw [List.length_append, show strsC (acc ++ [List.take N s]) = strsC acc ++ [str (List.take N s)] from by simp [strsC]]
                  exact hown4
                · exact (hb3.alloc hb3.size _).grown hgr (by have := hb3.size; simp; omega) (fun b e => (hown3.lt b e).1)
        | succ j =>
          rw [prevB_succ (by omega)] at hp
          have hj : j < s.length := by omega
          rcases hp with hp | hp
          · have g1 : (((s[j]).toNat : Int) != 91) = false := by rw [hp]; rfl
            clear hp
            rcases hcs with ⟨h0, hx⟩ | ⟨h0, ⟨hl, hch, hx⟩ | ⟨hcol, hcs⟩⟩
            · have HX := Lib.hid hx
              have g3 : ((N : Int) == 0) = true := by rw [h0]; rfl
              have HB := Lib.hid (rfl : hasB acc [] = hasB acc [])
              clear hx h0 HO
              go_wp2_with (first
                | (go_at_call 56; refine (hR _).mono ?_; clear hR; rintro e w2 ⟨rfl, hb2⟩; have hb3 := hb.trans (below_less hb2 hb.size); have hown3 := ownsRow_below hown hb2 (Nat.le_refl _); have hst3 : Strs w2 _ acc := Sl.of_own (by simpa [strsC] using hown3))
                | (go_at_call 59; refine (hK _).mono ?_; clear hK; rintro e w3 ⟨rfl, rfl⟩)
                | (go_at_call 60; (with_reducible refine (rhas_at hst3 HB.out).mono ?_); rintro e w4 ⟨rfl, rfl⟩)
                | (at_builtin; refine wpList_append_own _ rfl _ _ 30 rfl w.heap.size 9 i0 (.string ⟨#[]⟩) 1 16 Tryz.underlying30 hi0 hz0 hz1 hz2 rfl (by decide) _ _ _ rfl (hown3.alloc _) ⟨w2.heap.size, 0, none⟩ 1 1 [str (List.drop (j + 1) (List.take ((j + 1) + N) s))] rfl rfl (cell_one_new _ _ _) (fun x hx => by simp at hx; subst hx; rfl) (by unfold maxLen; omega) (by omega) (by have := hb3.size; simp; omega) ?_; intro v' w5 hown4 hgr _))
              exact ⟨⟨(j + 1) + 1, acc, by omega, by go_num, by omega, hown3, HX.out, hb3⟩, by simp only [intOf]; omega⟩
            · have HX := Lib.hid hx
              have g3 : ((N : Int) == 0) = false := by rw [beq_eq_false_iff_ne]; omega
              have g4 : (((s[(j + 1) + M]).toNat : Int) == 58) = true := by rw [hch]; rfl
              have HB := Lib.hid (rfl : hasB acc [] = hasB acc [])
              clear hx h0 HO hch
              go_wp2_with (first
                | (go_at_call 56; refine (hR _).mono ?_; clear hR; rintro e w2 ⟨rfl, hb2⟩; have hb3 := hb.trans (below_less hb2 hb.size); have hown3 := ownsRow_below hown hb2 (Nat.le_refl _); have hst3 : Strs w2 _ acc := Sl.of_own (by simpa [strsC] using hown3))
                | (go_at_call 59; refine (hK _).mono ?_; clear hK; rintro e w3 ⟨rfl, rfl⟩)
                | (go_at_call 60; (with_reducible refine (rhas_at hst3 HB.out).mono ?_); rintro e w4 ⟨rfl, rfl⟩)
                | (at_builtin; refine wpList_append_own _ rfl _ _ 30 rfl w.heap.size 9 i0 (.string ⟨#[]⟩) 1 16 Tryz.underlying30 hi0 hz0 hz1 hz2 rfl (by decide) _ _ _ rfl (hown3.alloc _) ⟨w2.heap.size, 0, none⟩ 1 1 [str (List.drop (j + 1) (List.take ((j + 1) + N) s))] rfl rfl (cell_one_new _ _ _) (fun x hx => by simp at hx; subst hx; rfl) (by unfold maxLen; omega) (by omega) (by have := hb3.size; simp; omega) ?_; intro v' w5 hown4 hgr _))
              exact ⟨⟨(j + 1) + 1, acc, by omega, by go_num, by omega, hown3, HX.out, hb3⟩, by simp only [intOf]; omega⟩
            · have g3 : ((N : Int) == 0) = false := by rw [beq_eq_false_iff_ne]; omega
              rcases hcol with hl | ⟨hl, hch⟩
              · -- no colon: the end
                rcases hcs with ⟨hq, hx⟩ | ⟨hq, hx⟩
                · have HX := Lib.hid hx
                  have HB := Lib.hid hq
                  clear hx h0 HO hq
                  go_wp2_with (first
                    | (go_at_call 56; refine (hR _).mono ?_; clear hR; rintro e w2 ⟨rfl, hb2⟩; have hb3 := hb.trans (below_less hb2 hb.size); have hown3 := ownsRow_below hown hb2 (Nat.le_refl _); have hst3 : Strs w2 _ acc := Sl.of_own (by simpa [strsC] using hown3))
                    | (go_at_call 59; refine (hK _).mono ?_; clear hK; rintro e w3 ⟨rfl, rfl⟩)
                    | (go_at_call 60; (with_reducible refine (rhas_at hst3 HB.out).mono ?_); rintro e w4 ⟨rfl, rfl⟩)
                    | (at_builtin; refine wpList_append_own _ rfl _ _ 30 rfl w.heap.size 9 i0 (.string ⟨#[]⟩) 1 16 Tryz.underlying30 hi0 hz0 hz1 hz2 rfl (by decide) _ _ _ rfl (hown3.alloc _) ⟨w2.heap.size, 0, none⟩ 1 1 [str (List.drop (j + 1) (List.take ((j + 1) + N) s))] rfl rfl (cell_one_new _ _ _) (fun x hx => by simp at hx; subst hx; rfl) (by unfold maxLen; omega) (by omega) (by have := hb3.size; simp; omega) ?_; intro v' w5 hown4 hgr _))
                  exact ⟨⟨(j + 1) + 1, acc, by omega, by go_num, by omega, hown3, HX.out, hb3⟩, by simp only [intOf]; omega⟩
                · have HX := Lib.hid hx
                  have HB := Lib.hid hq
                  clear hx h0 HO hq
                  go_wp2_with (first
                    | (go_at_call 56; refine (hR _).mono ?_; clear hR; rintro e w2 ⟨rfl, hb2⟩; have hb3 := hb.trans (below_less hb2 hb.size); have hown3 := ownsRow_below hown hb2 (Nat.le_refl _); have hst3 : Strs w2 _ acc := Sl.of_own (by simpa [strsC] using hown3))
                    | (go_at_call 59; refine (hK _).mono ?_; clear hK; rintro e w3 ⟨rfl, rfl⟩)
                    | (go_at_call 60; (with_reducible refine (rhas_at hst3 HB.out).mono ?_); rintro e w4 ⟨rfl, rfl⟩)
                    | (at_builtin; refine wpList_append_own _ rfl _ _ 30 rfl w.heap.size 9 i0 (.string ⟨#[]⟩) 1 16 Tryz.underlying30 hi0 hz0 hz1 hz2 rfl (by decide) _ _ _ rfl (hown3.alloc _) ⟨w2.heap.size, 0, none⟩ 1 1 [str (List.drop (j + 1) (List.take ((j + 1) + N) s))] rfl rfl (cell_one_new _ _ _) (fun x hx => by simp at hx; subst hx; rfl) (by unfold maxLen; omega) (by omega) (by have := hb3.size; simp; omega) ?_; intro v' w5 hown4 hgr _))
                  refine ⟨⟨(j + 1) + 1, acc ++ [List.drop (j + 1) (List.take ((j + 1) + N) s)], by omega, by go_num, by simp only [List.length_append, List.length_cons, List.length_nil]; omega, ?_, HX.out, ?_⟩, by simp only [intOf]; omega⟩
                  · rw [List.length_append, show strsC (acc ++ [List.drop (j + 1) (List.take ((j + 1) + N) s)]) = strsC acc ++ [str (List.drop (j + 1) (List.take ((j + 1) + N) s))] from by simp [strsC]]
                    exact hown4
                  · exact (hb3.alloc hb3.size _).grown hgr (by have := hb3.size; simp; omega) (fun b e => (hown3.lt b e).1)
              · -- another byte
                have g4 : (((s[(j + 1) + M]).toNat : Int) == 58) = false := by rw [beq_eq_false_iff_ne]; exact u8_ne (d := 58) hch
                clear hch
                rcases hcs with ⟨hq, hx⟩ | ⟨hq, hx⟩
                · have HX := Lib.hid hx
                  have HB := Lib.hid hq
                  clear hx h0 HO hq
                  go_wp2_with (first
                    | (go_at_call 56; refine (hR _).mono ?_; clear hR; rintro e w2 ⟨rfl, hb2⟩; have hb3 := hb.trans (below_less hb2 hb.size); have hown3 := ownsRow_below hown hb2 (Nat.le_refl _); have hst3 : Strs w2 _ acc := Sl.of_own (by simpa [strsC] using hown3))
                    | (go_at_call 59; refine (hK _).mono ?_; clear hK; rintro e w3 ⟨rfl, rfl⟩)
                    | (go_at_call 60; (with_reducible refine (rhas_at hst3 HB.out).mono ?_); rintro e w4 ⟨rfl, rfl⟩)
                    | (at_builtin; refine wpList_append_own _ rfl _ _ 30 rfl w.heap.size 9 i0 (.string ⟨#[]⟩) 1 16 Tryz.underlying30 hi0 hz0 hz1 hz2 rfl (by decide) _ _ _ rfl (hown3.alloc _) ⟨w2.heap.size, 0, none⟩ 1 1 [str (List.drop (j + 1) (List.take ((j + 1) + N) s))] rfl rfl (cell_one_new _ _ _) (fun x hx => by simp at hx; subst hx; rfl) (by unfold maxLen; omega) (by omega) (by have := hb3.size; simp; omega) ?_; intro v' w5 hown4 hgr _))
                  exact ⟨⟨(j + 1) + 1, acc, by omega, by go_num, by omega, hown3, HX.out, hb3⟩, by simp only [intOf]; omega⟩
                · have HX := Lib.hid hx
                  have HB := Lib.hid hq
                  clear hx h0 HO hq
                  go_wp2_with (first
                    | (go_at_call 56; refine (hR _).mono ?_; clear hR; rintro e w2 ⟨rfl, hb2⟩; have hb3 := hb.trans (below_less hb2 hb.size); have hown3 := ownsRow_below hown hb2 (Nat.le_refl _); have hst3 : Strs w2 _ acc := Sl.of_own (by simpa [strsC] using hown3))
                    | (go_at_call 59; refine (hK _).mono ?_; clear hK; rintro e w3 ⟨rfl, rfl⟩)
                    | (go_at_call 60; (with_reducible refine (rhas_at hst3 HB.out).mono ?_); rintro e w4 ⟨rfl, rfl⟩)
                    | (at_builtin; refine wpList_append_own _ rfl _ _ 30 rfl w.heap.size 9 i0 (.string ⟨#[]⟩) 1 16 Tryz.underlying30 hi0 hz0 hz1 hz2 rfl (by decide) _ _ _ rfl (hown3.alloc _) ⟨w2.heap.size, 0, none⟩ 1 1 [str (List.drop (j + 1) (List.take ((j + 1) + N) s))] rfl rfl (cell_one_new _ _ _) (fun x hx => by simp at hx; subst hx; rfl) (by unfold maxLen; omega) (by omega) (by have := hb3.size; simp; omega) ?_; intro v' w5 hown4 hgr _))
                  refine ⟨⟨(j + 1) + 1, acc ++ [List.drop (j + 1) (List.take ((j + 1) + N) s)], by omega, by go_num, by simp only [List.length_append, List.length_cons, List.length_nil]; omega, ?_, HX.out, ?_⟩, by simp only [intOf]; omega⟩
                  · rw [List.length_append, show strsC (acc ++ [List.drop (j + 1) (List.take ((j + 1) + N) s)]) = strsC acc ++ [str (List.drop (j + 1) (List.take ((j + 1) + N) s))] from by simp [strsC]]
                    exact hown4
                  · exact (hb3.alloc hb3.size _).grown hgr (by have := hb3.size; simp; omega) (fun b e => (hown3.lt b e).1)
          · have g1 : (((s[j]).toNat : Int) != 91) = true := by rw [hp]; rfl
            have g2 : (((s[j]).toNat : Int) != 58) = false := by rw [hp]; rfl
            clear hp
            rcases hcs with ⟨h0, hx⟩ | ⟨h0, ⟨hl, hch, hx⟩ | ⟨hcol, hcs⟩⟩
            · have HX := Lib.hid hx
              have g3 : ((N : Int) == 0) = true := by rw [h0]; rfl
              have HB := Lib.hid (rfl : hasB acc [] = hasB acc [])
              clear hx h0 HO
              go_wp2_with (first
                | (go_at_call 56; refine (hR _).mono ?_; clear hR; rintro e w2 ⟨rfl, hb2⟩; have hb3 := hb.trans (below_less hb2 hb.size); have hown3 := ownsRow_below hown hb2 (Nat.le_refl _); have hst3 : Strs w2 _ acc := Sl.of_own (by simpa [strsC] using hown3))
                | (go_at_call 59; refine (hK _).mono ?_; clear hK; rintro e w3 ⟨rfl, rfl⟩)
                | (go_at_call 60; (with_reducible refine (rhas_at hst3 HB.out).mono ?_); rintro e w4 ⟨rfl, rfl⟩)
                | (at_builtin; refine wpList_append_own _ rfl _ _ 30 rfl w.heap.size 9 i0 (.string ⟨#[]⟩) 1 16 Tryz.underlying30 hi0 hz0 hz1 hz2 rfl (by decide) _ _ _ rfl (hown3.alloc _) ⟨w2.heap.size, 0, none⟩ 1 1 [str (List.drop (j + 1) (List.take ((j + 1) + N) s))] rfl rfl (cell_one_new _ _ _) (fun x hx => by simp at hx; subst hx; rfl) (by unfold maxLen; omega) (by omega) (by have := hb3.size; simp; omega) ?_; intro v' w5 hown4 hgr _))
              exact ⟨⟨(j + 1) + 1, acc, by omega, by go_num, by omega, hown3, HX.out, hb3⟩, by simp only [intOf]; omega⟩
            · have HX := Lib.hid hx
              have g3 : ((N : Int) == 0) = false := by rw [beq_eq_false_iff_ne]; omega
              have g4 : (((s[(j + 1) + M]).toNat : Int) == 58) = true := by rw [hch]; rfl
              have HB := Lib.hid (rfl : hasB acc [] = hasB acc [])
              clear hx h0 HO hch
              go_wp2_with (first
                | (go_at_call 56; refine (hR _).mono ?_; clear hR; rintro e w2 ⟨rfl, hb2⟩; have hb3 := hb.trans (below_less hb2 hb.size); have hown3 := ownsRow_below hown hb2 (Nat.le_refl _); have hst3 : Strs w2 _ acc := Sl.of_own (by simpa [strsC] using hown3))
                | (go_at_call 59; refine (hK _).mono ?_; clear hK; rintro e w3 ⟨rfl, rfl⟩)
                | (go_at_call 60; (with_reducible refine (rhas_at hst3 HB.out).mono ?_); rintro e w4 ⟨rfl, rfl⟩)
                | (at_builtin; refine wpList_append_own _ rfl _ _ 30 rfl w.heap.size 9 i0 (.string ⟨#[]⟩) 1 16 Tryz.underlying30 hi0 hz0 hz1 hz2 rfl (by decide) _ _ _ rfl (hown3.alloc _) ⟨w2.heap.size, 0, none⟩ 1 1 [str (List.drop (j + 1) (List.take ((j + 1) + N) s))] rfl rfl (cell_one_new _ _ _) (fun x hx => by simp at hx; subst hx; rfl) (by unfold maxLen; omega) (by omega) (by have := hb3.size; simp; omega) ?_; intro v' w5 hown4 hgr _))
              exact ⟨⟨(j + 1) + 1, acc, by omega, by go_num, by omega, hown3, HX.out, hb3⟩, by simp only [intOf]; omega⟩
            · have g3 : ((N : Int) == 0) = false := by rw [beq_eq_false_iff_ne]; omega
              rcases hcol with hl | ⟨hl, hch⟩
              · -- no colon: the end
                rcases hcs with ⟨hq, hx⟩ | ⟨hq, hx⟩
                · have HX := Lib.hid hx
                  have HB := Lib.hid hq
                  clear hx h0 HO hq
                  go_wp2_with (first
                    | (go_at_call 56; refine (hR _).mono ?_; clear hR; rintro e w2 ⟨rfl, hb2⟩; have hb3 := hb.trans (below_less hb2 hb.size); have hown3 := ownsRow_below hown hb2 (Nat.le_refl _); have hst3 : Strs w2 _ acc := Sl.of_own (by simpa [strsC] using hown3))
                    | (go_at_call 59; refine (hK _).mono ?_; clear hK; rintro e w3 ⟨rfl, rfl⟩)
                    | (go_at_call 60; (with_reducible refine (rhas_at hst3 HB.out).mono ?_); rintro e w4 ⟨rfl, rfl⟩)
                    | (at_builtin; refine wpList_append_own _ rfl _ _ 30 rfl w.heap.size 9 i0 (.string ⟨#[]⟩) 1 16 Tryz.underlying30 hi0 hz0 hz1 hz2 rfl (by decide) _ _ _ rfl (hown3.alloc _) ⟨w2.heap.size, 0, none⟩ 1 1 [str (List.drop (j + 1) (List.take ((j + 1) + N) s))] rfl rfl (cell_one_new _ _ _) (fun x hx => by simp at hx; subst hx; rfl) (by unfold maxLen; omega) (by omega) (by have := hb3.size; simp; omega) ?_; intro v' w5 hown4 hgr _))
                  exact ⟨⟨(j + 1) + 1, acc, by omega, by go_num, by omega, hown3, HX.out, hb3⟩, by simp only [intOf]; omega⟩
                · have HX := Lib.hid hx
                  have HB := Lib.hid hq
                  clear hx h0 HO hq
                  go_wp2_with (first
                    | (go_at_call 56; refine (hR _).mono ?_; clear hR; rintro e w2 ⟨rfl, hb2⟩; have hb3 := hb.trans (below_less hb2 hb.size); have hown3 := ownsRow_below hown hb2 (Nat.le_refl _); have hst3 : Strs w2 _ acc := Sl.of_own (by simpa [strsC] using hown3))
                    | (go_at_call 59; refine (hK _).mono ?_; clear hK; rintro e w3 ⟨rfl, rfl⟩)
                    | (go_at_call 60; (with_reducible refine (rhas_at hst3 HB.out).mono ?_); rintro e w4 ⟨rfl, rfl⟩)
                    | (at_builtin; refine wpList_append_own _ rfl _ _ 30 rfl w.heap.size 9 i0 (.string ⟨#[]⟩) 1 16 Tryz.underlying30 hi0 hz0 hz1 hz2 rfl (by decide) _ _ _ rfl (hown3.alloc _) ⟨w2.heap.size, 0, none⟩ 1 1 [str (List.drop (j + 1) (List.take ((j + 1) + N) s))] rfl rfl (cell_one_new _ _ _) (fun x hx => by simp at hx; subst hx; rfl) (by unfold maxLen; omega) (by omega) (by have := hb3.size; simp; omega) ?_; intro v' w5 hown4 hgr _))
                  refine ⟨⟨(j + 1) + 1, acc ++ [List.drop (j + 1) (List.take ((j + 1) + N) s)], by omega, by go_num, by simp only [List.length_append, List.length_cons, List.length_nil]; omega, ?_, HX.out, ?_⟩, by simp only [intOf]; omega⟩
                  · rw [List.length_append, show strsC (acc ++ [List.drop (j + 1) (List.take ((j + 1) + N) s)]) = strsC acc ++ [str (List.drop (j + 1) (List.take ((j + 1) + N) s))] from by simp [strsC]]
                    exact hown4
                  · exact (hb3.alloc hb3.size _).grown hgr (by have := hb3.size; simp; omega) (fun b e => (hown3.lt b e).1)
              · -- another byte
                have g4 : (((s[(j + 1) + M]).toNat : Int) == 58) = false := by rw [beq_eq_false_iff_ne]; exact u8_ne (d := 58) hch
                clear hch
                rcases hcs with ⟨hq, hx⟩ | ⟨hq, hx⟩
                · have HX := Lib.hid hx
                  have HB := Lib.hid hq
                  clear hx h0 HO hq
                  go_wp2_with (first
                    | (go_at_call 56; refine (hR _).mono ?_; clear hR; rintro e w2 ⟨rfl, hb2⟩; have hb3 := hb.trans (below_less hb2 hb.size); have hown3 := ownsRow_below hown hb2 (Nat.le_refl _); have hst3 : Strs w2 _ acc := Sl.of_own (by simpa [strsC] using hown3))
                    | (go_at_call 59; refine (hK _).mono ?_; clear hK; rintro e w3 ⟨rfl, rfl⟩)
                    | (go_at_call 60; (with_reducible refine (rhas_at hst3 HB.out).mono ?_); rintro e w4 ⟨rfl, rfl⟩)
                    | (at_builtin; refine wpList_append_own _ rfl _ _ 30 rfl w.heap.size 9 i0 (.string ⟨#[]⟩) 1 16 Tryz.underlying30 hi0 hz0 hz1 hz2 rfl (by decide) _ _ _ rfl (hown3.alloc _) ⟨w2.heap.size, 0, none⟩ 1 1 [str (List.drop (j + 1) (List.take ((j + 1) + N) s))] rfl rfl (cell_one_new _ _ _) (fun x hx => by simp at hx; subst hx; rfl) (by unfold maxLen; omega) (by omega) (by have := hb3.size; simp; omega) ?_; intro v' w5 hown4 hgr _))
                  exact ⟨⟨(j + 1) + 1, acc, by omega, by go_num, by omega, hown3, HX.out, hb3⟩, by simp only [intOf]; omega⟩
                · have HX := Lib.hid hx
                  have HB := Lib.hid hq
                  clear hx h0 HO hq
                  go_wp2_with (first
                    | (go_at_call 56; refine (hR _).mono ?_; clear hR; rintro e w2 ⟨rfl, hb2⟩; have hb3 := hb.trans (below_less hb2 hb.size); have hown3 := ownsRow_below hown hb2 (Nat.le_refl _); have hst3 : Strs w2 _ acc := Sl.of_own (by simpa [strsC] using hown3))
                    | (go_at_call 59; refine (hK _).mono ?_; clear hK; rintro e w3 ⟨rfl, rfl⟩)
                    | (go_at_call 60; (with_reducible refine (rhas_at hst3 HB.out).mono ?_); rintro e w4 ⟨rfl, rfl⟩)
                    | (at_builtin; refine wpList_append_own _ rfl _ _ 30 rfl w.heap.size 9 i0 (.string ⟨#[]⟩) 1 16 Tryz.underlying30 hi0 hz0 hz1 hz2 rfl (by decide) _ _ _ rfl (hown3.alloc _) ⟨w2.heap.size, 0, none⟩ 1 1 [str (List.drop (j + 1) (List.take ((j + 1) + N) s))] rfl rfl (cell_one_new _ _ _) (fun x hx => by simp at hx; subst hx; rfl) (by unfold maxLen; omega) (by omega) (by have := hb3.size; simp; omega) ?_; intro v' w5 hown4 hgr _))
                  refine ⟨⟨(j + 1) + 1, acc ++ [List.drop (j + 1) (List.take ((j + 1) + N) s)], by omega, by go_num, by simp only [List.length_append, List.length_cons, List.length_nil]; omega, ?_, HX.out, ?_⟩, by simp only [intOf]; omega⟩
                  · rw [List.length_append, show strsC (acc ++ [List.drop (j + 1) (List.take ((j + 1) + N) s)]) = strsC acc ++ [str (List.drop (j + 1) (List.take ((j + 1) + N) s))] from by simp [strsC]]
                    exact hown4
                  · exact (hb3.alloc hb3.size _).grown hgr (by have := hb3.size; simp; omega) (fun b e => (hown3.lt b e).1)
end Go.Proofs.YtakdmnhpoelepaaGreatDoor
