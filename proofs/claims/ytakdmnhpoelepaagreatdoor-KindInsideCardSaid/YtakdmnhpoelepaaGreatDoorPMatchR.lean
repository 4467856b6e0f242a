/-
  The reference's way to match (plain): what stands where the parameter first stands in the pattern. No condition.
-/
import Derived.Test.YtakdmnhpoelepaaGreatDoorLMatched
import Derived.Test.YtakdmnhpoelepaaGreatDoorRTop
namespace Go.Proofs.YtakdmnhpoelepaaGreatDoor

/-- Nothing, or a bracket or a comma, stands behind. -/
def stop (r : List UInt8) : Prop := ∀ c r', r = c :: r' → c = 93 ∨ c = 44
theorem stop_nil : stop [] := by intro c r' h; simp at h
theorem stop_shut (r : List UInt8) : stop (93 :: r) := by intro c r' h; simp only [List.cons.injEq] at h; exact .inl h.1.symm
theorem stop_comma (r : List UInt8) : stop (44 :: r) := by intro c r' h; simp only [List.cons.injEq] at h; exact .inr h.1.symm
theorem stop.ends {r : List UInt8} (h : stop r) : ends r := by
  cases r with
  | nil => exact ends_nil
  | cons c r =>
    rcases h c r rfl with rfl | rfl
    · exact ends_shut r
    · exact ends_comma r
theorem stop.app {s r : List UInt8} (h : stop s) (hr : stop r) : stop (s ++ r) := by
  cases s with
  | nil => simpa using hr
  | cons c s =>
    intro c' r' e
    rw [List.cons_append] at e
    exact h c' s (by simp only [List.cons.injEq] at e; rw [e.1])
theorem stop.subst {a s : List UInt8} (h : stop s) : stop (subst a s) := by
  cases s with
  | nil => simpa [Proofs.YtakdmnhpoelepaaGreatDoor.subst] using stop_nil
  | cons c s =>
    have hc : c ≠ 63 := by rcases h c s rfl with rfl | rfl <;> decide
    rw [subst_other _ _ _ hc]
    rcases h c s rfl with rfl | rfl
    · exact stop_shut _
    · exact stop_comma _
/-- The first parameter in a text. -/
def parAt (s : List UInt8) : Prop := ∃ pre post, s = pre ++ 63 :: 116 :: post ∧ hasQ pre = false ∧ stop post
theorem parAt.left {p s : List UInt8} (hp : hasQ p = false) (h : parAt s) : parAt (p ++ s) := by
  obtain ⟨pre, post, rfl, h1, h2⟩ := h
  exact ⟨p ++ pre, post, by simp, by rw [hasQ_app, hp, h1]; rfl, h2⟩
theorem parAt.right {s r : List UInt8} (h : parAt s) (hr : stop r) : parAt (s ++ r) := by
  obtain ⟨pre, post, rfl, h1, h2⟩ := h
  exact ⟨pre, post ++ r, by simp, h1, h2.app hr⟩
theorem hasQ_nil : hasQ [] = false := rfl
theorem Wf.parAt {tag : Option (List UInt8)} {fo : Fo} (h : Wf tag fo) (ho : fo.opn = true) : parAt fo.tx := by
  have key : ∀ (k : Nat) (n : List UInt8) (sub : Fo), Wf none (.cons [] k n sub .nil) → (sub.opn = true → Proofs.YtakdmnhpoelepaaGreatDoor.parAt sub.tx) → (Fo.cons [] k n sub .nil).opn = true → Proofs.YtakdmnhpoelepaaGreatDoor.parAt (Fo.cons [] k n sub .nil).tx := by
    intro k n sub h ih ho
    rw [Fo.tx_one]
    by_cases hk : k = 8
    · subst hk
      obtain ⟨rfl, rfl⟩ := h.nil8
      exact ⟨[], [], rfl, rfl, stop_nil⟩
    · have hs : sub.opn = true := by simpa [Fo.opn, hk] using ho
      have hne : sub ≠ .nil := by rintro rfl; simp [Fo.opn] at hs
      rw [Fo.br_ne hne]
      have hq : Proofs.YtakdmnhpoelepaaGreatDoor.hasQ (wordK k n ++ [91]) = false := by rw [hasQ_app, hasQ_word (wordK_cut h hk)]; rfl
      have h2 := ((ih hs).right (stop_shut [])).left hq
      rw [show wordK k n ++ 91 :: (sub.tx ++ [93]) = (wordK k n ++ [91]) ++ (sub.tx ++ [93]) from by simp]
      exact h2
  induction h with
  | par => exact key _ _ _ .par (fun h => by simp [Fo.opn] at h) ho
  | word k h => exact key _ _ _ (.word k h) (fun h => by simp [Fo.opn] at h) ho
  | arr x h ih => exact key _ _ _ (.arr x h) ih ho
  | rcd k w fo hk h hl ih => exact key _ _ _ (.rcd k w fo hk h hl) ih ho
  | nam n hn => exact key _ _ _ (.nam n hn) (fun h => by simp [Fo.opn] at h) ho
  | app n x hn h ih => exact key _ _ _ (.app n x hn h) ih ho
  | last b pn k n sub hn hb h ih =>
    rw [Fo.tx_last, preN_name hn]
    refine (ih (by simpa [Fo.opn] using ho)).left ?_
    rw [hasQ_app, hasQ_word (name_cut hn)]; rfl
  | more b pn k n sub rest hn hb h h2 ih ih2 =>
    rw [Fo.tx_more _ _ _ _ _ h2.ne, preN_name hn]
    have hp : Proofs.YtakdmnhpoelepaaGreatDoor.hasQ (pn ++ [58]) = false := by rw [hasQ_app, hasQ_word (name_cut hn)]; rfl
    refine Proofs.YtakdmnhpoelepaaGreatDoor.parAt.left hp ?_
    by_cases hh : (Fo.cons [] k n sub .nil).opn = true
    · exact (ih hh).right (stop_comma _)
    · have hh' : (Fo.cons [] k n sub .nil).opn = false := by simpa using hh
      have hr : rest.opn = true := by
        simp only [Fo.opn, Bool.or_eq_true, Bool.or_false] at ho hh
        rcases ho with ho | ho
        · exact absurd ho hh
        · exact ho
      rw [show (Fo.cons [] k n sub .nil).tx ++ 44 :: rest.tx = ((Fo.cons [] k n sub .nil).tx ++ [44]) ++ rest.tx from by simp]
      refine Proofs.YtakdmnhpoelepaaGreatDoor.parAt.left ?_ (ih2 hr)
      rw [hasQ_app, Wf.hasQ h, hh']; rfl

/-- Where a '?' first stands. -/
def qAt (s : List UInt8) : Nat := (s.takeWhile fun c => decide (c ≠ 63)).length
theorem qAt_pre {pre post : List UInt8} (h : hasQ pre = false) : qAt (pre ++ 63 :: post) = pre.length := by
  induction pre with
  | nil => simp [qAt]
  | cons c pre ih =>
    have hc : c ≠ 63 := by rintro rfl; simp [hasQ] at h
    have ih := ih (by simpa [hasQ, hc] using h)
    unfold qAt at ih ⊢
    rw [List.cons_append, List.takeWhile_cons_of_pos (by simpa using hc), List.length_cons, ih, List.length_cons]
theorem subst_noQ (a : List UInt8) : ∀ (pre r : List UInt8), hasQ pre = false → subst a (pre ++ r) = pre ++ subst a r
  | [], _, _ => rfl
  | c :: pre, r, h => by
    have hc : c ≠ 63 := by rintro rfl; simp [hasQ] at h
    rw [List.cons_append, subst_other _ _ _ hc, subst_noQ a pre r (by simpa [hasQ, hc] using h)]; rfl
/-- What With gives, at the first parameter. -/
theorem withK_split {p a t : List UInt8} {P : Tr} (hp : checkK p = (0, P)) (ho : P.opn = true) (h : withK p a = (t, 0)) :
    ∃ r, stop r ∧ t = p.take (qAt p) ++ (a ++ r) ∧ qAt p < p.length := by
  obtain ⟨P', A, h1, h2, h3, h4⟩ := withK_ok h
  rw [hp] at h1
  simp only [Prod.mk.injEq, true_and] at h1
  subst h1
  obtain ⟨o1, e1, _, _⟩ := checkK_ok hp
  obtain ⟨o2, e2, _, _⟩ := checkK_ok h2
  obtain ⟨pre, post, hx, hq, hs⟩ := Wf.parAt (fo := .one P) o1 (by rw [Fo.opn_one]; exact ho)
  rw [← Tr.txt_eq, e1] at hx
  refine ⟨subst a post, hs.subst, ?_, ?_⟩
  · rw [h3, ← o1.subst, e1, e2, hx, subst_noQ _ _ _ hq, subst_two, qAt_pre hq]
    simp
  · rw [hx, qAt_pre hq]; simp
theorem rdN_reads {t : Tr} (h : t.ok) {r : List UInt8} (hr : ends r) : rdN (t.txt ++ r) = t.txt.length := by
  unfold rdN
  rw [h.reads hr]
  simp
theorem Tr.ok.txt_pos {t : Tr} (h : t.ok) : 0 < t.txt.length := by
  have := parseT_le h.reads'
  simpa using this
theorem matchK_two {p t : List UInt8} {P T : Tr} (hp : checkK p = (0, P)) (ht : checkK t = (0, T)) (ho : P.opn = true) : ∃ a is, matchK p t = (a, is, 0) ∧ (is = false → a = []) := by
  have h2 : twoK p t = (P, T, 0) := by unfold twoK; rw [hp, ht]; rfl
  have hm := matchK_open (s := p) (u := t) (by rw [h2]) (by rw [h2]; exact ho)
  rw [h2] at hm
  simp only at hm
  rw [hm]
  rcases P.find T with _ | A
  · exact ⟨_, _, rfl, fun _ => rfl⟩
  · unfold foundK
    simp only
    split
    · exact ⟨_, _, rfl, fun h => by simp at h⟩
    · exact ⟨_, _, rfl, fun _ => rfl⟩
/-- The reference's way, where what stands ahead of the parameter parts. -/
theorem refM_far {p t : List UInt8} {P T : Tr} (hp : checkK p = (0, P)) (ht : checkK t = (0, T)) (ho : P.opn = true) (h : t.length < qAt p ∨ t.take (qAt p) ≠ p.take (qAt p)) : matchK p t = ([], false, 0) := by
  obtain ⟨a, is, hm, hf⟩ := matchK_two hp ht ho
  cases is with
  | false => rw [hm, hf rfl]
  | true =>
    obtain ⟨hw, _⟩ := matchK_yes hm (by rw [openK_of hp]; exact ho)
    obtain ⟨r, _, h1, h2⟩ := withK_split hp ho hw
    have hl : (p.take (qAt p)).length = qAt p := by simp; omega
    exfalso
    rcases h with h | h
    · rw [h1] at h; simp only [List.length_append] at h; omega
    · apply h
      rw [h1, List.take_append_of_le_length (by omega), List.take_of_length_le (by omega)]
/-- The reference's way, where it tries what stands there. -/
theorem refM_near {p t : List UInt8} {P T : Tr} (hp : checkK p = (0, P)) (ht : checkK t = (0, T)) (ho : P.opn = true) :
    let n := rdN (t.drop (qAt p))
    let a := (t.drop (qAt p)).take n
    (n = 0 ∨ (withK p a).2 ≠ 0 ∨ (withK p a).1 ≠ t → matchK p t = ([], false, 0)) ∧ (n ≠ 0 → withK p a = (t, 0) → matchK p t = (a, true, 0)) := by
  intro n a
  obtain ⟨a0, is, hm, hf⟩ := matchK_two hp ht ho
  have ho' : openK p = true := by rw [openK_of hp]; exact ho
  refine ⟨fun h => ?_, fun _ hw => ?_⟩
  · cases is with
    | false => rw [hm, hf rfl]
    | true =>
      obtain ⟨hw, _⟩ := matchK_yes hm ho'
      obtain ⟨r, hr, h1, h2⟩ := withK_split hp ho hw
      obtain ⟨_, A, _, k2, _, _⟩ := withK_ok hw
      obtain ⟨oA, eA, _, _⟩ := checkK_ok k2
      have hl : (p.take (qAt p)).length = qAt p := by simp; omega
      have hd : t.drop (qAt p) = a0 ++ r := by rw [h1, List.drop_append_of_le_length (by omega), List.drop_of_length_le (by omega)]; rfl
      have hn : n = a0.length := by
        show rdN (t.drop (qAt p)) = _
        rw [hd, ← eA]; exact rdN_reads oA hr.ends
      have ha : a = a0 := by
        show (t.drop (qAt p)).take n = a0
        rw [hd, hn]; simp
      have hpos := oA.txt_pos
      rw [eA] at hpos
      exfalso
      rw [ha, hw] at h
      simp only [ne_eq, not_true_eq_false, or_false] at h
      omega
  · obtain ⟨rfl, rfl⟩ := matchK_one hm ho' hw
    exact hm
end Go.Proofs.YtakdmnhpoelepaaGreatDoor
