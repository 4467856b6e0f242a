/-
  What Inside and With answer, as the statements need it (plain): what is inside a type is a type, with fewer levels; each once; the levels of With. No condition.
-/
import Derived.Test.YtakdmnhpoelepaaGreatDoorKNames
import Derived.Test.YtakdmnhpoelepaaGreatDoorLaw0
namespace Go.Proofs.YtakdmnhpoelepaaGreatDoor

theorem insF_once (ts : List Tr) : insF ts = onceB (ts.map (·.txt)) := by
  unfold insF onceB
  rw [List.foldl_map]
theorem fold_head (acc l : List (List UInt8)) : ∃ r, l.foldl (fun acc s => if hasB acc s then acc else acc ++ [s]) acc = acc ++ r := by
  induction l generalizing acc with
  | nil => exact ⟨[], by simp⟩
  | cons s l ih =>
    rw [List.foldl_cons]
    split
    · exact ih acc
    · obtain ⟨r, hr⟩ := ih (acc ++ [s])
      exact ⟨s :: r, by rw [hr]; simp⟩
theorem onceB_cons (s : List UInt8) (l : List (List UInt8)) : ∃ r, onceB (s :: l) = s :: r := by
  obtain ⟨r, hr⟩ := fold_head [s] l
  refine ⟨r, ?_⟩
  unfold onceB
  rw [List.foldl_cons]
  exact hr
theorem Fo.ins_ok : ∀ fo : Fo, (fo = .nil ∨ ∃ tag, Wf tag fo) → ∀ u ∈ fo.ins, u.ok ∧ u.level ≤ fo.level
  | .nil, _, u, hu => by simp [Fo.ins] at hu
  | .cons pn k n sub rest, h, u, hu => by
    obtain ⟨tag, hw⟩ : ∃ tag, Wf tag (.cons pn k n sub rest) := by
      rcases h with h | h
      · simp at h
      · exact h
    obtain ⟨h1, h2⟩ := hw.head
    rw [Fo.ins] at hu
    rw [Fo.level]
    rcases List.mem_cons.1 hu with hu | hu
    · subst hu
      refine ⟨h1, ?_⟩
      unfold Tr.level
      simp only
      omega
    · rcases List.mem_append.1 hu with hu | hu
      · have := Fo.ins_ok sub h1.inner u hu
        exact ⟨this.1, by omega⟩
      · have := Fo.ins_ok rest h2 u hu
        exact ⟨this.1, by omega⟩
theorem Fo.ins_tx : ∀ fo : Fo, ∀ u ∈ fo.ins, u.txt.length ≤ fo.tx.length
  | .nil, u, hu => by simp [Fo.ins] at hu
  | .cons pn k n sub rest, u, hu => by
    obtain ⟨e1, e2, e3⟩ := Fo.tx_len pn k n sub rest
    rw [Fo.ins] at hu
    rcases List.mem_cons.1 hu with hu | hu
    · subst hu
      rw [Tr.txt_eq]
      exact e1
    · rcases List.mem_append.1 hu with hu | hu
      · have := Fo.ins_tx sub u hu
        omega
      · have := Fo.ins_tx rest u hu
        omega
/-- What is inside. -/
theorem Tr.ok.ins_all {t u : Tr} (h : t.ok) (hu : u ∈ t.ins) : u.ok ∧ u.txt.length ≤ t.txt.length ∧ (u = t ∨ u.level < t.level) := by
  unfold Tr.ins at hu
  rcases List.mem_cons.1 hu with hu | hu
  · subst hu
    exact ⟨h, Nat.le_refl _, .inl rfl⟩
  · have h1 : t.sub = .nil ∨ ∃ tag, Wf tag t.sub := Wf.inner (show Wf none (.cons [] t.k t.n t.sub .nil) from h)
    obtain ⟨o, l⟩ := Fo.ins_ok t.sub h1 u hu
    have hl := Fo.ins_tx t.sub u hu
    obtain ⟨_, e2, _⟩ := Fo.tx_len [] t.k t.n t.sub .nil
    refine ⟨o, ?_, .inr (by unfold Tr.level at l ⊢; omega)⟩
    rw [Tr.txt_eq t]
    exact Nat.le_trans hl e2
/-- The list that Inside answers. -/
theorem insideK_list {t : List UInt8} {T : Tr} (h : checkK t = (0, T)) : ∃ r, insideK t = (t :: r, 0) ∧ (t :: r).length ≤ 100 ∧ ∀ s ∈ r, s ≠ t ∧ ∃ U, checkK s = (0, U) ∧ s.length ≤ 100 ∧ U.level < T.level := by
  obtain ⟨o, e, l, v⟩ := checkK_ok h
  obtain ⟨r, hr⟩ := onceB_cons t (T.sub.ins.map (·.txt))
  have hi : insF T.ins = t :: r := by
    rw [insF_once, Tr.ins, List.map_cons, e]
    exact hr
  refine ⟨r, ?_, ?_, ?_⟩
  · unfold insideK
    rw [h]
    simp only [if_true]
    rw [hi]
  · have h1 := insF_len T.ins
    have h2 := o.ins_len
    rw [hi] at h1
    rw [e] at h2
    omega
  · intro s hs
    have hnd := onceB_nodup (t :: T.sub.ins.map (·.txt))
    rw [hr] at hnd
    have hne : s ≠ t := fun e => (List.nodup_cons.1 hnd).1 (e ▸ hs)
    have hm : s ∈ onceB (t :: T.sub.ins.map (·.txt)) := by rw [hr]; exact List.mem_cons_of_mem _ hs
    rw [onceB_mem] at hm
    rcases List.mem_cons.1 hm with hm | hm
    · exact absurd hm hne
    · obtain ⟨U, hU, rfl⟩ := List.mem_map.1 hm
      obtain ⟨oU, lU, hU2⟩ := o.ins_all (List.mem_cons_of_mem _ hU)
      rw [e] at lU
      rcases hU2 with hU2 | hU2
      · exact absurd (by rw [hU2]; exact e) hne
      · refine ⟨hne, U, ?_, by omega, hU2⟩
        rw [checkK_of oU, if_neg (by omega)]
/-- The levels of With. -/
theorem withK_level {t a x : List UInt8} (h : withK t a = (x, 0)) : (checkK a).1 = 0 ∧ (checkK x).1 = 0 ∧ levelK x + 1 ≤ levelK t + levelK a := by
  obtain ⟨T, A, h1, h2, _, h4⟩ := withK_ok h
  refine ⟨by rw [h2], by rw [h4], ?_⟩
  unfold levelK
  rw [h1, h2, h4]
  exact Tr.put_level A T
end Go.Proofs.YtakdmnhpoelepaaGreatDoor
