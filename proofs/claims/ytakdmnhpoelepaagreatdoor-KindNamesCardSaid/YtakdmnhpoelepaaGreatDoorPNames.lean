/-
  The names of With (plain): those of the type, and those of the argument if the type is open; each once, ascending. No condition.
-/
import Derived.Test.YtakdmnhpoelepaaGreatDoorPInside
namespace Go.Proofs.YtakdmnhpoelepaaGreatDoor

/-- s is a name of a type among ts. -/
def nameIn (s : List UInt8) (ts : List Tr) : Prop := ∃ u ∈ ts, u.k = 7 ∧ u.n = s
theorem nameIn_iff {s : List UInt8} {ts : List Tr} : s ∈ namF ts ↔ nameIn s ts := by
  unfold namF nameIn
  simp only [List.mem_map, List.mem_filter, decide_eq_true_eq]
  constructor
  · rintro ⟨u, ⟨h1, h2⟩, h3⟩; exact ⟨u, h1, h2, h3⟩
  · rintro ⟨u, h1, h2, h3⟩; exact ⟨u, ⟨h1, h2⟩, h3⟩
theorem nameIn_cons {s : List UInt8} {t : Tr} {ts : List Tr} : nameIn s (t :: ts) ↔ (t.k = 7 ∧ t.n = s) ∨ nameIn s ts := by
  unfold nameIn
  simp only [List.mem_cons, exists_eq_or_imp]
theorem nameIn_app {s : List UInt8} {ts us : List Tr} : nameIn s (ts ++ us) ↔ nameIn s ts ∨ nameIn s us := by
  unfold nameIn
  simp only [List.mem_append]
  constructor
  · rintro ⟨u, h1 | h1, h2⟩
    · exact .inl ⟨u, h1, h2⟩
    · exact .inr ⟨u, h1, h2⟩
  · rintro (⟨u, h1, h2⟩ | ⟨u, h1, h2⟩)
    · exact ⟨u, .inl h1, h2⟩
    · exact ⟨u, .inr h1, h2⟩
theorem nameIn_nil {s : List UInt8} : ¬ nameIn s [] := by rintro ⟨u, h, _⟩; simp at h
theorem Fo.names_put (A : Tr) (s : List UInt8) : ∀ fo : Fo, (fo = .nil ∨ ∃ tag, Wf tag fo) → (nameIn s (fo.put A).ins ↔ nameIn s fo.ins ∨ (fo.opn = true ∧ nameIn s A.ins))
  | .nil, _ => by simp [Fo.put, Fo.ins, Fo.opn]
  | .cons pn k n sub rest, h => by
    obtain ⟨tag, hw⟩ : ∃ tag, Wf tag (.cons pn k n sub rest) := by
      rcases h with h | h
      · simp at h
      · exact h
    obtain ⟨h1, h2⟩ := hw.head
    have ihr := Fo.names_put A s rest h2
    by_cases hk : k = 8
    · subst hk
      obtain ⟨rfl, rfl⟩ := Wf.nil8 h1
      rw [Fo.put, if_pos rfl, Fo.ins, Fo.ins, Fo.ins, Fo.opn, nameIn_cons, nameIn_app, nameIn_cons, nameIn_app, ihr]
      have hA : nameIn s A.ins ↔ (A.k = 7 ∧ A.n = s) ∨ nameIn s A.sub.ins := by rw [Tr.ins, nameIn_cons]
      have hn := @nameIn_nil s
      simp only [decide_true, Bool.true_or, true_and, hn, false_or, show ((8 : Nat) = 7) = False by simp, false_and]
      rw [hA]
      constructor
      · rintro (h | h | h | h)
        · exact .inr (.inl h)
        · exact .inr (.inr h)
        · exact .inl h
        · rcases h.2 with h | h
          · exact .inr (.inl h)
          · exact .inr (.inr h)
      · rintro (h | h | h)
        · exact .inr (.inr (.inl h))
        · exact .inl h
        · exact .inr (.inl h)
    · have ihs := Fo.names_put A s sub h1.inner
      rw [Fo.put, if_neg hk, Fo.ins, Fo.ins, Fo.opn, nameIn_cons, nameIn_app, nameIn_cons, nameIn_app, ihr, ihs]
      simp only [hk, decide_false, Bool.false_or, Bool.or_eq_true]
      constructor
      · rintro (h | (h | h) | (h | h))
        · exact .inl (.inl h)
        · exact .inl (.inr (.inl h))
        · exact .inr ⟨.inl h.1, h.2⟩
        · exact .inl (.inr (.inr h))
        · exact .inr ⟨.inr h.1, h.2⟩
      · rintro ((h | h | h) | ⟨h | h, h3⟩)
        · exact .inl h
        · exact .inr (.inl (.inl h))
        · exact .inr (.inr (.inl h))
        · exact .inr (.inl (.inr ⟨h, h3⟩))
        · exact .inr (.inr (.inr ⟨h, h3⟩))
theorem Tr.ok.names_put {T : Tr} (A : Tr) (h : T.ok) (s : List UInt8) : s ∈ namF (T.put A).ins ↔ s ∈ namF T.ins ∨ (T.opn = true ∧ s ∈ namF A.ins) := by
  have hf := Fo.names_put A s (Fo.one T) (.inr ⟨none, h⟩)
  rw [Fo.put_one, Fo.opn_one] at hf
  have one : ∀ u : Tr, (Fo.one u).ins = u.ins := by intro u; simp [Fo.one, Fo.ins, Tr.ins]
  rw [one, one] at hf
  rw [nameIn_iff, nameIn_iff, nameIn_iff]
  exact hf
theorem sortU_mem (l : List (List UInt8)) (s : List UInt8) : s ∈ sortU l ↔ s ∈ l := by
  unfold sortU
  rw [List.mem_mergeSort, onceB_mem]
theorem less_lt : ∀ (a b : List UInt8), Op.bytesLess a b = true → a < b
  | [], [], h => by simp [Op.bytesLess] at h
  | [], y :: b, _ => List.nil_lt_cons y b
  | x :: a, [], h => by simp [Op.bytesLess] at h
  | x :: a, y :: b, h => by
    rw [less_cons] at h
    rw [List.cons_lt_cons_iff]
    rcases h with h | ⟨rfl, h⟩
    · exact .inl (UInt8.lt_iff_toNat_lt.2 h)
    · exact .inr ⟨rfl, less_lt a b h⟩
theorem leB_less {a b : List UInt8} (h : leB a b = true) (hn : a ≠ b) : Op.bytesLess a b = true := by
  rcases h1 : Op.bytesLess a b with _ | _
  · have h2 := less_total a b h1
    rw [Bool.or_eq_true] at h2
    rcases h2 with h2 | h2
    · have h3 := less_lt b a h2
      simp only [leB, decide_eq_true_eq] at h
      exact absurd h3 h
    · have h3 : b = a := by simpa using h2
      exact absurd h3.symm hn
  · rfl
theorem leB_tr (a b c : List UInt8) (h1 : leB a b = true) (h2 : leB b c = true) : leB a c = true := by
  simp only [leB, decide_eq_true_eq] at *
  exact List.le_trans h1 h2
theorem leB_tot (a b : List UInt8) : (leB a b || leB b a) = true := by
  simp only [leB, Bool.or_eq_true, decide_eq_true_eq]
  exact List.le_total a b
/-- Ascending, each once. -/
theorem sortU_asc (l : List (List UInt8)) : (sortU l).Pairwise fun a b => Op.bytesLess a b = true := by
  have hp : (sortU l).Perm (onceB l) := List.mergeSort_perm _ _
  have hn : (sortU l).Nodup := hp.nodup_iff.2 (onceB_nodup l)
  have hs : (sortU l).Pairwise fun a b => leB a b = true := List.pairwise_mergeSort leB_tr leB_tot _
  exact (hs.and hn).imp fun h => leB_less h.1 h.2
end Go.Proofs.YtakdmnhpoelepaaGreatDoor
