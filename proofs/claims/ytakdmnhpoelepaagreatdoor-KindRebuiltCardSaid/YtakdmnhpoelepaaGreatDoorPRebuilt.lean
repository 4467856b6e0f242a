/-
  Parts turned round, put together again (plain): they are the record; likewise an array of its argument, a name with its argument. No condition.
-/
import Derived.Test.YtakdmnhpoelepaaGreatDoorLParts
namespace Go.Proofs.YtakdmnhpoelepaaGreatDoor

/-- A list turned round by q places. -/
def rotL {α : Type} (l : List α) (q : Nat) : List α := l.drop (q % l.length) ++ l.take (q % l.length)
theorem rotL_len {α : Type} (l : List α) (q : Nat) : (rotL l q).length = l.length := by
  unfold rotL
  simp only [List.length_append, List.length_drop, List.length_take]
  omega
theorem rotL_perm {α : Type} (l : List α) (q : Nat) : (rotL l q).Perm l := by
  unfold rotL
  exact (List.perm_append_comm).trans (by rw [List.take_append_drop])
theorem rotL_at {α : Type} {l : List α} {q i : Nat} (h : i < l.length) : (rotL l q)[i]? = l[(i + q) % l.length]? := by
  have hr : q % l.length < l.length := Nat.mod_lt _ (by omega)
  have e : (i + q) % l.length = if i + q % l.length < l.length then i + q % l.length else i + q % l.length - l.length := by
    rw [← Nat.add_mod_mod]
    split
    · rename_i h1; exact Nat.mod_eq_of_lt h1
    · rename_i h1
      rw [Nat.mod_eq_sub_mod (by omega), Nat.mod_eq_of_lt (by omega)]
  unfold rotL
  rw [e]
  by_cases h1 : i + q % l.length < l.length
  · rw [if_pos h1, List.getElem?_append_left (by rw [List.length_drop]; omega), List.getElem?_drop]
    congr 1; omega
  · rw [if_neg h1, List.getElem?_append_right (by rw [List.length_drop]; omega), List.length_drop, List.getElem?_take, if_pos (by omega)]
    congr 1; omega
/-- The parts of a forest, as types. -/
def Fo.prs : Fo → List (List UInt8 × Tr)
  | .nil => []
  | .cons pn k n sub rest => (pn, ⟨k, n, sub⟩) :: rest.prs
theorem Fo.pts_prs : ∀ fo : Fo, fo.pts = fo.prs.map fun x => (x.1, x.2.txt)
  | .nil => rfl
  | .cons pn k n sub rest => by rw [Fo.pts, Fo.prs, List.map_cons, Fo.pts_prs rest]
theorem foOf_prs : ∀ fo : Fo, foOf fo.prs = fo
  | .nil => rfl
  | .cons pn k n sub rest => by rw [Fo.prs, foOf, foOf_prs rest]
theorem Fo.at_some : ∀ (fo : Fo) (i : Nat), i < fo.len → ∃ pn t, fo.at i = some (pn, t)
  | .nil, i, h => by simp [Fo.len] at h
  | .cons pn k n sub rest, 0, _ => ⟨_, _, rfl⟩
  | .cons pn k n sub rest, i + 1, h => Fo.at_some rest i (by simpa [Fo.len] using h)
/-- What is known of the parts of a record. -/
theorem Wf.parts {tag : Option (List UInt8)} {fo : Fo} (h : Wf tag fo) : ∀ b, tag = some b → (∀ x ∈ fo.prs, isName x.1 = true ∧ x.2.ok ∧ Op.bytesLess b x.1 = true ∧ x.2.level ≤ fo.level) ∧ fo.prs.Pairwise fun x y => Op.bytesLess x.1 y.1 = true := by
  induction h with
  | par => intro b h; simp at h
  | word => intro b h; simp at h
  | arr => intro b h; simp at h
  | rcd => intro b h; simp at h
  | nam => intro b h; simp at h
  | app => intro b h; simp at h
  | last b pn k n sub hn hb h ih =>
    intro b' e
    injection e with e
    subst e
    refine ⟨fun x hx => ?_, by simp [Fo.prs]⟩
    simp only [Fo.prs, List.mem_singleton] at hx
    subst hx
    exact ⟨hn, h, hb, by simp only [Tr.level, Fo.level]; omega⟩
  | more b pn k n sub rest hn hb h h2 ih ih2 =>
    intro b' e
    injection e with e
    subst e
    obtain ⟨i1, i2⟩ := ih2 pn rfl
    constructor
    · intro x hx
      rw [Fo.prs] at hx
      rcases List.mem_cons.1 hx with rfl | hx
      · exact ⟨hn, h, hb, by simp only [Tr.level, Fo.level]; omega⟩
      · obtain ⟨j1, j2, j3, j4⟩ := i1 x hx
        exact ⟨j1, j2, less_trans _ _ _ hb j3, by simp only [Fo.level]; omega⟩
    · rw [Fo.prs, List.pairwise_cons]
      exact ⟨fun x hx => (i1 x hx).2.2.1, i2⟩
theorem twin_asc : ∀ l : List (List UInt8), (l.Pairwise fun a b => Op.bytesLess a b = true) → twin l = false
  | [], _ => rfl
  | [_], _ => rfl
  | a :: b :: r, h => by
    obtain ⟨h1, h2⟩ := List.pairwise_cons.1 h
    have hab := h1 b (by simp)
    have hne : (a == b) = false := by
      rw [beq_eq_false_iff_ne]
      rintro rfl
      rw [less_irrefl] at hab
      simp at hab
    rw [twin, hne, twin_asc (b :: r) h2]
    rfl
theorem leN_tr (a b c : List UInt8 × Tr) (h1 : leN a b = true) (h2 : leN b c = true) : leN a c = true := by
  unfold leN at *
  rcases h : Op.bytesLess c.1 a.1 with _ | _
  · rfl
  · rcases hb : Op.bytesLess b.1 a.1 with _ | _
    · rcases hc : Op.bytesLess c.1 b.1 with _ | _
      · exfalso
        have e1 := less_total _ _ hb
        have e2 := less_total _ _ hc
        rw [Bool.or_eq_true] at e1 e2
        have key : a.1 = b.1 ∨ Op.bytesLess a.1 b.1 = true := by rcases e1 with e | e; exact .inr e; exact .inl (by simpa using e)
        have key2 : b.1 = c.1 ∨ Op.bytesLess b.1 c.1 = true := by rcases e2 with e | e; exact .inr e; exact .inl (by simpa using e)
        have hac : a.1 = c.1 ∨ Op.bytesLess a.1 c.1 = true := by
          rcases key with k | k <;> rcases key2 with m | m
          · exact .inl (k.trans m)
          · rw [k]; exact .inr m
          · rw [← m]; exact .inr k
          · exact .inr (less_trans _ _ _ k m)
        rcases hac with e | e
        · rw [e, less_irrefl] at h; simp at h
        · rw [less_asymm _ _ e] at h; simp at h
      · rw [hc] at h2; simp at h2
    · rw [hb] at h1; simp at h1
theorem leN_tot (a b : List UInt8 × Tr) : (leN a b || leN b a) = true := by
  unfold leN
  rcases h : Op.bytesLess b.1 a.1 with _ | _
  · rfl
  · rw [less_asymm _ _ h]; rfl
/-- A list that ascends is what comes of sorting its parts in any order. -/
theorem sortN_asc {l m : List (List UInt8 × Tr)} (h : l.Pairwise fun x y => Op.bytesLess x.1 y.1 = true) (hp : m.Perm l) : sortN m = l := by
  have hs : l.Pairwise fun a b => leN a b = true := h.imp fun {a b} h => by unfold leN; rw [less_asymm _ _ h]; rfl
  have hinj : ∀ a ∈ l, ∀ b ∈ l, a.1 = b.1 → a = b := by
    intro a ha b hb e
    obtain ⟨i, hi, rfl⟩ := List.getElem_of_mem ha
    obtain ⟨j, hj, rfl⟩ := List.getElem_of_mem hb
    rcases Nat.lt_trichotomy i j with hij | hij | hij
    · have := List.pairwise_iff_getElem.1 h i j hi hj hij
      rw [e, less_irrefl] at this; simp at this
    · subst hij; rfl
    · have := List.pairwise_iff_getElem.1 h j i hj hi hij
      rw [e, less_irrefl] at this; simp at this
  unfold sortN
  refine List.Perm.eq_of_pairwise (le := fun a b => leN a b = true) (fun a b ha hb h1 h2 => ?_) (List.pairwise_mergeSort leN_tr leN_tot m) hs ((List.mergeSort_perm m leN).trans hp)
  refine hinj a (hp.mem_iff.1 ((List.mergeSort_perm m leN).mem_iff.1 ha)) b hb ?_
  unfold leN at h1 h2
  have g1 : Op.bytesLess b.1 a.1 = false := by simpa using h1
  have g2 : Op.bytesLess a.1 b.1 = false := by simpa using h2
  have := less_total _ _ g1
  rw [g2, Bool.false_or] at this
  simpa using this
theorem badT_ok : ∀ ps : List (List UInt8 × List UInt8), (∀ x ∈ ps, (checkK x.2).1 = 0) → badT ps = 0
  | [], _ => rfl
  | x :: r, h => by
    rw [badT, if_pos (h x (by simp))]
    exact badT_ok r fun y hy => h y (by simp [hy])
theorem checkK_small {t : Tr} (h : t.ok) (h1 : t.txt.length ≤ 100) (h2 : t.level ≤ 6) : checkK t.txt = (0, t) := by
  rw [checkK_of h, if_neg (by omega)]
theorem rec_wf {T : Tr} (h : T.ok) (hk : T.k = 5 ∨ T.k = 6) : Wf (some []) T.sub := by
  obtain ⟨k, n, fo⟩ := T
  simp only at hk ⊢
  have h' : Wf none (.cons [] k n fo .nil) := h
  clear h
  cases h' with
  | par => simp at hk
  | word _ h3 => omega
  | arr _ h => simp at hk
  | rcd _ _ _ hk2 h hl => exact h
  | nam _ _ => simp at hk
  | app _ _ _ h => simp at hk
/-- Record and Oneof of the parts, in any order. -/
theorem made_again {s : List UInt8} {T : Tr} (h : checkK s = (0, T)) (hk : T.k = 5 ∨ T.k = 6) {ps : List (List UInt8 × List UInt8)} (hp : ps.Perm T.sub.pts) : madeK T.k ps = (s, 0) := by
  obtain ⟨o1, e1, l1, v1⟩ := checkK_ok h
  have hlen := rec_len o1 hk
  obtain ⟨k, n, fo⟩ := T
  simp only at hk hp hlen ⊢
  have hw : Wf (some []) fo := rec_wf (T := ⟨k, n, fo⟩) o1 hk
  obtain ⟨a1, a2⟩ := hw.parts [] rfl
  have htx : fo.tx.length ≤ 100 := by
    have h3 : (Tr.txt ⟨k, n, fo⟩).length ≤ 100 := by rw [e1]; exact l1
    rw [txt_br (fun hz => hw.ne (fo_zero hz))] at h3
    simp only [List.length_append, List.length_cons] at h3
    omega
  have hlev : fo.level ≤ 5 := by unfold Tr.level at v1; simp only at v1; omega
  have hpl : ps.length = fo.len := by rw [hp.length_eq, Fo.pts_len]
  have hne : fo.len ≠ 0 := fun hz => hw.ne (fo_zero hz)
  have hx : ∀ x ∈ fo.prs, checkK x.2.txt = (0, x.2) := by
    intro x hx
    obtain ⟨_, b2, _, b4⟩ := a1 x hx
    refine checkK_small b2 ?_ (by omega)
    have hm : (x.1, x.2.txt) ∈ fo.pts := by rw [Fo.pts_prs]; exact List.mem_map.2 ⟨x, hx, rfl⟩
    obtain ⟨i, hi, e⟩ := List.getElem_of_mem hm
    have hi' : i < fo.len := by rw [← Fo.pts_len]; exact hi
    obtain ⟨pn, t, hat⟩ := Fo.at_some fo i hi'
    have h5 := Fo.pts_at fo i pn t hat
    rw [List.getElem?_eq_getElem hi, e] at h5
    simp only [Option.some.injEq, Prod.mk.injEq] at h5
    rw [h5.2]
    have := Fo.at_txl hat
    omega
  have hps : ∀ y ∈ ps, ∃ x ∈ fo.prs, y = (x.1, x.2.txt) := by
    intro y hy
    have := hp.mem_iff.1 hy
    rw [Fo.pts_prs] at this
    obtain ⟨x, h1, h2⟩ := List.mem_map.1 this
    exact ⟨x, h1, h2.symm⟩
  have htr : (treesOf ps).Perm fo.prs := by
    have h1 : (treesOf ps).Perm (treesOf fo.pts) := hp.map _
    refine h1.trans (List.Perm.of_eq ?_)
    unfold treesOf
    rw [Fo.pts_prs, List.map_map]
    refine (List.map_congr_left fun x hx' => ?_).trans (List.map_id _)
    simp only [Function.comp]
    rw [hx x hx']
    rfl
  have hsort := sortN_asc a2 htr
  unfold madeK
  rw [if_neg, if_neg, hsort, twin_asc _ (List.pairwise_map.2 a2), if_neg (by simp), foOf_prs]
  · have ht : Tr.txt ⟨k, [], fo⟩ = s := by
      rw [← e1, txt_br hne, txt_br hne]
      rcases hk with rfl | rfl <;> rfl
    have hl2 : Tr.level ⟨k, [], fo⟩ ≤ 6 := v1
    rw [toldK_ok (by rw [ht]; exact l1) hl2, ht]
  · rw [badT_ok ps fun y hy => by obtain ⟨x, h1, rfl⟩ := hps y hy; rw [hx x h1]]
    simp
  · rintro (h | h | h)
    · omega
    · omega
    · rw [List.any_eq_true] at h
      obtain ⟨y, hy, h⟩ := h
      obtain ⟨x, h1, rfl⟩ := hps y hy
      rw [(a1 x h1).1] at h
      simp at h
/-- Array of the argument. -/
theorem array_again {s : List UInt8} {T : Tr} (h : checkK s = (0, T)) (hk : T.k = 4) : ∃ a, argK s = (a, true, 0) ∧ a.length ≤ 100 ∧ arrK a = (s, 0) := by
  obtain ⟨o1, e1, l1, v1⟩ := checkK_ok h
  have ha := ofK_yes (l := [4, 7]) h (by rw [hk]; rfl)
  obtain ⟨k, n, fo⟩ := T
  obtain rfl : k = 4 := hk
  have h' : Wf none (.cons [] 4 n fo .nil) := o1
  obtain ⟨A, hA⟩ : ∃ A : Tr, fo = .one A ∧ A.ok := by
    clear o1 h ha
    cases h' with
    | word _ h3 => omega
    | arr _ h => obtain ⟨A, rfl⟩ := h.one; exact ⟨A, rfl, h⟩
    | rcd _ _ _ hk2 h hl => omega
  obtain ⟨rfl, oA⟩ := hA
  have et : Tr.txt ⟨4, n, .one A⟩ = Tr.txt ⟨4, [], .one A⟩ := by rw [one_txt, one_txt]; rfl
  rw [et, one_txt] at e1
  have hl : A.txt.length ≤ 100 := by rw [← e1] at l1; simp only [List.length_append, List.length_cons] at l1; omega
  have hv : A.level + 1 ≤ 6 := by rw [one_level] at v1; exact v1
  refine ⟨A.txt, ?_, hl, ?_⟩
  · unfold argK
    rw [ha]
    rw [if_pos ⟨rfl, by simp [Fo.one, Fo.len]⟩]
    rfl
  · unfold arrK
    rw [checkK_small oA hl (by omega)]
    rw [if_pos rfl, toldK_ok (by rw [one_txt, e1]; exact l1) (by rw [one_level]; exact hv), one_txt, e1]
/-- A name with its argument. -/
theorem named_again {s : List UInt8} {T : Tr} (h : checkK s = (0, T)) (hk : T.k = 7) : ∃ a is, argK s = (a, is, 0) ∧ a.length ≤ 100 ∧ baseK s = (T.n, 0) ∧ T.n.length ≤ 100 ∧ namK T.n a = (s, 0) := by
  obtain ⟨o1, e1, l1, v1⟩ := checkK_ok h
  have ha := ofK_yes (l := [4, 7]) h (by rw [hk]; rfl)
  have hb := ofK_yes (l := [7]) h (by rw [hk]; rfl)
  obtain ⟨k, n, fo⟩ := T
  obtain rfl : k = 7 := hk
  have h' : Wf none (.cons [] 7 n fo .nil) := o1
  have hbase : baseK s = (n, 0) := by unfold baseK; rw [hb]
  have hn : isName n = true ∧ (fo = .nil ∨ ∃ A : Tr, fo = .one A ∧ A.ok) := by
    clear o1 h ha hb
    cases h' with
    | word _ h3 => omega
    | rcd _ _ _ hk2 h hl => omega
    | nam _ hn => exact ⟨hn, .inl rfl⟩
    | app _ _ hn h => obtain ⟨A, rfl⟩ := h.one; exact ⟨hn, .inr ⟨A, rfl, h⟩⟩
  have hnl := name_small hn.1
  rcases hn.2 with rfl | ⟨A, rfl, oA⟩
  · refine ⟨[], false, ?_, by simp, hbase, by show n.length ≤ 100; omega, ?_⟩
    · unfold argK
      rw [ha]
      rw [if_neg (by simp [Fo.len])]
    · unfold namK
      rw [if_pos hn.1, if_pos rfl, ← e1]
      simp [Tr.txt, wordK]
  · rw [one_txt] at e1
    have hl : A.txt.length ≤ 100 := by rw [← e1] at l1; simp only [List.length_append, List.length_cons] at l1; omega
    have hv : A.level + 1 ≤ 6 := by rw [one_level] at v1; exact v1
    have hp : A.txt ≠ [] := by
      have := parseT_le (Tr.ok.reads' (t := A) oA)
      intro e
      rw [e] at this
      simp at this
    refine ⟨A.txt, true, ?_, hl, hbase, by show n.length ≤ 100; omega, ?_⟩
    · unfold argK
      rw [ha]
      rw [if_pos ⟨rfl, by simp [Fo.one, Fo.len]⟩]
      rfl
    · unfold namK
      rw [if_pos hn.1, if_neg hp, checkK_small oA hl (by omega)]
      rw [if_pos rfl, toldK_ok (by rw [one_txt]; exact e1 ▸ l1) (by rw [one_level]; exact hv), one_txt]
      exact Prod.ext e1 rfl
end Go.Proofs.YtakdmnhpoelepaaGreatDoor
