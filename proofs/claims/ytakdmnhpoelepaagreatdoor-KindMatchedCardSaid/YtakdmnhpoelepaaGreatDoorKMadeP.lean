/-
  Contracts: whether a part has no name (slices.ContainsFunc at api.Part); parts as lists (plain, and in memory). Condition: lengths; the variable strings.asciiSpace.
  The parts of a record that is being made: in memory, as a list, as a forest; sorted by name (plain, and in memory). No condition.
-/
import Derived.Test.YtakdmnhpoelepaaGreatDoorKSort2
namespace Go.Proofs.YtakdmnhpoelepaaGreatDoor
open Go.RowKit

/-- A slice of parts: each has a name and a type's text. -/
def Pts (w : World) (v : Value) (ps : List (List UInt8 × List UInt8)) : Prop :=
  (v = .slice none 0 0 ∧ ps = []) ∨ ∃ b o c, v = .slice (some ⟨b, o, none⟩) ps.length c ∧ b < w.heap.size ∧ ∀ j (h : j < ps.length), w.cell? ⟨b, o + j * 2, none⟩ = some (str ps[j].1) ∧ w.cell? ⟨b, o + j * 2 + 1, none⟩ = some (str ps[j].2)
theorem Pts.below {w w' : World} {v : Value} {ps : List (List UInt8 × List UInt8)} (h : Pts w v ps) (hb : Below w.heap.size w w') : Pts w' v ps := by
  rcases h with h | ⟨b, o, c, rfl, hl, hc⟩
  · exact .inl h
  · refine .inr ⟨b, o, c, rfl, Nat.lt_of_lt_of_le hl hb.size, fun j h => ⟨Below.keep hb (hc j h).1, Below.keep hb (hc j h).2⟩⟩
theorem Pts.shape {w : World} {v : Value} {ps : List (List UInt8 × List UInt8)} (h : Pts w v ps) : ∃ p c, v = .slice p ps.length c := by
  rcases h with ⟨rfl, rfl⟩ | ⟨b, o, c, rfl, _⟩
  · exact ⟨none, 0, rfl⟩
  · exact ⟨_, _, rfl⟩
theorem Pts.at {w : World} {v : Value} {ps : List (List UInt8 × List UInt8)} (h : Pts w v ps) {j : Nat} (hj : j < ps.length) : ∃ b o c x, v = .slice (some ⟨b, o, none⟩) ps.length c ∧ ps[j]? = some x ∧ w.cell? ⟨b, o + j * 2, none⟩ = some (str x.1) ∧ w.cell? ⟨b, o + j * 2 + 1, none⟩ = some (str x.2) := by
  rcases h with ⟨rfl, rfl⟩ | ⟨b, o, c, rfl, hl, hc⟩
  · simp at hj
  · exact ⟨b, o, c, ps[j], rfl, List.getElem?_eq_getElem hj, (hc j hj).1, (hc j hj).2⟩

set_option maxRecDepth 4000 in
set_option maxHeartbeats 3200000 in
theorem noname_any (n t : List UInt8) (w : World) (ht : Tab w) (hl : n.length ≤ maxLen) : Calls Tryz.prog 93 #[.agg #[str n, str t]] w fun e w' => e = .returned (.bool (!isName n)) ∧ Below w.heap.size w w' := by
  have hb := (Below.refl _ w).alloc (Nat.le_refl _) (.cells #[str n, str t] 46)
  have HN := tIsName_any n (w.alloc (.cells #[str n, str t] 46)) (ht.below hb (Nat.le_refl _)) hl
  generalize isName n = r at HN ⊢
  go_enter Tryz.func93, Tryz.ntmps93
  go_wp2_with (go_at_call 65; refine HN.mono ?_; rintro e w1 ⟨rfl, hb1⟩)
  go_ret
  exact ⟨rfl, hb.trans (below_less hb1 (by simp))⟩
/-- The number of the first part without a name; -1: there is none. -/
def badIx : List (List UInt8 × List UInt8) → Nat → Int
  | [], _ => -1
  | x :: r, k => if isName x.1 then badIx r (k + 1) else k
theorem badIx_neg : ∀ (ps : List (List UInt8 × List UInt8)) (k : Nat), (0 ≤ badIx ps k) ↔ ps.any (fun x => !isName x.1) = true
  | [], k => by simp [badIx]
  | x :: r, k => by
    rw [badIx, List.any_cons]
    rcases h : isName x.1 with _ | _
    · simp
    · simp only [if_true]
      rw [badIx_neg r (k + 1)]
      simp

set_option maxRecDepth 4000 in
set_option maxHeartbeats 3200000 in
theorem index_parts (ps : List (List UInt8 × List UInt8)) (v : Value) (w : World) (ht : Tab w) (hv : Pts w v ps) (hlen : ps.length ≤ 1000) (hl : ∀ x ∈ ps, x.1.length ≤ maxLen) :
    Calls Tryz.prog 114 #[v, .func (.func 93) #[] #[]] w fun e w' => e = .returned (.int .i64 (badIx ps 0)) ∧ Below w.heap.size w w' := by
  obtain ⟨p, c, rfl⟩ := hv.shape
  have HL := Lib.hid hl
  clear hl
  go_enter Tryz.func114, Tryz.ntmps114
  go_wp2_with fail
  go_loopw [8] (fun a wr => ∃ i : Nat, i ≤ ps.length ∧ a = .int .i64 i ∧ Below w.heap.size w wr ∧ Hid (badIx ps 0 = badIx (ps.drop i) i)) (fun a _ => ps.length - (intOf a).toNat)
  case atStart => exact ⟨0, Nat.zero_le _, rfl, Below.refl _ _, rfl⟩
  case round =>
    obtain ⟨i, hi, rfl, hb, hbad⟩ := hrel
    by_cases hlt : i < ps.length
    case pos =>
      obtain ⟨b, o, c', x, e, hx, x0, x1⟩ := hv.at hlt
      injection e with e1 _ e2
      subst e1 e2
      have y0 := Below.keep hb x0
      have y1 := Below.keep hb x1
      have hdrop : ps.drop i = x :: ps.drop (i + 1) := by
        rw [List.drop_eq_getElem_cons hlt]
        rw [List.getElem?_eq_getElem hlt] at hx
        simp only [Option.some.injEq] at hx
        rw [hx]
      have hbx := hbad.out
      rw [hdrop, badIx] at hbx
      have HX := Lib.hid hbx
      have hxl := HL.out x (List.mem_of_getElem? hx)
      have HN := noname_any x.1 x.2 wr (ht.below hb (Nat.le_refl _)) hxl
      clear x0 x1 hx hdrop hbx hbad
      rcases hn : isName x.1 with _ | _
      · rw [hn] at HN HX
        simp only [Bool.not_false] at HN
        have HX2 := Lib.hid (HX.out.trans (if_neg (by simp)))
        clear HX hn
        go_wp2_with (go_at_call 93; refine HN.mono ?_; rintro e w1 ⟨rfl, hb1⟩)
        go_ret
        exact ⟨by rw [HX2.out]; rfl, hb.trans (below_less hb1 hb.size)⟩
      · rw [hn] at HN HX
        simp only [Bool.not_true] at HN
        have HX2 := Lib.hid (HX.out.trans (if_pos rfl))
        clear HX hn
        go_wp2_with (go_at_call 93; refine HN.mono ?_; rintro e w1 ⟨rfl, hb1⟩)
        exact ⟨⟨i + 1, hlt, by go_num, hb.trans (below_less hb1 hb.size), HX2⟩, by simp only [intOf]; omega⟩
    case neg =>
      have hie : ps.drop i = [] := List.drop_eq_nil_of_le (by omega)
      have hbx := hbad.out
      rw [hie, badIx] at hbx
      have HX := Lib.hid hbx
      clear hie hbx hbad
      go_wp2_with fail
      go_ret
      exact ⟨by rw [HX.out]; rfl, hb⟩
set_option maxRecDepth 4000 in
set_option maxHeartbeats 3200000 in
theorem contains_parts (ps : List (List UInt8 × List UInt8)) (v : Value) (w : World) (ht : Tab w) (hv : Pts w v ps) (hlen : ps.length ≤ 1000) (hl : ∀ x ∈ ps, x.1.length ≤ maxLen) :
    Calls Tryz.prog 92 #[v, .func (.func 93) #[] #[]] w fun e w' => e = .returned (.bool (ps.any fun x => !isName x.1)) ∧ Below w.heap.size w w' := by
  have HI := index_parts ps v w ht hv hlen hl
  have HB := Lib.hid (badIx_neg ps 0)
  obtain ⟨p, c, rfl⟩ := hv.shape
  clear hv
  generalize badIx ps 0 = i at HI HB
  rcases hq : ps.any (fun x => !isName x.1) with _ | _
  · have hn : i < 0 := by have := HB.out; rw [hq] at this; simp at this; exact this
    clear hq
    go_enter Tryz.func92, Tryz.ntmps92
    go_wp2_with (go_at_call 114; refine HI.mono ?_; rintro e w1 ⟨rfl, hb1⟩)
    go_ret
    exact ⟨by first | (simp; done) | (simp; omega), hb1⟩
  · have hn : 0 ≤ i := by have := HB.out; rw [hq] at this; simpa using this
    clear hq
    go_enter Tryz.func92, Tryz.ntmps92
    go_wp2_with (go_at_call 114; refine HI.mono ?_; rintro e w1 ⟨rfl, hb1⟩)
    go_ret
    exact ⟨by first | (simp; done) | (simp; omega), hb1⟩
end Go.Proofs.YtakdmnhpoelepaaGreatDoor

namespace Go.Proofs.YtakdmnhpoelepaaGreatDoor
open Go.RowKit

/-- Names and types as a forest. -/
def foOf : List (List UInt8 × Tr) → Fo
  | [] => .nil
  | x :: r => .cons x.1 x.2.k x.2.n x.2.sub (foOf r)
/-- Name and type of a part. -/
def prj (x : PV) : List UInt8 × Tr := (x.1, x.2.1)
/-- The slice value v holds the parts l; no part's own parts lie in its row. -/
def PR (w : World) (D : Nat → Prop) (v : Value) (l : List PV) : Prop :=
  w.ownsRow 0 63 4 v l.length (l.flatMap encP) ∧ (∀ b, v.ownBlock = some b → D b) ∧ ∀ x ∈ l, FoV w (fun b => D b ∧ v.ownBlock ≠ some b) x.2.1.sub (.slice x.2.2.1 x.2.2.2.1 x.2.2.2.2)
theorem PR.nil (w : World) (D : Nat → Prop) : PR w D (.slice none 0 0) [] := ⟨World.ownsRow_nil _ _ _ _, by intro b h; simp [Value.ownBlock] at h, by simp⟩
theorem PR.kept {w w' : World} {D : Nat → Prop} {v : Value} {l : List PV} (hb : ∀ b, D b → b < w.heap.size → w'.heap[b]? = w.heap[b]?) (h : PR w D v l) : PR w' D v l :=
  ⟨ownsRow_of_block h.1 (fun b e => hb b (h.2.1 b e) (ownsRow_lt h.1 e)), h.2.1, fun x hx => (h.2.2 x hx).kept fun b hD => hb b hD.1⟩
theorem PR.shape {w : World} {D : Nat → Prop} {v : Value} {l : List PV} (h : PR w D v l) : ∃ p c, v = .slice p l.length c := row_shape h.1
theorem PR.grow {W W' : World} {D : Nat → Prop} {v v' : Value} {l : List PV} {x : PV} (h : PR W D v l) (ht : FoV W (fun b => D b ∧ v.ownBlock ≠ some b) x.2.1.sub (.slice x.2.2.1 x.2.2.2.1 x.2.2.2.2)) (hN : D W.heap.size)
    (h' : W'.ownsRow 0 63 4 v' (l.length + 1) (l.flatMap encP ++ encP x)) (hg : W.grownBy W' v.ownBlock) (ho : v'.ownBlock = v.ownBlock ∨ v'.ownBlock = some W.heap.size) : PR W' D v' (l ++ [x]) := by
  refine ⟨by simpa using h', ?_, ?_⟩
  · intro b hb
    rcases ho with ho | ho
    · exact h.2.1 b (ho ▸ hb)
    · rw [ho] at hb
      injection hb with hb
      exact hb ▸ hN
  · have key : ∀ y : PV, FoV W (fun b => D b ∧ v.ownBlock ≠ some b) y.2.1.sub (.slice y.2.2.1 y.2.2.2.1 y.2.2.2.2) → FoV W' (fun b => D b ∧ v'.ownBlock ≠ some b) y.2.1.sub (.slice y.2.2.1 y.2.2.2.1 y.2.2.2.2) := by
      intro y hy
      refine ((hy.mono (D' := fun b => D b ∧ v'.ownBlock ≠ some b ∧ v.ownBlock ≠ some b) fun b hb hlt => ⟨hb.1, ?_, hb.2⟩).kept (w' := W') fun b hb hlt => hg.block b hlt (fun e => hb.2.2 e.symm)).mono fun b hb _ => ⟨hb.1, hb.2.1⟩
      rcases ho with ho | ho
      · rw [ho]; exact hb.2
      · rw [ho]
        intro e
        injection e with e
        omega
    intro y hy
    rcases List.mem_append.1 hy with hy | hy
    · exact key y (h.2.2 y hy)
    · rw [List.mem_singleton.1 hy]; exact key x ht
theorem PR.foC {w : World} {D : Nat → Prop} : ∀ l : List PV, (∀ x ∈ l, FoV w D x.2.1.sub (.slice x.2.2.1 x.2.2.2.1 x.2.2.2.2)) → FoC w D (foOf (l.map prj)) (l.flatMap encP)
  | [], _ => rfl
  | x :: r, h => by
    obtain ⟨sc, h1, h2, h3⟩ := h x (List.mem_cons_self ..)
    exact ⟨_, _, sc, rfl, h1, h2, h3, PR.foC r fun y hy => h y (List.mem_cons_of_mem _ hy)⟩
theorem foOf_len : ∀ l : List (List UInt8 × Tr), (foOf l).len = l.length
  | [] => rfl
  | x :: r => by rw [foOf, Fo.len, foOf_len r, List.length_cons]
theorem PR.foV {w : World} {D : Nat → Prop} {v : Value} {l : List PV} (h : PR w D v l) : FoV w D (foOf (l.map prj)) v := by
  refine ⟨_, by rw [foOf_len, List.length_map]; exact h.1, h.2.1, PR.foC l fun x hx => (h.2.2 x hx).mono fun b hb _ => hb.1⟩
/-- After the sort: the parts in another order. -/
theorem PR.sorted {w w' : World} {D : Nat → Prop} {g cap : Nat} {l qs : List PV} (h : PR w D (.slice (some ⟨g, 0, none⟩) l.length cap) l) (hp : qs.Perm l) (ho : w'.ownsRow 0 63 4 (.slice (some ⟨g, 0, none⟩) l.length cap) l.length (qs.flatMap encP)) (hg : w.grownBy w' (some g)) : PR w' D (.slice (some ⟨g, 0, none⟩) qs.length cap) qs := by
  rw [hp.length_eq]
  refine ⟨by rw [hp.length_eq]; exact ho, h.2.1, fun x hx => ?_⟩
  exact (h.2.2 x (hp.mem_iff.1 hx)).kept fun b hb hlt => hg.block b hlt fun e => hb.2 (by first | (rw [e]; done) | (rw [e]; rfl))

/-- The types of the parts. -/
def treesOf (ps : List (List UInt8 × List UInt8)) : List (List UInt8 × Tr) := ps.map fun x => (x.1, (checkK x.2).2)
/-- The first answer that is no success. -/
def badT : List (List UInt8 × List UInt8) → Nat
  | [] => 0
  | x :: r => if (checkK x.2).1 = 0 then badT r else (checkK x.2).1
/-- In the order of the names. -/
def leN (a b : List UInt8 × Tr) : Bool := !Op.bytesLess b.1 a.1
def sortN (l : List (List UInt8 × Tr)) : List (List UInt8 × Tr) := l.mergeSort leN
/-- Neighbours with one name. -/
def twin : List (List UInt8) → Bool
  | [] => false
  | [_] => false
  | a :: b :: r => a == b || twin (b :: r)
/-- What made answers. -/
def madeK (kd : Nat) (ps : List (List UInt8 × List UInt8)) : List UInt8 × Nat :=
  if ps.length = 0 ∨ 6 < ps.length ∨ ps.any (fun x => !isName x.1) = true then ([], 1) else
  if badT ps ≠ 0 then ([], badT ps) else
  if twin ((sortN (treesOf ps)).map (·.1)) then ([], 6) else
  toldK ⟨kd, [], foOf (sortN (treesOf ps))⟩
theorem treesOf_take {ps : List (List UInt8 × List UInt8)} {i : Nat} {x : List UInt8 × List UInt8} (h : ps[i]? = some x) : treesOf (ps.take (i + 1)) = treesOf (ps.take i) ++ [(x.1, (checkK x.2).2)] := by
  unfold treesOf
  rw [List.take_add_one, h]
  simp
theorem nodup_inj {α β : Type} {f : α → β} : ∀ {l : List α}, (l.map f).Nodup → ∀ {a b : α}, a ∈ l → b ∈ l → f a = f b → a = b
  | [], _, a, _, ha, _, _ => by simp at ha
  | x :: r, h, a, b, ha, hb, e => by
    rw [List.map_cons, List.nodup_cons] at h
    rcases List.mem_cons.1 ha with ea | ha
    · rcases List.mem_cons.1 hb with eb | hb
      · rw [ea, eb]
      · exact absurd (List.mem_map.2 ⟨b, hb, by rw [← e, ea]⟩) h.1
    · rcases List.mem_cons.1 hb with eb | hb
      · exact absurd (List.mem_map.2 ⟨a, ha, by rw [e, eb]⟩) h.1
      · exact nodup_inj h.2 ha hb e
theorem twin_nodup : ∀ l : List (List UInt8), l.Pairwise (fun x y => Op.bytesLess y x = false) → twin l = false → l.Nodup
  | [], _, _ => List.nodup_nil
  | [a], _, _ => by simp
  | a :: b :: r, h, ht => by
    rw [twin, Bool.or_eq_false_iff] at ht
    have hab : a ≠ b := by simpa using ht.1
    obtain ⟨h1, h2⟩ := List.pairwise_cons.1 h
    have h3 := twin_nodup (b :: r) h2 ht.2
    refine List.nodup_cons.2 ⟨fun hm => ?_, h3⟩
    rcases List.mem_cons.1 hm with e | hm
    · exact hab e
    · have h4 := h1 b (List.mem_cons_self ..)
      have h5 := (List.pairwise_cons.1 h2).1 a hm
      have h6 := less_total a b h5
      rw [h4, Bool.false_or] at h6
      exact hab (by first | simpa using h6 | exact (by simpa using h6 : b = a).symm)
theorem le_trans_b {a b c : List UInt8} (h1 : Op.bytesLess b a = false) (h2 : Op.bytesLess c b = false) : Op.bytesLess c a = false := by
  have k1 := less_total b a h1
  have k2 := less_total c b h2
  rw [Bool.or_eq_true] at k1 k2
  rcases h : Op.bytesLess c a with _ | _
  · rfl
  · exfalso
    rcases k1 with k1 | k1
    · rcases k2 with k2 | k2
      · have := less_asymm _ _ (less_trans _ _ _ k1 k2)
        rw [h] at this; simp at this
      · have e : b = c := by simpa using k2
        subst e
        rw [h] at h1; simp at h1
    · have e : a = b := by simpa using k1
      subst e
      rw [h] at h2; simp at h2
theorem sortN_pairwise (l : List (List UInt8 × Tr)) : (sortN l).Pairwise fun x y => Op.bytesLess y.1 x.1 = false := by
  have h := List.pairwise_mergeSort (le := leN) (fun a b c h1 h2 => ?_) (fun a b => ?_) l
  · refine h.imp ?_
    intro a b h
    unfold leN at h
    simpa using h
  · unfold leN at *
    rw [Bool.not_eq_true'] at *
    exact le_trans_b h1 h2
  · unfold leN
    rcases h : Op.bytesLess b.1 a.1 with _ | _
    · rfl
    · rw [less_asymm _ _ h]; rfl
/-- A sorted list of the parts has the names of the sort. -/
theorem sorted_names {l qs : List (List UInt8 × Tr)} (hp : qs.Perm l) (hs : qs.Pairwise fun x y => Op.bytesLess y.1 x.1 = false) : qs.map (·.1) = (sortN l).map (·.1) := by
  refine List.Perm.eq_of_pairwise (le := fun x y => Op.bytesLess y x = false) ?_ (List.pairwise_map.2 hs) (List.pairwise_map.2 (sortN_pairwise l)) ((hp.trans (List.mergeSort_perm l leN).symm).map _)
  intro a b _ _ h1 h2
  have h := less_total a b h2
  rw [h1, Bool.false_or] at h
  first | simpa using h | exact (by simpa using h : b = a).symm
theorem sorted_eq {l qs : List (List UInt8 × Tr)} (hp : qs.Perm l) (hs : qs.Pairwise fun x y => Op.bytesLess y.1 x.1 = false) (ht : twin (qs.map (·.1)) = false) : qs = sortN l := by
  have hn := twin_nodup _ (List.pairwise_map.2 hs) ht
  have hp2 : qs.Perm (sortN l) := hp.trans (List.mergeSort_perm l leN).symm
  refine List.Perm.eq_of_pairwise (le := fun x y => Op.bytesLess y.1 x.1 = false) ?_ hs (sortN_pairwise l) hp2
  intro a b ha hb h1 h2
  have h := less_total a.1 b.1 h2
  rw [h1, Bool.false_or] at h
  have e : a.1 = b.1 := by first | simpa using h | exact (by simpa using h : b.1 = a.1).symm
  exact nodup_inj hn ha (hp2.mem_iff.2 hb) e
theorem flat_name {l : List PV} {j : Nat} {x : PV} (h : l[j]? = some x) : (l.flatMap encP)[j * 4]? = some (str x.1) := by
  obtain ⟨hj, e⟩ := List.getElem?_eq_some_iff.1 h
  rw [flat_get l (j * 4) (by omega)]
  rw [show j * 4 / 4 = j by omega, show j * 4 % 4 = 0 by omega]
  rw [getElem!_pos l.toArray j (by simpa using hj)]
  simp only [List.getElem_toArray, e]
  rfl
theorem PR.name {w : World} {D : Nat → Prop} {g cap n : Nat} {l : List PV} (h : PR w D (.slice (some ⟨g, 0, none⟩) n cap) l) {j : Nat} {x : PV} (hx : l[j]? = some x) : w.cell? ⟨g, j * 4, none⟩ = some (str x.1) := by
  have h2 := (World.ownsRow.cells h.1 (g := g) rfl) (j * 4) _ (flat_name hx)
  by_cases h0 : j = 0
  · subst h0; simpa [Addr.add] using h2
  · have h4 : ¬ j * 4 = 0 := by omega
    simpa [Addr.add, h4, h0] using h2
theorem joinC_le (K : Nat) : ∀ l : List (List UInt8), (∀ s ∈ l, s.length ≤ K) → (joinC l).length ≤ l.length * (K + 1)
  | [], _ => by simp [joinC]
  | [a], h => by
    have := h a (by simp)
    simp [joinC]
    omega
  | a :: b :: l, h => by
    have h1 := h a (by simp)
    have h2 := joinC_le K (b :: l) fun s hs => h s (List.mem_cons_of_mem _ hs)
    simp only [joinC, List.length_append, List.length_cons] at h2 ⊢
    have h3 : (l.length + 1 + 1) * (K + 1) = (l.length + 1) * (K + 1) + (K + 1) := by rw [Nat.add_mul (l.length + 1) 1]; simp
    omega
theorem foOf_txt : ∀ l : List (List UInt8 × Tr), (foOf l).txt = l.map fun x => preN x.1 ++ x.2.txt
  | [] => rfl
  | x :: r => by rw [foOf, Fo.txt_cons, foOf_txt r]; rfl
theorem foOf_level : ∀ l : List (List UInt8 × Tr), (∀ x ∈ l, x.2.level ≤ 6) → (foOf l).level ≤ 6
  | [], _ => by simp [foOf, Fo.level]
  | x :: r, h => by
    have h1 := h x (by simp)
    have h2 := foOf_level r fun y hy => h y (List.mem_cons_of_mem _ hy)
    unfold Tr.level at h1
    rw [foOf, Fo.level]
    omega
theorem badT_zero : ∀ ps : List (List UInt8 × List UInt8), badT ps = 0 → ∀ x ∈ ps, (checkK x.2).1 = 0
  | [], _, _, hx => by simp at hx
  | y :: r, h, x, hx => by
    rw [badT] at h
    by_cases hy : (checkK y.2).1 = 0
    · rw [if_pos hy] at h
      rcases List.mem_cons.1 hx with e | hx
      · rw [e]; exact hy
      · exact badT_zero r h x hx
    · rw [if_neg hy] at h; exact absurd h hy
theorem made_bounds (kd : Nat) {ps : List (List UInt8 × List UInt8)} {qs : List (List UInt8 × Tr)} (hz : badT ps = 0) (h6 : ps.length ≤ 6) (hl : ∀ x ∈ ps, x.1.length ≤ 1000) (hp : qs.Perm (treesOf ps)) :
    (Tr.mk kd [] (foOf qs)).txt.length ≤ 1000000 ∧ (Tr.mk kd [] (foOf qs)).level ≤ 1000 := by
  have hall : ∀ y ∈ qs, y.1.length ≤ 1000 ∧ y.2.txt.length ≤ 100 ∧ y.2.level ≤ 6 := by
    intro y hy
    obtain ⟨x, hx, rfl⟩ := List.mem_map.1 (hp.mem_iff.1 hy)
    obtain ⟨_, h1, h2, h3⟩ := checkK_ok (s := x.2) (t := (checkK x.2).2) (by rw [← badT_zero ps hz x hx])
    exact ⟨hl x hx, by rw [h1]; exact h2, h3⟩
  have hql : qs.length ≤ 6 := by rw [hp.length_eq]; unfold treesOf; simpa using h6
  have hj : (joinC (foOf qs).txt).length ≤ 10000 := by
    have := joinC_le 1101 (foOf qs).txt (by
      rw [foOf_txt]
      intro s hs
      obtain ⟨y, hy, rfl⟩ := List.mem_map.1 hs
      obtain ⟨h1, h2, _⟩ := hall y hy
      rw [List.length_append]
      have : (preN y.1).length ≤ y.1.length + 1 := by unfold preN; split <;> simp
      omega)
    rw [foOf_txt, List.length_map] at this
    rw [foOf_txt]
    exact Nat.le_trans this (Nat.le_trans (Nat.mul_le_mul_right _ hql) (by decide))
  have hw : (wordK kd []).length ≤ 10 := by
    unfold wordK
    repeat' split
    all_goals decide
  refine ⟨?_, ?_⟩
  · rw [show (Tr.mk kd [] (foOf qs)).txt = (match foOf qs with | .nil => wordK kd [] | .cons pn k n sub rest => wordK kd [] ++ 91 :: (joinC (Fo.cons pn k n sub rest).txt ++ [93])) from rfl]
    split
    · omega
    · rename_i e
      rw [e] at hj
      simp only [List.length_append, List.length_cons, List.length_nil]
      omega
  · unfold Tr.level
    have := foOf_level qs fun y hy => (hall y hy).2.2
    simp only
    omega
/-- The names of the parts. -/
def nmsP (l : List PV) : List (List UInt8) := (l.map prj).map (·.1)
theorem nmsP_drop {l : List PV} {j : Nat} {x : PV} (h : l[j]? = some x) : (nmsP l).drop j = x.1 :: (nmsP l).drop (j + 1) := by
  obtain ⟨hj, e⟩ := List.getElem?_eq_some_iff.1 h
  unfold nmsP
  rw [List.map_map, List.drop_eq_getElem_cons (by simpa using hj)]
  simp [prj, e]
theorem nmsP_end {l : List PV} {j : Nat} (h : l.length ≤ j + 1) : twin ((nmsP l).drop j) = false := by
  have hl : (nmsP l).length = l.length := by simp [nmsP]
  rcases he : (nmsP l).drop j with _ | ⟨a, _ | ⟨b, r⟩⟩
  · rfl
  · rfl
  · have := congrArg List.length he
    simp at this
    omega
end Go.Proofs.YtakdmnhpoelepaaGreatDoor
