/-
  Contracts: the reference's Array, Named (argusref03), in the words of the program's contracts. Condition: the texts' length.
  The reference's way to put parts together (plain): the parts in the order of their names, the least name behind the last one. No condition.
  Contract: the reference's made, Record, Oneof (argusref03), in the words of the program's contract. Condition: the texts' length.
  The walk of the statement KindMakes: it answers true. Condition: the variable strings.asciiSpace; the texts' bound; the slice's length.
  The walk of the statement KindMakes at a slice without parts, wherever it lies. Condition: the variable strings.asciiSpace; the texts' bound.
-/
import Derived.Test.YtakdmnhpoelepaaGreatDoorRWith
import Derived.Test.YtakdmnhpoelepaaGreatDoorKArg
import Derived.Test.YtakdmnhpoelepaaGreatDoorKMade
import Derived.Test.YtakdmnhpoelepaaGreatDoorLaw0
import Derived.Test.YtakdmnhpoelepaaGreatDoorRegion
namespace Go.Proofs.YtakdmnhpoelepaaGreatDoor
open Go.RowKit

theorem toldK_same {t u : Tr} (h1 : t.txt = u.txt) (h2 : t.level = u.level) : toldK t = toldK u := by unfold toldK; rw [h1, h2]
theorem rlimited_of {t : Tr} {s : List UInt8} (h : t.ok) (e : t.txt = s) (hm : s.length ≤ maxLen) (w : World) : Calls Tryz.prog 51 #[str s] w fun e w' => e = .returned (.tuple #[str (toldK t).1, .int .i64 (toldK t).2]) ∧ Below w.heap.size w w' := by
  subst e
  exact rlimited_told h hm w
set_option maxRecDepth 4000 in
set_option maxHeartbeats 3200000 in
theorem rarray_any (s : List UInt8) (hm : s.length ≤ maxLen) (w : World) : Calls Tryz.prog 34 #[str s] w fun e w' => e = .returned (.tuple #[str (arrK s).1, .int .i64 (arrK s).2]) ∧ Below w.heap.size w w' := by
  have hC := fun W => rcheck_any s hm W
  unfold arrK
  rcases hq : checkK s with ⟨c, T⟩
  rw [hq] at hC
  simp only at hC ⊢
  by_cases h0 : c = 0
  · subst h0
    rw [if_pos rfl]
    obtain ⟨o1, e1, l1, _⟩ := checkK_ok hq
    have hX : (Tr.mk 4 wArray (.one T)).ok := Wf.arr _ o1
    have ht : (Tr.mk 4 wArray (.one T)).txt = 97 :: 114 :: 114 :: 97 :: 121 :: 91 :: (s ++ [93]) := by rw [one_txt, e1]; rfl
    have hL := fun W => rlimited_of hX ht (by simp; unfold maxLen; omega) W
    rw [toldK_same (t := ⟨4, wArray, .one T⟩) (u := ⟨4, [], .one T⟩) (by rw [one_txt, one_txt]; rfl) rfl] at hL
    generalize (toldK ⟨4, [], .one T⟩).1 = R at hL ⊢
    generalize (toldK ⟨4, [], .one T⟩).2 = E at hL ⊢
    have b1 : ¬ 9223372036854775807 < 6 + s.length := by omega
    have b2 : ¬ 9223372036854775807 < 6 + s.length + 1 := by omega
    clear hq o1 e1 hX ht
    go_enter Tryz.func34, Tryz.ntmps34
    go_wp2_with (first
      | (go_at_call 32; refine (hC _).mono ?_; clear hC; rintro e w1 ⟨rfl, hb1⟩)
      | (go_at_call 51; refine (hL _).mono ?_; clear hL; rintro e w2 ⟨rfl, hb2⟩))
    go_ret2
    exact ⟨rfl, hb1.trans (below_less hb2 hb1.size)⟩
  · rw [if_neg h0]
    obtain ⟨g1, g2⟩ := nat_ne0 h0
    clear hq h0
    go_enter Tryz.func34, Tryz.ntmps34
    go_wp2_with (go_at_call 32; refine (hC _).mono ?_; clear hC; rintro e w1 ⟨rfl, hb1⟩)
    go_ret2
    exact ⟨rfl, hb1⟩
set_option maxRecDepth 4000 in
set_option maxHeartbeats 3200000 in
theorem rnamed_any (n s : List UInt8) (hn : n.length ≤ maxLen) (hm : s.length ≤ maxLen) (w : World) : Calls Tryz.prog 36 #[str n, str s] w fun e w' => e = .returned (.tuple #[str (namK n s).1, .int .i64 (namK n s).2]) ∧ Below w.heap.size w w' := by
  have HN := fun W => rIsName_any n W hn
  have hC := fun W => rcheck_any s hm W
  unfold namK
  rcases hi : isName n with _ | _
  · rw [hi] at HN
    rw [if_neg (by simp)]
    clear hi hC
    go_enter Tryz.func36, Tryz.ntmps36
    go_wp2_with (go_at_call 66; refine (HN _).mono ?_; clear HN; rintro e w1 ⟨rfl, hb0⟩)
    go_ret2
    exact ⟨rfl, hb0⟩
  · have hle := name_small hi
    rw [hi] at HN
    rw [if_pos rfl]
    by_cases he : s = []
    · subst he
      rw [if_pos rfl]
      clear hi hC
      go_enter Tryz.func36, Tryz.ntmps36
      go_wp2_with (go_at_call 66; refine (HN _).mono ?_; clear HN; rintro e w1 ⟨rfl, hb0⟩)
      go_ret2
      exact ⟨rfl, hb0⟩
    · rw [if_neg he]
      have he' : (s == []) = false := by simpa using he
      rcases hq : checkK s with ⟨c, T⟩
      rw [hq] at hC
      simp only at hC ⊢
      by_cases h0 : c = 0
      · subst h0
        rw [if_pos rfl]
        obtain ⟨o1, e1, l1, _⟩ := checkK_ok hq
        have hX : (Tr.mk 7 n (.one T)).ok := Wf.app _ _ hi o1
        have ht : (Tr.mk 7 n (.one T)).txt = n ++ 91 :: (s ++ [93]) := by rw [one_txt, e1]; rfl
        have hL := fun W => rlimited_of hX ht (by simp; unfold maxLen; omega) W
        generalize (toldK ⟨7, n, .one T⟩).1 = R at hL ⊢
        generalize (toldK ⟨7, n, .one T⟩).2 = E at hL ⊢
        have b1 : ¬ 9223372036854775807 < n.length + 1 := by omega
        have b2 : ¬ 9223372036854775807 < n.length + 1 + s.length := by omega
        have b3 : ¬ 9223372036854775807 < n.length + 1 + s.length + 1 := by omega
        have b4 : ¬ 9223372036854775807 < n.length + (s.length + 1) + 1 := by omega
        clear hq o1 e1 hX ht hi he
        go_enter Tryz.func36, Tryz.ntmps36
        go_wp2_with (first
          | (go_at_call 66; refine (HN _).mono ?_; clear HN; rintro e w0 ⟨rfl, hb0⟩)
          | (go_at_call 32; refine (hC _).mono ?_; clear hC; rintro e w1 ⟨rfl, hb1⟩)
          | (go_at_call 51; refine (hL _).mono ?_; clear hL; rintro e w2 ⟨rfl, hb2⟩))
        go_ret2
        have hbA := hb0.trans (below_less hb1 hb0.size)
        exact ⟨rfl, hbA.trans (below_less hb2 hbA.size)⟩
      · rw [if_neg h0]
        obtain ⟨g1, g2⟩ := nat_ne0 h0
        clear hq h0 hi he
        go_enter Tryz.func36, Tryz.ntmps36
        go_wp2_with (first
          | (go_at_call 66; refine (HN _).mono ?_; clear HN; rintro e w0 ⟨rfl, hb0⟩)
          | (go_at_call 32; refine (hC _).mono ?_; clear hC; rintro e w1 ⟨rfl, hb1⟩))
        go_ret2
        exact ⟨rfl, hb0.trans (below_less hb1 hb0.size)⟩
end Go.Proofs.YtakdmnhpoelepaaGreatDoor

namespace Go.Proofs.YtakdmnhpoelepaaGreatDoor

/-- The text of a part. -/
def partT (x : List UInt8 × List UInt8) : List UInt8 := x.1 ++ 58 :: x.2
theorem twin_dup : ∀ l : List (List UInt8), twin l = true → ¬ l.Nodup
  | [], h, _ => by simp [twin] at h
  | [_], h, _ => by simp [twin] at h
  | a :: b :: r, h, hn => by
    rw [twin, Bool.or_eq_true] at h
    obtain ⟨h1, h2⟩ := List.nodup_cons.1 hn
    rcases h with h | h
    · have : a = b := by simpa using h
      exact h1 (by rw [this]; simp)
    · exact twin_dup (b :: r) h h2
theorem asc_nodup {l : List (List UInt8 × Tr)} (h : l.Pairwise fun x y => Op.bytesLess x.1 y.1 = true) : (l.map (·.1)).Nodup := by
  unfold List.Nodup
  rw [List.pairwise_map]
  exact h.imp fun {a b} h e => by rw [e, less_irrefl] at h; simp at h
theorem sorted_strict : ∀ l : List (List UInt8 × Tr), (l.Pairwise fun a b => leN a b = true) → twin (l.map (·.1)) = false → l.Pairwise fun x y => Op.bytesLess x.1 y.1 = true
  | [], _, _ => List.Pairwise.nil
  | [_], _, _ => List.pairwise_singleton _ _
  | a :: b :: r, h, ht => by
    obtain ⟨h1, h2⟩ := List.pairwise_cons.1 h
    simp only [List.map_cons, twin, Bool.or_eq_false_iff] at ht
    have ih := sorted_strict (b :: r) h2 ht.2
    have hab : Op.bytesLess a.1 b.1 = true := by
      have hle := h1 b (by simp)
      unfold leN at hle
      have g : Op.bytesLess b.1 a.1 = false := by simpa using hle
      have := less_total _ _ g
      rw [Bool.or_eq_true] at this
      rcases this with h | h
      · exact h
      · rw [h] at ht; simp at ht
    rw [List.pairwise_cons]
    refine ⟨fun c hc => ?_, ih⟩
    rcases List.mem_cons.1 hc with rfl | hc
    · exact hab
    · exact less_trans _ _ _ hab ((List.pairwise_cons.1 ih).1 c hc)
theorem leN_tr (a b c : List UInt8 × Tr) (h1 : leN a b = true) (h2 : leN b c = true) : leN a c = true := by
  unfold leN at *
  rcases h : Op.bytesLess c.1 a.1 with _ | _
  · rfl
  · rcases hb : Op.bytesLess b.1 a.1 with _ | _
    · rcases hc : Op.bytesLess c.1 b.1 with _ | _
      · exfalso
        have e1 := less_total _ _ hb
        have e2 := less_total _ _ hc
        rw [Bool.or_eq_true] at e1 e2
        have key : a.1 = b.1 ∨ Op.bytesLess a.1 b.1 = true := by rcases e1 with e | e; exact .inr e; exact .inl (by simpa using e)
        have key2 : b.1 = c.1 ∨ Op.bytesLess b.1 c.1 = true := by rcases e2 with e | e; exact .inr e; exact .inl (by simpa using e)
        have hac : a.1 = c.1 ∨ Op.bytesLess a.1 c.1 = true := by
          rcases key with k | k <;> rcases key2 with m | m
          · exact .inl (k.trans m)
          · rw [k]; exact .inr m
          · rw [← m]; exact .inr k
          · exact .inr (less_trans _ _ _ k m)
        rcases hac with e | e
        · rw [e, less_irrefl] at h; simp at h
        · rw [less_asymm _ _ e] at h; simp at h
      · rw [hc] at h2; simp at h2
    · rw [hb] at h1; simp at h1
theorem leN_tot (a b : List UInt8 × Tr) : (leN a b || leN b a) = true := by
  unfold leN
  rcases h : Op.bytesLess b.1 a.1 with _ | _
  · rfl
  · rw [less_asymm _ _ h]; rfl
theorem sortN_perm (l : List (List UInt8 × Tr)) : (sortN l).Perm l := List.mergeSort_perm _ _
theorem sortN_sorted (l : List (List UInt8 × Tr)) : (sortN l).Pairwise fun a b => leN a b = true := List.pairwise_mergeSort leN_tr leN_tot _
theorem treesOf_names (ps : List (List UInt8 × List UInt8)) : (treesOf ps).map (·.1) = ps.map (·.1) := by
  unfold treesOf
  rw [List.map_map]
  rfl
/-- Two parts have one name just where neighbours have. -/
theorem twin_names (ps : List (List UInt8 × List UInt8)) : twin ((sortN (treesOf ps)).map (·.1)) = true ↔ ¬ (ps.map (·.1)).Nodup := by
  have hp : ((sortN (treesOf ps)).map (·.1)).Perm (ps.map (·.1)) := by
    rw [← treesOf_names]
    exact (sortN_perm _).map _
  constructor
  · intro h hn
    exact twin_dup _ h (hp.nodup_iff.2 hn)
  · intro h
    rcases ht : twin ((sortN (treesOf ps)).map (·.1)) with _ | _
    · exact absurd (hp.nodup_iff.1 (asc_nodup (sorted_strict _ (sortN_sorted _) ht))) h
    · exact ht
theorem foOf_wf : ∀ (l : List (List UInt8 × Tr)) (b : List UInt8), l ≠ [] → (∀ x ∈ l, isName x.1 = true ∧ x.2.ok ∧ Op.bytesLess b x.1 = true) → (l.Pairwise fun x y => Op.bytesLess x.1 y.1 = true) → Wf (some b) (foOf l)
  | [], _, h, _, _ => absurd rfl h
  | [x], b, _, h, _ => by
    obtain ⟨h1, h2, h3⟩ := h x (by simp)
    exact .last _ _ _ _ _ h1 h3 h2
  | x :: y :: r, b, _, h, hp => by
    obtain ⟨h1, h2, h3⟩ := h x (by simp)
    obtain ⟨p1, p2⟩ := List.pairwise_cons.1 hp
    exact .more _ _ _ _ _ _ h1 h3 h2 (foOf_wf (y :: r) x.1 (by simp) (fun z hz => ⟨(h z (List.mem_cons_of_mem _ hz)).1, (h z (List.mem_cons_of_mem _ hz)).2.1, p1 z hz⟩) p2)
theorem foOf_txt2 : ∀ l : List (List UInt8 × Tr), (foOf l).txt = l.map fun x => preN x.1 ++ x.2.txt
  | [] => rfl
  | x :: r => by
    rw [foOf, Fo.txt_cons, foOf_txt2 r]
    rfl
/-- All is well: what madeK gives, and the parts in order. -/
theorem made_text {kd : Nat} {w : List UInt8} {ps : List (List UInt8 × List UInt8)} (hk : kd = 5 ∧ w = wRecord ∨ kd = 6 ∧ w = wOneof) (h0 : ps.length ≠ 0) (h6 : ps.length ≤ 6) (hn : ps.any (fun x => !isName x.1) = false) (hb : badT ps = 0) (hd : (ps.map (·.1)).Nodup) :
    ∃ (X : Tr) (Q : List (List UInt8 × List UInt8)), X.ok ∧ madeK kd ps = toldK X ∧ X.txt = w ++ 91 :: (joinC (Q.map partT) ++ [93]) ∧ Q.Perm ps ∧ (Q.Pairwise fun x y => Op.bytesLess x.1 y.1 = true) ∧ (∀ x ∈ ps, isName x.1 = true ∧ x.2.length ≤ 100) := by
  have htw : twin ((sortN (treesOf ps)).map (·.1)) = false := by
    rcases ht : twin ((sortN (treesOf ps)).map (·.1)) with _ | _
    · exact ht
    · exact absurd hd ((twin_names ps).1 ht)
  have hasc := sorted_strict _ (sortN_sorted _) htw
  have hperm := sortN_perm (treesOf ps)
  have hall : ∀ x ∈ ps, isName x.1 = true ∧ ∃ t, checkK x.2 = (0, t) := by
    intro x hx
    constructor
    · rcases hi : isName x.1 with _ | _
      · exfalso
        have : ps.any (fun x => !isName x.1) = true := List.any_eq_true.2 ⟨x, hx, by rw [hi]; rfl⟩
        rw [hn] at this
        simp at this
      · rfl
    · exact ⟨(checkK x.2).2, by rw [← badT_zero ps hb x hx]⟩
  have hS : ∀ y ∈ sortN (treesOf ps), isName y.1 = true ∧ y.2.ok := by
    intro y hy
    obtain ⟨x, hx, rfl⟩ := List.mem_map.1 (hperm.mem_iff.1 hy)
    obtain ⟨h1, t, h2⟩ := hall x hx
    refine ⟨h1, ?_⟩
    show (checkK x.2).2.ok
    rw [h2]
    exact (checkK_ok h2).1
  have hlen : (sortN (treesOf ps)).length = ps.length := by rw [hperm.length_eq]; unfold treesOf; rw [List.length_map]
  have hQ : ((sortN (treesOf ps)).map fun x => (x.1, x.2.txt)).Perm ps := by
    refine (hperm.map _).trans (List.Perm.of_eq ?_)
    unfold treesOf
    rw [List.map_map]
    refine (List.map_congr_left fun x hx => ?_).trans (List.map_id _)
    obtain ⟨_, t, h2⟩ := hall x hx
    simp only [Function.comp, id_eq]
    rw [h2, (checkK_ok h2).2.1]
  have hwf : Wf (some []) (foOf (sortN (treesOf ps))) := by
    refine foOf_wf _ [] (fun e => ?_) (fun x hx => ⟨(hS x hx).1, (hS x hx).2, ?_⟩) hasc
    · rw [e] at hlen; exact h0 hlen.symm
    · have := name_ne (hS x hx).1
      cases hx1 : x.1 with
      | nil => exact absurd hx1 this
      | cons => rfl
  refine ⟨⟨kd, w, foOf (sortN (treesOf ps))⟩, _, ?_, ?_, ?_, hQ, ?_, ?_⟩
  · exact Wf.rcd kd w _ hk hwf (by rw [foOf_len, hlen]; exact h6)
  · unfold madeK
    rw [if_neg (by rintro (h | h | h); exact h0 h; omega; rw [hn] at h; simp at h), if_neg (by simp [hb]), htw, if_neg (by simp)]
    unfold toldK
    have hne : (foOf (sortN (treesOf ps))).len ≠ 0 := by rw [foOf_len, hlen]; exact h0
    have e : Tr.txt ⟨kd, [], foOf (sortN (treesOf ps))⟩ = Tr.txt ⟨kd, w, foOf (sortN (treesOf ps))⟩ := by
      rw [txt_br hne, txt_br hne]
      rcases hk with ⟨rfl, rfl⟩ | ⟨rfl, rfl⟩ <;> rfl
    rw [e]
    rfl
  · have hne : (foOf (sortN (treesOf ps))).len ≠ 0 := by rw [foOf_len, hlen]; exact h0
    rw [txt_br hne]
    have e : wordK kd w = w := by rcases hk with ⟨rfl, rfl⟩ | ⟨rfl, rfl⟩ <;> rfl
    rw [e]
    unfold Fo.tx
    rw [foOf_txt2, List.map_map]
    congr 3
    refine congrArg joinC (List.map_congr_left fun x hx => ?_)
    simp only [Function.comp, partT]
    rw [preN_name (hS x hx).1]
    simp
  · exact List.pairwise_map.2 hasc
  · intro x hx
    obtain ⟨h1, t, h2⟩ := hall x hx
    exact ⟨h1, (checkK_ok h2).2.2.1⟩

/-! ### The least name behind the last one -/
/-- What is found among the first i parts. -/
def Pick (ps : List (List UInt8 × List UInt8)) (bf : List UInt8) (i : Nat) : Option Nat → Prop
  | none => ∀ x (_ : x < ps.length), x < i → Op.bytesLess bf ps[x].1 = false
  | some m => ∃ _ : m < ps.length, m < i ∧ Op.bytesLess bf ps[m].1 = true ∧ ∀ x (_ : x < ps.length), x < i → Op.bytesLess bf ps[x].1 = true → Op.bytesLess ps[x].1 ps[m].1 = false
/-- The number that stands for it. -/
def pickI : Option Nat → Int
  | none => -1
  | some m => m
section
variable {ps : List (List UInt8 × List UInt8)} {bf : List UInt8} {i : Nat}
theorem Pick.start : Pick ps bf 0 none := fun x _ h => by omega
theorem Pick.no {nx : Option Nat} (h : Pick ps bf i nx) (hi : i < ps.length) (hl : Op.bytesLess bf ps[i].1 = false) : Pick ps bf (i + 1) nx := by
  cases nx with
  | none =>
    intro x hx hxi
    by_cases e : x = i
    · subst e; exact hl
    · exact h x hx (by omega)
  | some m =>
    obtain ⟨hm, h1, h2, h3⟩ := h
    refine ⟨hm, by omega, h2, fun x hx hxi hb => ?_⟩
    by_cases e : x = i
    · subst e; rw [hl] at hb; simp at hb
    · exact h3 x hx (by omega) hb
theorem Pick.first (h : Pick ps bf i none) (hi : i < ps.length) (hl : Op.bytesLess bf ps[i].1 = true) : Pick ps bf (i + 1) (some i) := by
  refine ⟨hi, by omega, hl, fun x hx hxi hb => ?_⟩
  by_cases e : x = i
  · subst e; exact less_irrefl _
  · rw [h x hx (by omega)] at hb; simp at hb
theorem Pick.better {m : Nat} (h : Pick ps bf i (some m)) (hi : i < ps.length) (hl : Op.bytesLess bf ps[i].1 = true) (hm : m < ps.length) (hb : Op.bytesLess ps[i].1 ps[m].1 = true) : Pick ps bf (i + 1) (some i) := by
  obtain ⟨_, h1, h2, h3⟩ := h
  refine ⟨hi, by omega, hl, fun x hx hxi hbx => ?_⟩
  by_cases e : x = i
  · subst e; exact less_irrefl _
  · rcases hxi2 : Op.bytesLess ps[x].1 ps[i].1 with _ | _
    · rfl
    · have := less_trans _ _ _ hxi2 hb
      rw [h3 x hx (by omega) hbx] at this
      simp at this
theorem Pick.same {m : Nat} (h : Pick ps bf i (some m)) (hi : i < ps.length) (hm : m < ps.length) (hb : Op.bytesLess ps[i].1 ps[m].1 = false) : Pick ps bf (i + 1) (some m) := by
  obtain ⟨_, h1, h2, h3⟩ := h
  refine ⟨hm, by omega, h2, fun x hx hxi hbx => ?_⟩
  by_cases e : x = i
  · subst e; exact hb
  · exact h3 x hx (by omega) hbx
end
/-- The name behind which the next one is looked for. -/
def befQ (Q : List (List UInt8 × List UInt8)) : Nat → List UInt8
  | 0 => []
  | j + 1 => (Q[j]?.getD ([], [])).1
theorem befQ_succ {Q : List (List UInt8 × List UInt8)} {j : Nat} (h : j < Q.length) : befQ Q (j + 1) = Q[j].1 := by simp [befQ, h]
/-- What is found is the next part. -/
theorem pick_next {ps Q : List (List UInt8 × List UInt8)} {j : Nat} {nx : Option Nat} (hQ : Q.Perm ps) (ha : Q.Pairwise fun x y => Op.bytesLess x.1 y.1 = true) (hn : ∀ x ∈ ps, isName x.1 = true) (hj : j < Q.length) (h : Pick ps (befQ Q j) ps.length nx) :
    ∃ m, nx = some m ∧ ∃ hm : m < ps.length, ps[m] = Q[j] := by
  have hlt : ∀ i (hi : i < Q.length), j ≤ i → Op.bytesLess (befQ Q j) Q[i].1 = true := by
    intro i hi hji
    cases j with
    | zero =>
      have := name_ne (hn _ (hQ.mem_iff.1 (List.getElem_mem hi)))
      show Op.bytesLess [] Q[i].1 = true
      cases hq : Q[i].1 with
      | nil => exact absurd hq this
      | cons => rfl
    | succ j =>
      rw [befQ_succ (by omega)]
      exact List.pairwise_iff_getElem.1 ha j i (by omega) hi (by omega)
  have hge : ∀ i (hi : i < Q.length), Op.bytesLess (befQ Q j) Q[i].1 = true → j ≤ i := by
    intro i hi hb
    cases j with
    | zero => omega
    | succ j =>
      rw [befQ_succ (by omega)] at hb
      rcases Nat.lt_trichotomy i j with h1 | h1 | h1
      · rw [less_asymm _ _ (List.pairwise_iff_getElem.1 ha i j hi (by omega) h1)] at hb; simp at hb
      · subst h1; rw [less_irrefl] at hb; simp at hb
      · omega
  obtain ⟨x, hx, ex⟩ := List.getElem_of_mem (hQ.mem_iff.1 (List.getElem_mem hj))
  have hbx : Op.bytesLess (befQ Q j) ps[x].1 = true := by rw [ex]; exact hlt j hj (Nat.le_refl _)
  cases nx with
  | none =>
    rw [h x hx hx] at hbx
    simp at hbx
  | some m =>
    obtain ⟨hm, _, h2, h3⟩ := h
    refine ⟨m, rfl, hm, ?_⟩
    obtain ⟨i, hi, ei⟩ := List.getElem_of_mem (hQ.mem_iff.2 (List.getElem_mem hm))
    rw [← ei] at h2 ⊢
    have hji := hge i hi h2
    rcases Nat.lt_or_ge j i with h4 | h4
    · have h5 := List.pairwise_iff_getElem.1 ha j i hj hi h4
      have h6 := h3 x hx hx hbx
      rw [ex, ← ei, h5] at h6
      simp at h6
    · have : i = j := by omega
      subst this
      rfl
theorem joinC_snoc : ∀ (l : List (List UInt8)) (a : List UInt8), l ≠ [] → joinC (l ++ [a]) = joinC l ++ 44 :: a
  | [], _, h => absurd rfl h
  | [b], a, _ => rfl
  | b :: c :: l, a, _ => by
    have := joinC_snoc (c :: l) a (by simp)
    rw [List.cons_append] at this
    rw [List.cons_append, List.cons_append, joinC, this]
    simp [joinC]
theorem take_text {Q : List (List UInt8 × List UInt8)} {j : Nat} (h : j < Q.length) : joinC ((Q.take (j + 1)).map partT) = (if j = 0 then [] else joinC ((Q.take j).map partT) ++ [44]) ++ (Q[j].1 ++ 58 :: Q[j].2) := by
  rw [List.take_succ_eq_append_getElem h, List.map_append, List.map_cons, List.map_nil]
  by_cases hj : j = 0
  · subst hj
    simp [joinC, partT]
  · rw [if_neg hj, joinC_snoc _ _ (by
      intro e
      have := congrArg List.length e
      simp only [List.length_map, List.length_take, List.length_nil] at this
      omega)]
    simp [partT]
end Go.Proofs.YtakdmnhpoelepaaGreatDoor

namespace Go.Proofs.YtakdmnhpoelepaaGreatDoor
open Go.RowKit

theorem madeK_arg {kd : Nat} {ps : List (List UInt8 × List UInt8)} (h : ps.length = 0 ∨ 6 < ps.length ∨ ps.any (fun x => !isName x.1) = true) : madeK kd ps = ([], 1) := by unfold madeK; rw [if_pos h]
theorem madeK_bad {kd : Nat} {ps : List (List UInt8 × List UInt8)} (h0 : ps.length ≠ 0) (h6 : ps.length ≤ 6) (hn : ps.any (fun x => !isName x.1) = false) (hb : badT ps ≠ 0) : madeK kd ps = ([], badT ps) := by
  unfold madeK
  rw [if_neg (by rintro (h | h | h); exact h0 h; omega; rw [hn] at h; simp at h), if_pos hb]
theorem madeK_twice {kd : Nat} {ps : List (List UInt8 × List UInt8)} (h0 : ps.length ≠ 0) (h6 : ps.length ≤ 6) (hn : ps.any (fun x => !isName x.1) = false) (hb : badT ps = 0) (hd : ¬ (ps.map (·.1)).Nodup) : madeK kd ps = ([], 6) := by
  unfold madeK
  rw [if_neg (by rintro (h | h | h); exact h0 h; omega; rw [hn] at h; simp at h), if_neg (by simp [hb]), (twin_names ps).2 hd, if_pos rfl]
theorem any_take {ps : List (List UInt8 × List UInt8)} {i : Nat} (hi : i < ps.length) (h : (ps.take i).any (fun x => !isName x.1) = false) (hx : isName ps[i].1 = true) : (ps.take (i + 1)).any (fun x => !isName x.1) = false := by
  rw [List.take_succ_eq_append_getElem hi, List.any_append, h]
  simp [hx]
theorem any_hit {ps : List (List UInt8 × List UInt8)} {i : Nat} (hi : i < ps.length) (hx : isName ps[i].1 = false) : ps.any (fun x => !isName x.1) = true := List.any_eq_true.2 ⟨ps[i], List.getElem_mem hi, by rw [hx]; rfl⟩
theorem badT_step {ps : List (List UInt8 × List UInt8)} {i : Nat} (hi : i < ps.length) (h : badT ps = badT (ps.drop i)) (hx : (checkK ps[i].2).1 = 0) : badT ps = badT (ps.drop (i + 1)) := by
  rw [h, List.drop_eq_getElem_cons hi, badT, if_pos hx]
theorem badT_hit {ps : List (List UInt8 × List UInt8)} {i : Nat} (hi : i < ps.length) (h : badT ps = badT (ps.drop i)) (hx : (checkK ps[i].2).1 ≠ 0) : badT ps = (checkK ps[i].2).1 := by
  rw [h, List.drop_eq_getElem_cons hi, badT, if_neg hx]
theorem blwM {B : Nat} {a w : World} (h : Below B a w) (n : Nat) : Below B a (w.drewN n) := h.trans ⟨rfl, rfl, rfl, Nat.le_refl _, fun _ _ => rfl⟩
theorem names_nodup {ps : List (List UInt8 × List UInt8)} (h : ∀ b (hb : b < ps.length) a (ha : a < b), (ps[a]'(by omega)).1 ≠ ps[b].1) : (ps.map (·.1)).Nodup := by
  unfold List.Nodup
  rw [List.pairwise_map, List.pairwise_iff_getElem]
  intro a b ha hb hab
  exact h b hb a hab
theorem names_dup {ps : List (List UInt8 × List UInt8)} {a b : Nat} (hb : b < ps.length) (ha : a < b) (h : (ps[a]'(by omega)).1 = ps[b].1) : ¬ (ps.map (·.1)).Nodup := by
  intro hn
  unfold List.Nodup at hn
  rw [List.pairwise_map, List.pairwise_iff_getElem] at hn
  exact hn a b (by omega) hb ha h
/-- A part in memory. -/
theorem Pts.at2 {w : World} {p : Option Addr} {c : Nat} {ps : List (List UInt8 × List UInt8)} (h : Pts w (.slice p ps.length c) ps) {j : Nat} (hj : j < ps.length) : ∃ b o, p = some ⟨b, o, none⟩ ∧ w.cell? ⟨b, o + j * 2, none⟩ = some (str ps[j].1) ∧ w.cell? ⟨b, o + j * 2 + 1, none⟩ = some (str ps[j].2) := by
  obtain ⟨b, o, c', x, he, hx, d1, d2⟩ := h.at hj
  injection he with h1 h2 h3
  rw [List.getElem?_eq_getElem hj] at hx
  injection hx with hx
  subst hx
  exact ⟨b, o, h1, d1, d2⟩

set_option maxRecDepth 8000 in
set_option maxHeartbeats 12800000 in
theorem rmade_any (kd : Nat) (wd : List UInt8) (hk : kd = 5 ∧ wd = wRecord ∨ kd = 6 ∧ wd = wOneof) (ps : List (List UInt8 × List UInt8)) (v : Value) (w : World) (hv : Pts w v ps) (hlen : ps.length ≤ 1000) (hsm : ∀ x ∈ ps, x.1.length ≤ 1000 ∧ x.2.length ≤ 1000) :
    Calls Tryz.prog 68 #[str wd, v] w fun e w' => e = .returned (.tuple #[str (madeK kd ps).1, .int .i64 (madeK kd ps).2]) ∧ Below w.heap.size w w' := by
  obtain ⟨p, c, rfl⟩ := hv.shape
  have hwl : wd.length ≤ 6 := by rcases hk with ⟨_, rfl⟩ | ⟨_, rfl⟩ <;> decide
  by_cases hl0 : ps.length = 0
  · have HE := Lib.hid (madeK_arg (kd := kd) (.inl hl0))
    have g : decide (ps.length < 1) = true := by rw [decide_eq_true_eq]; omega
    go_enter Tryz.func68, Tryz.ntmps68
    go_wp2_with fail
    go_ret2
    rw [HE.out]
    exact ⟨rfl, Below.refl _ _⟩
  by_cases hl6 : 6 < ps.length
  · have HE := Lib.hid (madeK_arg (kd := kd) (.inr (.inl hl6)))
    have g : (1 : Int) ≤ (ps.length : Int) := by omega
    have g2 : (6 : Int) < (ps.length : Int) := by omega
    go_enter Tryz.func68, Tryz.ntmps68
    go_wp2_with fail
    go_ret2
    rw [HE.out]
    exact ⟨rfl, Below.refl _ _⟩
  have hl6' : ps.length ≤ 6 := by omega
  have h1 : 1 ≤ ps.length := by omega
  have HSM := Lib.hid hsm
  have HK := Lib.hid hk
  clear hl6 hlen hsm hk
  go_enter Tryz.func68, Tryz.ntmps68
  go_wp2_with fail
  go_loopw [6] (fun y wr => ∃ i : Nat, i ≤ ps.length ∧ y = .int .i64 i ∧ Hid ((ps.take i).any (fun x => !isName x.1) = false) ∧ Below w.heap.size w wr) (fun y _ => ps.length - (intOf y).toNat)
  case atStart => exact ⟨0, Nat.zero_le _, by go_num, rfl, Below.refl _ _⟩
  case round =>
    obtain ⟨i, hi, rfl, HA, hb⟩ := hrel
    by_cases hlt : i < ps.length
    case pos =>
      obtain ⟨b, o, rfl, d1, d2⟩ := (hv.below hb).at2 hlt
      have hx := HSM.out ps[i] (List.getElem_mem hlt)
      have hI := fun W => rIsName_any ps[i].1 W (by unfold maxLen; omega)
      rcases hn : isName ps[i].1 with _ | _
      · have HE := Lib.hid (madeK_arg (kd := kd) (.inr (.inr (any_hit hlt hn))))
        rw [hn] at hI
        clear hn
        go_wp2_with (go_at_call 66; refine (hI _).mono ?_; rintro e w1 ⟨rfl, hb1⟩)
        go_ret2
        rw [HE.out]
        exact ⟨rfl, hb.trans (below_less hb1 hb.size)⟩
      · have HS := Lib.hid (any_take hlt HA.out hn)
        rw [hn] at hI
        clear hn
        go_wp2_with (go_at_call 66; refine (hI _).mono ?_; rintro e w1 ⟨rfl, hb1⟩)
        exact ⟨⟨i + 1, hlt, by go_num, HS.out, hb.trans (below_less hb1 hb.size)⟩, by simp only [intOf]; omega⟩
    case neg =>
      have HN : Hid (ps.any (fun x => !isName x.1) = false) := by
        have := HA.out
        rw [List.take_of_length_le (by omega)] at this
        exact this
      clear HA
      go_wp2_with fail
      go_loopw [8] (fun y wx => ∃ i : Nat, i ≤ ps.length ∧ y = .int .i64 i ∧ Hid (badT ps = badT (ps.drop i)) ∧ Below w.heap.size w wx) (fun y _ => ps.length - (intOf y).toNat)
      case atStart => exact ⟨0, Nat.zero_le _, by go_num, rfl, hb⟩
      case round =>
        clear hb
        obtain ⟨i2, hi2, rfl, HB, hb⟩ := hrel
        by_cases hlt2 : i2 < ps.length
        case pos =>
          obtain ⟨b, o, rfl, d1, d2⟩ := (hv.below hb).at2 hlt2
          have hx := HSM.out ps[i2] (List.getElem_mem hlt2)
          have hC := fun W => rcheck_any ps[i2].2 (by unfold maxLen; omega) W
          by_cases h0 : (checkK ps[i2].2).1 = 0
          · have HS := Lib.hid (badT_step hlt2 HB.out h0)
            rw [h0] at hC
            clear h0
            go_wp2_with (go_at_call 32; refine (hC _).mono ?_; rintro e w1 ⟨rfl, hb1⟩)
            exact ⟨⟨i2 + 1, hlt2, by go_num, HS.out, hb.trans (below_less hb1 hb.size)⟩, by simp only [intOf]; omega⟩
          · have hbt := badT_hit hlt2 HB.out h0
            have HE := Lib.hid (madeK_bad (kd := kd) hl0 hl6' HN.out (by rw [hbt]; exact h0))
            have HBT := Lib.hid hbt
            obtain ⟨g1, g2⟩ := nat_ne0 h0
            clear hbt h0
            generalize (checkK ps[i2].2).1 = C at hC g1 g2 HBT
            go_wp2_with (go_at_call 32; refine (hC _).mono ?_; rintro e w1 ⟨rfl, hb1⟩)
            go_ret2
            rw [HE.out, HBT.out]
            exact ⟨rfl, hb.trans (below_less hb1 hb.size)⟩
        case neg =>
          have HZ : Hid (badT ps = 0) := by
            have := HB.out
            rw [List.drop_of_length_le (by omega)] at this
            exact this
          clear HB
          go_wp2_with fail
          go_loopw [10] (fun y wx => ∃ i : Nat, i ≤ ps.length ∧ y = .int .i64 i ∧ Hid (∀ b (hb : b < ps.length) a (ha : a < b), b < i → (ps[a]'(by omega)).1 ≠ ps[b].1) ∧ Below w.heap.size w wx) (fun y _ => ps.length - (intOf y).toNat)
          case atStart => exact ⟨0, Nat.zero_le _, by go_num, fun b hb a ha h => by omega, hb⟩
          case round =>
            clear hb
            obtain ⟨i3, hi3, rfl, HD, hb⟩ := hrel
            by_cases hlt3 : i3 < ps.length
            case pos =>
              go_wp2_with fail
              go_loopw [11] (fun y wx => ∃ k : Nat, k ≤ i3 ∧ y = .int .i64 k ∧ Hid (∀ a (ha : a < k), a < i3 → (ps[a]?.getD ([], [])).1 ≠ ps[i3].1) ∧ Below w.heap.size w wx) (fun y _ => i3 - (intOf y).toNat)
              case atStart => exact ⟨0, Nat.zero_le _, by go_num, fun a ha => by omega, hb⟩
              case round =>
                clear hb
                obtain ⟨k, hk, rfl, HKK, hb⟩ := hrel
                by_cases hki : k < i3
                case pos =>
                  have hkl : k < ps.length := by omega
                  obtain ⟨b, o, rfl, d1, d2⟩ := (hv.below hb).at2 hkl
                  obtain ⟨b', o', hbe, e1, e2⟩ := (hv.below hb).at2 hlt3
                  injection hbe with hbe
                  injection hbe with q1 q2
                  subst q1 q2
                  by_cases heq : ps[k].1 = ps[i3].1
                  · have HE := Lib.hid (madeK_twice (kd := kd) hl0 hl6' HN.out HZ.out (names_dup hlt3 hki heq))
                    have g : (ps[k].1 == ps[i3].1) = true := by simpa using heq
                    clear heq
                    go_upto_region 21 with fail
                    go_quiet (fail)
                    go_wp2_with fail
                    go_ret2
                    rw [HE.out]
                    exact ⟨rfl, blwM hb _⟩
                  · have g : (ps[k].1 == ps[i3].1) = false := by simpa using heq
                    have HS : Hid (∀ a (ha : a < k + 1), a < i3 → (ps[a]?.getD ([], [])).1 ≠ ps[i3].1) := fun a ha hai => by
                      by_cases e : a = k
                      · subst e
                        rw [List.getElem?_eq_getElem hkl]
                        exact heq
                      · exact HKK.out a (by omega) hai
                    clear heq
                    go_upto_region 21 with fail
                    go_quiet (fail)
                    go_wp2_with fail
                    exact ⟨⟨k + 1, by omega, by go_num, HS, blwM hb _⟩, by simp only [intOf]; omega⟩
                case neg =>
                  have HS : Hid (∀ b (hb : b < ps.length) a (ha : a < b), b < i3 + 1 → (ps[a]'(by omega)).1 ≠ ps[b].1) := fun b hb a ha h => by
                    by_cases e : b = i3
                    · subst e
                      have := HKK.out a (by omega) (by omega)
                      rw [List.getElem?_eq_getElem (by omega)] at this
                      exact this
                    · exact HD.out b hb a ha (by omega)
                  go_wp2_with fail
                  exact ⟨⟨i3 + 1, by omega, by go_num, HS, hb⟩, by simp only [intOf]; omega⟩
            case neg =>
              obtain ⟨X, Q, hX, hM, hXt, hQ, hQa, hPn⟩ := made_text HK.out hl0 hl6' HN.out HZ.out (names_nodup fun b hb a ha => HD.out b hb a ha (by omega))
              have hQl : Q.length = ps.length := hQ.length_eq
              have HM := Lib.hid hM
              have HXT := Lib.hid hXt
              have HQ := Lib.hid hQ
              have HQA := Lib.hid hQa
              have HPN := Lib.hid hPn
              have HQL := Lib.hid hQl
              have HXX := Lib.hid hX
              clear hX hM hXt hQ hQa hPn hQl HD HN HZ HSM
              have b0 : ¬ 9223372036854775807 < wd.length + 1 := by omega
              go_wp2_with fail
              clear b0
              go_loopw [12, 13, 79] (fun oo bf y wx => ∃ (j : Nat) (o : List UInt8), j ≤ ps.length ∧ y = .int .i64 j ∧ oo = str o ∧ bf = str (befQ Q j) ∧ o.length ≤ 10 + 120 * j ∧ Hid (o = wd ++ 91 :: joinC ((Q.take j).map partT)) ∧ Below w.heap.size w wx) (fun _ _ y _ => ps.length - (intOf y).toNat)
              case atStart => exact ⟨0, _, Nat.zero_le _, by go_num, rfl, rfl, by simp; omega, by show _ = _; simp [joinC], hb⟩
              case round =>
                clear hb
                obtain ⟨j, o, hj, rfl, rfl, rfl, hol, HO, hb⟩ := hrel
                by_cases hlt5 : j < ps.length
                case neg =>
                  have HT : Hid (X.txt = o ++ [93]) := by
                    show _ = _
                    rw [HXT.out, HO.out, List.take_of_length_le (by rw [HQL.out]; omega)]
                    simp
                  have hL := fun W => rlimited_of HXX.out HT.out (by simp; unfold maxLen; omega) W
                  rw [← HM.out] at hL
                  have b1 : ¬ 9223372036854775807 < o.length + 1 := by omega
                  clear HO
                  go_wp2_with (go_at_call 51; refine (hL _).mono ?_; rintro e w1 ⟨rfl, hb1⟩)
                  go_ret2
                  exact ⟨rfl, hb.trans (below_less hb1 hb.size)⟩
                case pos =>
                  have hbf : ∃ bf, befQ Q j = bf := ⟨_, rfl⟩
                  obtain ⟨bf, hbf⟩ := hbf
                  rw [hbf]
                  have HBF := Lib.hid hbf
                  clear hbf
                  go_wp2_with fail
                  go_loopw [14, 15] (fun nn y wx => ∃ (i : Nat) (nx : Option Nat), i ≤ ps.length ∧ y = .int .i64 i ∧ nn = .int .i64 (pickI nx) ∧ Hid (Pick ps bf i nx) ∧ Below w.heap.size w wx) (fun _ y _ => ps.length - (intOf y).toNat)
                  case atStart => exact ⟨0, none, Nat.zero_le _, by go_num, rfl, Pick.start, hb⟩
                  case round =>
                    clear hb
                    obtain ⟨i6, nx, hi6, rfl, rfl, HP, hb⟩ := hrel
                    by_cases hlt6 : i6 < ps.length
                    case pos =>
                      obtain ⟨b, oa, rfl, d1, d2⟩ := (hv.below hb).at2 hlt6
                      rcases hl : Op.bytesLess bf ps[i6].1 with _ | _
                      · have HS := Lib.hid (HP.out.no hlt6 hl)
                        have hor := less_total _ _ hl
                        clear hl
                        rcases hg : Op.bytesLess ps[i6].1 bf with _ | _
                        · rw [hg, Bool.false_or] at hor
                          go_upto_region 31 with fail
                          go_quiet (fail)
                          go_wp2_with fail
                          exact ⟨⟨i6 + 1, nx, hlt6, by go_num, rfl, HS.out, blwM hb _⟩, by simp only [intOf]; omega⟩
                        · clear hor
                          go_upto_region 31 with fail
                          go_quiet (fail)
                          go_wp2_with fail
                          exact ⟨⟨i6 + 1, nx, hlt6, by go_num, rfl, HS.out, blwM hb _⟩, by simp only [intOf]; omega⟩
                      · have hno := less_not _ _ hl
                        rw [Bool.or_eq_false_iff] at hno
                        obtain ⟨n1, n2⟩ := hno
                        cases nx with
                        | none =>
                          have HS := Lib.hid (HP.out.first hlt6 hl)
                          have hpk : pickI none = -1 := rfl
                          rw [hpk]
                          clear hl
                          go_upto_region 31 with fail
                          go_quiet (fail)
                          go_wp2_with fail
                          exact ⟨⟨i6 + 1, some i6, hlt6, by go_num, rfl, HS.out, blwM hb _⟩, by simp only [intOf]; omega⟩
                        | some m =>
                          have hm := HP.out.1
                          obtain ⟨b', oa', hbe, e1, e2⟩ := (hv.below hb).at2 hm
                          injection hbe with hbe
                          injection hbe with q1 q2
                          subst q1 q2
                          have hpk : pickI (some m) = (m : Int) := rfl
                          rw [hpk]
                          have hm0 : decide ((m : Int) < 0) = false := by rw [decide_eq_false_iff_not]; omega
                          rcases hb6 : Op.bytesLess ps[i6].1 ps[m].1 with _ | _
                          · have HS := Lib.hid (HP.out.same hlt6 hm hb6)
                            clear hl
                            go_upto_region 31 with fail
                            go_quiet (fail)
                            go_wp2_with fail
                            exact ⟨⟨i6 + 1, some m, hlt6, by go_num, rfl, HS.out, blwM hb _⟩, by simp only [intOf]; omega⟩
                          · have HS := Lib.hid (HP.out.better hlt6 hl hm hb6)
                            clear hl
                            go_upto_region 31 with fail
                            go_quiet (fail)
                            go_wp2_with fail
                            exact ⟨⟨i6 + 1, some i6, hlt6, by go_num, rfl, HS.out, blwM hb _⟩, by simp only [intOf]; omega⟩
                    case neg =>
                      have hjQ : j < Q.length := by rw [HQL.out]; exact hlt5
                      have hpn := pick_next (nx := nx) HQ.out HQA.out (fun x hx => (HPN.out x hx).1) hjQ (by rw [HBF.out]; have := HP.out; rw [show i6 = ps.length from by omega] at this; exact this)
                      obtain ⟨m, rfl, hm, hQj⟩ := hpn
                      obtain ⟨b, oa, rfl, d1, d2⟩ := (hv.below hb).at2 hm
                      have hpk : pickI (some m) = (m : Int) := rfl
                      rw [hpk]
                      obtain ⟨x1, x2⟩ := HPN.out ps[m] (List.getElem_mem hm)
                      have x3 := name_small x1
                      have hnew := take_text hjQ
                      rw [← hQj] at hnew
                      have hnb : befQ Q (j + 1) = ps[m].1 := by rw [befQ_succ hjQ, hQj]
                      have HNB := Lib.hid hnb
                      have HNW := Lib.hid hnew
                      clear hnew hnb hQj x1
                      have f0 : ¬ 9223372036854775807 < o.length + 1 := by omega
                      have f1 : ¬ 9223372036854775807 < o.length + ps[m].1.length := by omega
                      have f2 : ¬ 9223372036854775807 < o.length + ps[m].1.length + 1 := by omega
                      have f3 : ¬ 9223372036854775807 < o.length + (ps[m].1.length + 1) := by omega
                      have f4 : ¬ 9223372036854775807 < o.length + ps[m].1.length + 1 + ps[m].2.length := by omega
                      have f5 : ¬ 9223372036854775807 < o.length + (ps[m].1.length + 1) + ps[m].2.length := by omega
                      have f6 : ¬ 9223372036854775807 < o.length + 1 + ps[m].1.length := by omega
                      have f7 : ¬ 9223372036854775807 < o.length + 1 + ps[m].1.length + 1 := by omega
                      have f8 : ¬ 9223372036854775807 < o.length + 1 + ps[m].1.length + 1 + ps[m].2.length := by omega
                      have f9 : ¬ 9223372036854775807 < o.length + (ps[m].1.length + 1 + 1) := by omega
                      have f10 : ¬ 9223372036854775807 < o.length + (ps[m].1.length + 1 + 1) + ps[m].2.length := by omega
                      have f11 : ¬ 9223372036854775807 < o.length + (1 + ps[m].1.length) := by omega
                      cases j with
                      | zero =>
                        obtain rfl : bf = [] := HBF.out.symm
                        go_upto_region 35 with fail
                        go_quiet (fail)
                        go_wp2_with fail
                        refine ⟨⟨1, _, by omega, by go_num, rfl, by rw [show (1 : Nat) = 0 + 1 from rfl, HNB.out], ?_, ?_, blwM hb _⟩, by simp only [intOf]; omega⟩
                        · simp only [List.length_append, List.length_cons]; omega
                        · show _ = _
                          rw [show (1 : Nat) = 0 + 1 from rfl, HNW.out, HO.out]
                          simp [joinC]
                      | succ j =>
                        have hbe : bf.isEmpty = false := by
                          rw [← HBF.out, befQ_succ (by omega)]
                          have := name_ne (HPN.out _ (HQ.out.mem_iff.1 (List.getElem_mem (show j < Q.length by omega)))).1
                          simpa using this
                        go_upto_region 35 with fail
                        go_quiet (fail)
                        go_wp2_with fail
                        refine ⟨⟨j + 2, _, by omega, by go_num, rfl, by rw [HNB.out], ?_, ?_, blwM hb _⟩, by simp only [intOf]; omega⟩
                        · simp only [List.length_append, List.length_cons]; omega
                        · show _ = _
                          rw [HNW.out, HO.out]
                          simp
set_option maxRecDepth 4000 in
theorem rrecord_any (ps : List (List UInt8 × List UInt8)) (v : Value) (w : World) (hv : Pts w v ps) (hlen : ps.length ≤ 1000) (hsm : ∀ x ∈ ps, x.1.length ≤ 1000 ∧ x.2.length ≤ 1000) :
    Calls Tryz.prog 38 #[v] w fun e w' => e = .returned (.tuple #[str (madeK 5 ps).1, .int .i64 (madeK 5 ps).2]) ∧ Below w.heap.size w w' := by
  have H := rmade_any 5 wRecord (.inl ⟨rfl, rfl⟩) ps v w hv hlen hsm
  obtain ⟨p, c, rfl⟩ := hv.shape
  generalize (madeK 5 ps).1 = R at H ⊢
  generalize (madeK 5 ps).2 = E at H ⊢
  go_enter Tryz.func38, Tryz.ntmps38
  go_wp2_with (go_at_call 68; refine H.mono ?_; rintro e w1 ⟨rfl, hb1⟩)
  go_ret2
  exact ⟨rfl, hb1⟩
set_option maxRecDepth 4000 in
theorem roneof_any (ps : List (List UInt8 × List UInt8)) (v : Value) (w : World) (hv : Pts w v ps) (hlen : ps.length ≤ 1000) (hsm : ∀ x ∈ ps, x.1.length ≤ 1000 ∧ x.2.length ≤ 1000) :
    Calls Tryz.prog 40 #[v] w fun e w' => e = .returned (.tuple #[str (madeK 6 ps).1, .int .i64 (madeK 6 ps).2]) ∧ Below w.heap.size w w' := by
  have H := rmade_any 6 wOneof (.inr ⟨rfl, rfl⟩) ps v w hv hlen hsm
  obtain ⟨p, c, rfl⟩ := hv.shape
  generalize (madeK 6 ps).1 = R at H ⊢
  generalize (madeK 6 ps).2 = E at H ⊢
  go_enter Tryz.func40, Tryz.ntmps40
  go_wp2_with (go_at_call 68; refine H.mono ?_; rintro e w1 ⟨rfl, hb1⟩)
  go_ret2
  exact ⟨rfl, hb1⟩
end Go.Proofs.YtakdmnhpoelepaaGreatDoor

namespace Go.Proofs.YtakdmnhpoelepaaGreatDoor
open Go.RowKit

theorem aArray {s : List UInt8} (hs : s.length ≤ 400) : Ans 33 #[str s] (.tuple #[str (arrK s).1, .int .i64 (arrK s).2]) := fun W hW => karray_any s (small400 hs) W hW
theorem aNamed {n s : List UInt8} (hn : n.length ≤ 400) (hs : s.length ≤ 400) : Ans 35 #[str n, str s] (.tuple #[str (namK n s).1, .int .i64 (namK n s).2]) := fun W hW => knamed_any n s (small400 hn) (small400 hs) W hW
theorem aRArray {s : List UInt8} (hs : s.length ≤ 400) : Ans 34 #[str s] (.tuple #[str (arrK s).1, .int .i64 (arrK s).2]) := fun W _ => rarray_any s (small400 hs) W
theorem aRNamed {n s : List UInt8} (hn : n.length ≤ 400) (hs : s.length ≤ 400) : Ans 36 #[str n, str s] (.tuple #[str (namK n s).1, .int .i64 (namK n s).2]) := fun W _ => rnamed_any n s (small400 hn) (small400 hs) W
/-- Whether two texts are short enough. -/
def shortB (x : List UInt8 × List UInt8) : Bool := decide (x.1.length ≤ 400) && decide (x.2.length ≤ 400)
theorem short_pair (x : List UInt8 × List UInt8) (w : World) : Calls Tryz.prog 13 #[.slice (some ⟨w.heap.size, 0, none⟩) 2 2] (w.alloc (.cells #[str x.1, str x.2] 9)).drew fun e w' => e = .returned (.bool (shortB x)) ∧ Below (w.alloc (.cells #[str x.1, str x.2] 9)).drew.heap.size (w.alloc (.cells #[str x.1, str x.2] 9)).drew w' := by
  have hs : Strs (w.alloc (.cells #[str x.1, str x.2] 9)).drew (.slice (some ⟨w.heap.size, 0, none⟩) 2 2) [x.1, x.2] := strs_new w [x.1, x.2] 9 _ 2 (show 2 ≤ maxLen by decide)
  have hC := short_any [x.1, x.2] _ _ hs (by simp)
  rw [show ([x.1, x.2].all fun s => decide (s.length ≤ 400)) = shortB x by unfold shortB; simp] at hC
  exact hC

theorem wk_long (t n : List UInt8) (ps : List (List UInt8 × List UInt8)) (v : Value) (w : World) (ht : Tab w) (hv : Pts w v ps) (h : (decide (t.length ≤ 400) && decide (n.length ≤ 400)) = false) :
    Calls Tryz.prog 10 #[str t, str n, v] w fun e w' => e = .returned (.bool true) ∧ Below w.heap.size w w' := by
  have hs := short2 t n w false h
  obtain ⟨p, c, rfl⟩ := hv.shape
  go_enter Tryz.func10, Tryz.ntmps10
  go_wp2_with (first
    | (go_at_call 13; refine hs.mono ?_; clear hs; rintro e wk ⟨rfl, hbk⟩; have hB := hbk)
    | (go_at_call 14; refine (aKept _ (ht.below hB (Nat.le_refl _))).mono ?_; rintro e wk ⟨rfl, hbk⟩; have hB := hB.trans (below_less hbk hB.size)))
  go_ret
  exact ⟨rfl, hB⟩
theorem wk_many (t n : List UInt8) (ps : List (List UInt8 × List UInt8)) (v : Value) (w : World) (ht : Tab w) (hv : Pts w v ps) (h : (decide (t.length ≤ 400) && decide (n.length ≤ 400)) = true) (hl : 10 < ps.length) :
    Calls Tryz.prog 10 #[str t, str n, v] w fun e w' => e = .returned (.bool true) ∧ Below w.heap.size w w' := by
  have hs := short2 t n w true h
  obtain ⟨p, c, rfl⟩ := hv.shape
  have hl' : (10 : Int) < (ps.length : Int) := by omega
  go_enter Tryz.func10, Tryz.ntmps10
  go_wp2_with (first
    | (go_at_call 13; refine hs.mono ?_; clear hs; rintro e wk ⟨rfl, hbk⟩; have hB := hbk)
    | (go_at_call 14; refine (aKept _ (ht.below hB (Nat.le_refl _))).mono ?_; rintro e wk ⟨rfl, hbk⟩; have hB := hB.trans (below_less hbk hB.size)))
  go_ret
  exact ⟨rfl, hB⟩
theorem all_take {ps : List (List UInt8 × List UInt8)} {i : Nat} (hi : i < ps.length) (h : (ps.take i).all shortB = true) (hx : shortB ps[i] = true) : (ps.take (i + 1)).all shortB = true := by
  rw [List.take_succ_eq_append_getElem hi, List.all_append, h]
  simp [hx]
set_option maxRecDepth 8000 in
set_option maxHeartbeats 6400000 in
theorem wk_good (t n a b c1 d1 : List UInt8) (e1 e2 e3 e4 : Nat) (ps : List (List UInt8 × List UInt8)) (v : Value) (w : World) (ht : Tab w) (hv : Pts w v ps) (h : (decide (t.length ≤ 400) && decide (n.length ≤ 400)) = true) (hl : ps.length ≤ 10)
    (h1 : Ans 33 #[str t] (.tuple #[str a, .int .i64 e1])) (k1 : Ans 34 #[str t] (.tuple #[str a, .int .i64 e1])) (h2 : Ans 35 #[str n, str t] (.tuple #[str b, .int .i64 e2])) (k2 : Ans 36 #[str n, str t] (.tuple #[str b, .int .i64 e2]))
    (h3 : ps.all shortB = true → ∀ W v, Tab W → Pts W v ps → Calls Tryz.prog 37 #[v] W fun e w' => e = .returned (.tuple #[str c1, .int .i64 e3]) ∧ Below W.heap.size W w') (k3 : ps.all shortB = true → ∀ W v, Tab W → Pts W v ps → Calls Tryz.prog 38 #[v] W fun e w' => e = .returned (.tuple #[str c1, .int .i64 e3]) ∧ Below W.heap.size W w')
    (h4 : ps.all shortB = true → ∀ W v, Tab W → Pts W v ps → Calls Tryz.prog 39 #[v] W fun e w' => e = .returned (.tuple #[str d1, .int .i64 e4]) ∧ Below W.heap.size W w') (k4 : ps.all shortB = true → ∀ W v, Tab W → Pts W v ps → Calls Tryz.prog 40 #[v] W fun e w' => e = .returned (.tuple #[str d1, .int .i64 e4]) ∧ Below W.heap.size W w') :
    Calls Tryz.prog 10 #[str t, str n, v] w fun e w' => e = .returned (.bool true) ∧ Below w.heap.size w w' := by
  have hs := short2 t n w true h
  obtain ⟨p, c, rfl⟩ := hv.shape
  have hl' : ¬ (10 : Int) < (ps.length : Int) := by omega
  go_enter Tryz.func10, Tryz.ntmps10
  go_wp2_with (go_at_call 13; refine hs.mono ?_; clear hs; rintro e wk ⟨rfl, hbk⟩; have hB := hbk)
  go_loopw [7] (fun y wr => ∃ i : Nat, i ≤ ps.length ∧ y = .int .i64 i ∧ Hid ((ps.take i).all shortB = true) ∧ Below w.heap.size w wr) (fun y _ => ps.length - (intOf y).toNat)
  case atStart => exact ⟨0, Nat.zero_le _, by go_num, rfl, hB⟩
  case round =>
    clear hB
    obtain ⟨i, hi, rfl, HA, hB⟩ := hrel
    by_cases hlt : i < ps.length
    case pos =>
      obtain ⟨b, o, rfl, d1, d2⟩ := (hv.below hB).at2 hlt
      have hsh := short_pair ps[i] wr
      have hbA := (Below.refl _ wr).alloc (Nat.le_refl _) (.cells #[str ps[i].1, str ps[i].2] 9)
      have hbA := hbA.drew
      go_upto_region 6 with fail
      rcases hx : shortB ps[i] with _ | _
      · rw [hx] at hsh
        clear hx
        refine wp_region_held_drew (S := (fun W => W.cell? ⟨b, o + i * 2, none⟩ = some (str ps[i].1) ∧ W.cell? ⟨b, o + i * 2 + 1, none⟩ = some (str ps[i].2))) (by kernel_rfl) ?_ (fun hHeld => ?_)
        · exact ⟨d1, d2⟩
        refine takeH (i := 0) (d := some 33) (v := ?_) rfl (by kernel_rfl) (by kernel_rfl) (by kernel_rfl) (by kernel_rfl) (fun _ _ _ h => h) (by assumption) (by kernel_rfl) ?_ ?_
        rotate_left
        · intro w hSw
          try dsimp only at hSw
          go_simp
          try with_reducible rfl
        try simp only [Act.put, List.setIfInBounds_toArray, List.set_cons_zero, List.set_cons_succ]
        refine takeH (i := 1) (d := some 34) (v := ?_) rfl (by kernel_rfl) (by kernel_rfl) (by kernel_rfl) (by kernel_rfl) (fun _ _ _ h => h) (by assumption) (by kernel_rfl) ?_ ?_
        rotate_left
        · intro w hSw
          try dsimp only at hSw
          go_simp
          try with_reducible rfl
        try simp only [Act.put, List.setIfInBounds_toArray, List.set_cons_zero, List.set_cons_succ]
        refine takeH (i := 2) (d := some 35) (v := ?_) rfl (by kernel_rfl) (by kernel_rfl) (by kernel_rfl) (by kernel_rfl) (fun _ _ _ h => h) (by assumption) (by kernel_rfl) ?_ ?_
        rotate_left
        · intro w hSw
          try dsimp only at hSw
          go_simp
          try with_reducible rfl
        try simp only [Act.put, List.setIfInBounds_toArray, List.set_cons_zero, List.set_cons_succ]
        refine takeH (i := 3) (d := some 36) (v := ?_) rfl (by kernel_rfl) (by kernel_rfl) (by kernel_rfl) (by kernel_rfl) (fun _ _ _ h => h) (by assumption) (by kernel_rfl) ?_ ?_
        rotate_left
        · intro w hSw
          try dsimp only at hSw
          go_simp
          try with_reducible rfl
        try simp only [Act.put, List.setIfInBounds_toArray, List.set_cons_zero, List.set_cons_succ]
        refine takeH (i := 4) (d := some 37) (v := ?_) rfl (by kernel_rfl) (by kernel_rfl) (by kernel_rfl) (by kernel_rfl) (fun _ _ _ h => h) (by assumption) (by kernel_rfl) ?_ ?_
        rotate_left
        · intro w hSw
          obtain ⟨r0, r1⟩ := hSw
          go_simp
          try with_reducible rfl
        try simp only [Act.put, List.setIfInBounds_toArray, List.set_cons_zero, List.set_cons_succ]
        refine takeH (i := 5) (d := some 38) (v := ?_) rfl (by kernel_rfl) (by kernel_rfl) (by kernel_rfl) (by kernel_rfl) (fun _ _ _ h => h) (by assumption) (by kernel_rfl) ?_ ?_
        rotate_left
        · intro w hSw
          try dsimp only at hSw
          go_simp
          try with_reducible rfl
        try simp only [Act.put, List.setIfInBounds_toArray, List.set_cons_zero, List.set_cons_succ]
        refine takeH (i := 6) (d := some 39) (v := ?_) rfl (by kernel_rfl) (by kernel_rfl) (by kernel_rfl) (by kernel_rfl) (fun _ _ _ h => h) (by assumption) (by kernel_rfl) ?_ ?_
        rotate_left
        · intro w hSw
          try dsimp only at hSw
          go_simp
          try with_reducible rfl
        try simp only [Act.put, List.setIfInBounds_toArray, List.set_cons_zero, List.set_cons_succ]
        refine takeH (i := 7) (d := some 40) (v := ?_) rfl (by kernel_rfl) (by kernel_rfl) (by kernel_rfl) (by kernel_rfl) (fun _ _ _ h => h) (by assumption) (by kernel_rfl) ?_ ?_
        rotate_left
        · intro w hSw
          try dsimp only at hSw
          go_simp
          try with_reducible rfl
        try simp only [Act.put, List.setIfInBounds_toArray, List.set_cons_zero, List.set_cons_succ]
        refine takeH (i := 8) (d := some 41) (v := ?_) rfl (by kernel_rfl) (by kernel_rfl) (by kernel_rfl) (by kernel_rfl) (fun _ _ _ h => h) (by assumption) (by kernel_rfl) ?_ ?_
        rotate_left
        · intro w hSw
          try dsimp only at hSw
          go_simp
          try with_reducible rfl
        try simp only [Act.put, List.setIfInBounds_toArray, List.set_cons_zero, List.set_cons_succ]
        refine takeH (i := 9) (d := some 42) (v := ?_) rfl (by kernel_rfl) (by kernel_rfl) (by kernel_rfl) (by kernel_rfl) (fun _ _ _ h => h) (by assumption) (by kernel_rfl) ?_ ?_
        rotate_left
        · intro w hSw
          obtain ⟨r0, r1⟩ := hSw
          go_simp
          try with_reducible rfl
        try simp only [Act.put, List.setIfInBounds_toArray, List.set_cons_zero, List.set_cons_succ]
        refine wpAnyH_ready (rs := [10]) (by kernel_rfl) (by simp) ?_
        refine AllReadyH.cons rfl (fun K hK => ?_) AllReadyH.nil
        go_simp
        go_wp2_with (fail)
        refine hK.out _ _ ?_ (fun hHeld => ?_)
        · exact ⟨Below.keep hbA d1, Below.keep hbA d2⟩
        clear hK K
        try simp only [Act.put, List.setIfInBounds_toArray, List.set_cons_zero, List.set_cons_succ]
        refine wpAnyH_ready (rs := [11]) (by kernel_rfl) (by simp) ?_
        refine AllReadyH.cons rfl (fun K hK => ?_) AllReadyH.nil
        go_simp
        go_wp2_with ((go_at_call 13; refine hsh.mono ?_; rintro e w5 ⟨rfl, hb5⟩))
        refine hK.out _ _ ?_ (fun hHeld => ?_)
        · exact ⟨Below.keep (hbA.trans (below_less hb5 hbA.size)) d1, Below.keep (hbA.trans (below_less hb5 hbA.size)) d2⟩
        clear hK K
        try simp only [Act.put, List.setIfInBounds_toArray, List.set_cons_zero, List.set_cons_succ]
        refine wpAnyH_ready (rs := [12]) (by kernel_rfl) (by simp) ?_
        refine AllReadyH.cons rfl (fun K hK => ?_) AllReadyH.nil
        go_simp
        refine hK.out _ _ ?_ (fun hHeld => ?_)
        · exact ⟨Below.keep (hbA.trans (below_less hb5 hbA.size)) d1, Below.keep (hbA.trans (below_less hb5 hbA.size)) d2⟩
        clear hK K
        refine wpAnyH_done (by kernel_rfl) ?_ _
        have hB := (hB.trans (below_less hbA hB.size)).trans (below_less hb5 (by have := hB.size; simp; omega))
        go_wp2_with (go_at_call 14; refine (aKept _ (ht.below hB (Nat.le_refl _))).mono ?_; rintro e wk ⟨rfl, hbk⟩; have hB := hB.trans (below_less hbk hB.size))
        go_ret
        exact ⟨rfl, hB⟩
      · have HS := Lib.hid (all_take hlt HA.out hx)
        rw [hx] at hsh
        clear hx
        refine wp_region_held_drew (S := (fun W => W.cell? ⟨b, o + i * 2, none⟩ = some (str ps[i].1) ∧ W.cell? ⟨b, o + i * 2 + 1, none⟩ = some (str ps[i].2))) (by kernel_rfl) ?_ (fun hHeld => ?_)
        · exact ⟨d1, d2⟩
        refine takeH (i := 0) (d := some 33) (v := ?_) rfl (by kernel_rfl) (by kernel_rfl) (by kernel_rfl) (by kernel_rfl) (fun _ _ _ h => h) (by assumption) (by kernel_rfl) ?_ ?_
        rotate_left
        · intro w hSw
          try dsimp only at hSw
          go_simp
          try with_reducible rfl
        try simp only [Act.put, List.setIfInBounds_toArray, List.set_cons_zero, List.set_cons_succ]
        refine takeH (i := 1) (d := some 34) (v := ?_) rfl (by kernel_rfl) (by kernel_rfl) (by kernel_rfl) (by kernel_rfl) (fun _ _ _ h => h) (by assumption) (by kernel_rfl) ?_ ?_
        rotate_left
        · intro w hSw
          try dsimp only at hSw
          go_simp
          try with_reducible rfl
        try simp only [Act.put, List.setIfInBounds_toArray, List.set_cons_zero, List.set_cons_succ]
        refine takeH (i := 2) (d := some 35) (v := ?_) rfl (by kernel_rfl) (by kernel_rfl) (by kernel_rfl) (by kernel_rfl) (fun _ _ _ h => h) (by assumption) (by kernel_rfl) ?_ ?_
        rotate_left
        · intro w hSw
          try dsimp only at hSw
          go_simp
          try with_reducible rfl
        try simp only [Act.put, List.setIfInBounds_toArray, List.set_cons_zero, List.set_cons_succ]
        refine takeH (i := 3) (d := some 36) (v := ?_) rfl (by kernel_rfl) (by kernel_rfl) (by kernel_rfl) (by kernel_rfl) (fun _ _ _ h => h) (by assumption) (by kernel_rfl) ?_ ?_
        rotate_left
        · intro w hSw
          try dsimp only at hSw
          go_simp
          try with_reducible rfl
        try simp only [Act.put, List.setIfInBounds_toArray, List.set_cons_zero, List.set_cons_succ]
        refine takeH (i := 4) (d := some 37) (v := ?_) rfl (by kernel_rfl) (by kernel_rfl) (by kernel_rfl) (by kernel_rfl) (fun _ _ _ h => h) (by assumption) (by kernel_rfl) ?_ ?_
        rotate_left
        · intro w hSw
          obtain ⟨r0, r1⟩ := hSw
          go_simp
          try with_reducible rfl
        try simp only [Act.put, List.setIfInBounds_toArray, List.set_cons_zero, List.set_cons_succ]
        refine takeH (i := 5) (d := some 38) (v := ?_) rfl (by kernel_rfl) (by kernel_rfl) (by kernel_rfl) (by kernel_rfl) (fun _ _ _ h => h) (by assumption) (by kernel_rfl) ?_ ?_
        rotate_left
        · intro w hSw
          try dsimp only at hSw
          go_simp
          try with_reducible rfl
        try simp only [Act.put, List.setIfInBounds_toArray, List.set_cons_zero, List.set_cons_succ]
        refine takeH (i := 6) (d := some 39) (v := ?_) rfl (by kernel_rfl) (by kernel_rfl) (by kernel_rfl) (by kernel_rfl) (fun _ _ _ h => h) (by assumption) (by kernel_rfl) ?_ ?_
        rotate_left
        · intro w hSw
          try dsimp only at hSw
          go_simp
          try with_reducible rfl
        try simp only [Act.put, List.setIfInBounds_toArray, List.set_cons_zero, List.set_cons_succ]
        refine takeH (i := 7) (d := some 40) (v := ?_) rfl (by kernel_rfl) (by kernel_rfl) (by kernel_rfl) (by kernel_rfl) (fun _ _ _ h => h) (by assumption) (by kernel_rfl) ?_ ?_
        rotate_left
        · intro w hSw
          try dsimp only at hSw
          go_simp
          try with_reducible rfl
        try simp only [Act.put, List.setIfInBounds_toArray, List.set_cons_zero, List.set_cons_succ]
        refine takeH (i := 8) (d := some 41) (v := ?_) rfl (by kernel_rfl) (by kernel_rfl) (by kernel_rfl) (by kernel_rfl) (fun _ _ _ h => h) (by assumption) (by kernel_rfl) ?_ ?_
        rotate_left
        · intro w hSw
          try dsimp only at hSw
          go_simp
          try with_reducible rfl
        try simp only [Act.put, List.setIfInBounds_toArray, List.set_cons_zero, List.set_cons_succ]
        refine takeH (i := 9) (d := some 42) (v := ?_) rfl (by kernel_rfl) (by kernel_rfl) (by kernel_rfl) (by kernel_rfl) (fun _ _ _ h => h) (by assumption) (by kernel_rfl) ?_ ?_
        rotate_left
        · intro w hSw
          obtain ⟨r0, r1⟩ := hSw
          go_simp
          try with_reducible rfl
        try simp only [Act.put, List.setIfInBounds_toArray, List.set_cons_zero, List.set_cons_succ]
        refine wpAnyH_ready (rs := [10]) (by kernel_rfl) (by simp) ?_
        refine AllReadyH.cons rfl (fun K hK => ?_) AllReadyH.nil
        go_simp
        go_wp2_with (fail)
        refine hK.out _ _ ?_ (fun hHeld => ?_)
        · exact ⟨Below.keep hbA d1, Below.keep hbA d2⟩
        clear hK K
        try simp only [Act.put, List.setIfInBounds_toArray, List.set_cons_zero, List.set_cons_succ]
        refine wpAnyH_ready (rs := [11]) (by kernel_rfl) (by simp) ?_
        refine AllReadyH.cons rfl (fun K hK => ?_) AllReadyH.nil
        go_simp
        go_wp2_with ((go_at_call 13; refine hsh.mono ?_; rintro e w5 ⟨rfl, hb5⟩))
        refine hK.out _ _ ?_ (fun hHeld => ?_)
        · exact ⟨Below.keep (hbA.trans (below_less hb5 hbA.size)) d1, Below.keep (hbA.trans (below_less hb5 hbA.size)) d2⟩
        clear hK K
        try simp only [Act.put, List.setIfInBounds_toArray, List.set_cons_zero, List.set_cons_succ]
        refine wpAnyH_ready (rs := [12]) (by kernel_rfl) (by simp) ?_
        refine AllReadyH.cons rfl (fun K hK => ?_) AllReadyH.nil
        go_simp
        refine hK.out _ _ ?_ (fun hHeld => ?_)
        · exact ⟨Below.keep (hbA.trans (below_less hb5 hbA.size)) d1, Below.keep (hbA.trans (below_less hb5 hbA.size)) d2⟩
        clear hK K
        refine wpAnyH_done (by kernel_rfl) ?_ _
        have hB := (hB.trans (below_less hbA hB.size)).trans (below_less hb5 (by have := hB.size; simp; omega))
        go_wp2_with fail
        exact ⟨⟨i + 1, hlt, by go_num, HS.out, hB⟩, by simp only [intOf]; omega⟩
    case neg =>
      have hall : ps.all shortB = true := by
        have := HA.out
        rw [List.take_of_length_le (by omega)] at this
        exact this
      have h3 := h3 hall
      have k3 := k3 hall
      have h4 := h4 hall
      have k4 := k4 hall
      have hp := hv.below hB
      clear hall HA
      go_wp2_with (first
        | (go_at_call 33; refine (h1 _ (ht.below hB (Nat.le_refl _))).mono ?_; clear h1; rintro e wk ⟨rfl, hbk⟩; have hB := hB.trans (below_less hbk hB.size); have hp := hp.below hbk)
        | (go_at_call 34; refine (k1 _ (ht.below hB (Nat.le_refl _))).mono ?_; clear k1; rintro e wk ⟨rfl, hbk⟩; have hB := hB.trans (below_less hbk hB.size); have hp := hp.below hbk)
        | (go_at_call 35; refine (h2 _ (ht.below hB (Nat.le_refl _))).mono ?_; clear h2; rintro e wk ⟨rfl, hbk⟩; have hB := hB.trans (below_less hbk hB.size); have hp := hp.below hbk)
        | (go_at_call 36; refine (k2 _ (ht.below hB (Nat.le_refl _))).mono ?_; clear k2; rintro e wk ⟨rfl, hbk⟩; have hB := hB.trans (below_less hbk hB.size); have hp := hp.below hbk)
        | (go_at_call 37; refine (h3 _ _ (ht.below hB (Nat.le_refl _)) hp).mono ?_; clear h3; rintro e wk ⟨rfl, hbk⟩; have hB := hB.trans (below_less hbk hB.size); have hp := hp.below hbk)
        | (go_at_call 38; refine (k3 _ _ (ht.below hB (Nat.le_refl _)) hp).mono ?_; clear k3; rintro e wk ⟨rfl, hbk⟩; have hB := hB.trans (below_less hbk hB.size); have hp := hp.below hbk)
        | (go_at_call 39; refine (h4 _ _ (ht.below hB (Nat.le_refl _)) hp).mono ?_; clear h4; rintro e wk ⟨rfl, hbk⟩; have hB := hB.trans (below_less hbk hB.size); have hp := hp.below hbk)
        | (go_at_call 40; refine (k4 _ _ (ht.below hB (Nat.le_refl _)) hp).mono ?_; clear k4; rintro e wk ⟨rfl, hbk⟩; have hB := hB.trans (below_less hbk hB.size); have hp := hp.below hbk)
        | (go_at_call 14; refine (aKept _ (ht.below hB (Nat.le_refl _))).mono ?_; rintro e wk ⟨rfl, hbk⟩; have hB := hB.trans (below_less hbk hB.size)))
      go_ret
      exact ⟨rfl, hB⟩
/-- KindMakes answers true. -/
theorem wmakes (t n : List UInt8) (ps : List (List UInt8 × List UInt8)) (v : Value) (w : World) (ht : Tab w) (hv : Pts w v ps) : Calls Tryz.prog 10 #[str t, str n, v] w fun e w' => e = .returned (.bool true) ∧ Below w.heap.size w w' := by
  rcases h : (decide (t.length ≤ 400) && decide (n.length ≤ 400)) with _ | _
  · exact wk_long t n ps v w ht hv h
  · have hl := h
    simp only [Bool.and_eq_true, decide_eq_true_eq] at hl
    obtain ⟨lt, ln⟩ := hl
    by_cases h10 : 10 < ps.length
    · exact wk_many t n ps v w ht hv h h10
    · have hsm : ps.all shortB = true → ∀ x ∈ ps, x.1.length ≤ 1000 ∧ x.2.length ≤ 1000 := fun ha x hx => by
        have := List.all_eq_true.1 ha x hx
        unfold shortB at this
        simp only [Bool.and_eq_true, decide_eq_true_eq] at this
        omega
      exact wk_good t n _ _ _ _ _ _ _ _ ps v w ht hv h (by omega) (aArray lt) (aRArray lt) (aNamed ln lt) (aRNamed ln lt)
        (fun ha W v hW hP => krecord_any ps v W hW hP (by omega) (hsm ha)) (fun ha W v _ hP => rrecord_any ps v W hP (by omega) (hsm ha))
        (fun ha W v hW hP => koneof_any ps v W hW hP (by omega) (hsm ha)) (fun ha W v _ hP => roneof_any ps v W hP (by omega) (hsm ha))
end Go.Proofs.YtakdmnhpoelepaaGreatDoor

namespace Go.Proofs.YtakdmnhpoelepaaGreatDoor
open Go.RowKit

set_option maxRecDepth 4000 in
theorem kmade_empty (kd : Nat) (p : Option Addr) (c : Nat) (w : World) : Calls Tryz.prog 67 #[.int .u8 kd, .slice p 0 c] w fun e w' => e = .returned (.tuple #[str [], .int .i64 1]) ∧ Below w.heap.size w w' := by
  go_enter Tryz.func67, Tryz.ntmps67
  go_wp2_with fail
  go_ret2
  exact ⟨rfl, Below.refl _ _⟩
theorem krecord_empty (p : Option Addr) (c : Nat) (w : World) : Calls Tryz.prog 37 #[.slice p 0 c] w fun e w' => e = .returned (.tuple #[str [], .int .i64 1]) ∧ Below w.heap.size w w' := by
  have H := kmade_empty 5 p c w
  go_enter Tryz.func37, Tryz.ntmps37
  go_wp2_with (go_at_call 67; refine H.mono ?_; rintro e w1 ⟨rfl, hb1⟩)
  go_ret2
  exact ⟨rfl, hb1⟩
theorem koneof_empty (p : Option Addr) (c : Nat) (w : World) : Calls Tryz.prog 39 #[.slice p 0 c] w fun e w' => e = .returned (.tuple #[str [], .int .i64 1]) ∧ Below w.heap.size w w' := by
  have H := kmade_empty 6 p c w
  go_enter Tryz.func39, Tryz.ntmps39
  go_wp2_with (go_at_call 67; refine H.mono ?_; rintro e w1 ⟨rfl, hb1⟩)
  go_ret2
  exact ⟨rfl, hb1⟩
set_option maxRecDepth 4000 in
theorem rmade_empty (wd : List UInt8) (p : Option Addr) (c : Nat) (w : World) : Calls Tryz.prog 68 #[str wd, .slice p 0 c] w fun e w' => e = .returned (.tuple #[str [], .int .i64 1]) ∧ Below w.heap.size w w' := by
  go_enter Tryz.func68, Tryz.ntmps68
  go_wp2_with fail
  go_ret2
  exact ⟨rfl, Below.refl _ _⟩
theorem rrecord_empty (p : Option Addr) (c : Nat) (w : World) : Calls Tryz.prog 38 #[.slice p 0 c] w fun e w' => e = .returned (.tuple #[str [], .int .i64 1]) ∧ Below w.heap.size w w' := by
  have H := rmade_empty wRecord p c w
  go_enter Tryz.func38, Tryz.ntmps38
  go_wp2_with (go_at_call 68; refine H.mono ?_; rintro e w1 ⟨rfl, hb1⟩)
  go_ret2
  exact ⟨rfl, hb1⟩
theorem roneof_empty (p : Option Addr) (c : Nat) (w : World) : Calls Tryz.prog 40 #[.slice p 0 c] w fun e w' => e = .returned (.tuple #[str [], .int .i64 1]) ∧ Below w.heap.size w w' := by
  have H := rmade_empty wOneof p c w
  go_enter Tryz.func40, Tryz.ntmps40
  go_wp2_with (go_at_call 68; refine H.mono ?_; rintro e w1 ⟨rfl, hb1⟩)
  go_ret2
  exact ⟨rfl, hb1⟩
theorem we_long (t n : List UInt8) (p : Option Addr) (c : Nat) (w : World) (ht : Tab w) (h : (decide (t.length ≤ 400) && decide (n.length ≤ 400)) = false) :
    Calls Tryz.prog 10 #[str t, str n, .slice p 0 c] w fun e w' => e = .returned (.bool true) ∧ Below w.heap.size w w' := by
  have hs := short2 t n w false h
  go_enter Tryz.func10, Tryz.ntmps10
  go_wp2_with (first
    | (go_at_call 13; refine hs.mono ?_; clear hs; rintro e wk ⟨rfl, hbk⟩; have hB := hbk)
    | (go_at_call 14; refine (aKept _ (ht.below hB (Nat.le_refl _))).mono ?_; rintro e wk ⟨rfl, hbk⟩; have hB := hB.trans (below_less hbk hB.size)))
  go_ret
  exact ⟨rfl, hB⟩
set_option maxRecDepth 8000 in
theorem we_good (t n a b : List UInt8) (e1 e2 : Nat) (p : Option Addr) (c : Nat) (w : World) (ht : Tab w) (h : (decide (t.length ≤ 400) && decide (n.length ≤ 400)) = true)
    (h1 : Ans 33 #[str t] (.tuple #[str a, .int .i64 e1])) (k1 : Ans 34 #[str t] (.tuple #[str a, .int .i64 e1])) (h2 : Ans 35 #[str n, str t] (.tuple #[str b, .int .i64 e2])) (k2 : Ans 36 #[str n, str t] (.tuple #[str b, .int .i64 e2])) :
    Calls Tryz.prog 10 #[str t, str n, .slice p 0 c] w fun e w' => e = .returned (.bool true) ∧ Below w.heap.size w w' := by
  have hs := short2 t n w true h
  go_enter Tryz.func10, Tryz.ntmps10
  go_wp2_with (go_at_call 13; refine hs.mono ?_; clear hs; rintro e wk ⟨rfl, hbk⟩; have hB := hbk)
  refine wp_loop_rounds 1 ?_
  rw [rounds_succ]
  go_wp2_with (first
    | (go_at_call 33; refine (h1 _ (ht.below hB (Nat.le_refl _))).mono ?_; clear h1; rintro e wk ⟨rfl, hbk⟩; have hB := hB.trans (below_less hbk hB.size))
    | (go_at_call 34; refine (k1 _ (ht.below hB (Nat.le_refl _))).mono ?_; clear k1; rintro e wk ⟨rfl, hbk⟩; have hB := hB.trans (below_less hbk hB.size))
    | (go_at_call 35; refine (h2 _ (ht.below hB (Nat.le_refl _))).mono ?_; clear h2; rintro e wk ⟨rfl, hbk⟩; have hB := hB.trans (below_less hbk hB.size))
    | (go_at_call 36; refine (k2 _ (ht.below hB (Nat.le_refl _))).mono ?_; clear k2; rintro e wk ⟨rfl, hbk⟩; have hB := hB.trans (below_less hbk hB.size))
    | (go_at_call 37; refine (krecord_empty p c _).mono ?_; rintro e wk ⟨rfl, hbk⟩; have hB := hB.trans (below_less hbk hB.size))
    | (go_at_call 38; refine (rrecord_empty p c _).mono ?_; rintro e wk ⟨rfl, hbk⟩; have hB := hB.trans (below_less hbk hB.size))
    | (go_at_call 39; refine (koneof_empty p c _).mono ?_; rintro e wk ⟨rfl, hbk⟩; have hB := hB.trans (below_less hbk hB.size))
    | (go_at_call 40; refine (roneof_empty p c _).mono ?_; rintro e wk ⟨rfl, hbk⟩; have hB := hB.trans (below_less hbk hB.size))
    | (go_at_call 14; refine (aKept _ (ht.below hB (Nat.le_refl _))).mono ?_; rintro e wk ⟨rfl, hbk⟩; have hB := hB.trans (below_less hbk hB.size)))
  go_ret
  exact ⟨rfl, hB⟩
theorem wempty (t n : List UInt8) (p : Option Addr) (c : Nat) (w : World) (ht : Tab w) : Calls Tryz.prog 10 #[str t, str n, .slice p 0 c] w fun e w' => e = .returned (.bool true) ∧ Below w.heap.size w w' := by
  rcases h : (decide (t.length ≤ 400) && decide (n.length ≤ 400)) with _ | _
  · exact we_long t n p c w ht h
  · have hl := h
    simp only [Bool.and_eq_true, decide_eq_true_eq] at hl
    obtain ⟨lt, ln⟩ := hl
    exact we_good t n _ _ _ _ p c w ht h (aArray lt) (aRArray lt) (aNamed ln lt) (aRNamed ln lt)
end Go.Proofs.YtakdmnhpoelepaaGreatDoor
