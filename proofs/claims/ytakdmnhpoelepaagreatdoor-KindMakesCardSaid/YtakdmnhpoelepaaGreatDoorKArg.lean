/-
  Contracts: kind.Arg, Base, Array, Named. Condition: the texts' length; the variable strings.asciiSpace.
-/
import Derived.Test.YtakdmnhpoelepaaGreatDoorKOf
namespace Go.Proofs.YtakdmnhpoelepaaGreatDoor
open Go.RowKit

/-- The first part's type. -/
def Fo.first : Fo → Tr
  | .nil => ⟨0, [], .nil⟩
  | .cons _ k n sub _ => ⟨k, n, sub⟩
theorem Fo.first_at {fo : Fo} {pn : List UInt8} {t : Tr} (h : fo.at 0 = some (pn, t)) : fo.first = t := by
  cases fo with
  | nil => simp [Fo.at] at h
  | cons pn' k n sub rest => simp only [Fo.at, Option.some.injEq, Prod.mk.injEq] at h; exact h.2
theorem Fo.first_len {fo : Fo} (h : fo.len ≠ 0) : fo.first.txt.length ≤ fo.tx.length := by
  cases fo with
  | nil => simp [Fo.len] at h
  | cons pn k n sub rest =>
    have := joinC_get (Fo.cons pn k n sub rest).txt 0 (preN pn ++ (Tr.mk k n sub).txt) (by rw [show Fo.cons pn k n sub rest = .cons pn (Tr.mk k n sub).k (Tr.mk k n sub).n (Tr.mk k n sub).sub rest from rfl, Fo.txt_cons]; rfl)
    rw [List.length_append] at this
    show (Tr.mk k n sub).txt.length ≤ (joinC _).length
    omega
theorem ofK_ok {s : List UInt8} {l : List Nat} {t : Tr} (h : ofK s l = (0, t)) : checkK s = (0, t) ∧ t.k ∈ l := by
  unfold ofK at h
  split at h
  · rename_i h0
    split at h
    · rename_i h1
      refine ⟨h, ?_⟩
      rw [h] at h1
      simpa using h1
    · simp at h
  · rename_i h0
    rw [h] at h0
    simp at h0
theorem ofK_bad {s : List UInt8} {l : List Nat} {c : Nat} {t : Tr} (h : ofK s l = (c, t)) (hc : c ≠ 0) : t = ⟨0, [], .nil⟩ := by
  unfold ofK at h
  split at h
  · rename_i h0
    split at h
    · rw [h] at h0; exact absurd h0 hc
    · simp only [Prod.mk.injEq] at h; exact h.2.symm
  · exact (checkK_bad h hc).2
/-- What Arg, Base answer. -/
def argK (s : List UInt8) : List UInt8 × Bool × Nat := if (ofK s [4, 7]).1 = 0 ∧ (ofK s [4, 7]).2.sub.len ≠ 0 then ((ofK s [4, 7]).2.sub.first.txt, true, 0) else ([], false, (ofK s [4, 7]).1)
def baseK (s : List UInt8) : List UInt8 × Nat := ((ofK s [7]).2.n, (ofK s [7]).1)

set_option maxRecDepth 4000 in
set_option maxHeartbeats 3200000 in
theorem karg_any (s : List UInt8) (hm : s.length ≤ maxLen) (w : World) (ht : Tab w) : Calls Tryz.prog 41 #[str s] w fun e w' => e = .returned (.tuple #[str (argK s).1, .bool (argK s).2.1, .int .i64 (argK s).2.2]) ∧ Below w.heap.size w w' := by
  have hb0 := (Below.refl _ w).alloc (Nat.le_refl _) (.cells #[.int .u8 4, .int .u8 7] 5)
  have hg0 := heap_alloc_new w (.cells #[.int .u8 4, .int .u8 7] 5)
  have HC := of_any s [4, 7] w.heap.size 2 hm _ (ht.below hb0 (Nat.le_refl _)) (by simp) (fun j h => by
    have h : j < 2 := h
    rcases (show j = 0 ∨ j = 1 by omega) with rfl | rfl
    · exact (cells_at hg0 0).trans rfl
    · exact (cells_at hg0 1).trans rfl)
  clear hg0
  unfold OfPost at HC
  unfold argK
  rcases hq : ofK s [4, 7] with ⟨C, t⟩
  rw [hq] at HC
  simp only at HC ⊢
  by_cases h0 : C = 0
  · subst h0
    obtain ⟨hk, _⟩ := ofK_ok hq
    obtain ⟨_, h2, h3, _⟩ := checkK_ok hk
    by_cases hz : t.sub.len = 0
    · rw [if_neg (by omega)]
      have hz' : ((t.sub.len : Int) == 0) = true := by rw [hz]; rfl
      clear hq hk h2 h3 hz
      go_enter Tryz.func41, Tryz.ntmps41
      go_wp2_with (go_at_call 69; refine HC.mono ?_; clear HC; rintro e w1 ⟨v, rfl, hv, hb1⟩; obtain ⟨p, cc, rfl, _⟩ := hv.shape)
      have hs1 := hb1.size
      simp only [World.size_alloc] at hs1
      go_ret3
      exact ⟨rfl, (hb0.trans (below_less hb1 (by simp))).alloc (by omega) _⟩
    · rw [if_pos ⟨rfl, hz⟩]
      have hl := Fo.first_len hz
      have hx : (Tr.txt ⟨t.k, t.n, t.sub⟩).length ≤ 100 := by show t.txt.length ≤ 100; rw [h2]; exact h3
      rw [txt_br hz] at hx
      simp only [List.length_append, List.length_cons] at hx
      have h4 : t.sub.first.txt.length ≤ 1000000 := by omega
      have hz' : ((t.sub.len : Int) == 0) = false := int_not_zero hz
      clear hq hk h2 h3 hl hx
      go_enter Tryz.func41, Tryz.ntmps41
      go_wp2_with (go_at_call 69; refine HC.mono ?_; clear HC; rintro e w1 ⟨v, rfl, hv, hb1⟩; obtain ⟨g, cc, pn, u, uv, rfl, _, hg, ha, c0, c1, c2, c3, hu⟩ := hv.at (i := 0) (by omega); obtain ⟨pu, cu, rfl, _⟩ := hu.shape; obtain rfl := Fo.first_at ha; clear ha hv; have d0 := fun o => Below.keep ((Below.refl _ w1).alloc (Nat.le_refl _) o) c0; have d1 := fun o => Below.keep ((Below.refl _ w1).alloc (Nat.le_refl _) o) c1; have d2 := fun o => Below.keep ((Below.refl _ w1).alloc (Nat.le_refl _) o) c2; have d3 := fun o => Below.keep ((Below.refl _ w1).alloc (Nat.le_refl _) o) c3; clear c0 c1 c2 c3)
      have hs1 := hb1.size
      simp only [World.size_alloc] at hs1
      refine (kstring_any t.sub.first _ _ _ (hu.below ((Below.refl _ w1).alloc (Nat.le_refl _) _) (Nat.le_refl _)) h4).mono ?_
      rintro e w2 ⟨rfl, hb2⟩
      go_wp2_with fail
      go_ret3
      exact ⟨rfl, ((hb0.trans (below_less hb1 (by simp))).alloc (by omega) _).trans (below_less hb2 (by simp; omega))⟩
  · obtain ⟨g1, g2⟩ := nat_ne0 h0
    obtain rfl := ofK_bad hq h0
    rw [if_neg (by simp [h0])]
    clear hq h0
    go_enter Tryz.func41, Tryz.ntmps41
    go_wp2_with (go_at_call 69; refine HC.mono ?_; clear HC; rintro e w1 ⟨v, rfl, hv, hb1⟩; obtain ⟨p, cc, rfl, _⟩ := hv.shape)
    have hs1 := hb1.size
    simp only [World.size_alloc] at hs1
    go_ret3
    exact ⟨rfl, (hb0.trans (below_less hb1 (by simp))).alloc (by omega) _⟩
set_option maxRecDepth 4000 in
set_option maxHeartbeats 3200000 in
theorem kbase_any (s : List UInt8) (hm : s.length ≤ maxLen) (w : World) (ht : Tab w) : Calls Tryz.prog 43 #[str s] w fun e w' => e = .returned (.tuple #[str (baseK s).1, .int .i64 (baseK s).2]) ∧ Below w.heap.size w w' := by
  have hb0 := (Below.refl _ w).alloc (Nat.le_refl _) (.cells #[.int .u8 7] 5)
  have hg0 := heap_alloc_new w (.cells #[.int .u8 7] 5)
  have HC := of_any s [7] w.heap.size 1 hm _ (ht.below hb0 (Nat.le_refl _)) (by simp) (fun j h => by
    have h : j < 1 := h
    rcases (show j = 0 by omega) with rfl
    exact (cells_at hg0 0).trans rfl)
  clear hg0
  unfold OfPost at HC
  unfold baseK
  rcases hq : ofK s [7] with ⟨C, t⟩
  rw [hq] at HC
  simp only at HC ⊢
  clear hq
  go_enter Tryz.func43, Tryz.ntmps43
  go_wp2_with (go_at_call 69; refine HC.mono ?_; clear HC; rintro e w1 ⟨v, rfl, hv, hb1⟩; obtain ⟨p, cc, rfl, _⟩ := hv.shape)
  have hs1 := hb1.size
  simp only [World.size_alloc] at hs1
  go_ret2
  exact ⟨rfl, (hb0.trans (below_less hb1 (by simp))).alloc (by omega) _⟩

/-- One argument in a new block. -/
theorem FoV.arg {W : World} {D D' : Nat → Prop} {g : Nat} {t : Tr} {v : Value} (hg : W.heap[g]? = some (.cells #[str [], .int .u8 t.k, str t.n, v] 63 (0, 0))) (hv : FoV W D t.sub v) (hD : ∀ b, D b → b < W.heap.size → D' b) (hD' : D' g) : FoV W D' (.one t) (.slice (some ⟨g, 0, none⟩) 1 1) :=
  ⟨_, own_lit (n := 1) (cs := [str [], .int .u8 t.k, str t.n, v]) hg rfl (by decide), fun b e => by injection e with e; exact e ▸ hD', FoC.single (hv.mono hD)⟩
theorem name_small {n : List UInt8} (h : isName n = true) : n.length ≤ 12 := by
  cases n with
  | nil => simp
  | cons c r => simp only [isName, Bool.and_eq_true, decide_eq_true_eq] at h; exact h.1.1.1
/-- What Array, Named answer. -/
def arrK (s : List UInt8) : List UInt8 × Nat := if (checkK s).1 = 0 then toldK ⟨4, [], .one (checkK s).2⟩ else ([], (checkK s).1)
def namK (n s : List UInt8) : List UInt8 × Nat := if isName n = true then (if s = [] then (n, 0) else if (checkK s).1 = 0 then toldK ⟨7, n, .one (checkK s).2⟩ else ([], (checkK s).1)) else ([], 1)
theorem one_txt (k : Nat) (n : List UInt8) (t : Tr) : Tr.txt ⟨k, n, .one t⟩ = wordK k n ++ 91 :: (t.txt ++ [93]) := by
  rw [txt_br (by simp [Fo.one, Fo.len]), ← Tr.txt_eq]
theorem one_level (k : Nat) (n : List UInt8) (t : Tr) : Tr.level ⟨k, n, .one t⟩ = t.level + 1 := by
  simp [Tr.level, Fo.one, Fo.level]
set_option maxRecDepth 4000 in
set_option maxHeartbeats 3200000 in
theorem karray_any (s : List UInt8) (hm : s.length ≤ maxLen) (w : World) (ht : Tab w) : Calls Tryz.prog 33 #[str s] w fun e w' => e = .returned (.tuple #[str (arrK s).1, .int .i64 (arrK s).2]) ∧ Below w.heap.size w w' := by
  have HC := kchecked_any s hm w ht
  unfold CheckedPost at HC
  unfold arrK
  rcases hq : checkK s with ⟨C, t⟩
  rw [hq] at HC
  simp only at HC ⊢
  by_cases h0 : C = 0
  · subst h0
    rw [if_pos rfl]
    obtain ⟨_, h2, h3, h4⟩ := checkK_ok hq
    have hl : (Tr.txt ⟨4, [], .one t⟩).length ≤ 1000000 := by
      rw [one_txt]
      simp only [List.length_append, List.length_cons, List.length_nil, show (wordK 4 []).length = 5 from rfl, h2]
      omega
    have hv0 : Tr.level ⟨4, [], .one t⟩ ≤ 1000 := by rw [one_level]; omega
    have HT := fun W D v hv => told_any ⟨4, [], .one t⟩ hl hv0 W D v hv
    clear hq h2 h3 h4 hl hv0
    go_enter Tryz.func33, Tryz.ntmps33
    go_wp2_with (go_at_call 57; refine HC.mono ?_; clear HC; rintro e w1 ⟨v, rfl, hv, hb1⟩; obtain ⟨p, cc, rfl, _⟩ := hv.shape)
    have hs1 := hb1.size
    have hbA := (Below.refl _ w1).alloc (Nat.le_refl _) (.cells #[.int .u8 t.k, .string ⟨t.n.toArray⟩, .slice p t.sub.len cc] 57)
    have hg := heap_alloc_new (w1.alloc (.cells #[.int .u8 t.k, .string ⟨t.n.toArray⟩, .slice p t.sub.len cc] 57)) (.cells #[.string ⟨#[]⟩, .int .u8 t.k, .string ⟨t.n.toArray⟩, .slice p t.sub.len cc] 63)
    have hbB := hbA.alloc (by simp) (.cells #[.string ⟨#[]⟩, .int .u8 t.k, .string ⟨t.n.toArray⟩, .slice p t.sub.len cc] 63)
    rw [World.size_alloc] at hg
    have hv2 := hv.below hbB (Nat.le_refl _)
    have hbC := hb1.trans (below_less hbB hs1)
    generalize ((w1.alloc (.cells #[.int .u8 t.k, .string ⟨t.n.toArray⟩, .slice p t.sub.len cc] 57)).alloc (.cells #[.string ⟨#[]⟩, .int .u8 t.k, .string ⟨t.n.toArray⟩, .slice p t.sub.len cc] 63)) = W2 at hg hv2 hbC ⊢
    refine (HT W2 (fun b => w.heap.size ≤ b) _ (FoV.arg (t := t) hg hv2 (fun b h _ => h) (by omega))).mono ?_
    rintro e w2 ⟨rfl, hb2⟩
    go_wp2_with fail
    go_ret2
    exact ⟨rfl, hbC.trans (below_less hb2 hbC.size)⟩
  · rw [if_neg h0]
    obtain ⟨g1, g2⟩ := nat_ne0 h0
    obtain rfl := (checkK_bad hq h0).2
    clear hq h0
    go_enter Tryz.func33, Tryz.ntmps33
    go_wp2_with (go_at_call 57; refine HC.mono ?_; clear HC; rintro e w1 ⟨v, rfl, hv, hb1⟩; obtain ⟨p, cc, rfl, _⟩ := hv.shape)
    go_ret2
    exact ⟨rfl, hb1.alloc hb1.size _⟩
set_option maxRecDepth 4000 in
set_option maxHeartbeats 3200000 in
theorem knamed_any (n s : List UInt8) (hn : n.length ≤ maxLen) (hm : s.length ≤ maxLen) (w : World) (ht : Tab w) : Calls Tryz.prog 35 #[str n, str s] w fun e w' => e = .returned (.tuple #[str (namK n s).1, .int .i64 (namK n s).2]) ∧ Below w.heap.size w w' := by
  have HN := tIsName_any n w ht hn
  have hC := fun W hW => kchecked_any s hm W hW
  unfold CheckedPost at hC
  unfold namK
  rcases hi : isName n with _ | _
  · rw [hi] at HN
    rw [if_neg (by simp)]
    clear hi hC
    go_enter Tryz.func35, Tryz.ntmps35
    go_wp2_with (go_at_call 65; refine HN.mono ?_; clear HN; rintro e w1 ⟨rfl, hb0⟩)
    go_ret2
    exact ⟨rfl, hb0⟩
  · have hle := name_small hi
    rw [hi] at HN
    rw [if_pos rfl]
    by_cases he : s = []
    · subst he
      rw [if_pos rfl]
      clear hi hC
      go_enter Tryz.func35, Tryz.ntmps35
      go_wp2_with (go_at_call 65; refine HN.mono ?_; clear HN; rintro e w1 ⟨rfl, hb0⟩)
      go_ret2
      exact ⟨rfl, hb0⟩
    · rw [if_neg he]
      have he' : (s == []) = false := by simpa using he
      rcases hq : checkK s with ⟨C, t⟩
      rw [hq] at hC
      simp only at hC ⊢
      by_cases h0 : C = 0
      · subst h0
        rw [if_pos rfl]
        obtain ⟨_, h2, h3, h4⟩ := checkK_ok hq
        have hl : (Tr.txt ⟨7, n, .one t⟩).length ≤ 1000000 := by
          rw [one_txt]
          simp only [List.length_append, List.length_cons, List.length_nil, show wordK 7 n = n from rfl, h2]
          omega
        have hv0 : Tr.level ⟨7, n, .one t⟩ ≤ 1000 := by rw [one_level]; omega
        have HT := fun W D v hv => told_any ⟨7, n, .one t⟩ hl hv0 W D v hv
        clear hq h2 h3 h4 hl hv0 hi he hle
        go_enter Tryz.func35, Tryz.ntmps35
        go_wp2_with (first
          | (go_at_call 65; refine HN.mono ?_; clear HN; rintro e w0 ⟨rfl, hb0⟩)
          | (go_at_call 57; refine (hC _ (ht.below hb0 (Nat.le_refl _))).mono ?_; clear hC; rintro e w1 ⟨v, rfl, hv, hb1⟩; obtain ⟨p, cc, rfl, _⟩ := hv.shape))
        have hs1 := hb1.size
        have hs0 := hb0.size
        have hbA := (Below.refl _ w1).alloc (Nat.le_refl _) (.cells #[.int .u8 t.k, .string ⟨t.n.toArray⟩, .slice p t.sub.len cc] 57)
        have hg := heap_alloc_new (w1.alloc (.cells #[.int .u8 t.k, .string ⟨t.n.toArray⟩, .slice p t.sub.len cc] 57)) (.cells #[.string ⟨#[]⟩, .int .u8 t.k, .string ⟨t.n.toArray⟩, .slice p t.sub.len cc] 63)
        have hbB := hbA.alloc (by simp) (.cells #[.string ⟨#[]⟩, .int .u8 t.k, .string ⟨t.n.toArray⟩, .slice p t.sub.len cc] 63)
        rw [World.size_alloc] at hg
        have hv2 := hv.below hbB (Nat.le_refl _)
        have hbC := (hb0.trans (below_less hb1 hs0)).trans (below_less hbB (by omega))
        generalize ((w1.alloc (.cells #[.int .u8 t.k, .string ⟨t.n.toArray⟩, .slice p t.sub.len cc] 57)).alloc (.cells #[.string ⟨#[]⟩, .int .u8 t.k, .string ⟨t.n.toArray⟩, .slice p t.sub.len cc] 63)) = W2 at hg hv2 hbC ⊢
        refine (HT W2 (fun b => w0.heap.size ≤ b) _ (FoV.arg (t := t) hg hv2 (fun b h _ => h) (by omega))).mono ?_
        rintro e w2 ⟨rfl, hb2⟩
        go_wp2_with fail
        go_ret2
        exact ⟨rfl, hbC.trans (below_less hb2 hbC.size)⟩
      · rw [if_neg h0]
        obtain ⟨g1, g2⟩ := nat_ne0 h0
        obtain rfl := (checkK_bad hq h0).2
        clear hq h0 hi he hle
        go_enter Tryz.func35, Tryz.ntmps35
        go_wp2_with (first
          | (go_at_call 65; refine HN.mono ?_; clear HN; rintro e w0 ⟨rfl, hb0⟩)
          | (go_at_call 57; refine (hC _ (ht.below hb0 (Nat.le_refl _))).mono ?_; clear hC; rintro e w1 ⟨v, rfl, hv, hb1⟩; obtain ⟨p, cc, rfl, _⟩ := hv.shape))
        go_ret2
        have hs1 := hb1.size
        have hs0 := hb0.size
        exact ⟨rfl, (hb0.trans (below_less hb1 hs0)).alloc (by omega) _⟩
end Go.Proofs.YtakdmnhpoelepaaGreatDoor
