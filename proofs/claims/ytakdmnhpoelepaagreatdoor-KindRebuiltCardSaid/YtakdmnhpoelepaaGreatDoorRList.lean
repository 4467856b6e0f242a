/-
  Contracts: the reference's list, arg, SameParts, has (argusref03). Condition: the texts' length.
-/
import Derived.Test.YtakdmnhpoelepaaGreatDoorRTop
import Derived.Test.YtakdmnhpoelepaaGreatDoorKMade
import Derived.WalkSmall
import Derived.Test.YtakdmnhpoelepaaGreatDoorRegion
namespace Go.Proofs.YtakdmnhpoelepaaGreatDoor
open Go.RowKit

/-- The parts of a forest, as texts. -/
def Fo.pts : Fo → List (List UInt8 × List UInt8)
  | .nil => []
  | .cons pn k n sub rest => (pn, Tr.txt ⟨k, n, sub⟩) :: rest.pts
theorem Fo.pts_len : ∀ fo : Fo, fo.pts.length = fo.len
  | .nil => rfl
  | .cons pn k n sub rest => by rw [Fo.pts, List.length_cons, Fo.pts_len rest]; rfl
/-- The cells of parts. -/
def ptsC (ps : List (List UInt8 × List UInt8)) : List Value := ps.flatMap fun x => [str x.1, str x.2]
theorem ptsC_len : ∀ ps : List (List UInt8 × List UInt8), (ptsC ps).length = ps.length * 2
  | [] => rfl
  | x :: ps => by
    have := ptsC_len ps
    unfold ptsC at this ⊢
    simp only [List.flatMap_cons, List.length_append, List.length_cons, List.length_nil, this]
    omega
theorem ptsC_get : ∀ (ps : List (List UInt8 × List UInt8)) (j : Nat) (h : j < ps.length), (ptsC ps)[j * 2]? = some (str ps[j].1) ∧ (ptsC ps)[j * 2 + 1]? = some (str ps[j].2)
  | [], j, h => by simp at h
  | x :: ps, 0, _ => ⟨rfl, rfl⟩
  | x :: ps, j + 1, h => by
    have := ptsC_get ps j (by simpa using h)
    unfold ptsC at this ⊢
    simp only [List.flatMap_cons]
    rw [show (j + 1) * 2 = j * 2 + 1 + 1 from by omega]
    exact this
theorem ptsC_snoc (ps : List (List UInt8 × List UInt8)) (x : List UInt8 × List UInt8) : ptsC (ps ++ [x]) = ptsC ps ++ [str x.1, str x.2] := by simp [ptsC]
theorem Pts.of_own {w : World} {base : Nat} {e : TypeId} {v : Value} {ps : List (List UInt8 × List UInt8)} (h : w.ownsRow base e 2 v ps.length (ptsC ps)) : Pts w v ps := by
  rcases h.2 with ⟨rfl, h0⟩ | ⟨g, cap, cur, rfl, _⟩
  · exact .inl ⟨rfl, List.length_eq_zero_iff.1 h0⟩
  · refine .inr ⟨g, 0, cap, rfl, ownsRow_lt h rfl, fun j hj => ?_⟩
    have hc : ∀ j x, (ptsC ps)[j]? = some x → w.cell? ⟨g, j, none⟩ = some x := by
      intro j x hx
      have := h.cells (g := g) rfl _ _ hx
      simp only [Addr.add] at this
      split at this
      · rename_i e; rw [e]; exact this
      · simpa using this
    have h2 := ptsC_get ps j hj
    rw [Nat.zero_add]
    exact ⟨hc _ _ h2.1, hc _ _ h2.2⟩
theorem infoPt : (Tryz.prog.info? 46).map (fun i => (i.zero, i.size, i.bytes)) = some (some (.agg #[.string ⟨#[]⟩, .string ⟨#[]⟩]), 2, 32) := by kernel_rfl
theorem underPts : Tryz.prog.underlying 44 = some (.slice 46) := by kernel_rfl

/-- What stands at a part. -/
theorem list_step {b pn : List UInt8} {k : Nat} {n : List UInt8} {sub rest : Fo} {s : List UInt8} {i : Nat} (h : Wf (some b) (.cons pn k n sub rest)) (hs : s.drop i = (Fo.cons pn k n sub rest).tx ++ [93]) (hi : i ≤ s.length) :
    cutN (s.drop i) = pn.length ∧ List.drop i (List.take (i + pn.length) s) = pn ∧ rdN (s.drop (i + pn.length + 1)) = (Tr.txt ⟨k, n, sub⟩).length ∧ List.drop (i + pn.length + 1) (List.take (i + pn.length + 1 + (Tr.txt ⟨k, n, sub⟩).length) s) = Tr.txt ⟨k, n, sub⟩ ∧
    i + pn.length + (Tr.txt ⟨k, n, sub⟩).length + 2 ≤ s.length ∧ ((rest = .nil ∧ i + pn.length + (Tr.txt ⟨k, n, sub⟩).length + 2 = s.length) ∨ (Wf (some pn) rest ∧ s.drop (i + pn.length + (Tr.txt ⟨k, n, sub⟩).length + 2) = rest.tx ++ [93])) := by
  have key : ∀ (c : UInt8) (Y : List UInt8), isName pn = true → Wf none (.cons [] k n sub .nil) → (c = 93 ∨ c = 44) → s.drop i = pn ++ 58 :: ((Fo.cons [] k n sub .nil).tx ++ c :: Y) →
      cutN (s.drop i) = pn.length ∧ List.drop i (List.take (i + pn.length) s) = pn ∧ rdN (s.drop (i + pn.length + 1)) = (Tr.txt ⟨k, n, sub⟩).length ∧ List.drop (i + pn.length + 1) (List.take (i + pn.length + 1 + (Tr.txt ⟨k, n, sub⟩).length) s) = Tr.txt ⟨k, n, sub⟩ ∧
      s.length = i + pn.length + (Tr.txt ⟨k, n, sub⟩).length + 2 + Y.length ∧ s.drop (i + pn.length + (Tr.txt ⟨k, n, sub⟩).length + 2) = Y := by
    intro c Y hn h hc hs
    have ho : (Tr.mk k n sub).ok := h
    have e : (Fo.cons [] k n sub .nil).tx = (Tr.mk k n sub).txt := by rw [Tr.txt_eq]; rfl
    rw [e] at hs
    generalize hT : (Tr.mk k n sub).txt = T at hs ⊢
    have hlen : s.length = i + pn.length + T.length + 2 + Y.length := by
      have := congrArg List.length hs
      simp only [List.length_drop, List.length_append, List.length_cons] at this
      omega
    have d1 : s.drop (i + pn.length + 1) = T ++ c :: Y := by
      rw [show i + pn.length + 1 = i + (pn.length + 1) from by omega, ← List.drop_drop, hs, ← List.drop_drop, List.drop_left]; rfl
    refine ⟨?_, ?_, ?_, ?_, hlen, ?_⟩
    · rw [hs]; exact cutN_all _ (name_cut hn) _ (by rw [cutN_cons]; rfl)
    · rw [List.drop_take, hs]; simp
    · rw [d1, ← hT]
      refine Eq.trans ?_ rfl
      unfold rdN
      rw [ho.reads (r := c :: Y) (by rcases hc with rfl | rfl; exact ends_shut _; exact ends_comma _)]
      simp
    · rw [List.drop_take, d1]; simp
    · rw [show i + pn.length + T.length + 2 = (i + pn.length + 1) + (T.length + 1) from by omega, ← List.drop_drop, d1, ← List.drop_drop, List.drop_left]; rfl
  cases h with
  | last _ _ _ _ _ hn hb h =>
    rw [Fo.tx_last, preN_name hn] at hs
    obtain ⟨a1, a2, a3, a4, a5, a6⟩ := key 93 [] hn h (.inl rfl) (by rw [hs]; simp)
    exact ⟨a1, a2, a3, a4, by omega, .inl ⟨rfl, by rw [a5]; rfl⟩⟩
  | more _ _ _ _ _ _ hn hb h h2 =>
    rw [Fo.tx_more _ _ _ _ _ h2.ne, preN_name hn] at hs
    obtain ⟨a1, a2, a3, a4, a5, a6⟩ := key 44 (rest.tx ++ [93]) hn h (.inr rfl) (by rw [hs]; simp)
    exact ⟨a1, a2, a3, a4, by omega, .inr ⟨h2, a6⟩⟩
/-- In the loop: what is done, what is left. -/
def ListAt (s : List UInt8) (fo : Fo) (i : Nat) (ps : List (List UInt8 × List UInt8)) : Prop := ∃ fo', fo.pts = ps ++ fo'.pts ∧ i ≤ s.length ∧ ((fo' = .nil ∧ i = s.length) ∨ ∃ b, Wf (some b) fo' ∧ s.drop i = fo'.tx ++ [93])
theorem ListAt.cases {s : List UInt8} {fo : Fo} {i : Nat} {ps : List (List UInt8 × List UInt8)} (h : ListAt s fo i ps) : (i = s.length ∧ fo.pts = ps) ∨
    ∃ n m, ∃ a b : List UInt8, i < s.length ∧ cutN (s.drop i) = n ∧ List.drop i (List.take (i + n) s) = a ∧ rdN (s.drop (i + n + 1)) = m ∧ List.drop (i + n + 1) (List.take (i + n + 1 + m) s) = b ∧ i + n + m + 2 ≤ s.length ∧ ListAt s fo (i + n + m + 2) (ps ++ [(a, b)]) ∧ ps.length < fo.len := by
  obtain ⟨fo', h1, hi, h2 | ⟨b, h2, h3⟩⟩ := h
  · obtain ⟨rfl, rfl⟩ := h2
    exact .inl ⟨rfl, by rw [h1]; simp [Fo.pts]⟩
  · cases fo' with
    | nil => exact absurd rfl h2.ne
    | cons pn k n sub rest =>
      obtain ⟨a1, a2, a3, a4, a5, a6⟩ := list_step h2 h3 hi
      have hl : ps.length < fo.len := by
        have := congrArg List.length h1
        rw [Fo.pts_len, List.length_append, Fo.pts_len] at this
        simp only [Fo.len] at this
        omega
      refine .inr ⟨pn.length, _, pn, _, by omega, a1, a2, a3, a4, a5, ⟨rest, by rw [h1, Fo.pts]; simp, a5, ?_⟩, hl⟩
      rcases a6 with ⟨rfl, e⟩ | ⟨e1, e2⟩
      · exact .inl ⟨rfl, e⟩
      · exact .inr ⟨pn, e1, e2⟩
theorem ListAt.start {k : Nat} {n : List UInt8} {fo : Fo} (h : (Tr.mk k n fo).ok) (hk : k = 5 ∨ k = 6) : ListAt (Tr.txt ⟨k, n, fo⟩) fo (cutN (Tr.txt ⟨k, n, fo⟩) + 1) [] := by
  have h' : Wf none (.cons [] k n fo .nil) := h
  have e : (Tr.mk k n fo).txt = (Fo.cons [] k n fo .nil).tx := by rw [Tr.txt_eq]; rfl
  have hw := wordK_cut h' (by omega)
  rw [e, Fo.tx_one, cutN_all _ hw _ (br_cut _)]
  clear h e
  cases h' with
  | par => simp at hk
  | word _ h3 => omega
  | arr => simp at hk
  | nam => simp at hk
  | app => simp at hk
  | rcd _ _ _ hk2 h hl =>
    rw [Fo.br_ne h.ne]
    refine ⟨fo, by simp, by simp, .inr ⟨[], h, ?_⟩⟩
    rw [← List.drop_drop, List.drop_left]; rfl

set_option maxRecDepth 100000 in
set_option maxHeartbeats 6400000 in
theorem rlist_any (t : Tr) (h : t.ok) (hk : t.k = 5 ∨ t.k = 6) (hl : t.txt.length ≤ 100) (hf : t.sub.len ≤ 6) (w : World) :
    Calls Tryz.prog 71 #[str t.txt] w fun e w' => ∃ v, e = .returned v ∧ Pts w' v t.sub.pts ∧ Below w.heap.size w w' := by
  have hS := ListAt.start (k := t.k) (n := t.n) (fo := t.sub) h hk
  have hc0 := cutN_le t.txt
  obtain ⟨i0, hi0, hz0, hz1, hz2⟩ := info_parts infoPt
  change ListAt t.txt t.sub (cutN t.txt + 1) [] at hS
  have hb0 : cutN t.txt + 1 ≤ t.txt.length := by obtain ⟨_, _, h, _⟩ := hS; exact h
  generalize t.txt = s at *
  generalize t.sub = fo at *
  have HS := Lib.hid hS
  clear hS h hk
  go_enter Tryz.func71, Tryz.ntmps71
  go_wp2_with (go_at_call 59; refine (cut_any _ _ (by unfold maxLen; omega)).mono ?_; rintro e w1 ⟨rfl, rfl⟩)
  go_loopw [3, 4] (fun o y wr => ∃ (i : Nat) (ps : List (List UInt8 × List UInt8)), i ≤ s.length ∧ y = .int .i64 i ∧ ps.length ≤ 6 ∧ wr.ownsRow w.heap.size 46 2 o ps.length (ptsC ps) ∧ Hid (ListAt s fo i ps) ∧ Below w.heap.size w wr) (fun _ y _ => s.length - (intOf y).toNat)
  case atStart => exact ⟨cutN s + 1, [], hb0, by go_num, by simp, by simpa [ptsC] using World.ownsRow_nil _ _ _ _, HS, Below.refl _ _⟩
  case round =>
    obtain ⟨i, ps, hi, rfl, hp6, hown, HL, hb⟩ := hrel
    obtain ⟨po, co, rfl⟩ := row_shape hown
    rcases HL.out.cases with ⟨rfl, hz⟩ | ⟨n, m, a, b, hlt, hn, ha, hm, hbb, hle, hnx, hpl⟩
    · obtain rfl : fo.pts = ps := hz
      go_wp2_with fail
      go_ret
      exact ⟨_, rfl, Pts.of_own hown, hb⟩
    · have hK := fun W => cut_any (s.drop i) W (by simp; unfold maxLen; omega)
      have hR := fun W => read_any (s.drop (i + n + 1)) 0 W (Int.le_refl _) (by simp; omega)
      rw [hn] at hK
      rw [hm] at hR
      generalize rdL (s.drop (i + n + 1)) = L at hR
      have HA := Lib.hid ha
      have HBB := Lib.hid hbb
      have HNX := Lib.hid hnx
      clear ha hbb hnx hn hm HL
      go_upto_region 6 with (first
        | (go_at_call 59; refine (hK _).mono ?_; clear hK; rintro e w1 ⟨rfl, rfl⟩)
        | (go_at_call 56; refine (hR _).mono ?_; clear hR; rintro e w2 ⟨rfl, hb2⟩))
      have hb3 := hb.trans (below_less hb2 hb.size)
      have hown3 := ownsRow_below hown hb2 (Nat.le_refl _)
      have s1 : IntKind.i64.wrap ((i : Int) + (n : Int)) = (i : Int) + (n : Int) := by rw [IntKind.wrap_i64]; omega
      have s2 : IntKind.i64.wrap ((i : Int) + (n : Int) + 1) = (i : Int) + (n : Int) + 1 := by rw [IntKind.wrap_i64]; omega
      have s3 : IntKind.i64.wrap ((i : Int) + (n : Int) + 1 + (m : Int)) = (i : Int) + (n : Int) + 1 + (m : Int) := by rw [IntKind.wrap_i64]; omega
      have t1 : ((i : Int) + (n : Int)).toNat = i + n := by omega
      have t2 : ((i : Int) + (n : Int) + 1).toNat = i + n + 1 := by omega
      have t3 : ((i : Int) + (n : Int) + 1 + (m : Int)).toNat = i + n + 1 + m := by omega
      have u1 : (i : Int) ≤ (i : Int) + (n : Int) := by omega
      have u2 : (i : Int) + (n : Int) ≤ (s.length : Int) := by omega
      have u3 : (i : Int) + (n : Int) + 1 ≤ (i : Int) + (n : Int) + 1 + (m : Int) := by omega
      have u4 : (i : Int) + (n : Int) + 1 + (m : Int) ≤ (s.length : Int) := by omega
      have u5 : (0 : Int) ≤ (i : Int) + (n : Int) + 1 := by omega
      -- REGION
      refine wp_region_held_drew (S := (fun _ => True)) (by kernel_rfl) ?_ (fun hHeld => ?_)
      · trivial
      refine takeH (i := 0) (d := some 29) (v := ?_) rfl (by kernel_rfl) (by kernel_rfl) (by kernel_rfl) (by kernel_rfl) (fun _ _ _ h => h) (by assumption) (by kernel_rfl) ?_ ?_
      rotate_left
      · intro w hSw
        try dsimp only at hSw
        go_simp
        try with_reducible rfl
      try simp only [Act.put, List.setIfInBounds_toArray, List.set_cons_zero, List.set_cons_succ]
      refine takeH (i := 1) (d := some 30) (v := ?_) rfl (by kernel_rfl) (by kernel_rfl) (by kernel_rfl) (by kernel_rfl) (fun _ _ _ h => h) (by assumption) (by kernel_rfl) ?_ ?_
      rotate_left
      · intro w hSw
        try dsimp only at hSw
        go_simp
        try with_reducible rfl
      try simp only [Act.put, List.setIfInBounds_toArray, List.set_cons_zero, List.set_cons_succ]
      refine takeH (i := 2) (d := some 31) (v := ?_) rfl (by kernel_rfl) (by kernel_rfl) (by kernel_rfl) (by kernel_rfl) (fun _ _ _ h => h) (by assumption) (by kernel_rfl) ?_ ?_
      rotate_left
      · intro w hSw
        try dsimp only at hSw
        go_simp
        try with_reducible rfl
      try simp only [Act.put, List.setIfInBounds_toArray, List.set_cons_zero, List.set_cons_succ]
      refine takeH (i := 3) (d := some 32) (v := ?_) rfl (by kernel_rfl) (by kernel_rfl) (by kernel_rfl) (by kernel_rfl) (fun _ _ _ h => h) (by assumption) (by kernel_rfl) ?_ ?_
      rotate_left
      · intro w hSw
        try dsimp only at hSw
        go_simp
        try with_reducible rfl
      try simp only [Act.put, List.setIfInBounds_toArray, List.set_cons_zero, List.set_cons_succ]
      refine takeH (i := 4) (d := some 33) (v := ?_) rfl (by kernel_rfl) (by kernel_rfl) (by kernel_rfl) (by kernel_rfl) (fun _ _ _ h => h) (by assumption) (by kernel_rfl) ?_ ?_
      rotate_left
      · intro w hSw
        try dsimp only at hSw
        go_simp
        try with_reducible rfl
      try simp only [Act.put, List.setIfInBounds_toArray, List.set_cons_zero, List.set_cons_succ]
      refine takeH (i := 5) (d := some 34) (v := ?_) rfl (by kernel_rfl) (by kernel_rfl) (by kernel_rfl) (by kernel_rfl) (fun _ _ _ h => h) (by assumption) (by kernel_rfl) ?_ ?_
      rotate_left
      · intro w hSw
        try dsimp only at hSw
        go_simp
        try with_reducible rfl
      try simp only [Act.put, List.setIfInBounds_toArray, List.set_cons_zero, List.set_cons_succ]
      refine takeH (i := 6) (d := some 35) (v := ?_) rfl (by kernel_rfl) (by kernel_rfl) (by kernel_rfl) (by kernel_rfl) (fun _ _ _ h => h) (by assumption) (by kernel_rfl) ?_ ?_
      rotate_left
      · intro w hSw
        try dsimp only at hSw
        go_simp
        try with_reducible rfl
      try simp only [Act.put, List.setIfInBounds_toArray, List.set_cons_zero, List.set_cons_succ]
      refine takeH (i := 7) (d := some 36) (v := ?_) rfl (by kernel_rfl) (by kernel_rfl) (by kernel_rfl) (by kernel_rfl) (fun _ _ _ h => h) (by assumption) (by kernel_rfl) ?_ ?_
      rotate_left
      · intro w hSw
        try dsimp only at hSw
        go_simp
        try with_reducible rfl
      try simp only [Act.put, List.setIfInBounds_toArray, List.set_cons_zero, List.set_cons_succ]
      refine takeH (i := 8) (d := some 37) (v := ?_) rfl (by kernel_rfl) (by kernel_rfl) (by kernel_rfl) (by kernel_rfl) (fun _ _ _ h => h) (by assumption) (by kernel_rfl) ?_ ?_
      rotate_left
      · intro w hSw
        try dsimp only at hSw
        go_simp
        try with_reducible rfl
      try simp only [Act.put, List.setIfInBounds_toArray, List.set_cons_zero, List.set_cons_succ]
      refine takeH (i := 9) (d := some 38) (v := ?_) rfl (by kernel_rfl) (by kernel_rfl) (by kernel_rfl) (by kernel_rfl) (fun _ _ _ h => h) (by assumption) (by kernel_rfl) ?_ ?_
      rotate_left
      · intro w hSw
        try dsimp only at hSw
        go_simp
        try with_reducible rfl
      try simp only [Act.put, List.setIfInBounds_toArray, List.set_cons_zero, List.set_cons_succ]
      refine takeH (i := 10) (d := some 39) (v := ?_) rfl (by kernel_rfl) (by kernel_rfl) (by kernel_rfl) (by kernel_rfl) (fun _ _ _ h => h) (by assumption) (by kernel_rfl) ?_ ?_
      rotate_left
      · intro w hSw
        try dsimp only at hSw
        go_simp
        try with_reducible rfl
      try simp only [Act.put, List.setIfInBounds_toArray, List.set_cons_zero, List.set_cons_succ]
      refine takeH (i := 11) (d := some 40) (v := ?_) rfl (by kernel_rfl) (by kernel_rfl) (by kernel_rfl) (by kernel_rfl) (fun _ _ _ h => h) (by assumption) (by kernel_rfl) ?_ ?_
      rotate_left
      · intro w hSw
        try dsimp only at hSw
        go_simp
        try with_reducible rfl
      try simp only [Act.put, List.setIfInBounds_toArray, List.set_cons_zero, List.set_cons_succ]
      refine takeH (i := 12) (d := some 41) (v := ?_) rfl (by kernel_rfl) (by kernel_rfl) (by kernel_rfl) (by kernel_rfl) (fun _ _ _ h => h) (by assumption) (by kernel_rfl) ?_ ?_
      rotate_left
      · intro w hSw
        try dsimp only at hSw
        go_simp
        try with_reducible rfl
      try simp only [Act.put, List.setIfInBounds_toArray, List.set_cons_zero, List.set_cons_succ]
      refine takeH (i := 13) (d := some 42) (v := ?_) rfl (by kernel_rfl) (by kernel_rfl) (by kernel_rfl) (by kernel_rfl) (fun _ _ _ h => h) (by assumption) (by kernel_rfl) ?_ ?_
      rotate_left
      · intro w hSw
        try dsimp only at hSw
        go_simp
        try with_reducible rfl
      try simp only [Act.put, List.setIfInBounds_toArray, List.set_cons_zero, List.set_cons_succ]
      refine takeH (i := 14) (d := some 43) (v := ?_) rfl (by kernel_rfl) (by kernel_rfl) (by kernel_rfl) (by kernel_rfl) (fun _ _ _ h => h) (by assumption) (by kernel_rfl) ?_ ?_
      rotate_left
      · intro w hSw
        try dsimp only at hSw
        go_simp
        try with_reducible rfl
      try simp only [Act.put, List.setIfInBounds_toArray, List.set_cons_zero, List.set_cons_succ]
      refine takeH (i := 15) (d := some 44) (v := ?_) rfl (by kernel_rfl) (by kernel_rfl) (by kernel_rfl) (by kernel_rfl) (fun _ _ _ h => h) (by assumption) (by kernel_rfl) ?_ ?_
      rotate_left
      · intro w hSw
        try dsimp only at hSw
        go_simp
        try with_reducible rfl
      try simp only [Act.put, List.setIfInBounds_toArray, List.set_cons_zero, List.set_cons_succ]
      refine takeH (i := 16) (d := some 45) (v := ?_) rfl (by kernel_rfl) (by kernel_rfl) (by kernel_rfl) (by kernel_rfl) (fun _ _ _ h => h) (by assumption) (by kernel_rfl) ?_ ?_
      rotate_left
      · intro w hSw
        try dsimp only at hSw
        go_simp
        try with_reducible rfl
      try simp only [Act.put, List.setIfInBounds_toArray, List.set_cons_zero, List.set_cons_succ]
      refine takeH (i := 17) (d := some 46) (v := ?_) rfl (by kernel_rfl) (by kernel_rfl) (by kernel_rfl) (by kernel_rfl) (fun _ _ _ h => h) (by assumption) (by kernel_rfl) ?_ ?_
      rotate_left
      · intro w hSw
        try dsimp only at hSw
        go_simp
        try with_reducible rfl
      try simp only [Act.put, List.setIfInBounds_toArray, List.set_cons_zero, List.set_cons_succ]
      refine takeH (i := 18) (d := some 47) (v := ?_) rfl (by kernel_rfl) (by kernel_rfl) (by kernel_rfl) (by kernel_rfl) (fun _ _ _ h => h) (by assumption) (by kernel_rfl) ?_ ?_
      rotate_left
      · intro w hSw
        try dsimp only at hSw
        go_simp
        try with_reducible rfl
      try simp only [Act.put, List.setIfInBounds_toArray, List.set_cons_zero, List.set_cons_succ]
      refine takeH (i := 19) (d := some 48) (v := ?_) rfl (by kernel_rfl) (by kernel_rfl) (by kernel_rfl) (by kernel_rfl) (fun _ _ _ h => h) (by assumption) (by kernel_rfl) ?_ ?_
      rotate_left
      · intro w hSw
        try dsimp only at hSw
        go_simp
        try with_reducible rfl
      try simp only [Act.put, List.setIfInBounds_toArray, List.set_cons_zero, List.set_cons_succ]
      refine wpAnyH_ready (rs := [20]) (by kernel_rfl) (by simp) ?_
      refine AllReadyH.cons rfl (fun K hK => ?_) AllReadyH.nil
      go_simp
      go_wp2_with (fail)
      refine hK.out _ _ ?_ (fun hHeld => ?_)
      · trivial
      clear hK K
      try simp only [Act.put, List.setIfInBounds_toArray, List.set_cons_zero, List.set_cons_succ]
      refine wpAnyH_ready (rs := [21]) (by kernel_rfl) (by simp) ?_
      refine AllReadyH.cons rfl (fun K hK => ?_) AllReadyH.nil
      refine wp_append_own _ _ _ 44 rfl w.heap.size 46 i0 (.agg #[.string ⟨#[]⟩, .string ⟨#[]⟩]) 2 32 underPts hi0 hz0 hz1 hz2 rfl (by decide) (.slice po ps.length co) ps.length (ptsC ps) rfl (by exact hown3.alloc _) ⟨w2.heap.size, 0, none⟩ 1 1 [str (List.drop i (List.take (i + n) s)), str (List.drop (i + n + 1) (List.take (i + n + 1 + m) s))] rfl rfl (fun j u h => cell_two_new w2 _ _ _ j u h) (fun x hx => by simp at hx; rcases hx with rfl | rfl <;> rfl) (by unfold maxLen; omega) (by omega) (by have := hb3.size; simp; omega) ?_
      intro v' w5 hown4 hgr _
      refine hK.out _ _ trivial (fun hHeld => ?_)
      clear hK K
      try simp only [Act.put, List.setIfInBounds_toArray]
      refine wpAnyH_ready (rs := [22]) (by kernel_rfl) (by simp) ?_
      refine AllReadyH.cons rfl (fun K hK => ?_) AllReadyH.nil
      go_simp
      refine hK.out _ _ trivial (fun hHeld => ?_)
      clear hK K
      refine wpAnyH_done (by kernel_rfl) ?_ _
      -- END
      have hbx : Below w.heap.size w w5 := ((hb3.alloc hb3.size (.cells #[str (List.drop i (List.take (i + n) s)), str (List.drop (i + n + 1) (List.take (i + n + 1 + m) s))] 46)).drew).grown hgr (by have := hb3.size; simp; omega) (fun b e => (hown3.lt b e).1)
      clear s1 s2 s3 t1 t2 t3 u1 u2 u3 u4 u5
      go_wp2_with fail
      refine ⟨⟨i + n + m + 2, ps ++ [(a, b)], hle, by go_num, by simp only [List.length_append, List.length_cons, List.length_nil]; omega, ?_, HNX.out, hbx⟩, by simp only [intOf]; omega⟩
      rw [List.length_append, ptsC_snoc, ← HA.out, ← HBB.out]
      exact hown4
end Go.Proofs.YtakdmnhpoelepaaGreatDoor
