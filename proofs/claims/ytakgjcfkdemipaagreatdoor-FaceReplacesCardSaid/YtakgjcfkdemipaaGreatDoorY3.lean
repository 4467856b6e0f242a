/-
  Contracts: slices.Clone at texts, and of the package face: cloned, types, sig, raising. Condition: the number of texts.
  Contracts: of the package face: sig, raising, equals. No condition but on lengths.
-/
import Derived.Laws.AppendOwnNone
import Derived.Maps.AppendAt
import Derived.Test.YtakgjcfkdemipaaGreatDoorYn
import Derived.Test.YtakgjcfkdemipaaGreatDoorY2
namespace Go.Proofs.YtakgjcfkdemipaaGreatDoor
open Go.RowKit
theorem finfo_parts {t : TypeId} {z : Value} {n b : Nat} (h : (Tryz.prog.info? t).map (fun i => (i.zero, i.size, i.bytes)) = some (some z, n, b)) : ∃ i, Tryz.prog.info? t = some i ∧ i.zero = some z ∧ i.size = n ∧ i.bytes = b := by
 cases hi : Tryz.prog.info? t with
 | none => rw [hi] at h; simp at h
 | some i =>
  rw [hi] at h;simp only [Option.map_some, Option.some.injEq, Prod.mk.injEq] at h;exact ⟨i, rfl, h.1, h.2.1, h.2.2⟩
theorem finfoStr : (Tryz.prog.info? 9).map (fun i => (i.zero, i.size, i.bytes)) = some (some (.string ⟨#[]⟩), 1, 16) := by kernel_rfl
theorem strsC_one (ss : List (List UInt8)) : ∀ u ∈ strsC ss, u.oneCell' = true := by
 intro u hu
 obtain ⟨s, _, rfl⟩ := List.mem_map.1 hu
 rfl
set_option maxRecDepth 4000 in
set_option maxHeartbeats 3200000 in
theorem clone_ss {D : Nat → Prop} (v : Value) (ss : List (List UInt8)) (w : World) (hv : SS D w v ss) (hn : ss.length ≤ 100000) :
 Calls Tryz.prog 152 #[v] w fun e w' => ∃ v', e = .returned v' ∧ w'.ownsRow w.heap.size 9 1 v' ss.length (strsC ss) ∧ Below w.heap.size w w' := by
 obtain ⟨i0, hi0, hz0, hz1, hz2⟩ := finfo_parts finfoStr
 obtain ⟨p, c, rfl, hc, hm, hl, h4⟩ := hv
 have hen := fun (w : World) (a : Option Addr) (n c : Nat) => Lib.run_eql_slice_nil (P := Tryz.prog) w 34 9 a n c 0 0 underStrs
 cases p with
 | none =>
  obtain rfl : ss = [] := by
   rcases h4 with h4 | ⟨b, o, e, _⟩
   · exact h4
   · cases e
  clear hc hm hl h4 hn;go_enter Tryz.func152, Tryz.ntmps152;go_wp2_with fail;go_ret;exact ⟨_, rfl, World.ownsRow_nil _ _ _ _, Below.refl _ _⟩
 | some a =>
  have hnew : ∀ j u, (strsC ss)[j]? = some u → w.cell? (a.add j) = some u := by
   intro j u hu;rcases h4 with rfl | ⟨b, o, e, _, _, hcell⟩
   · simp [strsC] at hu
   · injection e with e
     subst e;have hj : j < ss.length := by
      have := (List.getElem?_eq_some_iff.1 hu).1
      simpa [strsC] using this
     rw [strsC_get ss j hj] at hu;cases hu;rw [Go.WideShapes.add_plain];exact hcell j hj
  clear h4;have hE : (w.alloc (.cells #[] 9)).ownsRow w.heap.size 9 1 (.slice (some ⟨w.heap.size, 0, none⟩) 0 0) 0 [] :=
   ⟨rfl, .inr ⟨w.heap.size, 0, #[], rfl, nl _, heap_alloc_new w _, nl _, Nat.zero_le _, rfl, rfl⟩⟩
  have hnewE : ∀ (j : Nat) (u : Value), (strsC ss)[j]? = some u → (w.alloc (.cells #[] 9)).cell? (a.add j) = some u := fun j u hj =>
   Below.keep ((Below.refl _ w).alloc (nl _) _) (hnew j u hj)
  have hlen : (strsC ss).length = ss.length * 1 := by simp [strsC]
  have hone := strsC_one ss;clear hnew hl hm hc;generalize strsC ss = xs at *;generalize ss.length = n at *;go_enter Tryz.func152, Tryz.ntmps152;go_wp2_with (at_builtin; refine wpList_append_own (w.alloc (.cells #[] 9)) rfl _ _ 34 rfl w.heap.size 9 i0 _ 1 16 underStrs hi0 hz0 hz1 hz2 rfl (by decide) (.slice (some ⟨w.heap.size, 0, none⟩) 0 0) 0 [] rfl hE a n c xs rfl hlen hnewE hone (by unfold maxLen; omega) (by omega) (by simp) ?_; intro v' w3 hown4 hgr _);go_ret;rw [List.nil_append, Nat.zero_add] at hown4;exact ⟨v', rfl, hown4, ((Below.refl _ w).alloc (nl _) _).grown hgr (by simp) (fun b e => by cases e; exact nl _)⟩
set_option maxRecDepth 4000 in
set_option maxHeartbeats 3200000 in
theorem cloned_any {D : Nat → Prop} (x : Value) (s : SigP) (w : World) (hx : SigV D w x s) (h1 : s.args.length ≤ 100000) (h2 : s.sigs.length ≤ 100000) :
 Calls Tryz.prog 94 #[x] w fun e w' => ∃ v, e = .returned v ∧ SigV (fun b => w.heap.size ≤ b) w' v s ∧ Below w.heap.size w w' ∧ ∃ a q, v = .agg #[.bool s.iter, a, str s.res, q] ∧ w'.ownsRow (w.heap.size + 2) 9 1 a s.args.length (strsC s.args) ∧ SS (fun b => w.heap.size + 2 ≤ b ∧ a.ownBlock ≠ some b) w' q s.sigs := by
 obtain ⟨av, sv, rfl, hr, ha, hs⟩ := hx
 have hal := Lib.hid ha.le
 have hsl := Lib.hid hs.le
 have HC1 := fun W (hW : Below w.heap.size w W) => clone_ss _ _ _ (ha.below hW (nl _)) h1
 have HC2 := fun W (hW : Below w.heap.size w W) => clone_ss _ _ _ (hs.below hW (nl _)) h2
 obtain ⟨p1, c1, rfl, _⟩ := ha.shape
 obtain ⟨p2, c2, rfl, _⟩ := hs.shape
 obtain ⟨it, ar, re, sg⟩ := s
 dsimp only at *
 have hA := ((Below.refl _ w).alloc (nl _) (.cells #[.bool it, .slice p1 ar.length c1, str re, .slice p2 sg.length c2] 36))
 have hB := hA.alloc (by simp) (.cells #[.bool false, .slice none 0 0, .string ⟨#[]⟩, .slice none 0 0] 36)
 have hg := heap_up (.cells #[.bool false, .slice none 0 0, .string ⟨#[]⟩, .slice none 0 0] 36) (heap_alloc_new w (.cells #[.bool it, .slice p1 ar.length c1, str re, .slice p2 sg.length c2] 36))
 have hg2 := heap_to (w := w.alloc (.cells #[.bool it, .slice p1 ar.length c1, str re, .slice p2 sg.length c2] 36)) (n := w.heap.size + 1) (by simp) #[.bool false, .slice none 0 0, .string ⟨#[]⟩, .slice none 0 0] 36
 go_enter Tryz.func94, Tryz.ntmps94
 go_wp2_with (first
  | (go_at_call 152; refine (HC2 _ (hbw.setCell (p := ⟨w.heap.size, 1, none⟩) (nl _) (.slice q1 ar.length d1))).mono ?_; clear HC2; rintro e w2 ⟨v2, rfl, ho2, hb2⟩; obtain ⟨q2, d2, rfl⟩ := row_shape ho2; have hg := kept_set hg hb2; have hg2 := kept_other hg2 (by omega) hb2; have bx := (box4 hg).1; have by2 := (box4 hg).2.2.2.2; have cx := (box4 hg2).1; have cy := (box4 hg2).2)
  | (go_at_call 152; refine (HC1 _ hB).mono ?_; clear HC1; rintro e w1 ⟨v1, rfl, ho1, hb1⟩; obtain ⟨q1, d1, rfl⟩ := row_shape ho1; have hbw := hB.trans (below_less hb1 (by simp; omega)); have hg := heap_kept hg hb1 (by simp; omega); have hg2 := heap_kept hg2 hb1 (by simp); have bx := (box4 hg).1; have by1 := (box4 hg).2.2.1))
 refine bodyPost_ret (v := .agg #[.bool it, .slice q1 ar.length d1, str re, .slice q2 sg.length d2]) (by simp [results, Tryz.results94, go_sem, cx]) rfl ?_
 have s1 : SS (fun b => w.heap.size + 2 ≤ b) w1 (.slice q1 ar.length d1) ar := SS.of_own ho1 hal.out (fun b hb => by have := (ho1.lt b hb).1; simp at this; omega)
 have s2 : SS (fun b => w.heap.size + 2 ≤ b) w2 (.slice q2 sg.length d2) sg := SS.of_own ho2 hsl.out (fun b hb => by have h1 := (ho2.lt b hb).1; rw [size_set] at h1; have h2 := hb1.size; simp at h2; omega)
 have s3 := (s1.set (a := ⟨w.heap.size, 1, none⟩) (by intro b hb; simp only; omega) (.slice q1 ar.length d1)).below hb2 (nl _)
 have hB2 := (hbw.setCell (p := ⟨w.heap.size, 1, none⟩) (nl _) (.slice q1 ar.length d1)).trans (below_less hb2 (by rw [size_set]; exact hbw.size))
 refine ⟨_, rfl, ⟨_, _, rfl, hr, ?_, ?_⟩, ?_, _, _, rfl, ?_, ?_⟩
 rotate_left 2
 · exact ((((hB2.setCell (p := ⟨w.heap.size, 3, none⟩) (nl _) _).setCell (p := ⟨w.heap.size + 1, 0, none⟩) (by simp) _).setCell (p := ⟨w.heap.size + 1, 1, none⟩) (by simp) _).setCell (p := ⟨w.heap.size + 1, 2, none⟩) (by simp) _).setCell (p := ⟨w.heap.size + 1, 3, none⟩) (by simp) _
 · have o1 : w1.ownsRow (w.heap.size + 2) 9 1 (.slice q1 ar.length d1) ar.length (strsC ar) := by
    have := ho1;simp only [World.size_alloc] at this;exact this
   have o2 := ownsRow_below (ownsRow_setCell_below o1 (a := ⟨w.heap.size, 1, none⟩) (by simp) (.slice q1 ar.length d1)) hb2 (nl _);exact ownsRow_setCell_below (ownsRow_setCell_below (ownsRow_setCell_below (ownsRow_setCell_below (ownsRow_setCell_below o2 (a := ⟨w.heap.size, 3, none⟩) (by simp) _) (a := ⟨w.heap.size + 1, 0, none⟩) (by simp) _) (a := ⟨w.heap.size + 1, 1, none⟩) (by simp) _) (a := ⟨w.heap.size + 1, 2, none⟩) (by simp) _) (a := ⟨w.heap.size + 1, 3, none⟩) (by simp) _
 · have s4 : SS (fun b => w.heap.size + 2 ≤ b ∧ (Value.slice q1 ar.length d1).ownBlock ≠ some b) w2 (.slice q2 sg.length d2) sg := SS.of_own ho2 hsl.out (fun b hb => by
    have h1 := (ho2.lt b hb).1;rw [size_set] at h1;have h2 := hb1.size;simp only [World.size_alloc] at h2;exact ⟨by omega, fun e => by have := ownsRow_lt ho1 e; omega⟩)
   exact ((((s4.set (a := ⟨w.heap.size, 3, none⟩) (by intro b hb; have := hb.1; simp only; omega) _).set (a := ⟨w.heap.size + 1, 0, none⟩) (by intro b hb; have := hb.1; simp only; omega) _).set (a := ⟨w.heap.size + 1, 1, none⟩) (by intro b hb; have := hb.1; simp only; omega) _).set (a := ⟨w.heap.size + 1, 2, none⟩) (by intro b hb; have := hb.1; simp only; omega) _).set (a := ⟨w.heap.size + 1, 3, none⟩) (by intro b hb; have := hb.1; simp only; omega) _
 · exact (((((s3.set (a := ⟨w.heap.size, 3, none⟩) (by intro b hb; simp only; omega) _).set (a := ⟨w.heap.size + 1, 0, none⟩) (by intro b hb; simp only; omega) _).set (a := ⟨w.heap.size + 1, 1, none⟩) (by intro b hb; simp only; omega) _).set (a := ⟨w.heap.size + 1, 2, none⟩) (by intro b hb; simp only; omega) _).set (a := ⟨w.heap.size + 1, 3, none⟩) (by intro b hb; simp only; omega) _).mono (by intro b hb; omega)
 · exact (((((s2.set (a := ⟨w.heap.size, 3, none⟩) (by intro b hb; simp only; omega) _).set (a := ⟨w.heap.size + 1, 0, none⟩) (by intro b hb; simp only; omega) _).set (a := ⟨w.heap.size + 1, 1, none⟩) (by intro b hb; simp only; omega) _).set (a := ⟨w.heap.size + 1, 2, none⟩) (by intro b hb; simp only; omega) _).set (a := ⟨w.heap.size + 1, 3, none⟩) (by intro b hb; simp only; omega) _).mono (by intro b hb; omega)
set_option maxRecDepth 4000 in
set_option maxHeartbeats 3200000 in
theorem types_any {D : Nat → Prop} (x : Value) (s : SigP) (w : World) (hx : SigV D w x s) (h1 : s.args.length ≤ 100000) :
 Calls Tryz.prog 92 #[x] w fun e w' => ∃ v, e = .returned v ∧ SS (fun b => w.heap.size ≤ b) w' v (typesK s) ∧ Below w.heap.size w w' := by
 obtain ⟨i0, hi0, hz0, hz1, hz2⟩ := finfo_parts finfoStr
 obtain ⟨av, sv, rfl, hr, ha, hs⟩ := hx
 have hal := Lib.hid ha.le
 have HC1 := fun W (hW : Below w.heap.size w W) => clone_ss _ _ _ (ha.below hW (nl _)) h1
 obtain ⟨p1, c1, rfl, _⟩ := ha.shape
 obtain ⟨p2, c2, rfl, _⟩ := hs.shape
 obtain ⟨it, ar, re, sg⟩ := s
 dsimp only at *
 have hA := ((Below.refl _ w).alloc (nl _) (.cells #[.bool it, .slice p1 ar.length c1, str re, .slice p2 sg.length c2] 36))
 have hg := heap_alloc_new w (.cells #[.bool it, .slice p1 ar.length c1, str re, .slice p2 sg.length c2] 36)
 by_cases he : re = []
 · have he' : re.isEmpty = true := by rw [he]; rfl
   have HT := Lib.hid (show typesK ⟨it, ar, re, sg⟩ = ar by unfold typesK; rw [if_pos he]; simp);clear he;go_enter Tryz.func92, Tryz.ntmps92;go_wp2_with (go_at_call 152; refine (HC1 _ hA).mono ?_; clear HC1; rintro e w1 ⟨v1, rfl, ho1, hb1⟩; obtain ⟨q1, d1, rfl⟩ := row_shape ho1; have hg := kept_call hg hb1; have bx := (box4 hg).1);go_ret;rw [HT.out];exact ⟨_, rfl, SS.of_own ho1 hal.out (fun b hb => by have := (ho1.lt b hb).1; simp at this; omega), hA.trans (below_less hb1 (by simp))⟩
 · have he' : re.isEmpty = false := by simpa using he
   have HT := Lib.hid (show typesK ⟨it, ar, re, sg⟩ = ar ++ [re] by unfold typesK; rw [if_neg he]);clear he;go_enter Tryz.func92, Tryz.ntmps92;go_wp2_with (first
    | (at_builtin; refine wpList_append_own (w1.alloc (.cells #[str re] 9)) rfl _ _ 34 rfl (w.heap.size + 1) 9 i0 _ 1 16 underStrs hi0 hz0 hz1 hz2 rfl (by decide) _ _ (strsC ar) rfl (ho1.alloc _) ⟨w1.heap.size, 0, none⟩ 1 1 [str re] rfl rfl (cell_one_new _ _ _) (by intro u hu; rw [List.mem_singleton.1 hu]; rfl) (by unfold maxLen; omega) (by omega) (by simp; omega) ?_; intro v' w3 hown4 hgr _)
    | (go_at_call 152; refine (HC1 _ hA).mono ?_; clear HC1; rintro e w1 ⟨v1, rfl, ho1, hb1⟩; rw [World.size_alloc] at ho1; obtain ⟨q1, d1, rfl⟩ := row_shape ho1; have hsz := hb1.size; rw [World.size_alloc] at hsz; have hg := kept_call hg hb1; have bx := (box4 hg).1))
   go_ret;have hl1 : ar.length + 1 = (ar ++ [re]).length := by simp
   rw [hl1, show strsC ar ++ [str re] = strsC (ar ++ [re]) by simp [strsC]] at hown4;rw [HT.out];refine ⟨_, rfl, SS.of_own hown4 ?_ (fun b hb => by have := (hown4.lt b hb).1; omega), ?_⟩
   · intro s hs
     rcases List.mem_append.1 hs with hs | hs
     · exact hal.out s hs
     · rw [List.mem_singleton.1 hs]; exact hr
   · exact ((hA.trans (below_less hb1 (by simp))).alloc (by omega) _).grown hgr (by simp; omega) (fun k hk => by
      have := (ho1.lt k hk).1;omega)
end Go.Proofs.YtakgjcfkdemipaaGreatDoor
namespace Go.Proofs.YtakgjcfkdemipaaGreatDoor
open Go.RowKit
def OpV (D : Nat → Prop) (w : World) (v : Value) (x : OpP) : Prop :=
 ∃ a s, v = .agg #[str x.name, .bool x.sig.iter, a, str x.sig.res, s] ∧ OpLe x ∧ SS D w a x.sig.args ∧ SS D w s x.sig.sigs
theorem OpV.below {D : Nat → Prop} {K : Nat} {w w' : World} {v : Value} {x : OpP} (h : OpV D w v x) (hb : Below K w w') (hK : w.heap.size ≤ K) : OpV D w' v x := by
 obtain ⟨a, s, h1, h4, h2, h3⟩ := h
 exact ⟨a, s, h1, h4, h2.below hb hK, h3.below hb hK⟩
theorem OpV.mono {D D' : Nat → Prop} {w : World} {v : Value} {x : OpP} (h : OpV D w v x) (hB : ∀ b, D b → D' b) : OpV D' w v x := by
 obtain ⟨a, s, h1, h4, h2, h3⟩ := h
 exact ⟨a, s, h1, h4, h2.mono hB, h3.mono hB⟩
theorem SigV.set {D : Nat → Prop} {w : World} {v : Value} {x : SigP} (h : SigV D w v x) {a : Addr} (ha : ∀ b, D b → b ≠ a.block) (u : Value) : SigV D (w.setCell a u) v x := by
 obtain ⟨p, s, h1, h4, h2, h3⟩ := h
 exact ⟨p, s, h1, h4, h2.set ha u, h3.set ha u⟩
def set4 (w : World) (b : Nat) (a0 a1 a2 a3 : Value) : World := (((w.setCell ⟨b, 0, none⟩ a0).setCell ⟨b, 1, none⟩ a1).setCell ⟨b, 2, none⟩ a2).setCell ⟨b, 3, none⟩ a3
theorem Below.set4 {B : Nat} {a w : World} (h : Below B a w) {b : Nat} (hb : B ≤ b) (a0 a1 a2 a3 : Value) : Below B a (set4 w b a0 a1 a2 a3) :=
 (((h.setCell (p := ⟨b, 0, none⟩) hb _).setCell (p := ⟨b, 1, none⟩) hb _).setCell (p := ⟨b, 2, none⟩) hb _).setCell (p := ⟨b, 3, none⟩) hb _
theorem SS.set4 {D : Nat → Prop} {w : World} {v : Value} {ss : List (List UInt8)} (h : SS D w v ss) {b : Nat} (hb : ∀ b', D b' → b' ≠ b) (a0 a1 a2 a3 : Value) : SS D (set4 w b a0 a1 a2 a3) v ss :=
 (((h.set (a := ⟨b, 0, none⟩) hb _).set (a := ⟨b, 1, none⟩) hb _).set (a := ⟨b, 2, none⟩) hb _).set (a := ⟨b, 3, none⟩) hb _
set_option maxHeartbeats 3200000 in
theorem sig_any (r : List UInt8) (v : Value) (w : World) (hv : ∃ p n c, v = .slice p n c) :
 Calls Tryz.prog 239 #[str r, v] w fun e w' => e = .returned (.agg #[.bool false, v, str r, .slice none 0 0]) ∧ Below w.heap.size w w' := by
 obtain ⟨p, n, c, rfl⟩ := hv
 go_enter Tryz.func239, Tryz.ntmps239
 go_wp2_with fail
 refine bodyPost_ret (v := .agg #[.bool false, .slice p n c, str r, .slice none 0 0]) (by simp [results, Tryz.results239, go_sem]) rfl ?_
 exact ⟨rfl, (Below.refl _ w).alloc (nl _) _⟩
set_option maxRecDepth 4000 in
set_option maxHeartbeats 3200000 in
theorem raising_any {D : Nat → Prop} (x : Value) (s : SigP) (g : List UInt8) (w : World) (hx : SigV D w x s) (hg : g.length ≤ maxLen) :
 Calls Tryz.prog 240 #[x, str g] w fun e w' => ∃ v, e = .returned v ∧ (∃ a q, x = .agg #[.bool s.iter, a, str s.res, q] ∧ ∃ t, v = .agg #[.bool s.iter, a, str s.res, t] ∧ SS (fun b => w.heap.size ≤ b) w' t [g]) ∧ Below w.heap.size w w' := by
 obtain ⟨av, sv, rfl, hr, ha, hs⟩ := hx
 obtain ⟨p1, c1, rfl, _⟩ := ha.shape
 obtain ⟨p2, c2, rfl, _⟩ := hs.shape
 obtain ⟨it, ar, re, sg⟩ := s
 dsimp only at *
 have hA := ((Below.refl _ w).alloc (nl _) (.cells #[.bool it, .slice p1 ar.length c1, str re, .slice p2 sg.length c2] 36))
 have hB := hA.alloc (by simp) (.cells #[.bool false, .slice none 0 0, .string ⟨#[]⟩, .slice none 0 0] 36)
 go_enter Tryz.func240, Tryz.ntmps240
 go_wp2_with fail
 refine bodyPost_ret (v := .agg #[.bool it, .slice p1 ar.length c1, str re, .slice (some ⟨w.heap.size + 2, 0, none⟩) 1 1]) (by simp [results, Tryz.results240, go_sem]) rfl ?_
 refine ⟨_, rfl, ⟨_, _, rfl, _, rfl, ?_⟩, (((Below.refl _ w).alloc (nl _) _).alloc (by simp) _).alloc (by simp; omega) _⟩
 exact SS.newAt (n := w.heap.size + 2) (by simp) (by omega) [g] 9 (0, 0) (by unfold maxLen; simp) (by intro s hs; rw [List.mem_singleton.1 hs]; exact hg)
def MakV (v : Value) (m : Nat) (nv : Value) (p : Bool) (t : List UInt8) : Prop := v = .agg #[.map (some m), nv, .bool p, str t] ∧ ∃ q n c, nv = .slice q n c
def opEq (t : List UInt8) : OpP := ⟨[101, 113, 117, 97, 108], ⟨false, [t, t], [98, 111, 111, 108], []⟩⟩
theorem two_le {t u : List UInt8} (ht : t.length ≤ maxLen) (hu : u.length ≤ maxLen) : ∀ s ∈ [t, u], s.length ≤ maxLen := by
 intro s hs
 simp only [List.mem_cons, List.not_mem_nil, or_false] at hs
 rcases hs with rfl | rfl
 · exact ht
 · exact hu
set_option maxRecDepth 4000 in
set_option maxHeartbeats 3200000 in
theorem equals_any (v : Value) (m : Nat) (nv : Value) (p : Bool) (t : List UInt8) (w : World) (hv : MakV v m nv p t) (ht : t.length ≤ maxLen) :
 Calls Tryz.prog 238 #[v] w fun e w' => ∃ u, e = .returned u ∧ OpV (fun b => w.heap.size ≤ b) w' u (opEq t) ∧ Below w.heap.size w w' := by
 obtain ⟨rfl, q, n, c, rfl⟩ := hv
 have hA := ((Below.refl _ w).alloc (nl _) (.cells #[.map (some m), .slice q n c, .bool p, str t] 145))
 have hB := hA.alloc (by simp) (.cells #[.string ⟨#[]⟩, .bool false, .slice none 0 0, .string ⟨#[]⟩, .slice none 0 0] 50)
 have hC := hB.alloc (by simp; omega) (.cells #[str t, str t] 9)
 have hg := heap_up (.cells #[str t, str t] 9) (heap_to (w := w.alloc (.cells #[.map (some m), .slice q n c, .bool p, str t] 145)) (n := w.heap.size + 1) (by simp) #[.string ⟨#[]⟩, .bool false, .slice none 0 0, .string ⟨#[]⟩, .slice none 0 0] 50)
 have hS := SS.newAt (w := (w.alloc (.cells #[.map (some m), .slice q n c, .bool p, str t] 145)).alloc (.cells #[.string ⟨#[]⟩, .bool false, .slice none 0 0, .string ⟨#[]⟩, .slice none 0 0] 50)) (D := fun b => w.heap.size + 2 ≤ b) (n := w.heap.size + 2) (by simp) (nl _) [t, t] 9 (0, 0) (by unfold maxLen; simp) (two_le ht ht)
 have hS : SS (fun b => w.heap.size + 2 ≤ b) (((w.alloc (.cells #[.map (some m), .slice q n c, .bool p, str t] 145)).alloc (.cells #[.string ⟨#[]⟩, .bool false, .slice none 0 0, .string ⟨#[]⟩, .slice none 0 0] 50)).alloc (.cells #[str t, str t] 9)) (.slice (some ⟨w.heap.size + 2, 0, none⟩) 2 2) [t, t] := hS
 go_enter Tryz.func238, Tryz.ntmps238
 go_wp2_with (go_at_call 239; refine (sig_any _ _ _ ⟨_, _, _, rfl⟩).mono ?_; rintro e w1 ⟨rfl, hb1⟩; have hg := kept_call hg hb1; have bx := (box5 hg).1; have by1 := (box5 hg).2)
 refine bodyPost_ret (v := .agg #[str [101, 113, 117, 97, 108], .bool false, .slice (some ⟨w.heap.size + 2, 0, none⟩) 2 2, str [98, 111, 111, 108], .slice none 0 0]) (by simp [results, Tryz.results238, go_sem, bx]) rfl ?_
 have hS1 := hS.below hb1 (nl _)
 refine ⟨_, rfl, ⟨_, _, rfl, ⟨by simp [opEq, maxLen], by simp [opEq, maxLen]⟩, ?_, SS.nil _ _ _ _⟩, ?_⟩
 · exact (((((hS1.set (a := ⟨w.heap.size + 1, 0, none⟩) (by intro b hb; simp only; omega) _).set (a := ⟨w.heap.size + 1, 1, none⟩) (by intro b hb; simp only; omega) _).set (a := ⟨w.heap.size + 1, 2, none⟩) (by intro b hb; simp only; omega) _).set (a := ⟨w.heap.size + 1, 3, none⟩) (by intro b hb; simp only; omega) _).set (a := ⟨w.heap.size + 1, 4, none⟩) (by intro b hb; simp only; omega) _).mono (by intro b hb; omega)
 · exact ((((((hC.trans (below_less hb1 (by simp; omega))).setCell (p := ⟨w.heap.size + 1, 0, none⟩) (by simp) _).setCell (p := ⟨w.heap.size + 1, 1, none⟩) (by simp) _).setCell (p := ⟨w.heap.size + 1, 2, none⟩) (by simp) _).setCell (p := ⟨w.heap.size + 1, 3, none⟩) (by simp) _).setCell (p := ⟨w.heap.size + 1, 4, none⟩) (by simp) _)
end Go.Proofs.YtakgjcfkdemipaaGreatDoor
