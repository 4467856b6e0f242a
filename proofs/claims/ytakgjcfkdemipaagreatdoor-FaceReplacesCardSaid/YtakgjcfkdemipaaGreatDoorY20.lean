/-
  Contract: kind.Names. Condition: the text's length; the variable strings.asciiSpace.
-/
import Derived.Sort.KeysCollected
import Derived.Test.YtakgjcfkdemipaaGreatDoorYn
import Derived.Test.YtakgjcfkdemipaaGreatDoorY17
import Derived.Test.YtakgjcfkdemipaaGreatDoorY19
namespace Go.Proofs.YtakgjcfkdemipaaGreatDoor
open Go.RowKit Go.Shelf Go.Maps
attribute [local go_sem] Oper.semAt_some
def namF (ts : List Tr) : List (List UInt8) := (ts.filter fun t => decide (t.k = 7)).map (·.n)
def namOf {w₀ : World} {n₀ : Nat} {Q : Tr → Prop} (pre : List (TV w₀ n₀ Q)) : List (List UInt8) := namF (pre.map fun x => x.1.1)
theorem namOf_snoc {w₀ : World} {n₀ : Nat} {Q : Tr → Prop} (pre : List (TV w₀ n₀ Q)) (x : TV w₀ n₀ Q) : namOf (pre ++ [x]) = if x.1.1.k = 7 then namOf pre ++ [x.1.1.n] else namOf pre := by
 unfold namOf namF
 rw [List.map_append, List.filter_append, List.map_append]
 by_cases h : x.1.1.k = 7
 · rw [if_pos h]; simp [h]
 · rw [if_neg h]; simp [h]
theorem namOf_len {w₀ : World} {n₀ : Nat} {Q : Tr → Prop} (pre : List (TV w₀ n₀ Q)) : (namOf pre).length ≤ pre.length := by
 unfold namOf namF
 rw [List.length_map]
 refine Nat.le_trans (List.length_filter_le _ _) ?_
 rw [List.length_map]; exact nl _
def onceB (l : List (List UInt8)) : List (List UInt8) := l.foldl (fun acc s => if hasB acc s then acc else acc ++ [s]) []
theorem onceB_fold : ∀ (l acc : List (List UInt8)), acc.Nodup → (l.foldl (fun acc s => if hasB acc s then acc else acc ++ [s]) acc).Nodup ∧ ∀ x, x ∈ l.foldl (fun acc s => if hasB acc s then acc else acc ++ [s]) acc ↔ x ∈ acc ∨ x ∈ l
 | [], acc, h => ⟨h, by simp⟩
 | s :: l, acc, h => by
  rw [List.foldl_cons]
  by_cases hs : hasB acc s = true
  · rw [if_pos hs]
    have hs' : s ∈ acc := by simpa [hasB] using hs
    obtain ⟨h1, h2⟩ := onceB_fold l acc h;refine ⟨h1, fun x => (h2 x).trans ?_⟩
    constructor
    · rintro (h | h)
      · exact .inl h
      · exact .inr (by simp [h])
    · rintro (h | h)
      · exact .inl h
      · rcases List.mem_cons.1 h with rfl | h
        · exact .inl hs'
        · exact .inr h
  · rw [if_neg hs]
    have hs' : s ∉ acc := fun h => hs (by simpa [hasB] using h)
    obtain ⟨h1, h2⟩ := onceB_fold l (acc ++ [s]) (List.nodup_append.2 ⟨h, by simp, fun a ha b hb => by simp at hb; subst hb; exact fun e => hs' (e ▸ ha)⟩);refine ⟨h1, fun x => (h2 x).trans ?_⟩;simp only [List.mem_append, List.mem_cons, List.not_mem_nil, or_false]
    constructor
    · rintro ((h | h) | h)
      · exact .inl h
      · exact .inr (.inl h)
      · exact .inr (.inr h)
    · rintro (h | h | h)
      · exact .inl (.inl h)
      · exact .inl (.inr h)
      · exact .inr h
theorem onceB_nodup (l : List (List UInt8)) : (onceB l).Nodup := (onceB_fold l [] List.nodup_nil).1
theorem onceB_mem (l : List (List UInt8)) (x : List UInt8) : x ∈ onceB l ↔ x ∈ l := by
 have := (onceB_fold l [] List.nodup_nil).2 x
 simpa [onceB] using this
def sortU (l : List (List UInt8)) : List (List UInt8) := (onceB l).mergeSort leB
theorem SetMap.perm {w : World} {b : Nat} {acc : List (List UInt8)} (h : SetMap w b acc) : (onceB acc).Perm (strKeys (setOf (H := Unit) (.lit (.bool true)) (keysOf acc))) := by
 refine Collected.perm (left := fun _ => false) ⟨onceB_nodup acc, fun x => ?_⟩ h (string_keyed Tryz.underlying9) Tryz.underlying9 (fun _ => rfl)
 rw [onceB_mem, has_setOf _ _ _ (keysOf_lit acc), keysOf_any]
 simp
theorem onceB_len (l : List (List UInt8)) : (onceB l).length ≤ l.length := by
 have : ∀ (l acc : List (List UInt8)), (l.foldl (fun acc s => if hasB acc s then acc else acc ++ [s]) acc).length ≤ acc.length + l.length := by
  intro l
  induction l with
  | nil => intro acc; simp
  | cons t ts ih =>
   intro acc;rw [List.foldl_cons];refine Nat.le_trans (ih _) ?_;split <;> simp <;> omega
 simpa [onceB] using this l []
theorem size_strKeys (D : DataW Unit) : size D = (strKeys D).length := by cases D <;> simp [size, strKeys]
theorem sortsN (m : Nat) : AnyZ.SortsIn Tryz.prog Tryz.sortedA_ren Fence.wide m :=
 ⟨fun blk off cap ss W hH hblk hsz => callsIn_wide.2 (Tryz.slices_Sort_string blk off cap ss W hH hblk hsz), fun p cap W => callsIn_wide.2 (Tryz.slices_Sort_string_none p cap W)⟩
theorem keys_any (mb : Option Nat) (W : World) : CallsIn Fence.wide 5 Tryz.prog 160 #[.map mb] W fun e w' => e = .returned (.func (.func 218) #[] #[.pointer (some ⟨W.heap.size, 0, none⟩)]) ∧ w' = W.alloc (.cells #[.map mb] 112) :=
 AnyZ.keys_in Tryz.keysA Fence.wide 5 trivial rfl mb W
theorem sorted_any (b : Nat) (acc : List (List UInt8)) (W : World) (hs : SetMap W b acc) (hl : acc.length ≤ 1000) :
 CallsIn Fence.wide 5 Tryz.prog 159 #[.func (.func 218) #[] #[.pointer (some ⟨W.heap.size, 0, none⟩)]] (W.alloc (.cells #[.map (some b)] 112)) fun e w' =>
  ∃ v, e = .returned v ∧ w'.ownsRow W.heap.size 9 1 v (sortU acc).length (strsC (sortU acc)) ∧ Below W.heap.size W w' := by
 have hp := hs.perm
 have hsz : size (setOf (H := Unit) (.lit (.bool true)) (keysOf acc)) ≤ 1000 := by
  rw [size_strKeys, ← hp.length_eq];exact Nat.le_trans (onceB_len acc) hl
 have hbl := hs.lt
 have hseq : SeqGives Fence.wide 2 Tryz.prog 218 #[.pointer (some ⟨W.heap.size, 0, none⟩)] encStr (fun ss => ss.Perm (strKeys (setOf (H := Unit) (.lit (.bool true)) (keysOf acc)))) (size (setOf (H := Unit) (.lit (.bool true)) (keysOf acc))) (W.alloc (.cells #[.map (some b)] 112)) :=
  AnyZ.keys_gives (ρ := Tryz.keysA_ren) { Tryz.keysA with } Fence.wide _ trivial rfl (by omega) W.heap.size b acc.length _ _ (by simp) (by simp) (by
   obtain ⟨es, clock, hb, Ft, hs, hD⟩ := hs;exact ⟨es, clock, (Below.heap_alloc _ _ b hbl).trans hb, Ft, hs, hD⟩)
 have cS := AnyZ.sorted_in Tryz.sortedA Fence.wide 5 trivial trivial trivial trivial rfl (by omega) (sortsN _) (enters_of Tryz.func102 (by kernel_rfl) rfl) 218 #[.pointer (some ⟨W.heap.size, 0, none⟩)] trivial (enters_of Tryz.func218 (by kernel_rfl) rfl) _ _ (by unfold maxLen; omega) (by omega) _ hseq
 refine CallsIn.mono cS ?_
 rintro e w' ⟨v, ss, rfl, hS, hrow, _, hb⟩
 have he : ss.mergeSort leB = sortU acc := mergeSort_of_perm (hS.trans hp.symm)
 have hb2 : Below W.heap.size W w' := ((Below.refl _ W).alloc (nl _) _).trans (below_less hb (by simp))
 refine ⟨v, rfl, ?_, hb2⟩
 have hrow2 := ownsRow_mono (base' := W.heap.size) hrow (by simp)
 have hlen : ss.length = (sortU acc).length := by rw [← he, List.length_mergeSort]
 rw [hlen] at hrow2
 rw [← he]
 rw [← he] at hrow2
 exact hrow2
def namesK (s : List UInt8) : List (List UInt8) × Nat := if (checkK s).1 = 0 then (sortU (namF (checkK s).2.ins), 0) else ([], (checkK s).1)
structure NamI (w1 : World) (B6 M n₁ : Nat) (acc : List (List UInt8)) (W : World) : Prop where
 mp : Boxed W B6 112 (.map (some M))
 set : SetMap W M acc
 bel : Below w1.heap.size w1 W
 size : n₁ ≤ W.heap.size
theorem NamI.kept {w1 : World} {B6 M n₁ : Nat} {acc : List (List UInt8)} {W W' : World} {row : Option Nat} (h : NamI w1 B6 M n₁ acc W) (hM : M < n₁) (hn : w1.heap.size ≤ n₁) (hg : W.grownBy W' row) (hr : ∀ r, row = some r → n₁ ≤ r ∧ ∃ o : Obj, W.heap[r]? = some o ∧ o.isCells = false) : NamI w1 B6 M n₁ acc W' := by
 refine ⟨h.mp.kept hg (fun e => ?_), h.set.kept hg (fun e => by have := (hr _ e.symm).1; omega), h.bel.grown hg (by have := h.size; omega) (fun k e => by have := (hr k e).1; omega), Nat.le_trans h.size hg.size⟩
 obtain ⟨_, o, ho, hc⟩ := hr _ e.symm
 rw [show W.heap[B6]? = _ from h.mp] at ho
 cases ho
 cases hc
theorem namI_own {β : Type} (w1 : World) (B6 M n₁ : Nat) (hM : M < n₁) (hn : w1.heap.size ≤ n₁) (f : β → List (List UInt8)) : OwnFrom n₁ (fun s W => NamI w1 B6 M n₁ (f s) W) :=
 fun _ _ _ _ hs hg hr => hs.kept hM hn hg hr
theorem NamI.add {w1 : World} {B6 M n₁ : Nat} {acc : List (List UInt8)} {W3 W4 : World} {k : List UInt8} (h : NamI w1 B6 M n₁ acc W3) (hs : SetMap W4 M (acc ++ [k])) (hg : W3.grownBy W4 (some M)) (h6 : B6 ≠ M) (_hn : w1.heap.size ≤ n₁) (hM : w1.heap.size ≤ M) (hM1 : M < n₁) :
 NamI w1 B6 M n₁ (acc ++ [k]) W4 ∧ KpI w1.heap.size n₁ W3 W4 ∧ KeepsFrom n₁ W3 W4 :=
 ⟨⟨h.mp.kept hg (fun e => h6 (by cases e; rfl)), hs, h.bel.grown hg (by have := h.size; omega) (fun k e => by cases e; exact hM), Nat.le_trans h.size hg.size⟩,
  (KpI.refl _ _ _).grown hg (by have := h.size; omega) (fun r e => by cases e; exact ⟨hM, .inl hM1⟩), KeepsFrom.of_grownBy hg (fun j e => by cases e; exact hM1)⟩
set_option maxRecDepth 4000 in
set_option maxHeartbeats 3200000 in
theorem knames_ok (s : List UInt8) (ms : s.length ≤ maxLen) (w : World) (ht : Tab w) (hc : (checkK s).1 = 0) : Calls Tryz.prog 101 #[str s] w (InsidePost w (namesK s)) := by
 have HK := Lib.hid (show namesK s = (sortU (namF (checkK s).2.ins), 0) by unfold namesK; rw [if_pos hc])
 have HC := kchecked_any s ms w ht
 unfold CheckedPost at HC
 rcases hq : checkK s with ⟨c, t⟩
 rw [hq] at HC HK hc
 simp only at HC HK hc
 subst hc
 obtain ⟨ot, et, lt, vt⟩ := checkK_ok hq
 have hlt : t.txt.length ≤ 100 := by rw [et]; exact lt
 have hil := ot.ins_len
 clear hq ot et lt vt
 have hmm := @run_makeMap Tryz.prog
 refine (callsIn_wide (n := 6)).1 ?_
 refine callsIn_of_wp_marks Tryz.func101 rfl trivial ?_ rfl
 simp only [Tryz.ntmps101, List.size_toArray, List.length_cons, List.length_nil, Nat.reduceAdd, Nat.reduceSub, Array.replicate_succ, Array.replicate_zero, List.push_toArray, List.append_toArray, List.nil_append, List.cons_append]
 gi_wp2_with (first | (refine ⟨trivial, ?_⟩; gi_at_call 157; refine (callsIn_wide.2 HC).mono ?_; rintro e w1 ⟨v, rfl, hv, hb1⟩; obtain ⟨p, c, rfl, _⟩ := hv.shape) | (refine ⟨trivial, ?_⟩; gi_at_call 158; refine (inside_any _ _ _ _ _ _ _).mono ?_; rintro e w' ⟨rfl, rfl⟩))
 have hb0 := (((Below.refl w1.heap.size w1).alloc (nl _) (.cells #[.int .u8 t.k, str t.n, .slice p t.sub.len c] 174)).alloc (by simp) (.map #[] 0)).alloc (by simp; omega) (.cells #[.map (some (w1.heap.size + 1))] 112)
 have z1 : (w1.alloc (.cells #[.int .u8 t.k, str t.n, .slice p t.sub.len c] 174)).heap.size = w1.heap.size + 1 := by simp
 have z3 : ((w1.alloc (.cells #[.int .u8 t.k, str t.n, .slice p t.sub.len c] 174)).alloc (.map #[] 0)).heap.size = w1.heap.size + 1 + 1 := by simp
 have z4 : (((w1.alloc (.cells #[.int .u8 t.k, str t.n, .slice p t.sub.len c] 174)).alloc (.map #[] 0)).alloc (.cells #[.map (some (w1.heap.size + 1))] 112)).heap.size = w1.heap.size + 1 + 1 + 1 := by simp
 have hx7 : Boxed (((w1.alloc (.cells #[.int .u8 t.k, str t.n, .slice p t.sub.len c] 174)).alloc (.map #[] 0)).alloc (.cells #[.map (some (w1.heap.size + 1))] 112)) (w1.heap.size + 1 + 1) 112 (.map (some (w1.heap.size + 1))) := z3 ▸ Boxed.new _ _ _
 have hms : SetMap (((w1.alloc (.cells #[.int .u8 t.k, str t.n, .slice p t.sub.len c] 174)).alloc (.map #[] 0)).alloc (.cells #[.map (some (w1.heap.size + 1))] 112)) (w1.heap.size + 1) [] := (z1 ▸ SetMap.made _ : SetMap _ (w1.heap.size + 1) []).kept (World.grownBy_alloc _ _ none) (by simp)
 have hx8 := heap_to z4 #[.int .u8 t.k, str t.n, .slice p t.sub.len c] 174
 have z5 : ((((w1.alloc (.cells #[.int .u8 t.k, str t.n, .slice p t.sub.len c] 174)).alloc (.map #[] 0)).alloc (.cells #[.map (some (w1.heap.size + 1))] 112)).alloc (.cells #[.int .u8 t.k, str t.n, .slice p t.sub.len c] 174)).heap.size = w1.heap.size + 4 := by simp
 have hI0 : NamI w1 (w1.heap.size + 1 + 1) (w1.heap.size + 1) (w1.heap.size + 4) [] ((((w1.alloc (.cells #[.int .u8 t.k, str t.n, .slice p t.sub.len c] 174)).alloc (.map #[] 0)).alloc (.cells #[.map (some (w1.heap.size + 1))] 112)).alloc (.cells #[.int .u8 t.k, str t.n, .slice p t.sub.len c] 174)) :=
  ⟨hx7.alloc _, hms.kept (World.grownBy_alloc _ _ none) (by simp), hb0.alloc (by simp; omega) _, by omega⟩
 clear z1 z3 z4 hx7 hms hb0
 generalize (((w1.alloc (.cells #[.int .u8 t.k, str t.n, .slice p t.sub.len c] 174)).alloc (.map #[] 0)).alloc (.cells #[.map (some (w1.heap.size + 1))] 112)).alloc (.cells #[.int .u8 t.k, str t.n, .slice p t.sub.len c] 174) = W0 at *
 rw [← z5] at hI0
 have hle5 : w1.heap.size + 4 ≤ W0.heap.size := by omega
 clear z5
 have hle0 : w1.heap.size ≤ W0.heap.size := by omega
 have hz := hb1.size
 refine wpIn_rangeFunc_ownH (α := TV w1 w1.heap.size (fun x => x.txt.length ≤ 100)) rfl (show 1 ≤ 6 by decide) (gf := 213) (lb := #[.pointer (some ⟨w1.heap.size + 1 + 1 + 1, 0, none⟩)]) rfl trivial (enters_of Tryz.func213 (by kernel_rfl) rfl)
  (inside_stops (w₀ := w1) (n₀ := w1.heap.size) (n₁ := W0.heap.size) hered_txt t hlt _ 5 hI0.bel hle0 (nl _) (hv.mono fun _ _ h => h) hx8) (fun h k => h.trans k) (KpI.book hle0) (Below.refl _ _) (fun _ => rfl)
  (fun pre W => NamI w1 (w1.heap.size + 1 + 1) (w1.heap.size + 1) W0.heap.size (namOf pre) W) (fun _ _ _ => False)
  (namI_own _ _ _ _ (by omega) hle0 _) (fun _ => none_own.from _)
  hI0
  (fun x a' W => ∃ Bx, W0.heap.size ≤ Bx ∧ W.heap[Bx]? = some (.cells #[.int .u8 x.1.1.k, str x.1.1.n, x.1.2] 174 (0, 0)) ∧
   a' = { tmps := #[str s, undef, .slice none 0 0, .int .i64 0, .pointer (some ⟨w1.heap.size, 0, none⟩), .int .i64 0, .pointer (some ⟨w1.heap.size + 1 + 1, 0, none⟩), .pointer (some ⟨Bx, 0, none⟩), .tuple #[.agg #[.int .u8 t.k, str t.n, .slice p t.sub.len c], .int .i64 0], str s, .tuple #[.agg #[.int .u8 t.k, str t.n, .slice p t.sub.len c], .int .i64 0], .agg #[.int .u8 t.k, str t.n, .slice p t.sub.len c], .int .i64 0, .int .i64 0, .bool false, undef, .map (some (w1.heap.size + 1)), .agg #[.int .u8 t.k, str t.n, .slice p t.sub.len c], .func (.func 213) #[] #[.pointer (some ⟨w1.heap.size + 1 + 1 + 1, 0, none⟩)], .agg #[.int .u8 x.1.1.k, str x.1.1.n, x.1.2], undef, undef, undef, undef, undef, undef, undef, undef, undef], defers := [] })
  (fun x a' _ W W' row ⟨Bx, h1, h2, h3⟩ hg hr => ⟨Bx, h1, (heap_own (β := Unit) Bx (fun _ => #[.int .u8 x.1.1.k, str x.1.1.n, x.1.2]) _ _) () W W' row h2 hg (fun r e => (hr r e).2), h3⟩) ?assign ?body ?done ?stop
 case assign =>
  rintro l pre ⟨⟨u, vu⟩, hu, hQu⟩ W K hI hK;obtain ⟨pu, cu, e, _⟩ := FoV.shape (fo := u.sub) (v := vu) hu;subst e;dsimp only at hK ⊢;have hS := hI.size;have hIA := hI.kept (W' := W.alloc (.cells #[.int .u8 u.k, str u.n, .slice pu u.sub.len cu] 174)) (by omega) hle0 (World.grownBy_alloc W _ none) (fun r e => by cases e)
  gi_wp2
  exact hK _ _ ((KeepsOthers.alloc _ _).from _) ((KpI.refl _ _ _).alloc (by omega) _) hIA ⟨W.heap.size, hS, heap_alloc_new W _, rfl⟩
 case body =>
  rintro l pre ⟨⟨u, vu⟩, hu, hQu⟩ a' W hl ⟨r, hr⟩ hI ⟨Bx, hBx, hX, rfl⟩ hlen;obtain ⟨pu, cu, e, _⟩ := FoV.shape (fo := u.sub) (v := vu) hu;subst e;dsimp only at hX hu hQu ⊢;have hacc := namOf_len pre;have HSN := Lib.hid (namOf_snoc pre (⟨(u, .slice pu u.sub.len cu), hu, hQu⟩ : TV w1 w1.heap.size (fun x => x.txt.length ≤ 100)));have hW0M : w1.heap.size + 1 < W0.heap.size := by omega
  have c0 := (cells_at hX 0).trans rfl;have c1 := (cells_at hX 1).trans rfl
  by_cases h7 : u.k = 7
  · have e7 : ((u.k : Int) == 7) = true := by rw [h7]; rfl
    have HSN2 := Lib.hid (HSN.out.trans (if_pos h7));have hnl : u.n.length ≤ 100 := by
     have h1 : u.txt = wordK 7 u.n ++ u.sub.br := by rw [← h7, Tr.txt_eq]; exact Fo.tx_one _ _ _
     have h2 : u.txt.length = u.n.length + u.sub.br.length := by rw [h1, List.length_append]; rfl
     omega
    clear h7;have c7 := hI.mp.cell
    gi_wp2_with (gi_at_mapUpdate; refine wpListIn_set_add _ rfl _ _ _ rfl (w1.heap.size + 1) (namOf pre) rfl hI.set (by unfold maxLen; omega) u.n rfl rfl (by unfold maxLen; omega) ?_; intro w3 hset3 hgr3; obtain ⟨hI3, hk3, hkf3⟩ := hI.add hset3 hgr3 (by omega) hle0 (by omega) hW0M)
    refine ⟨hkf3, hk3, ?_⟩;rw [← HSN2.out] at hI3;exact hI3
  · have e7 : ((u.k : Int) == 7) = false := by rw [beq_eq_false_iff_ne]; omega
    have HSN2 := Lib.hid (HSN.out.trans (if_neg h7));clear h7
    gi_wp2
    refine ⟨KeepsFrom.refl _ _, KpI.refl _ _ _, ?_⟩;have hI3 := hI;rw [← HSN2.out] at hI3;exact hI3
 case done =>
  rintro D' xs W hD hxs hI hK;have HA := Lib.hid (show namOf xs = namF t.ins by unfold namOf; rw [hxs]);have hlen : (namOf xs).length ≤ 1000 := by
   have h1 := namOf_len xs;have h2 : xs.length = t.ins.length := by rw [← hxs, List.length_map]
   omega
  clear hxs;have c6 := hI.mp.cell;have cS := sorted_any (w1.heap.size + 1) (namOf xs) W hI.set hlen
  gi_wp2_with (first
   | (refine ⟨trivial, ?_⟩; gi_at_call 160; refine (keys_any _ _).mono ?_; rintro e w' ⟨rfl, rfl⟩)
   | (refine ⟨trivial, ?_⟩; gi_at_call 159; refine cS.mono ?_; rintro e w3 ⟨v, rfl, hrow, hb3⟩))
  have hK3 := (hb3.block D' (Array.getElem?_eq_some_iff.1 hK).1).trans hK;refine ⟨by simp, .inl ⟨_, _, rfl, run_takeDeferred hK3, ?_⟩⟩;refine ⟨_, results_tmp2 rfl _ _ _, ?_⟩;unfold InsidePost;rw [HK.out];have hrow7 := ownsRow_putObj hrow (.deferred none) hK3 rfl;rw [HA.out] at hrow7;have hz3 := hI.bel.size;refine ⟨v, rfl, ownsRow_mono hrow7 (by omega), ?_⟩;exact ((hb1.trans (below_less hI.bel hz)).trans (below_less hb3 (by omega))).trans (belowK_b (w := w) (nl _) w3 D' _ _ (by omega) hK3 rfl rfl)
 case stop =>
  rintro D' cd pre W _ _ h _;exact h.elim
set_option maxRecDepth 4000 in
set_option maxHeartbeats 3200000 in
theorem knames_no (s : List UInt8) (ms : s.length ≤ maxLen) (w : World) (ht : Tab w) (hc : (checkK s).1 ≠ 0) : Calls Tryz.prog 101 #[str s] w (InsidePost w (namesK s)) := by
 have HK := Lib.hid (show namesK s = ([], (checkK s).1) by unfold namesK; rw [if_neg hc])
 have HC := kchecked_any s ms w ht
 unfold CheckedPost at HC
 rcases hq : checkK s with ⟨c, t⟩
 rw [hq] at HC HK hc
 simp only at HC HK hc
 obtain ⟨z1, z2⟩ := nat_ne0 hc
 clear hq hc
 go_enter Tryz.func101, Tryz.ntmps101
 go_wp2_with (go_at_call 157; refine HC.mono ?_; clear HC; rintro e w1 ⟨v, rfl, hv, hb1⟩; obtain ⟨p, c, rfl, _⟩ := hv.shape)
 go_ret2
 unfold InsidePost
 rw [HK.out]
 exact ⟨_, rfl, World.ownsRow_nil _ _ _ _, hb1.alloc hb1.size _⟩
theorem knames_any (s : List UInt8) (ms : s.length ≤ maxLen) (w : World) (ht : Tab w) : Calls Tryz.prog 101 #[str s] w (InsidePost w (namesK s)) := by
 by_cases hc : (checkK s).1 = 0
 · exact knames_ok s ms w ht hc
 · exact knames_no s ms w ht hc
end Go.Proofs.YtakgjcfkdemipaaGreatDoor
