/-
  Contract: kind.Inside. Condition: the text's length; the variable strings.asciiSpace.
-/
import Derived.Maps.AppendAt
import Derived.Maps.OwnIn
import Derived.RangeFuncBox
import Derived.Test.YtakgjcfkdemipaaGreatDoorYn
import Derived.Test.YtakgjcfkdemipaaGreatDoorY16
namespace Go.Proofs.YtakgjcfkdemipaaGreatDoor
open Go.RowKit Go.Shelf Go.Maps
attribute [local go_sem] Oper.semAt_some
def insF (ts : List Tr) : List (List UInt8) := ts.foldl (fun acc t => if hasB acc t.txt then acc else acc ++ [t.txt]) []
theorem insF_snoc (ts : List Tr) (t : Tr) : insF (ts ++ [t]) = if hasB (insF ts) t.txt then insF ts else insF ts ++ [t.txt] := by unfold insF; rw [List.foldl_append]; rfl
theorem insF_len (ts : List Tr) : (insF ts).length ≤ ts.length := by
 have : ∀ (ts : List Tr) (acc : List (List UInt8)), (ts.foldl (fun acc t => if hasB acc t.txt then acc else acc ++ [t.txt]) acc).length ≤ acc.length + ts.length := by
  intro ts
  induction ts with
  | nil => intro acc; simp
  | cons t ts ih =>
   intro acc;rw [List.foldl_cons];refine Nat.le_trans (ih _) ?_;split <;> simp <;> omega
 simpa [insF] using this ts []
def accOf {w₀ : World} {n₀ : Nat} {Q : Tr → Prop} (pre : List (TV w₀ n₀ Q)) : List (List UInt8) := insF (pre.map fun x => x.1.1)
theorem accOf_snoc {w₀ : World} {n₀ : Nat} {Q : Tr → Prop} (pre : List (TV w₀ n₀ Q)) (x : TV w₀ n₀ Q) : accOf (pre ++ [x]) = if hasB (accOf pre) x.1.1.txt then accOf pre else accOf pre ++ [x.1.1.txt] := by
 unfold accOf; rw [List.map_append]; exact insF_snoc _ _
theorem accOf_len {w₀ : World} {n₀ : Nat} {Q : Tr → Prop} (pre : List (TV w₀ n₀ Q)) : (accOf pre).length ≤ pre.length := by
 have := insF_len (pre.map fun x => x.1.1)
 rw [List.length_map] at this
 exact this
theorem Wf.ins_len {tag : Option (List UInt8)} {fo : Fo} (h : Wf tag fo) : fo.ins.length ≤ fo.tx.length := by
 have hw : ∀ (k : Nat) (n : List UInt8) (sub : Fo), Wf none (.cons [] k n sub .nil) → 1 ≤ (wordK k n).length := by
  intro k n sub h;cases h with
  | par => decide
  | word k h => rcases h with rfl | rfl | rfl <;> decide
  | arr a h => decide
  | rcd k w fo hk => rcases hk with ⟨rfl, rfl⟩ | ⟨rfl, rfl⟩ <;> decide
  | nam n hn => exact List.length_pos_iff.2 (name_ne hn)
  | app n a hn h => exact List.length_pos_iff.2 (name_ne hn)
 have key : ∀ (k : Nat) (n : List UInt8) (sub : Fo), Wf none (.cons [] k n sub .nil) → (sub ≠ .nil → sub.ins.length ≤ sub.tx.length) → (Fo.cons [] k n sub .nil).ins.length ≤ (Fo.cons [] k n sub .nil).tx.length := by
  intro k n sub h ih;have h1 := hw k n sub h;rw [Fo.tx_one, Fo.ins, Fo.ins, List.append_nil, List.length_cons, List.length_append]
  by_cases hn : sub = .nil
  · subst hn; simp [Fo.ins, Fo.br]; omega
  · have := ih hn
    rw [Fo.br_ne hn];simp only [List.length_cons, List.length_append, List.length_nil];omega
 induction h with
 | par => exact key _ _ _ .par (fun h => absurd rfl h)
 | word k h => exact key _ _ _ (.word k h) (fun h => absurd rfl h)
 | arr x h ih => exact key _ _ _ (.arr x h) (fun _ => ih)
 | rcd k w fo hk h hl ih => exact key _ _ _ (.rcd k w fo hk h hl) (fun _ => ih)
 | nam n hn => exact key _ _ _ (.nam n hn) (fun h => absurd rfl h)
 | app n x hn h ih => exact key _ _ _ (.app n x hn h) (fun _ => ih)
 | last b pn k n sub hn hb h ih =>
  rw [Fo.tx_last];simp only [Fo.ins, List.length_append, List.length_cons] at ih ⊢;omega
 | more b pn k n sub rest hn hb h h2 ih ih2 =>
  rw [Fo.tx_more _ _ _ _ _ h2.ne];simp only [Fo.ins, List.length_append, List.length_cons, List.length_nil] at ih ih2 ⊢;omega
theorem Tr.ok.ins_len {t : Tr} (h : t.ok) : t.ins.length ≤ t.txt.length := by
 have := Wf.ins_len h
 rw [← Tr.txt_eq] at this
 refine Nat.le_trans (Nat.le_of_eq ?_) this
 simp [Fo.one, Fo.ins, Tr.ins]
def insideK (s : List UInt8) : List (List UInt8) × Nat := if (checkK s).1 = 0 then (insF (checkK s).2.ins, 0) else ([], (checkK s).1)
def InsidePost (w : World) (r : List (List UInt8) × Nat) (e : Ending) (w' : World) : Prop :=
 ∃ v, e = .returned (.tuple #[v, .int .i64 r.2]) ∧ w'.ownsRow w.heap.size 9 1 v r.1.length (strsC r.1) ∧ Below w.heap.size w w'
theorem wpListIn_set_add {F : Fence} {nF : Nat} (w : World) {ops : Array Oper} {rest : List Oper} {o : Oper} {a : Act} {Q : Exit → Act → World → Prop}
 (hg : o.guard = none) (m x v : Operand) (hop : o.op = Op.mapUpdate 112 m x v) (b : Nat) (acc : List (List UInt8))
 (hm : a.eval m = .map (some b)) (hown : SetMap w b acc) (hn : acc.length < maxLen) (k : List UInt8) (hx : a.eval x = str k) (hv : a.eval v = .bool true) (hk : k.length ≤ maxLen)
 (hK : ∀ w', SetMap w' b (acc ++ [k]) → w.grownBy w' (some b) → wpListIn F nF Tryz.prog ops Q rest (a.put o.dst undef) w') :
 wpListIn F nF Tryz.prog ops Q (o :: rest) a w := by
 refine wpListIn_mapUpdate_own w hg m x v _ hop _ _ (string_keyed Tryz.underlying9) Tryz.underlying112 _ b acc.length _ hm hown hn _ _ _ hx hv (WideMaps.keyOf_string_mk (s := ⟨k.toArray⟩) Tryz.underlying9 (by simpa [ByteArray.size] using hk)) (.lit (.bool true)) [] (plainElem_bool Tryz.underlying4 true) ?_
 intro w' h1 h2
 refine hK w' ?_ h2
 unfold SetMap
 rw [show keysOf (acc ++ [k]) = keysOf acc ++ [Lit.string k] from by simp [keysOf], setOf_snoc, List.length_append]
 exact h1
theorem set_not_row {W : World} {M base size n : Nat} {e : TypeId} {acc : List (List UInt8)} {v : Value} {xs : List Value} (h : SetMap W M acc) (hrow : W.ownsRow base e size v n xs) : v.ownBlock = none ∨ v.ownBlock ≠ some M := by
 obtain ⟨es, ck, hmap, _⟩ := h
 rcases hrow.2 with ⟨rfl, _⟩ | ⟨g, cap, cur, rfl, _, hgb, _⟩
 · exact .inl rfl
 · refine .inr fun e => ?_
   simp only [Value.ownBlock, Option.some.injEq] at e;rw [e, hmap] at hgb;cases hgb
theorem ownsRow_mono {w : World} {base base' : Nat} {e : TypeId} {size n : Nat} {v : Value} {xs : List Value} (h : w.ownsRow base e size v n xs) (hb : base' ≤ base) : w.ownsRow base' e size v n xs := by
 refine ⟨h.1, ?_⟩
 rcases h.2 with h2 | ⟨g, cap, cur, rfl, h3, h4⟩
 · exact .inl h2
 · exact .inr ⟨g, cap, cur, rfl, Nat.le_trans hb h3, h4⟩
theorem grown_of_below {W W' : World} (h : Below W.heap.size W W') : W.grownBy W' none := ⟨h.os, h.tape, h.output, h.size, fun i hi _ => h.block i hi⟩
structure InsI (w1 : World) (base B6 B7 M n₁ : Nat) (acc : List (List UInt8)) (W : World) : Prop where
 row : ∃ v, Boxed W B6 34 v ∧ W.ownsRow base 9 1 v acc.length (strsC acc)
 mp : Boxed W B7 112 (.map (some M))
 set : SetMap W M acc
 bel : Below w1.heap.size w1 W
 size : n₁ ≤ W.heap.size
theorem InsI.kept {w1 : World} {base B6 B7 M n₁ : Nat} {acc : List (List UInt8)} {W W' : World} {row : Option Nat} (h : InsI w1 base B6 B7 M n₁ acc W) (hM : M < n₁) (hn : w1.heap.size ≤ n₁) (hg : W.grownBy W' row) (hr : ∀ r, row = some r → n₁ ≤ r ∧ ∃ o : Obj, W.heap[r]? = some o ∧ o.isCells = false) : InsI w1 base B6 B7 M n₁ acc W' := by
 obtain ⟨v, hv, hrow⟩ := h.row
 have hne : ∀ {b : Nat} {cs : Array Value} {t : TypeId} {z : Nat × Nat}, W.heap[b]? = some (.cells cs t z) → some b ≠ row := fun hb e => by
  obtain ⟨_, o, ho, hc⟩ := hr _ e.symm;rw [hb] at ho;cases ho;cases hc
 refine ⟨⟨v, hv.kept hg (hne hv), hrow.kept hg ?_⟩, h.mp.kept hg (hne h.mp), h.set.kept hg (fun e => by have := (hr _ e.symm).1; omega), h.bel.grown hg (by have := h.size; omega) (fun k e => by have := (hr k e).1; omega), Nat.le_trans h.size hg.size⟩
 rcases hrow.2 with ⟨rfl, _⟩ | ⟨g, cap, cur, rfl, _, hgb, _⟩
 · exact .inl rfl
 · exact .inr (hne hgb)
theorem insI_own {β : Type} (w1 : World) (base B6 B7 M n₁ : Nat) (hM : M < n₁) (hn : w1.heap.size ≤ n₁) (f : β → List (List UInt8)) : OwnFrom n₁ (fun s W => InsI w1 base B6 B7 M n₁ (f s) W) :=
 fun _ _ _ _ hs hg hr => hs.kept hM hn hg hr
theorem Fo.at_len : ∀ (fo : Fo) (i : Nat) (pn : List UInt8) (t : Tr), fo.at i = some (pn, t) → t.txt.length ≤ fo.tx.length := fun fo i pn t h => by
 have := joinC_get _ _ _ (fo.at_txt i pn t h)
 rw [List.length_append] at this
 unfold Fo.tx
 omega
theorem tx_le_txt (t : Tr) : t.sub.tx.length ≤ t.txt.length := by
 obtain ⟨k, n, sub⟩ := t
 cases sub with
 | nil => simp [Fo.tx, Fo.txt, joinC]
 | cons => rw [Tr.txt_eq, Fo.one, Fo.tx_one, Fo.br_ne (by simp)]; simp only [List.length_cons, List.length_append, List.length_nil]; omega
theorem hered_txt : Hered (fun x => x.txt.length ≤ 100) := fun t i pn u h hat => by
 have h1 := t.sub.at_len i pn u hat
 have h2 := tx_le_txt t
 have h : t.txt.length ≤ 100 := h
 show u.txt.length ≤ 100
 omega
theorem InsI.below {w1 : World} {base B6 B7 M n₁ : Nat} {acc : List (List UInt8)} {W W' : World} (h : InsI w1 base B6 B7 M n₁ acc W) (hM : M < n₁) (hn : w1.heap.size ≤ n₁) (hb : Below W.heap.size W W') : InsI w1 base B6 B7 M n₁ acc W' :=
 h.kept hM hn (grown_of_below hb) (fun r e => by cases e)
theorem InsI.add {w1 : World} {base B6 B7 M n₁ : Nat} {acc : List (List UInt8)} {W3 W4 w5 : World} {k : List UInt8} {v v' : Value} {tmp : Obj} (h : InsI w1 base B6 B7 M n₁ acc W3) (hs : SetMap W4 M (acc ++ [k])) (hg : W3.grownBy W4 (some M)) (h6 : B6 ≠ M) (h7 : B7 ≠ M) (h67 : B7 ≠ B6) (hb6 : w1.heap.size ≤ B6) (hb7 : B6 < n₁) (hM : w1.heap.size ≤ M) (hM1 : M < n₁) (hbase : base ≤ w1.heap.size)
 (hv : Boxed W3 B6 34 v) (hrow : W3.ownsRow base 9 1 v acc.length (strsC acc)) (hvl : ∀ g, v.ownBlock = some g → w1.heap.size ≤ g) (hown : w5.ownsRow base 9 1 v' (acc.length + 1) (strsC acc ++ [str k])) (hgr : (W4.alloc tmp).grownBy w5 v.ownBlock) :
 Boxed w5 B6 34 v ∧ InsI w1 base B6 B7 M n₁ (acc ++ [k]) (w5.setCell ⟨B6, 0, none⟩ v') ∧ KpI w1.heap.size n₁ W3 (w5.setCell ⟨B6, 0, none⟩ v') ∧ KeepsFrom n₁ W3 (w5.setCell ⟨B6, 0, none⟩ v') := by
 obtain ⟨es, ck, hmap, _⟩ := h.set
 have hz1 := h.bel.size
 have hz2 := hg.size
 have hv4 : Boxed W4 B6 34 v := hv.kept hg (fun e => h6 (by cases e; rfl))
 have hnM : v.ownBlock = none ∨ v.ownBlock ≠ some M := by
  rcases hrow.2 with ⟨rfl, _⟩ | ⟨g, cap, cur, rfl, _, hgb, _⟩
  · exact .inl rfl
  · refine .inr fun e => ?_
    simp only [Value.ownBlock, Option.some.injEq] at e;rw [e, hmap] at hgb;cases hgb
 have hrow4 : W4.ownsRow base 9 1 v acc.length (strsC acc) := hrow.kept hg hnM
 obtain ⟨a1, a2, a3, a4, a5⟩ := Boxed.appended (n₀ := base) (m := acc.length + 1) hv4 (by decide) hrow4 (by omega) (by omega) hown hgr
 have hb4 : Below w1.heap.size w1 W4 := h.bel.grown hg (by omega) (fun k e => by cases e; exact hM)
 have hmp4 : Boxed W4 B7 112 (.map (some M)) := h.mp.kept hg (fun e => h7 (by cases e; rfl))
 have hrl := fun g e => (hrow4.lt g e)
 have hn7 : some B7 ≠ v.ownBlock := hmp4.not_row (by decide) hrow4
 have hmp5 : Boxed w5 B7 112 (.map (some M)) := (hmp4.alloc tmp).kept hgr hn7
 have hset5 : SetMap w5 M (acc ++ [k]) := (hs.kept (World.grownBy_alloc W4 tmp none) (by simp)).kept hgr (by rcases hnM with e | e; rw [e]; simp; exact fun e' => e e'.symm)
 have hb5 : Below w1.heap.size w1 w5 := (hb4.alloc (by omega) tmp).grown hgr (by simp; omega) hvl
 have hz5 := hgr.size
 simp only [World.size_alloc] at hz5
 have hk34 : KpI w1.heap.size n₁ W3 W4 := (KpI.refl _ _ _).grown hg (by omega) (fun r e => by cases e; exact ⟨hM, .inl hM1⟩)
 have hk5 : KpI w1.heap.size n₁ W3 w5 := ((hk34.alloc (by omega) tmp).grown hgr (by simp; omega) (fun r e => ⟨hvl r e, .inr (by
  rcases hrow4.2 with ⟨rfl, _⟩ | ⟨g, cap, cur, rfl, _, hgb, _⟩
  · simp [Value.ownBlock] at e
  · simp only [Value.ownBlock, Option.some.injEq] at e
    subst e;exact ⟨cur, (0, 0), heap_up _ hgb⟩)⟩))
 refine ⟨a1, ⟨⟨v', a2, by rw [List.length_append, strsC, List.map_append]; exact a3⟩, hmp5.other h67 v', hset5.kept (grownBy_setCell' w5 B6 v') (fun e => h6 (by cases e; rfl)), hb5.setCell (p := ⟨B6, 0, none⟩) hb6 v', by have := h.size; simp [World.setCell]; omega⟩, hk5.setCell hb6 hb7 v', (KeepsFrom.of_grownBy hg (fun j e => by cases e; exact hM1)).trans (a4.from _)⟩
set_option maxRecDepth 4000 in
set_option maxHeartbeats 3200000 in
theorem kinside_ok (s : List UInt8) (ms : s.length ≤ maxLen) (w : World) (ht : Tab w) (hc : (checkK s).1 = 0) : Calls Tryz.prog 118 #[str s] w (InsidePost w (insideK s)) := by
 have HK := Lib.hid (show insideK s = (insF (checkK s).2.ins, 0) by unfold insideK; rw [if_pos hc])
 have HC := kchecked_any s ms w ht
 unfold CheckedPost at HC
 rcases hq : checkK s with ⟨c, t⟩
 rw [hq] at HC HK hc
 simp only at HC HK hc
 subst hc
 obtain ⟨ot, et, lt, vt⟩ := checkK_ok hq
 have HO := Lib.hid ot
 have hlt : t.txt.length ≤ 100 := by rw [et]; exact lt
 have hil := ot.ins_len
 clear hq ot et lt vt
 have hmm := @run_makeMap Tryz.prog
 refine (callsIn_wide (n := 6)).1 ?_
 refine callsIn_of_wp_marks Tryz.func118 rfl trivial ?_ rfl
 simp only [Tryz.ntmps118, List.size_toArray, List.length_cons, List.length_nil, Nat.reduceAdd, Nat.reduceSub, Array.replicate_succ, Array.replicate_zero, List.push_toArray, List.append_toArray, List.nil_append, List.cons_append]
 gi_wp2_with (first | (refine ⟨trivial, ?_⟩; gi_at_call 157; refine (callsIn_wide.2 HC).mono ?_; rintro e w1 ⟨v, rfl, hv, hb1⟩; obtain ⟨p, c, rfl, _⟩ := hv.shape) | (refine ⟨trivial, ?_⟩; gi_at_call 158; refine (inside_any _ _ _ _ _ _ _).mono ?_; rintro e w' ⟨rfl, rfl⟩))
 have hb0 := ((((Below.refl w1.heap.size w1).alloc (nl _) (.cells #[.int .u8 t.k, str t.n, .slice p t.sub.len c] 174)).alloc (by simp) (.cells #[.slice none 0 0] 34)).alloc (by simp; omega) (.map #[] 0)).alloc (by simp; omega) (.cells #[.map (some (w1.heap.size + 1 + 1))] 112)
 have z1 : (w1.alloc (.cells #[.int .u8 t.k, str t.n, .slice p t.sub.len c] 174)).heap.size = w1.heap.size + 1 := by simp
 have z2 : ((w1.alloc (.cells #[.int .u8 t.k, str t.n, .slice p t.sub.len c] 174)).alloc (.cells #[.slice none 0 0] 34)).heap.size = w1.heap.size + 1 + 1 := by simp
 have z3 : (((w1.alloc (.cells #[.int .u8 t.k, str t.n, .slice p t.sub.len c] 174)).alloc (.cells #[.slice none 0 0] 34)).alloc (.map #[] 0)).heap.size = w1.heap.size + 1 + 1 + 1 := by simp
 have z4 : ((((w1.alloc (.cells #[.int .u8 t.k, str t.n, .slice p t.sub.len c] 174)).alloc (.cells #[.slice none 0 0] 34)).alloc (.map #[] 0)).alloc (.cells #[.map (some (w1.heap.size + 1 + 1))] 112)).heap.size = w1.heap.size + 1 + 1 + 1 + 1 := by simp
 have hx6 : Boxed ((((w1.alloc (.cells #[.int .u8 t.k, str t.n, .slice p t.sub.len c] 174)).alloc (.cells #[.slice none 0 0] 34)).alloc (.map #[] 0)).alloc (.cells #[.map (some (w1.heap.size + 1 + 1))] 112)) (w1.heap.size + 1) 34 (.slice none 0 0) := ((z1 ▸ Boxed.new _ _ _ : Boxed _ (w1.heap.size + 1) _ _).alloc _).alloc _
 have hx7 : Boxed ((((w1.alloc (.cells #[.int .u8 t.k, str t.n, .slice p t.sub.len c] 174)).alloc (.cells #[.slice none 0 0] 34)).alloc (.map #[] 0)).alloc (.cells #[.map (some (w1.heap.size + 1 + 1))] 112)) (w1.heap.size + 1 + 1 + 1) 112 (.map (some (w1.heap.size + 1 + 1))) := z3 ▸ Boxed.new _ _ _
 have hms : SetMap ((((w1.alloc (.cells #[.int .u8 t.k, str t.n, .slice p t.sub.len c] 174)).alloc (.cells #[.slice none 0 0] 34)).alloc (.map #[] 0)).alloc (.cells #[.map (some (w1.heap.size + 1 + 1))] 112)) (w1.heap.size + 1 + 1) [] := (z2 ▸ SetMap.made _ : SetMap _ (w1.heap.size + 1 + 1) []).kept (World.grownBy_alloc _ _ none) (by simp)
 have hx8 := heap_to z4 #[.int .u8 t.k, str t.n, .slice p t.sub.len c] 174
 have z5 : (((((w1.alloc (.cells #[.int .u8 t.k, str t.n, .slice p t.sub.len c] 174)).alloc (.cells #[.slice none 0 0] 34)).alloc (.map #[] 0)).alloc (.cells #[.map (some (w1.heap.size + 1 + 1))] 112)).alloc (.cells #[.int .u8 t.k, str t.n, .slice p t.sub.len c] 174)).heap.size = w1.heap.size + 5 := by simp
 have hI0 : InsI w1 w1.heap.size (w1.heap.size + 1) (w1.heap.size + 1 + 1 + 1) (w1.heap.size + 1 + 1) (w1.heap.size + 5) (insF []) (((((w1.alloc (.cells #[.int .u8 t.k, str t.n, .slice p t.sub.len c] 174)).alloc (.cells #[.slice none 0 0] 34)).alloc (.map #[] 0)).alloc (.cells #[.map (some (w1.heap.size + 1 + 1))] 112)).alloc (.cells #[.int .u8 t.k, str t.n, .slice p t.sub.len c] 174)) :=
  ⟨⟨_, hx6.alloc _, World.ownsRow_nil _ _ _ _⟩, hx7.alloc _, hms.kept (World.grownBy_alloc _ _ none) (by simp), hb0.alloc (by simp; omega) _, by omega⟩
 clear z1 z2 z3 z4 hx6 hx7 hms hb0
 generalize ((((w1.alloc (.cells #[.int .u8 t.k, str t.n, .slice p t.sub.len c] 174)).alloc (.cells #[.slice none 0 0] 34)).alloc (.map #[] 0)).alloc (.cells #[.map (some (w1.heap.size + 1 + 1))] 112)).alloc (.cells #[.int .u8 t.k, str t.n, .slice p t.sub.len c] 174) = W0 at *
 rw [← z5] at hI0
 have hle5 : w1.heap.size + 5 ≤ W0.heap.size := by omega
 clear z5
 have hle0 : w1.heap.size ≤ W0.heap.size := by omega
 have hz := hb1.size
 refine wpIn_rangeFunc_ownH (α := TV w1 w1.heap.size (fun x => x.txt.length ≤ 100)) rfl (show 1 ≤ 6 by decide) (gf := 213) (lb := #[.pointer (some ⟨w1.heap.size + 1 + 1 + 1 + 1, 0, none⟩)]) rfl trivial (enters_of Tryz.func213 (by kernel_rfl) rfl)
  (inside_stops (w₀ := w1) (n₀ := w1.heap.size) (n₁ := W0.heap.size) hered_txt t hlt _ 5 hI0.bel hle0 (nl _) (hv.mono fun _ _ h => h) hx8) (fun h k => h.trans k) (KpI.book hle0) (Below.refl _ _) (fun _ => rfl)
  (fun pre W => InsI w1 w1.heap.size (w1.heap.size + 1) (w1.heap.size + 1 + 1 + 1) (w1.heap.size + 1 + 1) W0.heap.size (accOf pre) W) (fun _ _ _ => False)
  (insI_own _ _ _ _ _ _ (by omega) hle0 _) (fun _ => none_own.from _)
  hI0
  (fun x a' W => ∃ Bx, W0.heap.size ≤ Bx ∧ W.heap[Bx]? = some (.cells #[.int .u8 x.1.1.k, str x.1.1.n, x.1.2] 174 (0, 0)) ∧
   a' = { tmps := #[str s, undef, .slice none 0 0, .int .i64 0, .pointer (some ⟨w1.heap.size, 0, none⟩), .int .i64 0, .pointer (some ⟨w1.heap.size + 1, 0, none⟩), .pointer (some ⟨w1.heap.size + 1 + 1 + 1, 0, none⟩), .pointer (some ⟨Bx, 0, none⟩), undef, .tuple #[.agg #[.int .u8 t.k, str t.n, .slice p t.sub.len c], .int .i64 0], str s, .tuple #[.agg #[.int .u8 t.k, str t.n, .slice p t.sub.len c], .int .i64 0], .agg #[.int .u8 t.k, str t.n, .slice p t.sub.len c], .int .i64 0, .int .i64 0, .bool false, undef, .map (some (w1.heap.size + 1 + 1)), .agg #[.int .u8 t.k, str t.n, .slice p t.sub.len c], .func (.func 213) #[] #[.pointer (some ⟨w1.heap.size + 1 + 1 + 1 + 1, 0, none⟩)], .agg #[.int .u8 x.1.1.k, str x.1.1.n, x.1.2], undef, undef, undef, undef, undef, undef, undef, undef, undef, undef, undef, undef, undef], defers := [] })
  (fun x a' _ W W' row ⟨Bx, h1, h2, h3⟩ hg hr => ⟨Bx, h1, (heap_own (β := Unit) Bx (fun _ => #[.int .u8 x.1.1.k, str x.1.1.n, x.1.2]) _ _) () W W' row h2 hg (fun r e => (hr r e).2), h3⟩) ?assign ?body ?done ?stop
 case assign =>
  rintro l pre ⟨⟨u, vu⟩, hu, hQu⟩ W K hI hK;obtain ⟨pu, cu, e, _⟩ := FoV.shape (fo := u.sub) (v := vu) hu;subst e;dsimp only at hK ⊢;have hS := hI.size;have hIA := hI.kept (W' := W.alloc (.cells #[.int .u8 u.k, str u.n, .slice pu u.sub.len cu] 174)) (by omega) hle0 (World.grownBy_alloc W _ none) (fun r e => by cases e)
  gi_wp2
  exact hK _ _ ((KeepsOthers.alloc _ _).from _) ((KpI.refl _ _ _).alloc (by omega) _) hIA ⟨W.heap.size, hS, heap_alloc_new W _, rfl⟩
 case body =>
  rintro l pre ⟨⟨u, vu⟩, hu, hQu⟩ a' W hl ⟨r, hr⟩ hI ⟨Bx, hBx, hX, rfl⟩ hlen;obtain ⟨pu, cu, e, _⟩ := FoV.shape (fo := u.sub) (v := vu) hu;subst e;dsimp only at hX hu hQu ⊢;have hacc := accOf_len pre;have HSN := Lib.hid (accOf_snoc pre (⟨(u, .slice pu u.sub.len cu), hu, hQu⟩ : TV w1 w1.heap.size (fun x => x.txt.length ≤ 100)));have hW0M : w1.heap.size + 1 + 1 < W0.heap.size := by omega
  have c0 := (cells_at hX 0).trans rfl;have c1 := (cells_at hX 1).trans rfl;have c2 := (cells_at hX 2).trans rfl;have huW := (hu.below hI.bel (nl _));have hul : u.txt.length ≤ 1000000 := by omega
  have hS := hI.size
  by_cases hh : hasB (accOf pre) u.txt = true
  · have HSN2 := Lib.hid (HSN.out.trans (if_pos hh))
    gi_wp2_with (refine ⟨trivial, ?_⟩; gi_at_call 175; refine (CallsIn.inRound l (callsIn_wide.2 (kstring_any u _ _ _ huW hul))).mono ?_; rintro e w2 ⟨rfl, hb2⟩; have hI2 := hI.below hW0M hle0 hb2; have c7 := hI2.mp.cell; have hlk := hI2.set.look (k := u.txt) (by unfold maxLen; omega))
    refine ⟨⟨hb2.size, fun k o _ hk _ => (hb2.block k (Array.getElem?_eq_some_iff.1 hk).1).trans hk⟩, KpI.of_below hb2 (by omega), ?_⟩;have hI3 := hI2;rw [← HSN2.out] at hI3;exact hI3
  · have hh' : hasB (accOf pre) u.txt = false := by simpa using hh
    have HSN2 := Lib.hid (HSN.out.trans (if_neg hh));clear hh;obtain ⟨i0, hi0, hz0, hz1, hz2⟩ := info_parts infoStr
    gi_wp2_with (first
     | (refine ⟨trivial, ?_⟩; gi_at_call 175; refine (CallsIn.inRound l (callsIn_wide.2 (kstring_any u _ _ _ huW hul))).mono ?_; rintro e w2 ⟨rfl, hb2⟩; have hI2 := hI.below hW0M hle0 hb2; have c7 := hI2.mp.cell; have hlk := hI2.set.look (k := u.txt) (by unfold maxLen; omega); obtain ⟨v6, hv6, hrow6⟩ := hI2.row; have c6 := hv6.cell)
     | (gi_at_mapUpdate; refine wpListIn_set_add _ rfl _ _ _ rfl (w1.heap.size + 1 + 1) (accOf pre) rfl hI2.set (by unfold maxLen; omega) u.txt rfl rfl (by unfold maxLen; omega) ?_; intro w3 hset3 hgr3; have c63 := (hv6.kept hgr3 (fun e => by simp at e)).cell; have hrow3 := hrow6.kept hgr3 (set_not_row hI2.set hrow6); have hz3 := hgr3.size; have hz2' := hb2.size)
     | (gi_at_builtin; refine wpListIn_append_own _ rfl _ _ 34 rfl w1.heap.size 9 i0 (.string ⟨#[]⟩) 1 16 Tryz.underlying34 hi0 hz0 hz1 hz2 rfl (by decide) _ _ _ rfl (hrow3.alloc _) ⟨w3.heap.size, 0, none⟩ 1 1 [str u.txt] rfl rfl (cell_one_new _ _ _) (fun x hx => by simp at hx; subst hx; rfl) (by unfold maxLen; omega) (by omega) (by simp; omega) ?_; intro v' w5 hown' hgrow _; obtain ⟨g', cap', rfl⟩ := ownsRow_succ hown'; obtain ⟨hv1, hI3, hk3, hkf3⟩ := hI2.add hset3 hgr3 (by omega) (by omega) (by omega) (by omega) (by omega) (by omega) hW0M (nl _) hv6 hrow6 (fun g e => (hrow6.lt g e).1) hown' hgrow; have hc1 := hv1.cell; have hf1 := hv1.frozen))
    refine ⟨?_, (KpI.of_below hb2 (by omega)).trans hk3, ?_⟩
    · exact KeepsFrom.trans ⟨hb2.size, fun k o _ hk _ => (hb2.block k (Array.getElem?_eq_some_iff.1 hk).1).trans hk⟩ hkf3
    · rw [← HSN2.out] at hI3
      exact hI3
 case done =>
  rintro D' xs W hD hxs hI hK;have hacc : accOf xs = insF t.ins := by unfold accOf; rw [hxs]
  have HA := Lib.hid hacc;clear hacc hxs;obtain ⟨v6, hv6, hrow6⟩ := hI.row;have c6 := hv6.cell
  gi_wp2
  refine ⟨by simp, .inl ⟨_, _, rfl, run_takeDeferred hK, ?_⟩⟩;refine ⟨_, results_tmp2 rfl _ _ _, ?_⟩;unfold InsidePost;rw [HK.out];have hrow7 := ownsRow_putObj hrow6 (.deferred none) hK rfl;rw [HA.out] at hrow7;refine ⟨v6, rfl, ownsRow_mono hrow7 hz, ?_⟩;exact (hb1.trans (below_less hI.bel hz)).trans (belowK_b (w := w) (nl _) W D' _ _ (by omega) hK rfl rfl)
 case stop =>
  rintro D' cd pre W _ _ h _;exact h.elim
set_option maxRecDepth 4000 in
set_option maxHeartbeats 3200000 in
theorem kinside_no (s : List UInt8) (ms : s.length ≤ maxLen) (w : World) (ht : Tab w) (hc : (checkK s).1 ≠ 0) : Calls Tryz.prog 118 #[str s] w (InsidePost w (insideK s)) := by
 have HK := Lib.hid (show insideK s = ([], (checkK s).1) by unfold insideK; rw [if_neg hc])
 have HC := kchecked_any s ms w ht
 unfold CheckedPost at HC
 rcases hq : checkK s with ⟨c, t⟩
 rw [hq] at HC HK hc
 simp only at HC HK hc
 obtain ⟨z1, z2⟩ := nat_ne0 hc
 clear hq hc
 go_enter Tryz.func118, Tryz.ntmps118
 go_wp2_with (go_at_call 157; refine HC.mono ?_; clear HC; rintro e w1 ⟨v, rfl, hv, hb1⟩; obtain ⟨p, c, rfl, _⟩ := hv.shape)
 go_ret2
 unfold InsidePost
 rw [HK.out]
 exact ⟨_, rfl, World.ownsRow_nil _ _ _ _, hb1.alloc hb1.size _⟩
theorem kinside_any (s : List UInt8) (ms : s.length ≤ maxLen) (w : World) (ht : Tab w) : Calls Tryz.prog 118 #[str s] w (InsidePost w (insideK s)) := by
 by_cases hc : (checkK s).1 = 0
 · exact kinside_ok s ms w ht hc
 · exact kinside_no s ms w ht hc
end Go.Proofs.YtakgjcfkdemipaaGreatDoor
