/-
  Contracts: the program's tree.String and tree.inner: the text of a type, and of its parts. Condition: the text is at most a million bytes.
  Contracts: slices.Clone of parts, and the program's tree.with: a type with another one in the place of the parameter. Condition: at most 1000 parts, at most 1000 levels.
  The closure with which the program reads a type (kind.read$3): names and arrays; where a bracket is lacking.
-/
import Derived.Deep.RegionHeld2
import Derived.Maps.AppendAt
import Derived.Test.YtakgjcfkdemipaaGreatDoorYn
import Derived.Test.YtakgjcfkdemipaaGreatDoorY0
import Derived.Test.YtakgjcfkdemipaaGreatDoorY1
import Derived.Test.YtakgjcfkdemipaaGreatDoorY7
import Derived.Test.YtakgjcfkdemipaaGreatDoorY8
import Derived.Test.YtakgjcfkdemipaaGreatDoorY9
namespace Go.Proofs.YtakgjcfkdemipaaGreatDoor
open Go.RowKit
def StrOk (m : Nat) : Prop := ∀ (fo : Fo), fo.level ≤ m → ∀ (k : Nat) (n : List UInt8) (w : World) (D : Nat → Prop) (v : Value), FoV w D fo v → (Tr.txt ⟨k, n, fo⟩).length ≤ 1000000 →
 Calls Tryz.prog 175 #[.agg #[.int .u8 k, str n, v]] w fun e w' => e = .returned (str (Tr.txt ⟨k, n, fo⟩)) ∧ Below w.heap.size w w'
def InnOk (m : Nat) : Prop := ∀ (fo : Fo), fo.level ≤ m → ∀ (k : Nat) (n : List UInt8) (w : World) (D : Nat → Prop) (v : Value), FoV w D fo v → fo.tx.length ≤ 1000000 →
 Calls Tryz.prog 236 #[.agg #[.int .u8 k, str n, v]] w fun e w' => e = .returned (str fo.tx) ∧ Below w.heap.size w w'
theorem infoStr : (Tryz.prog.info? 9).map (fun i => (i.zero, i.size, i.bytes)) = some (some (.string ⟨#[]⟩), 1, 16) := by kernel_rfl
set_option maxRecDepth 4000 in
set_option maxHeartbeats 3200000 in
theorem inner_step (m : Nat) (hS : ∀ m', m' < m → StrOk m') : InnOk m := by
 intro fo hl k n w D v hv htx
 have hlen := hv.len_le
 have hfl : fo.len ≤ 1000001 := by
  have h1 := joinC_len fo.txt;rw [Fo.txt_len] at h1;unfold Fo.tx at htx;omega
 obtain ⟨p, c, rfl, _⟩ := hv.shape
 obtain ⟨i0, hi0, hz0, hz1, hz2⟩ := info_parts infoStr
 have IH := Lib.hid hS
 clear hS
 have HTX := Lib.hid htx
 clear htx
 go_enter Tryz.func236, Tryz.ntmps236
 go_wp2_with fail
 have hbel := (Below.refl w.heap.size w).alloc (nl _) (.cells #[.int .u8 k, str n, .slice p fo.len c] 174)
 have hsz1 : w.heap.size + 1 ≤ (w.alloc (.cells #[.int .u8 k, str n, .slice p fo.len c] 174)).heap.size := by simp
 generalize w.alloc (.cells #[.int .u8 k, str n, .slice p fo.len c] 174) = W1 at *
 go_loopw [3, 10] (fun a b wr => ∃ i : Nat, i ≤ fo.len ∧ b = .int .i64 i ∧ wr.ownsRow w.heap.size 9 1 a i (strsC (fo.txt.take i)) ∧ Below w.heap.size w wr) (fun _ b _ => fo.len - (intOf b).toNat)
 case atStart => exact ⟨0, Nat.zero_le _, rfl, by simpa [strsC] using World.ownsRow_nil _ _ _ _, hbel⟩
 case round =>
  obtain ⟨i, hi, rfl, hown, hb⟩ := hrel
  by_cases hlt : i < fo.len
  case pos =>
   obtain ⟨g, c', pn, t, u, e, _, hg, hat, x0, x1, x2, x3, hu⟩ := hv.at hlt;injection e with e1 _ e2;subst e1 e2;obtain ⟨p', c', rfl, _⟩ := hu.shape;have y0 := (hb.cell (by exact hg)).trans x0;have y1 := (hb.cell (by exact hg)).trans x1;have y2 := (hb.cell (by exact hg)).trans x2;have y3 := (hb.cell (by exact hg)).trans x3;clear x0 x1 x2 x3;have hlv := fo.at_level i pn t hat;have hTT := fo.at_txt i pn t hat;have hle := joinC_get _ _ _ hTT;have hle2 : (preN pn ++ t.txt).length ≤ 1000000 := Nat.le_trans hle HTX.out;have HSn := Lib.hid (show strsC (fo.txt.take (i + 1)) = strsC (fo.txt.take i) ++ [str (preN pn ++ t.txt)] by rw [take_snoc' _ _ _ hTT]; simp [strsC]);rw [List.length_append] at hle2;have hpn : pn.length ≤ (preN pn).length := by unfold preN; split <;> simp_all
   clear hle hTT;have hbA := hb.alloc hb.size (.cells #[.string ⟨pn.toArray⟩, .int .u8 t.k, .string ⟨t.n.toArray⟩, .slice p' t.sub.len c'] 192);have hownA := hown.alloc (.cells #[.string ⟨pn.toArray⟩, .int .u8 t.k, .string ⟨t.n.toArray⟩, .slice p' t.sub.len c'] 192);go_wp2_with fail;refine (IH.out t.sub.level (by omega) t.sub (nl _) t.k t.n _ D _ (hu.below hbA (nl _)) (by show t.txt.length ≤ _; omega)).mono ?_;rintro e w2 ⟨rfl, hb2⟩;have r4 := (hb2.block wr.heap.size (by simp)).trans (heap_alloc_new wr _);have d0 := (cells_at r4 0).trans rfl;have hb3 := hbA.trans (below_less hb2 hbA.size);have hown3 := ownsRow_below hownA hb2 (nl _);clear y0 y1 y2 y3 hb2 hbA r4 hownA;have hB1 : pn.length + 1 + (Tr.txt ⟨t.k, t.n, t.sub⟩).length ≤ 9223372036854775807 := by show pn.length + 1 + t.txt.length ≤ _; omega
   by_cases hp : pn = []
   case pos =>
    subst hp;go_wp2_with (at_builtin; refine wpList_append_own _ rfl _ _ 34 rfl w.heap.size 9 i0 (.string ⟨#[]⟩) 1 16 Tryz.underlying34 hi0 hz0 hz1 hz2 rfl (by decide) _ _ _ rfl (hown3.alloc _) ⟨w2.heap.size, 0, none⟩ 1 1 [str (Tr.txt ⟨t.k, t.n, t.sub⟩)] rfl rfl (cell_one_new _ _ _) (fun x hx => by simp at hx; subst hx; rfl) (by unfold maxLen; omega) (by omega) (by have := hb3.size; simp; omega) ?_; intro v' w3 hown4 hgr _);refine ⟨⟨i + 1, hlt, by go_num, ?_, ?_⟩, by simp only [intOf]; omega⟩
    · rw [HSn.out]
      exact hown4
    · exact (hb3.alloc hb3.size _).grown hgr (by have := hb3.size; simp; omega) (fun b e => (hown3.lt b e).1)
   case neg =>
    have hpe : (!pn.isEmpty) = true := by simpa using hp
    go_wp2_with (at_builtin; refine wpList_append_own _ rfl _ _ 34 rfl w.heap.size 9 i0 (.string ⟨#[]⟩) 1 16 Tryz.underlying34 hi0 hz0 hz1 hz2 rfl (by decide) _ _ _ rfl (hown3.alloc _) ⟨w2.heap.size, 0, none⟩ 1 1 [str (pn ++ 58 :: (Tr.txt ⟨t.k, t.n, t.sub⟩))] rfl rfl (cell_one_new _ _ _) (fun x hx => by simp at hx; subst hx; rfl) (by unfold maxLen; omega) (by omega) (by have := hb3.size; simp; omega) ?_; intro v' w3 hown4 hgr _);refine ⟨⟨i + 1, hlt, by go_num, ?_, ?_⟩, by simp only [intOf]; omega⟩
    · rw [HSn.out]
      rw [show preN pn ++ t.txt = pn ++ 58 :: (Tr.txt ⟨t.k, t.n, t.sub⟩) from by unfold preN; rw [if_neg hp]; simp];exact hown4
    · exact (hb3.alloc hb3.size _).grown hgr (by have := hb3.size; simp; omega) (fun b e => (hown3.lt b e).1)
  case neg =>
   have hie : i = fo.txt.length := by rw [Fo.txt_len]; omega
   rw [hie, List.take_of_length_le (nl _)] at hown;have HJ := Lib.hid hie;clear hie;go_wp2_with (go_at_call 165; refine (join_own fo.txt _ _ w.heap.size hown (by have := HTX.out; unfold Fo.tx at this; omega)).mono ?_; rintro e w2 ⟨rfl, hb2⟩);go_ret;exact ⟨rfl, hb.trans (below_less hb2 hb.size)⟩
def TrAt (w : World) (b k : Nat) (n : List UInt8) (v : Value) (W : World) : Prop :=
 (W.cell? ⟨b, 0, none⟩ = some (.int .u8 k) ∧ W.cell? ⟨b, 1, none⟩ = some (str n) ∧ W.cell? ⟨b, 2, none⟩ = some v) ∧ Below w.heap.size w W
theorem TrAt.keep {w W w2 : World} {b k : Nat} {n : List UInt8} {v : Value} (h : TrAt w b k n v W) (hb : Below W.heap.size W w2) : TrAt w b k n v w2 :=
 ⟨⟨Below.keep hb h.1.1, Below.keep hb h.1.2.1, Below.keep hb h.1.2.2⟩, h.2.trans (below_less hb h.2.size)⟩
theorem txt_br {k : Nat} {n : List UInt8} {fo : Fo} (h : fo.len ≠ 0) : Tr.txt ⟨k, n, fo⟩ = wordK k n ++ 91 :: (fo.tx ++ [93]) := by
 cases fo with
 | nil => exact absurd rfl h
 | cons => rfl
set_option maxRecDepth 4000 in
set_option maxHeartbeats 3200000 in
theorem str_step (m : Nat) (hI : InnOk m) : StrOk m := by
 intro fo hl k n w D v hv htx
 have hlen := hv.len_le
 obtain ⟨p, c, rfl, _⟩ := hv.shape
 by_cases hz : fo.len = 0
 case pos =>
  obtain rfl := fo_zero hz;go_enter Tryz.func175, Tryz.ntmps175;go_wp2_with (go_at_call 235; refine (kword_any k n _ _ _ _).mono ?_; rintro e w2 ⟨rfl, hb2⟩);go_ret;exact ⟨rfl, ((Below.refl w.heap.size w).alloc (nl _) _).trans (below_less hb2 (by simp))⟩
 case neg =>
  have h0 := int_not_zero hz;have HT := Lib.hid (txt_br (k := k) (n := n) hz);rw [HT.out] at htx;simp only [List.length_append, List.length_cons, List.length_nil] at htx;have HI := Lib.hid hI;clear hI;go_enter Tryz.func175, Tryz.ntmps175;go_wp2_with fail;have hbel := (Below.refl w.heap.size w).alloc (nl _) (.cells #[.int .u8 k, str n, .slice p fo.len c] 174);have hrow := heap_alloc_new w (.cells #[.int .u8 k, str n, .slice p fo.len c] 174);generalize w.alloc (.cells #[.int .u8 k, str n, .slice p fo.len c] 174) = W1 at *;have hT : TrAt w w.heap.size k n (.slice p fo.len c) W1.drew := ⟨⟨(cells_at hrow 0).trans rfl, (cells_at hrow 1).trans rfl, (cells_at hrow 2).trans rfl⟩, hbel.drew⟩;unfold TrAt at hT;have b1 : ¬ 9223372036854775807 < (wordK k n).length + 1 := by omega
  have b2 : ¬ 9223372036854775807 < (wordK k n).length + 1 + fo.tx.length := by omega
  have b3 : ¬ 9223372036854775807 < (wordK k n).length + (fo.tx.length + 1) + 1 := by omega
  clear hbel hrow
  go_region_held3 (fun W => (W.cell? ⟨w.heap.size, 0, none⟩ = some (.int .u8 k) ∧ W.cell? ⟨w.heap.size, 1, none⟩ = some (str n) ∧ W.cell? ⟨w.heap.size, 2, none⟩ = some (.slice p fo.len c)) ∧ Below w.heap.size w W)
   (first | exact hT | assumption | exact TrAt.keep (by assumption) hb2)
   (first | (go_at_call 235; refine (kword_any k n _ _ _ _).mono ?_; rintro e w2 ⟨rfl, hb2⟩) | (go_at_call 236; refine (HI.out fo hl k n _ D _ (hv.below (And.right (by assumption)) (nl _)) (by omega)).mono ?_; rintro e w2 ⟨rfl, hb2⟩))
  all_goals go_wp2
  all_goals go_ret
  all_goals exact ⟨by rw [HT.out]; rfl, And.right (by assumption)⟩
theorem str_all : ∀ m, StrOk m := by
 intro m
 induction m using Nat.strongRecOn with
 | _ m ih => exact str_step m (inner_step m ih)
theorem kstring_any (t : Tr) (w : World) (D : Nat → Prop) (v : Value) (hv : FoV w D t.sub v) (hl : t.txt.length ≤ 1000000) :
 Calls Tryz.prog 175 #[.agg #[.int .u8 t.k, str t.n, v]] w fun e w' => e = .returned (str t.txt) ∧ Below w.heap.size w w' :=
 str_all _ t.sub (nl _) t.k t.n w D v hv hl
end Go.Proofs.YtakgjcfkdemipaaGreatDoor
namespace Go.Proofs.YtakgjcfkdemipaaGreatDoor
open Go.RowKit
theorem FoC.one {w : World} {D : Nat → Prop} : ∀ (fo : Fo) (cs : List Value), FoC w D fo cs → ∀ u ∈ cs, u.oneCell' = true
 | .nil, _, h => by rw [show _ = [] from h]; simp
 | .cons _ _ _ _ rest, _, ⟨v, cs', sc, e, h1, _, _, h4⟩ => by
  intro u hu;rw [e] at hu;simp only [List.mem_cons] at hu;rcases hu with rfl | rfl | rfl | rfl | hu
  · rfl
  · rfl
  · rfl
  · obtain ⟨p, c, rfl⟩ := row_shape h1
    rfl
  · exact FoC.one rest cs' h4 u hu
set_option maxRecDepth 4000 in
set_option maxHeartbeats 3200000 in
theorem clone_any (v : Value) (n : Nat) (xs : List Value) (w : World) (h : w.ownsRow 0 192 4 v n xs) (hn : n ≤ 2000000) (hx1 : ∀ u ∈ xs, u.oneCell' = true) :
 Calls Tryz.prog 242 #[v] w fun e w' => ∃ v', e = .returned v' ∧ w'.ownsRow w.heap.size 192 4 v' n xs ∧ Below w.heap.size w w' := by
 obtain ⟨i0, hi0, hz0, hz1, hz2⟩ := info_parts infoPart
 rcases h.2 with ⟨rfl, hz⟩ | ⟨g, cap, cur, rfl, hg, hh, h1, h2, h3, h4⟩
 · have hxs : xs = [] := by have := h.1; rw [hz] at this; simpa using this
   subst hz hxs;have hen := fun (w : World) (a : Option Addr) (n c : Nat) => Lib.run_eql_slice_nil (P := Tryz.prog) w 172 192 a n c 0 0 underPart
   go_enter Tryz.func242, Tryz.ntmps242;go_wp2_with fail;go_ret;exact ⟨_, rfl, World.ownsRow_nil _ _ _ _, Below.refl _ _⟩
 · have hnew := h.cells (g := g) rfl
   have hl := h.1;have hE : (w.alloc (.cells #[] 192)).ownsRow w.heap.size 192 4 (.slice (some ⟨w.heap.size, 0, none⟩) 0 0) 0 [] :=
    ⟨rfl, .inr ⟨w.heap.size, 0, #[], rfl, nl _, heap_alloc_new w _, nl _, Nat.zero_le _, rfl, rfl⟩⟩
   have hnewE : ∀ (j : Nat) (u : Value), xs[j]? = some u → (w.alloc (.cells #[] 192)).cell? ((⟨g, 0, none⟩ : Addr).add j) = some u := fun j u hj => by
    have := hnew j u hj;exact Below.keep ((Below.refl _ w).alloc (nl _) _) this
   clear hnew;have hen := fun (w : World) (a : Option Addr) (n c : Nat) => Lib.run_eql_slice_nil (P := Tryz.prog) w 172 192 a n c 0 0 underPart
   go_enter Tryz.func242, Tryz.ntmps242;go_wp2_with (at_builtin; refine wpList_append_own (w.alloc (.cells #[] 192)) rfl _ _ 172 rfl w.heap.size 192 i0 _ 4 64 underPart hi0 hz0 hz1 hz2 rfl (by decide) (.slice (some ⟨w.heap.size, 0, none⟩) 0 0) 0 [] rfl hE ⟨g, 0, none⟩ n cap xs rfl hl hnewE hx1 (by unfold maxLen; omega) (by omega) (by simp) ?_; intro v' w3 hown4 hgr _);go_ret;rw [List.nil_append, Nat.zero_add] at hown4;exact ⟨v', rfl, hown4, ((Below.refl _ w).alloc (nl _) _).grown hgr (by simp) (fun b e => by cases e; exact nl _)⟩
def WithPost (w : World) (D : Nat → Prop) (t a : Tr) (e : Ending) (w' : World) : Prop :=
 ∃ v', e = .returned (.agg #[.int .u8 (t.put a).k, str (t.put a).n, v']) ∧ FoV w' (fun b => D b ∨ w.heap.size ≤ b) (t.put a).sub v' ∧ Below w.heap.size w w'
def WithOk (m : Nat) : Prop := ∀ (t a : Tr), t.sub.level ≤ m → t.txt.length ≤ 1000000 → ∀ (w : World) (D : Nat → Prop) (v va : Value), FoV w D t.sub v → FoV w D a.sub va →
 Calls Tryz.prog 187 #[.agg #[.int .u8 t.k, str t.n, v], .agg #[.int .u8 a.k, str a.n, va]] w (WithPost w D t a)
theorem txt_sub {t : Tr} (hl : t.txt.length ≤ 1000000) : t.sub.tx.length ≤ 1000000 ∧ t.sub.len ≤ 2000000 := by
 have h : t.sub.tx.length ≤ t.txt.length := by
  obtain ⟨k, n, sub⟩ := t;cases sub with
  | nil => simp [Fo.tx, Fo.txt, joinC]
  | cons => rw [Tr.txt_eq, Fo.one, Fo.tx_one, Fo.br_ne (by simp)]; simp; omega
 have h2 := joinC_len t.sub.txt
 rw [Fo.txt_len] at h2
 unfold Fo.tx at h
 unfold Fo.tx
 omega
set_option maxRecDepth 4000 in
set_option maxHeartbeats 3200000 in
theorem with_par (t a : Tr) (hk : t.k = 8) (w : World) (D : Nat → Prop) (v va : Value) (hv : FoV w D t.sub v) (hva : FoV w D a.sub va) :
 Calls Tryz.prog 187 #[.agg #[.int .u8 t.k, str t.n, v], .agg #[.int .u8 a.k, str a.n, va]] w (WithPost w D t a) := by
 have hput := Lib.hid (show t.put a = a by unfold Tr.put; rw [if_pos hk])
 obtain ⟨p, c, rfl, _⟩ := hv.shape
 obtain ⟨pa, ca, rfl, _⟩ := hva.shape
 have h8 : ((t.k : Int) == 8) = true := by rw [hk]; rfl
 clear hk
 have hb := (((Below.refl w.heap.size w).alloc (nl _) (.cells #[.int .u8 t.k, str t.n, .slice p t.sub.len c] 174)).alloc (by simp) (.cells #[.int .u8 a.k, str a.n, .slice pa a.sub.len ca] 174)).alloc (by simp; omega) (.cells #[.int .u8 a.k, str a.n, .slice pa a.sub.len ca] 174)
 go_enter Tryz.func187, Tryz.ntmps187
 go_wp2_with fail
 refine bodyPost_ret (v := .agg #[.int .u8 a.k, str a.n, .slice pa a.sub.len ca]) (by simp [results, Tryz.results187, go_sem]) rfl ?_
 unfold WithPost
 rw [hput.out]
 exact ⟨_, rfl, (hva.below hb (nl _)).mono fun b hb _ => .inl hb, hb⟩
structure WInv (w : World) (D : Nat → Prop) (t a : Tr) (v va : Value) (p' : Option Addr) (c' : Nat) (wr : World) (i : Nat) : Prop where
 row : RowAt wr (w.heap.size + 3) (fun b => (D b ∧ b < w.heap.size) ∨ w.heap.size + 3 ≤ b) (t.sub.putTo a i) (.slice p' t.sub.len c')
 bel : Below w.heap.size w wr
 r2 : wr.heap[w.heap.size]? = some (.cells #[.int .u8 t.k, str t.n, v] 174 (0, 0))
 r3 : wr.heap[w.heap.size + 1]? = some (.cells #[.int .u8 a.k, str a.n, va] 174 (0, 0))
 r4 : wr.heap[w.heap.size + 1 + 1]? = some (.cells #[.int .u8 0, .string ⟨#[]⟩, .slice none 0 0] 174 (0, 0))
theorem WInv.step {w wr w2 : World} {D : Nat → Prop} {t a tt : Tr} {v va v2 : Value} {c' g i : Nat} {pn : List UInt8} (h : WInv w D t a v va (some ⟨g, 0, none⟩) c' wr i) (hi : i < t.sub.len) (hat : t.sub.at i = some (pn, tt)) (hb : Below wr.heap.size wr w2)
 (hv : FoV w2 (fun b => ((D b ∧ b < w.heap.size ∨ w.heap.size + 3 ≤ b) ∧ b ≠ g) ∨ wr.heap.size ≤ b) (tt.put a).sub v2) (hg : w.heap.size + 3 ≤ g) (hgl : g < wr.heap.size) :
 WInv w D t a v va (some ⟨g, 0, none⟩) c' (((w2.setCell ⟨g, i * 4 + 1, none⟩ (.int .u8 (tt.put a).k)).setCell ⟨g, i * 4 + 2, none⟩ (str (tt.put a).n)).setCell ⟨g, i * 4 + 3, none⟩ v2) (i + 1) := by
 have hsz := h.bel.size
 have hw := h.bel
 have hsW : w.heap.size + 1 + 1 < wr.heap.size := (Array.getElem?_eq_some_iff.1 h.r4).1
 have hne : ∀ b, b ≠ g → (((w2.setCell ⟨g, i * 4 + 1, none⟩ (.int .u8 (tt.put a).k)).setCell ⟨g, i * 4 + 2, none⟩ (str (tt.put a).n)).setCell ⟨g, i * 4 + 3, none⟩ v2).heap[b]? = w2.heap[b]? := fun b hne => by
  rw [Below.heap_setCell _ _ _ _ hne, Below.heap_setCell _ _ _ _ hne, Below.heap_setCell _ _ _ _ hne]
 refine ⟨?_, ?_, ?_, ?_, ?_⟩
 · have h1 := h.row.below hb (nl _)
   have h2 := RowAt.set (fo := t.sub.putTo a i) (i := i) (t := tt.put a) (v := v2) (by rw [Fo.putTo_len]; exact h1) (by rw [Fo.putTo_len]; exact hi) (hv.mono fun b hb _ => by
    rcases hb with hb | hb
    · exact hb
    · exact ⟨.inr (by omega), by omega⟩) hg
   rw [Fo.putTo_len] at h2;rw [Fo.putTo_succ a t.sub i pn tt hat];exact h2
 · exact (((h.bel.trans (below_less hb hsz)).setCell (p := ⟨g, _, none⟩) (by simp only; omega) _).setCell (p := ⟨g, _, none⟩) (by simp only; omega) _).setCell (p := ⟨g, _, none⟩) (by simp only; omega) _
 · rw [hne _ (by omega)]; exact (hb.block _ (by omega)).trans h.r2
 · rw [hne _ (by omega)]; exact (hb.block _ (by omega)).trans h.r3
 · rw [hne _ (by omega)]; exact (hb.block _ (by omega)).trans h.r4
theorem ownsRow_mono0 {w : World} {base : Nat} {e : TypeId} {size n : Nat} {v : Value} {xs : List Value} (h : w.ownsRow base e size v n xs) : w.ownsRow 0 e size v n xs := by
 refine ⟨h.1, ?_⟩
 rcases h.2 with h2 | ⟨g, cap, cur, rfl, _, h4⟩
 · exact .inl h2
 · exact .inr ⟨g, cap, cur, rfl, Nat.zero_le _, h4⟩
theorem RowAt.foV {w : World} {base : Nat} {D : Nat → Prop} {fo : Fo} {v : Value} (h : RowAt w base D fo v) : FoV w (fun b => D b ∨ base ≤ b) fo v := by
 obtain ⟨cs, h1, h2⟩ := h
 exact ⟨cs, ownsRow_mono0 h1, fun b hb => .inr (h1.lt b hb).1, h2.mono fun b hb _ => .inl hb.1⟩
theorem WInv.last {w wr : World} {D : Nat → Prop} {t a : Tr} {v va : Value} {p' : Option Addr} {c' i : Nat} (h : WInv w D t a v va p' c' wr i) (hi : i = t.sub.len) :
 FoV ((((wr.setCell ⟨w.heap.size, 2, none⟩ (.slice p' t.sub.len c')).setCell ⟨w.heap.size + 1 + 1, 0, none⟩ (.int .u8 t.k)).setCell ⟨w.heap.size + 1 + 1, 1, none⟩ (str t.n)).setCell ⟨w.heap.size + 1 + 1, 2, none⟩ (.slice p' t.sub.len c')) (fun b => D b ∨ w.heap.size ≤ b) (t.sub.put a) (.slice p' t.sub.len c') ∧
 Below w.heap.size w ((((wr.setCell ⟨w.heap.size, 2, none⟩ (.slice p' t.sub.len c')).setCell ⟨w.heap.size + 1 + 1, 0, none⟩ (.int .u8 t.k)).setCell ⟨w.heap.size + 1 + 1, 1, none⟩ (str t.n)).setCell ⟨w.heap.size + 1 + 1, 2, none⟩ (.slice p' t.sub.len c')) := by
 subst hi
 have h1 := h.row.foV
 rw [Fo.putTo_all] at h1
 refine ⟨(h1.kept (fun b hb _ => ?_)).mono fun b hb _ => ?_, ?_⟩
 · have hne : b ≠ w.heap.size ∧ b ≠ w.heap.size + 1 + 1 := by
    rcases hb with (hb | hb) | hb <;> omega
   rw [Below.heap_setCell _ _ _ _ hne.2, Below.heap_setCell _ _ _ _ hne.2, Below.heap_setCell _ _ _ _ hne.2, Below.heap_setCell _ _ _ _ hne.1]
 · rcases hb with (hb | hb) | hb
   · exact .inl hb.1
   · exact .inr (by omega)
   · exact .inr (by omega)
 · exact (((h.bel.setCell (p := ⟨w.heap.size, 2, none⟩) (nl _) _).setCell (p := ⟨w.heap.size + 1 + 1, 0, none⟩) (by simp only; omega) _).setCell (p := ⟨w.heap.size + 1 + 1, 1, none⟩) (by simp only; omega) _).setCell (p := ⟨w.heap.size + 1 + 1, 2, none⟩) (by simp only; omega) _
theorem with_keep {W w2 : World} {k' B : Nat} {n' : List UInt8} {u' : Value} (h : W.cell? ⟨B, 0, none⟩ = some (.int .u8 k') ∧ W.cell? ⟨B, 1, none⟩ = some (str n') ∧ W.cell? ⟨B, 2, none⟩ = some u') (hb : Below W.heap.size W w2) :
 w2.cell? ⟨B, 0, none⟩ = some (.int .u8 k') ∧ w2.cell? ⟨B, 1, none⟩ = some (str n') ∧ w2.cell? ⟨B, 2, none⟩ = some u' :=
 ⟨Below.keep hb h.1, Below.keep hb h.2.1, Below.keep hb h.2.2⟩
theorem with_set {W : World} {k' B g : Nat} {n' : List UInt8} {u' : Value} (hg : g ≠ B) (h : W.cell? ⟨B, 0, none⟩ = some (.int .u8 k') ∧ W.cell? ⟨B, 1, none⟩ = some (str n') ∧ W.cell? ⟨B, 2, none⟩ = some u') (i j l : Nat) (x y z : Value) :
 (((W.setCell ⟨g, i, none⟩ x).setCell ⟨g, j, none⟩ y).setCell ⟨g, l, none⟩ z).cell? ⟨B, 0, none⟩ = some (.int .u8 k') ∧ (((W.setCell ⟨g, i, none⟩ x).setCell ⟨g, j, none⟩ y).setCell ⟨g, l, none⟩ z).cell? ⟨B, 1, none⟩ = some (str n') ∧ (((W.setCell ⟨g, i, none⟩ x).setCell ⟨g, j, none⟩ y).setCell ⟨g, l, none⟩ z).cell? ⟨B, 2, none⟩ = some u' := by
 have hne : ∀ o o' : Nat, (⟨g, o, none⟩ : Addr) ≠ ⟨B, o', none⟩ := fun o o' e => hg (by injection e)
 refine ⟨?_, ?_, ?_⟩
 · rw [World.cell?_setCell_other _ _ _ _ (hne _ _), World.cell?_setCell_other _ _ _ _ (hne _ _), World.cell?_setCell_other _ _ _ _ (hne _ _)]; exact h.1
 · rw [World.cell?_setCell_other _ _ _ _ (hne _ _), World.cell?_setCell_other _ _ _ _ (hne _ _), World.cell?_setCell_other _ _ _ _ (hne _ _)]; exact h.2.1
 · rw [World.cell?_setCell_other _ _ _ _ (hne _ _), World.cell?_setCell_other _ _ _ _ (hne _ _), World.cell?_setCell_other _ _ _ _ (hne _ _)]; exact h.2.2
theorem with_free {wr W w2 : World} {g j : Nat} (h : Below wr.heap.size wr W) (hb : Below W.heap.size W w2) (hg : g < wr.heap.size) (hf : wr.frozen? ⟨g, j, none⟩ = false) : w2.frozen? ⟨g, j, none⟩ = false :=
 (hb.frozen (by have := h.size; exact Nat.lt_of_lt_of_le hg this)).trans ((h.frozen hg).trans hf)
theorem Fo.putTo_zero (a : Tr) (fo : Fo) : fo.putTo a 0 = fo := by cases fo <;> rfl
set_option maxRecDepth 4000 in
set_option maxHeartbeats 3200000 in
theorem with_step (m : Nat) (hS : ∀ m', m' < m → WithOk m') : WithOk m := by
 intro t a hl htx w D v va hv hva
 by_cases hk : t.k = 8
 · exact with_par t a hk w D v va hv hva
 have hput := Lib.hid (show t.put a = ⟨t.k, t.n, t.sub.put a⟩ by unfold Tr.put; rw [if_neg hk])
 obtain ⟨htx1, hlen⟩ := txt_sub htx
 obtain ⟨sc, hv1, hv2, hv3⟩ := hv
 obtain ⟨p, c, rfl⟩ := row_shape hv1
 obtain ⟨pa, ca, rfl, _⟩ := hva.shape
 have h8 : ((t.k : Int) == 8) = false := by rw [beq_eq_false_iff_ne]; omega
 have HS := Lib.hid hS
 have HTX := Lib.hid htx1
 clear hk hS htx htx1
 go_enter Tryz.func187, Tryz.ntmps187
 have hz1 : (w.alloc (.cells #[.int .u8 t.k, str t.n, .slice p t.sub.len c] 174)).heap.size = w.heap.size + 1 := by simp
 have hz2 : ((w.alloc (.cells #[.int .u8 t.k, str t.n, .slice p t.sub.len c] 174)).alloc (.cells #[.int .u8 a.k, str a.n, .slice pa a.sub.len ca] 174)).heap.size = w.heap.size + 1 + 1 := by simp
 have hb := (((Below.refl w.heap.size w).alloc (nl _) (.cells #[.int .u8 t.k, str t.n, .slice p t.sub.len c] 174)).alloc (by simp) (.cells #[.int .u8 a.k, str a.n, .slice pa a.sub.len ca] 174)).alloc (by simp; omega) (.cells #[.int .u8 0, .string ⟨#[]⟩, .slice none 0 0] 174)
 have hr2 := heap_up (.cells #[.int .u8 0, .string ⟨#[]⟩, .slice none 0 0] 174) (heap_up (.cells #[.int .u8 a.k, str a.n, .slice pa a.sub.len ca] 174) (heap_alloc_new w (.cells #[.int .u8 t.k, str t.n, .slice p t.sub.len c] 174)))
 have hr3 := heap_up (.cells #[.int .u8 0, .string ⟨#[]⟩, .slice none 0 0] 174) (heap_to hz1 #[.int .u8 a.k, str a.n, .slice pa a.sub.len ca] 174)
 have hr4 := heap_to hz2 #[.int .u8 0, .string ⟨#[]⟩, .slice none 0 0] 174
 have hzs : (((w.alloc (.cells #[.int .u8 t.k, str t.n, .slice p t.sub.len c] 174)).alloc (.cells #[.int .u8 a.k, str a.n, .slice pa a.sub.len ca] 174)).alloc (.cells #[.int .u8 0, .string ⟨#[]⟩, .slice none 0 0] 174)).heap.size = w.heap.size + 3 := by simp
 clear hz1 hz2
 go_wp2_with fail
 generalize ((w.alloc (.cells #[.int .u8 t.k, str t.n, .slice p t.sub.len c] 174)).alloc (.cells #[.int .u8 a.k, str a.n, .slice pa a.sub.len ca] 174)).alloc (.cells #[.int .u8 0, .string ⟨#[]⟩, .slice none 0 0] 174) = W3 at *
 refine (clone_any _ _ sc _ (ownsRow_below hv1 hb (nl _)) hlen (FoC.one _ _ hv3)).mono ?_
 rintro e w1 ⟨v', rfl, hrow, hb1⟩
 have hz := hb1.size
 have hbB := hb.trans (below_less hb1 (by omega))
 have hq2 := (hb1.block w.heap.size (by omega)).trans hr2
 have hq3 := (hb1.block (w.heap.size + 1) (by omega)).trans hr3
 have hq4 := (hb1.block (w.heap.size + 1 + 1) (by omega)).trans hr4
 have hR : RowAt w1 (w.heap.size + 3) (fun b => (D b ∧ b < w.heap.size) ∨ w.heap.size + 3 ≤ b) t.sub v' := by
  refine ⟨sc, by rw [← hzs]; exact hrow, ?_⟩;refine (hv3.mono (D' := fun b => D b ∧ b < w.heap.size) fun b hb hlt => ⟨hb, hlt⟩).kept (w' := w1) (fun b hb _ => hbB.block b hb.2) |>.mono fun b hb _ => ⟨.inl hb, fun e => ?_⟩
  have := (hrow.lt b e).1;omega
 clear hrow hv1 hv2 hv3 hr2 hr3 hr4 hb hb1 hzs
 obtain ⟨p', c', rfl⟩ := hR.shape
 have hR0 : RowAt w1 (w.heap.size + 3) (fun b => (D b ∧ b < w.heap.size) ∨ w.heap.size + 3 ≤ b) (t.sub.putTo a 0) (.slice p' t.sub.len c') := by rw [Fo.putTo_zero]; exact hR
 have hva1 := (hva.below hbB (nl _))
 have hInv : WInv w D t a (.slice p t.sub.len c) (.slice pa a.sub.len ca) p' c' w1 0 := ⟨hR0, hbB, hq2, hq3, hq4⟩
 clear hR hR0 hbB hq2 hq3 hq4 hva1
 go_wp2_with fail
 go_loopw [16] (fun b wr => ∃ i : Nat, i ≤ t.sub.len ∧ b = .int .i64 i ∧ WInv w D t a (.slice p t.sub.len c) (.slice pa a.sub.len ca) p' c' wr i) (fun b _ => t.sub.len - (intOf b).toNat)
 case atStart => exact ⟨0, Nat.zero_le _, rfl, hInv⟩
 case round =>
  obtain ⟨i, hi, rfl, hI⟩ := hrel
  by_cases hlt : i < t.sub.len
  case pos =>
   obtain ⟨g, c2, pn, tt, u, e, hg, hgl, hat, x0, x1, x2, x3, hu, hfz⟩ := hI.row.at (i := i) (by rw [Fo.putTo_len]; exact hlt);rw [Fo.putTo_at] at hat;rw [Fo.putTo_len] at e;injection e with e1 _ e2;subst e1 e2;obtain ⟨pu, cu, rfl, _⟩ := hu.shape;have hlv := t.sub.at_level i pn tt hat;have htt : tt.txt.length ≤ 1000000 := by
    have h1 := joinC_get _ _ _ (t.sub.at_txt i pn tt hat);have h2 := HTX.out;unfold Fo.tx at h2;rw [List.length_append] at h1;omega
   have hva2 : FoV wr (fun b => ((D b ∧ b < w.heap.size) ∨ w.heap.size + 3 ≤ b) ∧ b ≠ g) a.sub (.slice pa a.sub.len ca) :=
    ((hva.mono (D' := fun b => D b ∧ b < w.heap.size) fun b hb hlt => ⟨hb, hlt⟩).below hI.bel (nl _)).mono fun b hb _ => ⟨.inl hb, by omega⟩
   have hS0 : wr.drew.cell? ⟨w.heap.size + 1, 0, none⟩ = some (.int .u8 a.k) ∧ wr.drew.cell? ⟨w.heap.size + 1, 1, none⟩ = some (str a.n) ∧ wr.drew.cell? ⟨w.heap.size + 1, 2, none⟩ = some (.slice pa a.sub.len ca) :=
    ⟨(cells_at hI.r3 0).trans rfl, (cells_at hI.r3 1).trans rfl, (cells_at hI.r3 2).trans rfl⟩
   have hbD : Below wr.heap.size wr wr.drew := (Below.refl _ _).drew;have hgB : g ≠ w.heap.size + 1 := by omega
   have hlt' : (i : Int) < (t.sub.len : Int) := by omega
   have hge : (0 : Int) ≤ (i : Int) := by omega
   have HI := Lib.hid hI;clear x0 hI;go_wp2_with fail;refine wp_region_held_drew (S := (fun W : World => W.cell? ⟨w.heap.size + 1, 0, none⟩ = some (.int .u8 a.k) ∧ W.cell? ⟨w.heap.size + 1, 1, none⟩ = some (str a.n) ∧ W.cell? ⟨w.heap.size + 1, 2, none⟩ = some (.slice pa a.sub.len ca))) (by kernel_rfl) ?_ (fun hHeld => ?_)
   · exact hS0
   refine takeH (i := 0) (d := some 19) (v := ?_) rfl (by kernel_rfl) (by kernel_rfl) (by kernel_rfl) (by kernel_rfl) (fun _ _ _ h => h) (by assumption) (by kernel_rfl) ?_ ?_;rotate_left
   · intro w hSw
     try dsimp only at hSw
     go_simp;try with_reducible rfl
   try simp only [pz, pw]
   refine takeH (i := 1) (d := some 20) (v := ?_) rfl (by kernel_rfl) (by kernel_rfl) (by kernel_rfl) (by kernel_rfl) (fun _ _ _ h => h) (by assumption) (by kernel_rfl) ?_ ?_;rotate_left
   · intro w hSw
     try dsimp only at hSw
     go_simp;try with_reducible rfl
   try simp only [pz, pw]
   refine takeH (i := 2) (d := some 21) (v := ?_) rfl (by kernel_rfl) (by kernel_rfl) (by kernel_rfl) (by kernel_rfl) (fun _ _ _ h => h) (by assumption) (by kernel_rfl) ?_ ?_;rotate_left
   · intro w hSw
     try dsimp only at hSw
     go_simp;try with_reducible rfl
   try simp only [pz, pw]
   refine takeH (i := 3) (d := some 22) (v := ?_) rfl (by kernel_rfl) (by kernel_rfl) (by kernel_rfl) (by kernel_rfl) (fun _ _ _ h => h) (by assumption) (by kernel_rfl) ?_ ?_;rotate_left
   · intro w hSw
     try dsimp only at hSw
     go_simp;try with_reducible rfl
   try simp only [pz, pw]
   refine takeH (i := 4) (d := some 23) (v := ?_) rfl (by kernel_rfl) (by kernel_rfl) (by kernel_rfl) (by kernel_rfl) (fun _ _ _ h => h) (by assumption) (by kernel_rfl) ?_ ?_;rotate_left
   · intro w hSw
     try dsimp only at hSw
     go_simp;try with_reducible rfl
   try simp only [pz, pw]
   refine takeH (i := 5) (d := some 24) (v := ?_) rfl (by kernel_rfl) (by kernel_rfl) (by kernel_rfl) (by kernel_rfl) (fun _ _ _ h => h) (by assumption) (by kernel_rfl) ?_ ?_;rotate_left
   · intro w hSw
     try dsimp only at hSw
     go_simp;try with_reducible rfl
   try simp only [pz, pw]
   refine takeH (i := 7) (d := some 26) (v := ?_) rfl (by kernel_rfl) (by kernel_rfl) (by kernel_rfl) (by kernel_rfl) (fun _ _ _ h => h) (by assumption) (by kernel_rfl) ?_ ?_;rotate_left
   · intro w hSw
     try dsimp only at hSw
     go_simp;try with_reducible rfl
   try simp only [pz, pw]
   refine wpAnyH_ready (rs := [6]) (by kernel_rfl) (by simp) ?_;refine AllReadyH.cons rfl (fun K hK => ?_) AllReadyH.nil;go_simp;go_wp2_with (fail);refine hK.out _ _ ?_ (fun hHeld => ?_)
   · exact hS0
   clear hK K;try simp only [pz, pw]
   refine wpAnyH_ready (rs := [8]) (by kernel_rfl) (by simp) ?_;refine AllReadyH.cons rfl (fun K hK => ?_) AllReadyH.nil;go_simp;go_wp2_with (go_at_call 187; refine (HS.out tt.sub.level (by omega) tt a (nl _) htt _ (fun b => ((D b ∧ b < w.heap.size) ∨ w.heap.size + 3 ≤ b) ∧ b ≠ g) _ _ (hu.below hbD (nl _)) (hva2.below hbD (nl _))).mono ?_; rintro e w2 ⟨v2, rfl, hv2, hb2⟩; obtain ⟨p2, c2, rfl, _⟩ := hv2.shape; have hf1 := with_free hbD hb2 hgl (hfz (i * 4 + 1)); have hf2 := with_free hbD hb2 hgl (hfz (i * 4 + 2)); have hf3 := with_free hbD hb2 hgl (hfz (i * 4 + 3)); have y1 := Below.keep hb2 x1; have y2 := Below.keep hb2 x2; have y3 := Below.keep hb2 x3);refine hK.out _ _ ?_ (fun hHeld => ?_)
   · exact with_keep hS0 hb2
   clear hK K;try simp only [pz, pw]
   refine takeH (i := 9) (d := some 28) (v := ?_) rfl (by kernel_rfl) (by kernel_rfl) (by kernel_rfl) (by kernel_rfl) (fun _ _ _ h => h) (by assumption) (by kernel_rfl) ?_ ?_;rotate_left
   · intro w hSw
     try dsimp only at hSw
     go_simp;try with_reducible rfl
   try simp only [pz, pw]
   refine takeH (i := 10) (d := some 29) (v := ?_) rfl (by kernel_rfl) (by kernel_rfl) (by kernel_rfl) (by kernel_rfl) (fun _ _ _ h => h) (by assumption) (by kernel_rfl) ?_ ?_;rotate_left
   · intro w hSw
     try dsimp only at hSw
     go_simp;try with_reducible rfl
   try simp only [pz, pw]
   refine wpAnyH_ready (rs := [11]) (by kernel_rfl) (by simp) ?_;refine AllReadyH.cons rfl (fun K hK => ?_) AllReadyH.nil;go_simp;go_wp2_with (fail);refine hK.out _ _ ?_ (fun hHeld => ?_)
   · exact with_set hgB (with_keep hS0 hb2) _ _ _ _ _ _
   clear hK K;try simp only [pz, pw]
   refine wpAnyH_done (by kernel_rfl) ?_ _;go_wp2_with fail;refine ⟨⟨i + 1, hlt, by go_num, HI.out.step hlt hat ((Below.refl _ _).drew.trans (below_less hb2 (nl _))) hv2 hg hgl⟩, by simp only [intOf]; omega⟩
  case neg =>
   have HF := Lib.hid (hI.last (by omega));have c0 := (cells_at hI.r2 0).trans rfl;have c1 := (cells_at hI.r2 1).trans rfl;have c2 := (cells_at hI.r2 2).trans rfl;have f2 := free_at hI.r2 2;have d0 := (cells_at hI.r4 0).trans rfl;have d1 := (cells_at hI.r4 1).trans rfl;have d2 := (cells_at hI.r4 2).trans rfl;have e0 := free_at hI.r4 0;have e1 := free_at hI.r4 1;have e2 := free_at hI.r4 2;clear hI hInv;go_wp2_with fail;refine bodyPost_ret (v := .agg #[.int .u8 t.k, str t.n, .slice p' t.sub.len c']) (by simp [results, Tryz.results187, go_sem, d0, d1, d2]) rfl ?_;unfold WithPost;rw [hput.out];exact ⟨_, rfl, HF.out.1, HF.out.2⟩
theorem with_all : ∀ m, WithOk m := by
 intro m
 induction m using Nat.strongRecOn with
 | _ m ih => exact with_step m ih
theorem with_any (t a : Tr) (hl : t.txt.length ≤ 1000000) (w : World) (D : Nat → Prop) (v va : Value) (hv : FoV w D t.sub v) (hva : FoV w D a.sub va) :
 Calls Tryz.prog 187 #[.agg #[.int .u8 t.k, str t.n, v], .agg #[.int .u8 a.k, str a.n, va]] w (WithPost w D t a) :=
 with_all _ t a (nl _) hl w D v va hv hva
end Go.Proofs.YtakgjcfkdemipaaGreatDoor
namespace Go.Proofs.YtakgjcfkdemipaaGreatDoor
open Go.RowKit
theorem leave {S : World → Prop} {Y : Act → World → Prop} {K : Act → World → Prop} {G : Prop} (_ : Shut (∀ a w, S w → (S w → Y a w) → K a w)) (hG : G) (a : Act) (w : World) (_ : Hid False → K a w) : G := hG
set_option maxHeartbeats 3200000 in
theorem next_name (s : List UInt8) (hm1 : s.length ≤ 1000) (hp : noPar s) (h0 : kind0 (s.take (cutN s)) = 0) (hkk : kindB (s.take (cutN s)) = 0) (hn : isName (s.take (cutN s)) = true) (hb : ∀ r, s.drop (cutN s) ≠ 91 :: r) : NextOk s := by
 have hm : s.length ≤ maxLen := by unfold maxLen; omega
 intro R Nd X rb w ht he hs
 have HP : Hid (∀ e w', NextPost w rb s e w' ↔ ((∃ v, e = .returned (.agg #[.int .u8 (7 : Nat), str (s.take (cutN s)), v]) ∧ FoV w' (fun b => w.heap.size ≤ b) .nil v) ∧ Rest w' rb (s.drop (cutN s)) ∧ Kept rb w w')) := by
  intro e w'; unfold NextPost; rw [parseT_name hp h0 hkk hn hb]
 have hpre := noPar_prefix hp
 have HK := Lib.hid (wk_word s)
 have HK2 := Lib.hid (wk_bracket (s.take (cutN s)))
 have hk0 : ((wk (s.take (cutN s)) : Int) != 0) = false := by rw [HK.out, h0]; rfl
 have hcle := cutN_le s
 have hwl : (s.take (cutN s)).length ≤ maxLen := by simp; omega
 have hpre2 := prefix_one hb
 have hk1 : ((wk (s.take (cutN s) ++ [91]) : Int) == 0) = true := by rw [HK2.out, hkk]; rfl
 clear h0 hp hkk hb
 have h1 := St.start ht he hs
 have a1 := h1.env.r
 go_enter Tryz.func252, Tryz.ntmps252
 go_wp2_with fail
 generalize w.alloc (.cells #[.int .u8 0, .string ⟨#[]⟩, .slice none 0 0] 174) = W1 at *
 refine (take_no s [63, 116] rb _ h1.rest.cell hpre).mono ?_
 rintro e w1 ⟨rfl, rfl⟩
 go_wp2_with fail
 refine (word_any' s rb _ hm h1.rest).mono ?_
 rintro e w2 ⟨rfl, hr2, hkp2⟩
 have h2 := h1.next hkp2 hr2
 have b1 := h2.env.r
 have b2 := h2.env.need
 go_wp2_with (first | (go_at_call 255; refine (wk_any _ _).mono ?_; rintro e w0 ⟨rfl, rfl⟩) | (go_at_call 253; refine (take_no _ [91] rb _ h2.rest.cell hpre2).mono ?_; rintro e w0 ⟨rfl, rfl⟩))
 go_region_held3 (fun W => W.cell? ⟨Nd, 0, none⟩ = some (.func (.func 251) #[] #[])) (first | exact h2.drew.env.need | exact (h2.drew.quiet hb3).env.need)
  (first | (go_at_call 88; refine (tIsName_any _ _ h2.drew.tab hwl).mono ?_; rintro e w3 ⟨rfl, hb3⟩) | (go_at_call 251; refine (need_yes _).mono ?_; rintro e w0 ⟨rfl, rfl⟩))
 have h3 := h2.drew.quiet hb3
 have b3 := fun o => (h3.alloc o).env.need
 go_wp2_with (go_at_call 251; refine (need_yes _).mono ?_; rintro e w0 ⟨rfl, rfl⟩)
 go_quiet ((go_at_call 251; exact Calls.quiet_of_same ((need_yes _).mono fun _ _ h => ⟨h.1, h.2.symm⟩)))
 have c0 := fun o => (h3.alloc o).resc.1.1
 have c1 := fun o => (h3.alloc o).resc.1.2.1
 have c2 := fun o => (h3.alloc o).resc.1.2.2
 have f0 := fun o => (h3.alloc o).resc.2.1
 have f1 := fun o => (h3.alloc o).resc.2.2.1
 have f2 := fun o => (h3.alloc o).resc.2.2.2
 go_wp2_with fail
 refine bodyPost_ret (v := .agg #[.int .u8 7, str (s.take (cutN s)), .slice none 0 0]) (by simp [results, Tryz.results252, go_sem, c0, c1, c2]) rfl ?_
 rw [HP.out]
 obtain ⟨g1, g2⟩ := ((h3.alloc _).drewN nq).done (.int .u8 7) (str (s.take (cutN s))) (.slice none 0 0)
 exact ⟨⟨_, rfl, FoV.nil _ _⟩, g1, g2⟩
set_option maxHeartbeats 3200000 in
theorem next_bad (s : List UInt8) (hm1 : s.length ≤ 1000) (hp : noPar s) (h0 : kind0 (s.take (cutN s)) = 0) (hkk : kindB (s.take (cutN s)) = 0) (hn : isName (s.take (cutN s)) = false) : NextOk s := by
 have hnone := parseT_bad hp h0 hkk hn
 have hm : s.length ≤ maxLen := by unfold maxLen; omega
 intro R Nd X rb w ht he hs
 have HP : Hid (∀ e w', NextPost w rb s e w' ↔ (e = .panicked nonePanic ∧ Kept rb w w')) := by
  intro e w'; unfold NextPost; rw [hnone]
 have hpre := noPar_prefix hp
 have HK := Lib.hid (wk_word s)
 have HK2 := Lib.hid (wk_bracket (s.take (cutN s)))
 have hk0 : ((wk (s.take (cutN s)) : Int) != 0) = false := by rw [HK.out, h0]; rfl
 have hcle := cutN_le s
 have hwl : (s.take (cutN s)).length ≤ maxLen := by simp; omega
 have hk1 : ((wk (s.take (cutN s) ++ [91]) : Int) == 0) = true := by rw [HK2.out, hkk]; rfl
 by_cases hbr : ∃ s2, s.drop (cutN s) = 91 :: s2
 · obtain ⟨s2, hb⟩ := hbr
   clear h0 hp hkk hnone;have h1 := St.start ht he hs;have a1 := h1.env.r;go_enter Tryz.func252, Tryz.ntmps252;go_wp2_with fail;generalize w.alloc (.cells #[.int .u8 0, .string ⟨#[]⟩, .slice none 0 0] 174) = W1 at *;refine (take_no s [63, 116] rb _ h1.rest.cell hpre).mono ?_;rintro e w1 ⟨rfl, rfl⟩;go_wp2_with fail;refine (word_any' s rb _ hm h1.rest).mono ?_;rintro e w2 ⟨rfl, hr2, hkp2⟩;have h2 := h1.next hkp2 hr2
   have b1 := h2.env.r;have b2 := h2.env.need;rw [hb] at h2;go_wp2_with (first | (go_at_call 255; refine (wk_any _ _).mono ?_; rintro e w0 ⟨rfl, rfl⟩) | (go_at_call 253; refine (take_yes' [91] s2 rb _ h2.rest).mono ?_; rintro e w3 ⟨rfl, hr3, hkp3⟩; have h3 := h2.next hkp3 hr3; have b3 := h3.env.need))
   go_region_held2 (fun W => W.cell? ⟨Nd, 0, none⟩ = some (.func (.func 251) #[] #[])) (first | exact h3.drew.env.need | exact (h3.drew.quiet hb4).env.need | exact hfalse.out.elim)
    (first | (go_at_call 88; refine (tIsName_any _ _ h3.drew.tab hwl).mono ?_; rintro e w4 ⟨rfl, hb4⟩) | (go_at_call 251; refine (need_no _).mono ?_; rintro e w0 ⟨rfl, rfl⟩; refine leave (by assumption) (show _ ∧ _ from ⟨rfl, (HP.out _ _).2 ⟨rfl, (h3.drew.quiet hb4).kept⟩⟩) { tmps := #[], defers := [] } w4 (fun hfalse => ?_)))
   all_goals exact hfalse.out.elim
 · have hpre2 := prefix_one (s := s.drop (cutN s)) (c := 91) (fun r e => hbr ⟨r, e⟩)
   clear h0 hp hkk hnone hbr;have h1 := St.start ht he hs;have a1 := h1.env.r;go_enter Tryz.func252, Tryz.ntmps252;go_wp2_with fail;generalize w.alloc (.cells #[.int .u8 0, .string ⟨#[]⟩, .slice none 0 0] 174) = W1 at *;refine (take_no s [63, 116] rb _ h1.rest.cell hpre).mono ?_;rintro e w1 ⟨rfl, rfl⟩;go_wp2_with fail;refine (word_any' s rb _ hm h1.rest).mono ?_;rintro e w2 ⟨rfl, hr2, hkp2⟩;have h2 := h1.next hkp2 hr2
   have b1 := h2.env.r;have b2 := h2.env.need;go_wp2_with (first | (go_at_call 255; refine (wk_any _ _).mono ?_; rintro e w0 ⟨rfl, rfl⟩) | (go_at_call 253; refine (take_no _ [91] rb _ h2.rest.cell hpre2).mono ?_; rintro e w0 ⟨rfl, rfl⟩))
   go_region_held2 (fun W => W.cell? ⟨Nd, 0, none⟩ = some (.func (.func 251) #[] #[])) (first | exact h2.drew.env.need | exact (h2.drew.quiet hb4).env.need | exact hfalse.out.elim)
    (first | (go_at_call 88; refine (tIsName_any _ _ h2.drew.tab hwl).mono ?_; rintro e w4 ⟨rfl, hb4⟩) | (go_at_call 251; refine (need_no _).mono ?_; rintro e w0 ⟨rfl, rfl⟩; refine leave (by assumption) (show _ ∧ _ from ⟨rfl, (HP.out _ _).2 ⟨rfl, (h2.drew.quiet hb4).kept⟩⟩) { tmps := #[], defers := [] } w4 (fun hfalse => ?_)))
   all_goals exact hfalse.out.elim
set_option maxHeartbeats 3200000 in
theorem next_no_bracket (s : List UInt8) (hm1 : s.length ≤ 1000) (hp : noPar s) (h0 : kind0 (s.take (cutN s)) = 0) (hk : kindB (s.take (cutN s)) ≠ 0) (hb : ∀ r, s.drop (cutN s) ≠ 91 :: r) : NextOk s := by
 have hkk : kindB (s.take (cutN s)) = 4 ∨ kindB (s.take (cutN s)) = 5 ∨ kindB (s.take (cutN s)) = 6 := by
  rcases kindB_facts (w := s.take (cutN s)) with ⟨k1, k2⟩ | ⟨k1, k2⟩ | ⟨k1, k2⟩ | ⟨k1, k2⟩ <;> omega
 have hnone : parseT s = none := by
  rcases hkk with h | h | h
  · exact parseT_arr_no hp h0 h hb
  · exact parseT_rec_no hp h0 (.inl h) hb
  · exact parseT_rec_no hp h0 (.inr h) hb
 have hm : s.length ≤ maxLen := by unfold maxLen; omega
 intro R Nd X rb w ht he hs
 have HP : Hid (∀ e w', NextPost w rb s e w' ↔ (e = .panicked nonePanic ∧ Kept rb w w')) := by
  intro e w'; unfold NextPost; rw [hnone]
 have hpre := noPar_prefix hp
 have HK := Lib.hid (wk_word s)
 have HK2 := Lib.hid (wk_bracket (s.take (cutN s)))
 have hk0 : ((wk (s.take (cutN s)) : Int) != 0) = false := by rw [HK.out, h0]; rfl
 have hcle := cutN_le s
 have hwl : (s.take (cutN s)).length ≤ maxLen := by simp; omega
 have hpre2 := prefix_one hb
 rcases hkk with hkk | hkk | hkk
 · have hk1 : ((wk (s.take (cutN s) ++ [91]) : Int) == 0) = false := by rw [HK2.out, hkk]; rfl
   have hk7 : ((wk (s.take (cutN s) ++ [91]) : Int) == 7) = false := by rw [HK2.out, hkk]; rfl
   have hk5 : ((wk (s.take (cutN s) ++ [91]) : Int) == 5) = false := by rw [HK2.out, hkk]; rfl
   have hk6 : ((wk (s.take (cutN s) ++ [91]) : Int) == 6) = false := by rw [HK2.out, hkk]; rfl
   clear h0 hp hb hnone hk hkk;have h1 := St.start ht he hs;have a1 := h1.env.r;go_enter Tryz.func252, Tryz.ntmps252;go_wp2_with fail;generalize w.alloc (.cells #[.int .u8 0, .string ⟨#[]⟩, .slice none 0 0] 174) = W1 at *;refine (take_no s [63, 116] rb _ h1.rest.cell hpre).mono ?_;rintro e w1 ⟨rfl, rfl⟩;go_wp2_with fail;refine (word_any' s rb _ hm h1.rest).mono ?_;rintro e w2 ⟨rfl, hr2, hkp2⟩;have h2 := h1.next hkp2 hr2
   have b1 := h2.env.r;have b2 := h2.env.need;have b3 := fun o => (h2.alloc o).env.need
   go_wp2_with (first | (go_at_call 255; refine (wk_any _ _).mono ?_; rintro e w0 ⟨rfl, rfl⟩) | (go_at_call 253; refine (take_no _ [91] rb _ h2.rest.cell hpre2).mono ?_; rintro e w0 ⟨rfl, rfl⟩) | (go_at_call 251; refine (need_no _).mono ?_; rintro e w0 ⟨rfl, rfl⟩));exact ⟨rfl, (HP.out _ _).2 ⟨rfl, (h2.alloc _).kept⟩⟩
 · have hk1 : ((wk (s.take (cutN s) ++ [91]) : Int) == 0) = false := by rw [HK2.out, hkk]; rfl
   have hk7 : ((wk (s.take (cutN s) ++ [91]) : Int) == 7) = false := by rw [HK2.out, hkk]; rfl
   have hk5 : ((wk (s.take (cutN s) ++ [91]) : Int) == 5) = true := by rw [HK2.out, hkk]; rfl
   have hk6 : ((wk (s.take (cutN s) ++ [91]) : Int) == 6) = false := by rw [HK2.out, hkk]; rfl
   clear h0 hp hb hnone hk hkk;have h1 := St.start ht he hs;have a1 := h1.env.r;go_enter Tryz.func252, Tryz.ntmps252;go_wp2_with fail;generalize w.alloc (.cells #[.int .u8 0, .string ⟨#[]⟩, .slice none 0 0] 174) = W1 at *;refine (take_no s [63, 116] rb _ h1.rest.cell hpre).mono ?_;rintro e w1 ⟨rfl, rfl⟩;go_wp2_with fail;refine (word_any' s rb _ hm h1.rest).mono ?_;rintro e w2 ⟨rfl, hr2, hkp2⟩;have h2 := h1.next hkp2 hr2
   have b1 := h2.env.r;have b2 := h2.env.need;have b3 := fun o => (h2.alloc o).env.need
   go_wp2_with (first | (go_at_call 255; refine (wk_any _ _).mono ?_; rintro e w0 ⟨rfl, rfl⟩) | (go_at_call 253; refine (take_no _ [91] rb _ h2.rest.cell hpre2).mono ?_; rintro e w0 ⟨rfl, rfl⟩) | (go_at_call 251; refine (need_no _).mono ?_; rintro e w0 ⟨rfl, rfl⟩));exact ⟨rfl, (HP.out _ _).2 ⟨rfl, (h2.alloc _).kept⟩⟩
 · have hk1 : ((wk (s.take (cutN s) ++ [91]) : Int) == 0) = false := by rw [HK2.out, hkk]; rfl
   have hk7 : ((wk (s.take (cutN s) ++ [91]) : Int) == 7) = false := by rw [HK2.out, hkk]; rfl
   have hk5 : ((wk (s.take (cutN s) ++ [91]) : Int) == 5) = false := by rw [HK2.out, hkk]; rfl
   have hk6 : ((wk (s.take (cutN s) ++ [91]) : Int) == 6) = true := by rw [HK2.out, hkk]; rfl
   clear h0 hp hb hnone hk hkk;have h1 := St.start ht he hs;have a1 := h1.env.r;go_enter Tryz.func252, Tryz.ntmps252;go_wp2_with fail;generalize w.alloc (.cells #[.int .u8 0, .string ⟨#[]⟩, .slice none 0 0] 174) = W1 at *;refine (take_no s [63, 116] rb _ h1.rest.cell hpre).mono ?_;rintro e w1 ⟨rfl, rfl⟩;go_wp2_with fail;refine (word_any' s rb _ hm h1.rest).mono ?_;rintro e w2 ⟨rfl, hr2, hkp2⟩;have h2 := h1.next hkp2 hr2
   have b1 := h2.env.r;have b2 := h2.env.need;have b3 := fun o => (h2.alloc o).env.need
   go_wp2_with (first | (go_at_call 255; refine (wk_any _ _).mono ?_; rintro e w0 ⟨rfl, rfl⟩) | (go_at_call 253; refine (take_no _ [91] rb _ h2.rest.cell hpre2).mono ?_; rintro e w0 ⟨rfl, rfl⟩) | (go_at_call 251; refine (need_no _).mono ?_; rintro e w0 ⟨rfl, rfl⟩));exact ⟨rfl, (HP.out _ _).2 ⟨rfl, (h2.alloc _).kept⟩⟩
end Go.Proofs.YtakgjcfkdemipaaGreatDoor
