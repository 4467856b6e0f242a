/-
  Contracts: the program's comparison of two parts by their names (cmp.Compare[string], the closures of kind.sorted and kind.made). No condition. Contract: the program's kind.sorted at parts: a few parts in the order of their names. Condition: at most twelve parts, in a row of the call's own. Contracts: slices.stableCmpFunc, slices.SortStableFunc and kind.sorted at a few parts. Condition: at most twelve parts, in a row of the call's own. Contracts: whether a part has no name (slices.ContainsFunc at api.Part); parts as lists (plain, and in memory). Condition: lengths; the variable strings.asciiSpace. The parts of a record that is being made: in memory, as a list, as a forest; sorted by name (plain, and in memory). No condition. Contract: kind.made. Condition: the number and the lengths of the parts; the variable strings.asciiSpace.
  Contracts: the reference's list, arg, SameParts, has (argusref03). Condition: the texts' length.
  Contracts: the reference's arg, Arg, Base, Parts, SameParts (argusref03), in the words of the program's contracts. Condition: the texts' length.
  Contract: kind.Parts. Condition: the texts' length; the variable strings.asciiSpace.
-/
import Derived.ChangeAlike
import Derived.Maps.AppendAt
import Derived.RegionTactic
import Derived.Shelf.SlSortCmp.InsertionK
import Derived.Sort.Grow
import Derived.Sort.LotA
import Derived.Sort.OwnSorted
import Derived.WalkSmall
import Derived.Test.YtakgjcfkdemipaaGreatDoorYn
import Derived.Test.YtakgjcfkdemipaaGreatDoorY0
import Derived.Test.YtakgjcfkdemipaaGreatDoorY1
import Derived.Test.YtakgjcfkdemipaaGreatDoorY7
import Derived.Test.YtakgjcfkdemipaaGreatDoorY16
import Derived.Test.YtakgjcfkdemipaaGreatDoorY17
namespace Go.Proofs.YtakgjcfkdemipaaGreatDoor
open Go.RowKit Go.Sort
abbrev PV := List UInt8 × Tr × Option Addr × Nat × Nat
def encP (x : PV) : List Value := [str x.1, .int .u8 x.2.1.k, str x.2.1.n, .slice x.2.2.1 x.2.2.2.1 x.2.2.2.2]
def Gr (W W' : World) : Prop := ∃ q os, W' = grow (W.drewN q) os
theorem Gr.refl (W : World) : Gr W W := ⟨0, #[], by simp [World.drewN]⟩
theorem Gr.alloc {W W' : World} (h : Gr W W') (o : Obj) : Gr W (W'.alloc o) := by
 obtain ⟨q, os, rfl⟩ := h
 exact ⟨q, os ++ #[o], by rw [alloc_eq_grow, grow_grow]⟩
end Go.Proofs.YtakgjcfkdemipaaGreatDoor
namespace Go.Proofs.YtakgjcfkdemipaaGreatDoor
open Go.RowKit Go.Sort Go.Shelf
instance : Inhabited Tr := ⟨⟨0, [], .nil⟩⟩
end Go.Proofs.YtakgjcfkdemipaaGreatDoor
namespace Go.Proofs.YtakgjcfkdemipaaGreatDoor
open Go.RowKit Go.Sort Go.Shelf
end Go.Proofs.YtakgjcfkdemipaaGreatDoor
namespace Go.Proofs.YtakgjcfkdemipaaGreatDoor
open Go.RowKit
def Pts (w : World) (v : Value) (ps : List (List UInt8 × List UInt8)) : Prop :=
 (v = .slice none 0 0 ∧ ps = []) ∨ ∃ b o c, v = .slice (some ⟨b, o, none⟩) ps.length c ∧ b < w.heap.size ∧ ∀ j (h : j < ps.length), w.cell? ⟨b, o + j * 2, none⟩ = some (str ps[j].1) ∧ w.cell? ⟨b, o + j * 2 + 1, none⟩ = some (str ps[j].2)
theorem Pts.below {w w' : World} {v : Value} {ps : List (List UInt8 × List UInt8)} (h : Pts w v ps) (hb : Below w.heap.size w w') : Pts w' v ps := by
 rcases h with h | ⟨b, o, c, rfl, hl, hc⟩
 · exact .inl h
 · refine .inr ⟨b, o, c, rfl, Nat.lt_of_lt_of_le hl hb.size, fun j h => ⟨Below.keep hb (hc j h).1, Below.keep hb (hc j h).2⟩⟩
theorem Pts.shape {w : World} {v : Value} {ps : List (List UInt8 × List UInt8)} (h : Pts w v ps) : ∃ p c, v = .slice p ps.length c := by
 rcases h with ⟨rfl, rfl⟩ | ⟨b, o, c, rfl, _⟩
 · exact ⟨none, 0, rfl⟩
 · exact ⟨_, _, rfl⟩
theorem Pts.at {w : World} {v : Value} {ps : List (List UInt8 × List UInt8)} (h : Pts w v ps) {j : Nat} (hj : j < ps.length) : ∃ b o c x, v = .slice (some ⟨b, o, none⟩) ps.length c ∧ ps[j]? = some x ∧ w.cell? ⟨b, o + j * 2, none⟩ = some (str x.1) ∧ w.cell? ⟨b, o + j * 2 + 1, none⟩ = some (str x.2) := by
 rcases h with ⟨rfl, rfl⟩ | ⟨b, o, c, rfl, hl, hc⟩
 · simp at hj
 · exact ⟨b, o, c, ps[j], rfl, List.getElem?_eq_getElem hj, (hc j hj).1, (hc j hj).2⟩
end Go.Proofs.YtakgjcfkdemipaaGreatDoor
namespace Go.Proofs.YtakgjcfkdemipaaGreatDoor
open Go.RowKit
def PR (w : World) (D : Nat → Prop) (v : Value) (l : List PV) : Prop :=
 w.ownsRow 0 192 4 v l.length (l.flatMap encP) ∧ (∀ b, v.ownBlock = some b → D b) ∧ ∀ x ∈ l, FoV w (fun b => D b ∧ v.ownBlock ≠ some b) x.2.1.sub (.slice x.2.2.1 x.2.2.2.1 x.2.2.2.2)
theorem PR.nil (w : World) (D : Nat → Prop) : PR w D (.slice none 0 0) [] := ⟨World.ownsRow_nil _ _ _ _, by intro b h; simp [Value.ownBlock] at h, by simp⟩
end Go.Proofs.YtakgjcfkdemipaaGreatDoor
namespace Go.Proofs.YtakgjcfkdemipaaGreatDoor
open Go.RowKit Go.Sort
end Go.Proofs.YtakgjcfkdemipaaGreatDoor
namespace Go.Proofs.YtakgjcfkdemipaaGreatDoor
open Go.RowKit
def Fo.pts : Fo → List (List UInt8 × List UInt8)
 | .nil => []
 | .cons pn k n sub rest => (pn, Tr.txt ⟨k, n, sub⟩) :: rest.pts
theorem Fo.pts_len : ∀ fo : Fo, fo.pts.length = fo.len
 | .nil => rfl
 | .cons pn k n sub rest => by rw [Fo.pts, List.length_cons, Fo.pts_len rest]; rfl
def ptsC (ps : List (List UInt8 × List UInt8)) : List Value := ps.flatMap fun x => [str x.1, str x.2]
theorem ptsC_get : ∀ (ps : List (List UInt8 × List UInt8)) (j : Nat) (h : j < ps.length), (ptsC ps)[j * 2]? = some (str ps[j].1) ∧ (ptsC ps)[j * 2 + 1]? = some (str ps[j].2)
 | [], j, h => by simp at h
 | x :: ps, 0, _ => ⟨rfl, rfl⟩
 | x :: ps, j + 1, h => by
  have := ptsC_get ps j (by simpa using h);unfold ptsC at this ⊢;simp only [List.flatMap_cons];rw [show (j + 1) * 2 = j * 2 + 1 + 1 from by omega];exact this
theorem ptsC_snoc (ps : List (List UInt8 × List UInt8)) (x : List UInt8 × List UInt8) : ptsC (ps ++ [x]) = ptsC ps ++ [str x.1, str x.2] := by simp [ptsC]
theorem Pts.of_own {w : World} {base : Nat} {e : TypeId} {v : Value} {ps : List (List UInt8 × List UInt8)} (h : w.ownsRow base e 2 v ps.length (ptsC ps)) : Pts w v ps := by
 rcases h.2 with ⟨rfl, h0⟩ | ⟨g, cap, cur, rfl, _⟩
 · exact .inl ⟨rfl, List.length_eq_zero_iff.1 h0⟩
 · refine .inr ⟨g, 0, cap, rfl, ownsRow_lt h rfl, fun j hj => ?_⟩
   have hc : ∀ j x, (ptsC ps)[j]? = some x → w.cell? ⟨g, j, none⟩ = some x := by
    intro j x hx;have := h.cells (g := g) rfl _ _ hx;simp only [Addr.add] at this;split at this
    · rename_i e; rw [e]; exact this
    · simpa using this
   have h2 := ptsC_get ps j hj;rw [Nat.zero_add];exact ⟨hc _ _ h2.1, hc _ _ h2.2⟩
theorem infoPt : (Tryz.prog.info? 155).map (fun i => (i.zero, i.size, i.bytes)) = some (some (.agg #[.string ⟨#[]⟩, .string ⟨#[]⟩]), 2, 32) := by kernel_rfl
theorem underPts : Tryz.prog.underlying 151 = some (.slice 155) := by kernel_rfl
theorem list_step {b pn : List UInt8} {k : Nat} {n : List UInt8} {sub rest : Fo} {s : List UInt8} {i : Nat} (h : Wf (some b) (.cons pn k n sub rest)) (hs : s.drop i = (Fo.cons pn k n sub rest).tx ++ [93]) (hi : i ≤ s.length) :
 cutN (s.drop i) = pn.length ∧ List.drop i (List.take (i + pn.length) s) = pn ∧ rdN (s.drop (i + pn.length + 1)) = (Tr.txt ⟨k, n, sub⟩).length ∧ List.drop (i + pn.length + 1) (List.take (i + pn.length + 1 + (Tr.txt ⟨k, n, sub⟩).length) s) = Tr.txt ⟨k, n, sub⟩ ∧
 i + pn.length + (Tr.txt ⟨k, n, sub⟩).length + 2 ≤ s.length ∧ ((rest = .nil ∧ i + pn.length + (Tr.txt ⟨k, n, sub⟩).length + 2 = s.length) ∨ (Wf (some pn) rest ∧ s.drop (i + pn.length + (Tr.txt ⟨k, n, sub⟩).length + 2) = rest.tx ++ [93])) := by
 have key : ∀ (c : UInt8) (Y : List UInt8), isName pn = true → Wf none (.cons [] k n sub .nil) → (c = 93 ∨ c = 44) → s.drop i = pn ++ 58 :: ((Fo.cons [] k n sub .nil).tx ++ c :: Y) →
  cutN (s.drop i) = pn.length ∧ List.drop i (List.take (i + pn.length) s) = pn ∧ rdN (s.drop (i + pn.length + 1)) = (Tr.txt ⟨k, n, sub⟩).length ∧ List.drop (i + pn.length + 1) (List.take (i + pn.length + 1 + (Tr.txt ⟨k, n, sub⟩).length) s) = Tr.txt ⟨k, n, sub⟩ ∧
  s.length = i + pn.length + (Tr.txt ⟨k, n, sub⟩).length + 2 + Y.length ∧ s.drop (i + pn.length + (Tr.txt ⟨k, n, sub⟩).length + 2) = Y := by
  intro c Y hn h hc hs;have ho : (Tr.mk k n sub).ok := h;have e : (Fo.cons [] k n sub .nil).tx = (Tr.mk k n sub).txt := by rw [Tr.txt_eq]; rfl
  rw [e] at hs;generalize hT : (Tr.mk k n sub).txt = T at hs ⊢;have hlen : s.length = i + pn.length + T.length + 2 + Y.length := by
   have := congrArg List.length hs;simp only [List.length_drop, List.length_append, List.length_cons] at this;omega
  have d1 : s.drop (i + pn.length + 1) = T ++ c :: Y := by
   rw [show i + pn.length + 1 = i + (pn.length + 1) from by omega, ← List.drop_drop, hs, ← List.drop_drop, List.drop_left]; rfl
  refine ⟨?_, ?_, ?_, ?_, hlen, ?_⟩
  · rw [hs]; exact cutN_all _ (name_cut hn) _ (by rw [cutN_cons]; rfl)
  · rw [List.drop_take, hs]; simp
  · rw [d1, ← hT]
    refine Eq.trans ?_ rfl;unfold rdN;rw [ho.reads (r := c :: Y) (by rcases hc with rfl | rfl; exact ends_shut _; exact ends_comma _)];simp
  · rw [List.drop_take, d1]; simp
  · rw [show i + pn.length + T.length + 2 = (i + pn.length + 1) + (T.length + 1) from by omega, ← List.drop_drop, d1, ← List.drop_drop, List.drop_left]; rfl
 cases h with
 | last _ _ _ _ _ hn hb h =>
  rw [Fo.tx_last, preN_name hn] at hs;obtain ⟨a1, a2, a3, a4, a5, a6⟩ := key 93 [] hn h (.inl rfl) (by rw [hs]; simp);exact ⟨a1, a2, a3, a4, by omega, .inl ⟨rfl, by rw [a5]; rfl⟩⟩
 | more _ _ _ _ _ _ hn hb h h2 =>
  rw [Fo.tx_more _ _ _ _ _ h2.ne, preN_name hn] at hs;obtain ⟨a1, a2, a3, a4, a5, a6⟩ := key 44 (rest.tx ++ [93]) hn h (.inr rfl) (by rw [hs]; simp);exact ⟨a1, a2, a3, a4, by omega, .inr ⟨h2, a6⟩⟩
def ListAt (s : List UInt8) (fo : Fo) (i : Nat) (ps : List (List UInt8 × List UInt8)) : Prop := ∃ fo', fo.pts = ps ++ fo'.pts ∧ i ≤ s.length ∧ ((fo' = .nil ∧ i = s.length) ∨ ∃ b, Wf (some b) fo' ∧ s.drop i = fo'.tx ++ [93])
theorem ListAt.cases {s : List UInt8} {fo : Fo} {i : Nat} {ps : List (List UInt8 × List UInt8)} (h : ListAt s fo i ps) : (i = s.length ∧ fo.pts = ps) ∨
 ∃ n m, ∃ a b : List UInt8, i < s.length ∧ cutN (s.drop i) = n ∧ List.drop i (List.take (i + n) s) = a ∧ rdN (s.drop (i + n + 1)) = m ∧ List.drop (i + n + 1) (List.take (i + n + 1 + m) s) = b ∧ i + n + m + 2 ≤ s.length ∧ ListAt s fo (i + n + m + 2) (ps ++ [(a, b)]) ∧ ps.length < fo.len := by
 obtain ⟨fo', h1, hi, h2 | ⟨b, h2, h3⟩⟩ := h
 · obtain ⟨rfl, rfl⟩ := h2
   exact .inl ⟨rfl, by rw [h1]; simp [Fo.pts]⟩
 · cases fo' with
   | nil => exact absurd rfl h2.ne
   | cons pn k n sub rest =>
    obtain ⟨a1, a2, a3, a4, a5, a6⟩ := list_step h2 h3 hi;have hl : ps.length < fo.len := by
     have := congrArg List.length h1;rw [Fo.pts_len, List.length_append, Fo.pts_len] at this;simp only [Fo.len] at this;omega
    refine .inr ⟨pn.length, _, pn, _, by omega, a1, a2, a3, a4, a5, ⟨rest, by rw [h1, Fo.pts]; simp, a5, ?_⟩, hl⟩;rcases a6 with ⟨rfl, e⟩ | ⟨e1, e2⟩
    · exact .inl ⟨rfl, e⟩
    · exact .inr ⟨pn, e1, e2⟩
end Go.Proofs.YtakgjcfkdemipaaGreatDoor
namespace Go.Proofs.YtakgjcfkdemipaaGreatDoor
open Go.RowKit
def partsK (s : List UInt8) : List (List UInt8 × List UInt8) × Nat := if (ofK s [5, 6]).1 = 0 then ((ofK s [5, 6]).2.sub.pts, 0) else ([], (ofK s [5, 6]).1)
theorem rec_len {T : Tr} (h : T.ok) (hk : T.k = 5 ∨ T.k = 6) : T.sub.len ≤ 6 := by
 obtain ⟨k, n, sub⟩ := T
 have h' : Wf none (.cons [] k n sub .nil) := h
 simp only at hk ⊢
 clear h
 cases h' with
 | par => simp at hk
 | word _ h3 => omega
 | arr _ h => simp at hk
 | rcd _ _ _ hk2 h hl => exact hl
 | nam _ _ => simp at hk
 | app _ _ _ h => simp at hk
end Go.Proofs.YtakgjcfkdemipaaGreatDoor
namespace Go.Proofs.YtakgjcfkdemipaaGreatDoor
open Go.RowKit
theorem Fo.pts_at : ∀ (fo : Fo) (i : Nat) (pn : List UInt8) (t : Tr), fo.at i = some (pn, t) → fo.pts[i]? = some (pn, t.txt)
 | .nil, _, _, _, h => by simp [Fo.at] at h
 | .cons pn' k n sub rest, 0, pn, t, h => by
  simp only [Fo.at, Option.some.injEq, Prod.mk.injEq] at h;obtain ⟨rfl, rfl⟩ := h
  rfl
 | .cons pn' k n sub rest, i + 1, pn, t, h => by
  rw [Fo.pts, List.getElem?_cons_succ];exact Fo.pts_at rest i pn t h
theorem Fo.at_txl {fo : Fo} {i : Nat} {pn : List UInt8} {t : Tr} (h : fo.at i = some (pn, t)) : t.txt.length ≤ fo.tx.length := by
 have := joinC_get _ _ _ (fo.at_txt i pn t h)
 rw [List.length_append] at this
 unfold Fo.tx
 omega
set_option maxRecDepth 4000 in
set_option maxHeartbeats 6400000 in
theorem kparts_any (s : List UInt8) (hm : s.length ≤ maxLen) (w : World) (ht : Tab w) : Calls Tryz.prog 241 #[str s] w fun e w' => ∃ v, e = .returned (.tuple #[v, .int .i64 (partsK s).2]) ∧ Pts w' v (partsK s).1 ∧ Below w.heap.size w w' := by
 have hb0 := (Below.refl _ w).alloc (nl _) (.cells #[.int .u8 5, .int .u8 6] 5)
 have hg0 := heap_alloc_new w (.cells #[.int .u8 5, .int .u8 6] 5)
 have HC := of_any s [5, 6] w.heap.size 2 hm _ (ht.below hb0 (nl _)) (by simp) (fun j h => by
  have h : j < 2 := h;rcases (show j = 0 ∨ j = 1 by omega) with rfl | rfl
  · exact (cells_at hg0 0).trans rfl
  · exact (cells_at hg0 1).trans rfl)
 clear hg0
 unfold OfPost at HC
 unfold partsK
 rcases hq : ofK s [5, 6] with ⟨C, T⟩
 rw [hq] at HC
 simp only at HC ⊢
 by_cases h0 : C = 0
 case neg =>
  obtain ⟨g1, g2⟩ := nat_ne0 h0;rw [if_neg h0];clear hq h0;go_enter Tryz.func241, Tryz.ntmps241;go_wp2_with (go_at_call 176; refine HC.mono ?_; clear HC; rintro e w1 ⟨v, rfl, hv, hb1⟩; obtain ⟨p, cc, rfl, _⟩ := hv.shape);have hs1 := hb1.size;simp only [World.size_alloc] at hs1;go_ret2;exact ⟨_, rfl, .inl ⟨rfl, rfl⟩, (hb0.trans (below_less hb1 (by simp))).alloc (by omega) _⟩
 case pos =>
  subst h0;rw [if_pos rfl];obtain ⟨hk, hk2⟩ := ofK_ok hq;obtain ⟨o1, e1, l1, _⟩ := checkK_ok hk;have hfl := rec_len o1 (by simpa using hk2);have htx : T.sub.tx.length ≤ 100 := by
   have := (Fo.tx_len [] T.k T.n T.sub .nil).2.1;have h2 : (Fo.one ⟨T.k, T.n, T.sub⟩).tx.length = T.txt.length := by rw [Tr.txt_eq]
   rw [e1] at h2;omega
  obtain ⟨i0, hi0, hz0, hz1, hz2⟩ := info_parts infoPt;generalize T.sub = fo at *;clear hq hk hk2 o1 e1;go_enter Tryz.func241, Tryz.ntmps241;go_wp2_with (go_at_call 176; refine HC.mono ?_; clear HC; rintro e w1 ⟨v, rfl, hv, hb1⟩; obtain ⟨p, cc, rfl, _⟩ := hv.shape);have hbz := (hb0.trans (below_less hb1 (by simp))).alloc (by have := hb1.size; simp at this; omega) (.cells #[.int .u8 T.k, .string ⟨T.n.toArray⟩, .slice p fo.len cc] 174);have hvz := hv.below ((Below.refl _ w1).alloc (nl _) (.cells #[.int .u8 T.k, .string ⟨T.n.toArray⟩, .slice p fo.len cc] 174)) (nl _);generalize w1.alloc (.cells #[.int .u8 T.k, .string ⟨T.n.toArray⟩, .slice p fo.len cc] 174) = wz at hbz hvz ⊢;clear hv hb1;go_loopw [6, 21] (fun o y wr => ∃ i : Nat, i ≤ fo.len ∧ y = .int .i64 i ∧ wr.ownsRow wz.heap.size 155 2 o i (ptsC (fo.pts.take i)) ∧ Below w.heap.size w wr ∧ Below wz.heap.size wz wr) (fun _ y _ => fo.len - (intOf y).toNat)
  case atStart => exact ⟨0, Nat.zero_le _, by go_num, by simpa [ptsC] using World.ownsRow_nil _ _ _ _, hbz, Below.refl _ _⟩
  case round =>
   obtain ⟨i, hi, rfl, hown, hb, hbr⟩ := hrel;obtain ⟨po, co, rfl⟩ := row_shape hown
   by_cases hlt : i < fo.len
   case neg =>
    have hie : i = fo.pts.length := by rw [Fo.pts_len]; omega
    have hrow : wr.ownsRow wz.heap.size 155 2 (.slice po i co) fo.pts.length (ptsC fo.pts) := by
     rw [hie, List.take_of_length_le (nl _)] at hown;rw [hie]; exact hown
    clear hie;go_wp2_with fail;go_ret2;exact ⟨_, rfl, Pts.of_own hrow, hb⟩
   case pos =>
    obtain ⟨g, cc', pn, t, uv, he, _, hg, hat, x0, x1, x2, x3, hu⟩ := (hvz.below hbr (nl _)).at hlt;injection he with he1 he2 he3;subst he1 he3;obtain ⟨pt, ct, rfl, _⟩ := hu.shape;have htl : t.txt.length ≤ 1000000 := by have := Fo.at_txl hat; omega
    have HAT := Lib.hid (take_snoc' _ _ _ (Fo.pts_at fo i pn t hat));have hbA := hb.alloc hb.size (.cells #[str pn, .int .u8 t.k, str t.n, .slice pt t.sub.len ct] 192);have hownA := ownsRow_below hown ((Below.refl _ wr).alloc (nl _) (.cells #[str pn, .int .u8 t.k, str t.n, .slice pt t.sub.len ct] 192)).drew (nl _);clear hat;go_upto_region 8 with fail;have hA := heap_alloc_new wr (.cells #[str pn, .int .u8 t.k, str t.n, .slice pt t.sub.len ct] 192);have hu2 := hu.below ((Below.refl _ wr).alloc (nl _) (.cells #[str pn, .int .u8 t.k, str t.n, .slice pt t.sub.len ct] 192)).drew (nl _);have q0 := (cells_at hA 0).trans rfl;have q1 := (cells_at hA 1).trans rfl;have q2 := (cells_at hA 2).trans rfl;have q3 := (cells_at hA 3).trans rfl;refine wp_region_held_drew (S := (fun W => W.cell? ⟨wr.heap.size, 0, none⟩ = some (str pn) ∧ W.cell? ⟨wr.heap.size, 1, none⟩ = some (.int .u8 t.k) ∧ W.cell? ⟨wr.heap.size, 2, none⟩ = some (str t.n) ∧ W.cell? ⟨wr.heap.size, 3, none⟩ = some (.slice pt t.sub.len ct))) (by kernel_rfl) ?_ (fun hHeld => ?_)
    · exact ⟨q0, q1, q2, q3⟩
    refine takeH (i := 0) (d := some 25) (v := ?_) rfl (by kernel_rfl) (by kernel_rfl) (by kernel_rfl) (by kernel_rfl) (fun _ _ _ h => h) (by assumption) (by kernel_rfl) ?_ ?_;rotate_left
    · intro w hSw
      try dsimp only at hSw
      go_simp;try with_reducible rfl
    try simp only [pz, pw]
    refine takeH (i := 1) (d := some 26) (v := ?_) rfl (by kernel_rfl) (by kernel_rfl) (by kernel_rfl) (by kernel_rfl) (fun _ _ _ h => h) (by assumption) (by kernel_rfl) ?_ ?_;rotate_left
    · intro w hSw
      try dsimp only at hSw
      go_simp;try with_reducible rfl
    try simp only [pz, pw]
    refine takeH (i := 2) (d := some 27) (v := ?_) rfl (by kernel_rfl) (by kernel_rfl) (by kernel_rfl) (by kernel_rfl) (fun _ _ _ h => h) (by assumption) (by kernel_rfl) ?_ ?_;rotate_left
    · intro w hSw
      obtain ⟨r0, r1, r2, r3⟩ := hSw;go_simp;try with_reducible rfl
    try simp only [pz, pw]
    refine takeH (i := 3) (d := some 28) (v := ?_) rfl (by kernel_rfl) (by kernel_rfl) (by kernel_rfl) (by kernel_rfl) (fun _ _ _ h => h) (by assumption) (by kernel_rfl) ?_ ?_;rotate_left
    · intro w hSw
      try dsimp only at hSw
      go_simp;try with_reducible rfl
    try simp only [pz, pw]
    refine takeH (i := 4) (d := some 29) (v := ?_) rfl (by kernel_rfl) (by kernel_rfl) (by kernel_rfl) (by kernel_rfl) (fun _ _ _ h => h) (by assumption) (by kernel_rfl) ?_ ?_;rotate_left
    · intro w hSw
      obtain ⟨r0, r1, r2, r3⟩ := hSw;go_simp;try with_reducible rfl
    try simp only [pz, pw]
    refine wpAnyH_ready (rs := [5]) (by kernel_rfl) (by simp) ?_;refine AllReadyH.cons rfl (fun K hK => ?_) AllReadyH.nil;go_simp;go_wp2_with ((go_at_call 175; refine (kstring_any t _ _ _ hu2 htl).mono ?_; rintro e w5 ⟨rfl, hb5⟩));refine hK.out _ _ ?_ (fun hHeld => ?_)
    · exact ⟨Below.keep hb5 q0, Below.keep hb5 q1, Below.keep hb5 q2, Below.keep hb5 q3⟩
    clear hK K;try simp only [pz, pw]
    refine takeH (i := 6) (d := some 31) (v := ?_) rfl (by kernel_rfl) (by kernel_rfl) (by kernel_rfl) (by kernel_rfl) (fun _ _ _ h => h) (by assumption) (by kernel_rfl) ?_ ?_;rotate_left
    · intro w hSw
      try dsimp only at hSw
      go_simp;try with_reducible rfl
    try simp only [pz, pw]
    refine wpAnyH_ready (rs := [7]) (by kernel_rfl) (by simp) ?_;refine AllReadyH.cons rfl (fun K hK => ?_) AllReadyH.nil;go_simp;go_wp2_with (fail);refine hK.out _ _ ?_ (fun hHeld => ?_)
    · exact ⟨Below.keep (hb5.alloc hb5.size _) q0, Below.keep (hb5.alloc hb5.size _) q1, Below.keep (hb5.alloc hb5.size _) q2, Below.keep (hb5.alloc hb5.size _) q3⟩
    clear hK K;try simp only [pz, pw]
    refine wpAnyH_ready (rs := [8]) (by kernel_rfl) (by simp) ?_;refine AllReadyH.cons rfl (fun K hK => ?_) AllReadyH.nil;refine wp_append_own _ _ _ 151 rfl wz.heap.size 155 i0 (.agg #[.string ⟨#[]⟩, .string ⟨#[]⟩]) 2 32 underPts hi0 hz0 hz1 hz2 rfl (by decide) (.slice po i co) i (ptsC (fo.pts.take i)) rfl (by exact (ownsRow_below hownA hb5 (nl _)).alloc _) ⟨w5.heap.size, 0, none⟩ 1 1 [str pn, str t.txt] rfl rfl (fun j u h => cell_two_new w5 _ _ _ j u h) (fun x hx => by simp at hx; rcases hx with rfl | rfl <;> rfl) (by unfold maxLen; omega) (by omega) (by have e1 := hbr.size; have e2 := hb5.size; simp at e2; simp; omega) ?_;intro v' w6 hown4 hgr _;have hs5 := hb5.size;have hlt6 : wr.heap.size < w5.heap.size := by simp at hs5; omega
    have hblk := hgr.block wr.heap.size (by simp; omega) (fun e => by have := (hown.lt _ e.symm).2; omega);have hk6 : ∀ o, w6.cell? ⟨wr.heap.size, o, none⟩ = w5.cell? ⟨wr.heap.size, o, none⟩ := fun o => (World.cell?_of_block hblk).trans (World.cell?_of_block (Below.heap_alloc _ _ _ hlt6))
    refine hK.out _ _ ⟨(hk6 0).trans (Below.keep hb5 q0), (hk6 1).trans (Below.keep hb5 q1), (hk6 2).trans (Below.keep hb5 q2), (hk6 3).trans (Below.keep hb5 q3)⟩ (fun hHeld => ?_);clear hK K;refine wpAnyH_ready (rs := [9]) (by kernel_rfl) (by simp) ?_;refine AllReadyH.cons rfl (fun K hK => ?_) AllReadyH.nil;go_simp;refine hK.out _ _ ⟨(hk6 0).trans (Below.keep hb5 q0), (hk6 1).trans (Below.keep hb5 q1), (hk6 2).trans (Below.keep hb5 q2), (hk6 3).trans (Below.keep hb5 q3)⟩ (fun hHeld => ?_);clear hK K;refine wpAnyH_done (by kernel_rfl) ?_ _;have hb7 := hbA.drew.trans (below_less hb5 (by have := hb.size; simp; omega));have hr7 := (hbr.alloc hbr.size (.cells #[str pn, .int .u8 t.k, str t.n, .slice pt t.sub.len ct] 192)).drew.trans (below_less hb5 (by have := hbr.size; simp; omega));have hb8 := (hb7.alloc hb7.size (.cells #[str pn, str t.txt] 155)).grown hgr (by have := hb7.size; simp; omega) (fun b e => by have := (hown.lt b e).1; have := hbz.size; omega);have hr8 := (hr7.alloc hr7.size (.cells #[str pn, str t.txt] 155)).grown hgr (by have := hr7.size; simp; omega) (fun b e => (hown.lt b e).1);go_wp2_with fail;refine ⟨⟨i + 1, hlt, by go_num, ?_, hb8, hr8⟩, by simp only [intOf]; omega⟩;rw [HAT.out, ptsC_snoc];exact hown4
end Go.Proofs.YtakgjcfkdemipaaGreatDoor
