/-
  Contracts: of the package face: (scope).op$1; slices.IndexFunc over operations with it. No condition.
  Contract: of the package face: (scope).op. Condition: the type is one; the lengths; the faces lie apart; the variable strings.asciiSpace.
  Contract: of the package face: (scope).lacks. Condition: the type is one, where there are needs; the lengths; the faces lie apart; the variable strings.asciiSpace.
  Lengths of what a type holds; contract of the package face: (scope).fits, of a (scope).good of lower levels. Condition: the lengths; the faces lie apart; the variable strings.asciiSpace.
  Contract: of the package face: Check. Condition: the number of needs; the variable strings.asciiSpace.
-/
import Derived.Test.YtakgjcfkdemipaaGreatDoorYn
import Derived.Test.YtakgjcfkdemipaaGreatDoorY1
import Derived.Test.YtakgjcfkdemipaaGreatDoorY5
import Derived.Test.YtakgjcfkdemipaaGreatDoorY19
import Derived.Test.YtakgjcfkdemipaaGreatDoorY21
import Derived.Test.YtakgjcfkdemipaaGreatDoorY28
import Derived.Test.YtakgjcfkdemipaaGreatDoorY29
namespace Go.Proofs.YtakgjcfkdemipaaGreatDoor
open Go.RowKit
def named (n : List UInt8) (o : OpP) : Bool := o.name == n
theorem named_eq (n : List UInt8) (o : OpP) : named n o = decide (o.name = n) := by
 unfold named
 by_cases h : o.name = n <;> simp [h]
theorem ixP_find {α : Type} (p : α → Bool) : ∀ (l : List α) (k : Nat), (ixP p l k = -1 ∧ l.find? p = none) ∨ ∃ (i : Nat) (x : α), ixP p l k = ((k + i : Nat) : Int) ∧ l.find? p = some x ∧ l[i]? = some x
 | [], k => .inl ⟨rfl, rfl⟩
 | x :: r, k => by
  rw [ixP];rcases h : p x with _ | _
  · rw [List.find?_cons_of_neg (by simp [h])]
    simp only [Bool.false_eq_true, if_false];rcases ixP_find p r (k + 1) with h2 | ⟨i, y, h2, h3, h4⟩
    · exact .inl h2
    · exact .inr ⟨i + 1, y, by rw [h2]; omega, h3, h4⟩
  · rw [List.find?_cons_of_pos h]
    exact .inr ⟨0, x, by simp, rfl, rfl⟩
set_option maxHeartbeats 3200000 in
theorem op1_any {D : Nat → Prop} (x : OpP) (n : List UInt8) (v : Value) (ob : Nat) (w : World) (hv : OpV D w v x) (hc : w.cell? ⟨ob, 0, none⟩ = some (str n)) :
 Calls Tryz.prog 137 #[v, .pointer (some ⟨ob, 0, none⟩)] w fun e w' => e = .returned (.bool (named n x)) ∧ Below w.heap.size w w' := by
 obtain ⟨a, s, rfl, _, h2, h3⟩ := hv
 obtain ⟨pa, ca, rfl, _⟩ := h2.shape
 obtain ⟨ps, cs, rfl, _⟩ := h3.shape
 have hA := (Below.refl _ w).alloc (nl _) (.cells #[str x.name, .bool x.sig.iter, .slice pa x.sig.args.length ca, str x.sig.res, .slice ps x.sig.sigs.length cs] 50)
 have hc := Below.keep hA hc
 clear h2 h3
 rcases hq : (x.name == n) with _ | _
 all_goals
  have HX := Lib.hid (show named n x = _ from hq);go_enter Tryz.func137, Tryz.ntmps137;go_wp2_with fail;go_ret;rw [HX.out];exact ⟨by first | rfl | simp, hA⟩
set_option maxRecDepth 4000 in
set_option maxHeartbeats 3200000 in
theorem index_op {D : Nat → Prop} (l : List OpP) (n : List UInt8) (v : Value) (ob : Nat) (w : World) (hv : OpsM D w v l) (hc : w.cell? ⟨ob, 0, none⟩ = some (str n)) :
 Calls Tryz.prog 136 #[v, .func (.func 137) #[] #[.pointer (some ⟨ob, 0, none⟩)]] w fun e w' => e = .returned (.int .i64 (ixP (named n) l 0)) ∧ Below w.heap.size w w' := by
 obtain ⟨p, c, rfl, _, hm, hle⟩ := hv.shape
 unfold maxLen at hm
 clear hle
 go_enter Tryz.func136, Tryz.ntmps136
 go_wp2_with fail
 go_loopw [8] (fun a wr => ∃ i : Nat, i ≤ l.length ∧ a = .int .i64 i ∧ Below w.heap.size w wr ∧ Hid (ixP (named n) l 0 = ixP (named n) (l.drop i) i)) (fun a _ => l.length - (intOf a).toNat)
 case atStart => exact ⟨0, Nat.zero_le _, rfl, Below.refl _ _, rfl⟩
 case round =>
  obtain ⟨i, hi, rfl, hb, hA⟩ := hrel
  by_cases hlt : i < l.length
  case neg =>
   have HX := Lib.hid (show ixP (named n) l 0 = -1 by rw [hA.out, List.drop_eq_nil_of_le (by omega)]; rfl);clear hA;go_wp2_with fail;go_ret;exact ⟨by rw [HX.out]; rfl, hb⟩
  case pos =>
   obtain ⟨x, hkx⟩ : ∃ x, l[i]? = some x := ⟨_, List.getElem?_eq_getElem hlt⟩
   obtain ⟨b1, o1, av, sv, rfl, _, hle, hSa, hSs, pc0, pc1, pc2, pc3, pc4⟩ := (hv.below hb (nl _)).at hkx;have HN := op1_any x n _ ob wr ⟨av, sv, rfl, hle, hSa, hSs⟩ (Below.keep hb hc);obtain ⟨pa, ca, rfl, _⟩ := hSa.shape;obtain ⟨ps, cs, rfl, _⟩ := hSs.shape;have hd := hA.out;rw [fdrop_at hkx, ixP] at hd;clear hA hkx hSa hSs;rcases hn : named n x with _ | _
   · rw [hn] at HN hd
     have HX := Lib.hid (hd.trans (if_neg (by simp)));clear hd hn;go_wp2_with (go_at_call 137; refine HN.mono ?_; clear HN; rintro e w1 ⟨rfl, hb1⟩);exact ⟨⟨i + 1, by omega, by go_num, hb.trans (below_less hb1 hb.size), HX⟩, by simp only [intOf]; omega⟩
   · rw [hn] at HN hd
     have HX := Lib.hid (hd.trans (if_pos rfl));clear hd hn;go_wp2_with (go_at_call 137; refine HN.mono ?_; clear HN; rintro e w1 ⟨rfl, hb1⟩);go_ret;exact ⟨by rw [HX.out]; rfl, hb.trans (below_less hb1 hb.size)⟩
end Go.Proofs.YtakgjcfkdemipaaGreatDoor
namespace Go.Proofs.YtakgjcfkdemipaaGreatDoor
open Go.RowKit
theorem opIn_none {c : ScopeP} {t n : List UInt8} (h : (rawK c t).1.find? (named n) = none) : opIn c t n = (.zero, 40) := by
 unfold opIn
 rw [show (fun o : OpP => decide (o.name = n)) = named n from funext fun o => (named_eq n o).symm, h]
theorem opIn_some {c : ScopeP} {t n : List UInt8} {o : OpP} (h : (rawK c t).1.find? (named n) = some o) : opIn c t n = putK o.sig (rawK c t).2 := by
 unfold opIn
 rw [show (fun o : OpP => decide (o.name = n)) = named n from funext fun o => (named_eq n o).symm, h]
def RawOk (c : ScopeP) (t : List UInt8) : Prop := (rawK c t).2.length ≤ maxLen ∧ ∀ o ∈ (rawK c t).1, o.sig.args.length ≤ 100000 ∧ o.sig.sigs.length ≤ 100000
set_option maxRecDepth 8000 in
set_option maxHeartbeats 12800000 in
theorem op_any {D : Nat → Prop} (c : ScopeP) (v : Value) (t n : List UInt8) (w : World) (hv : ScopeM D w v c) (hty : TyOk t) (hro : RawOk c t) (hT : Tab w) (ha : Apart c.faces) (hn : c.needs.length ≤ 100000) (hk : 1 ≤ (checkK t).2.k ∧ (checkK t).2.k ≤ 8) :
 Calls Tryz.prog 72 #[v, str t, str n] w fun e w' => ∃ u, e = .returned (.tuple #[u, .int .i64 (opIn c t n).2]) ∧ SigV (fun b => w.heap.size ≤ b) w' u (opIn c t n).1 ∧ Below w.heap.size w w' := by
 have hv' := hv
 obtain ⟨m, q, cq, rfl⟩ := hv.shape
 have hbox := heap_alloc_new w (.cells #[.map (some m), .slice q c.needs.length cq, .bool c.par] 86)
 have hA := (Below.refl _ w).alloc (nl _) (.cells #[.map (some m), .slice q c.needs.length cq, .bool c.par] 86)
 have hA2 := hA.alloc (by simp) (.cells #[str n] 9)
 have hbn := heap_to (w := w.alloc (.cells #[.map (some m), .slice q c.needs.length cq, .bool c.par] 86)) (n := w.heap.size + 1) (by simp) #[str n] 9
 have hA3 := hA2.alloc (by simp; omega) (.cells #[.bool false, .slice none 0 0, .string ⟨#[]⟩, .slice none 0 0] 36)
 have hbs := heap_to (w := (w.alloc (.cells #[.map (some m), .slice q c.needs.length cq, .bool c.par] 86)).alloc (.cells #[str n] 9)) (n := w.heap.size + 1 + 1) (by simp) #[.bool false, .slice none 0 0, .string ⟨#[]⟩, .slice none 0 0] 36
 have hbn := heap_up (.cells #[.bool false, .slice none 0 0, .string ⟨#[]⟩, .slice none 0 0] 36) hbn
 have hbox := heap_up (.cells #[.bool false, .slice none 0 0, .string ⟨#[]⟩, .slice none 0 0] 36) (heap_up (.cells #[str n] 9) hbox)
 have HR := raw_any c _ t _ (hv'.below hA3 (nl _)) hty (hT.below hA3 (nl _)) ha hn hk
 have bx := box3 hbox
 have HT := Lib.hid (fun W (hW : Below w.heap.size w W) => hT.below hW (nl _))
 have HO := ixP_find (named n) (rawK c t).1 0
 have hON := fun h => opIn_none (c := c) (t := t) (n := n) h
 have hOS := fun o h => opIn_some (c := c) (t := t) (n := n) (o := o) h
 obtain ⟨hal, hro⟩ := hro
 clear hv hv' hk hty hT
 generalize rawK c t = RK at *
 generalize opIn c t n = OI at *
 rcases HO with ⟨hi, hf⟩ | ⟨i, x, hi, hf, hx⟩
 · obtain rfl := hON hf
   clear hON hOS hf;go_enter Tryz.func72, Tryz.ntmps72;go_wp2_with (first
    | (go_at_call 136; refine (index_op RK.1 n _ (w.heap.size + 1) _ hu ((cells_at (kept_call hbn hb1) 0).trans rfl)).mono ?_; rintro e w2 ⟨rfl, hb2⟩; rw [hi]; have hbs2 := kept_call hbs1 hb2; have b4 := box4 hbs2)
    | (go_at_call 63; refine HR.mono ?_; clear HR; rintro e w1 ⟨u, rfl, hu, hb1⟩; obtain ⟨pu, cu, rfl, _⟩ := hu.shape; have hbs1 := kept_call hbs hb1))
   refine bodyPost_ret (v := .tuple #[.agg #[.bool false, .slice none 0 0, str [], .slice none 0 0], .int .i64 40]) (by simp [results, Tryz.results72, go_sem, b4.1]) rfl ?_;have hB2 := hA3.trans (below_less (hb1.trans (below_less hb2 hb1.size)) (by simp; omega));exact ⟨_, rfl, SigV.zero _ _, Below.set4 hB2 (b := w.heap.size + 1 + 1) (by omega) _ _ _ _⟩
 · obtain rfl := hOS x hf
   clear hON hOS hf;have hi : ixP (named n) RK.1 0 = (i : Int) := by rw [hi]; simp
   have hlt : i < RK.1.length := (List.getElem?_eq_some_iff.1 hx).1;have hmem := hro x (List.mem_of_getElem? hx);have hxk := Lib.hid hx;clear hro hx;go_enter Tryz.func72, Tryz.ntmps72;go_wp2_with (first
    | (go_at_call 64; refine (put_any _ x.sig RK.2 _ (HT.out _ hB2) ⟨_, _, rfl, hxr, hSa, hSs⟩ hmem.1 hmem.2 hal).mono ?_; rintro e w3 ⟨u3, rfl, ⟨a3, q3, rfl, l3, r3, s3⟩, hb3⟩; obtain ⟨pzz, cz, rfl, _⟩ := r3.shape; obtain ⟨py, cy, rfl, _⟩ := s3.shape; have hbs3 := kept_call hbs2 hb3; have b4 := box4 hbs3)
    | (go_at_call 136; refine (index_op RK.1 n _ (w.heap.size + 1) _ hu ((cells_at (kept_call hbn hb1) 0).trans rfl)).mono ?_; rintro e w2 ⟨rfl, hb2⟩; rw [hi]; have hbs2 := kept_call hbs1 hb2; have hB2 := hA3.trans (below_less (hb1.trans (below_less hb2 hb1.size)) (by simp; omega)); obtain ⟨b1, o1, av, sv, rfl, _, ⟨_, hxr⟩, hSa, hSs, pc0, pc1, pc2, pc3, pc4⟩ := (hu.below hb2 (nl _)).at hxk.out; obtain ⟨pa, ca, rfl, _⟩ := hSa.shape; obtain ⟨ps, cs, rfl, _⟩ := hSs.shape)
    | (go_at_call 63; refine HR.mono ?_; clear HR; rintro e w1 ⟨u, rfl, hu, hb1⟩; obtain ⟨pu, cu, rfl, _⟩ := hu.shape; have hbs1 := kept_call hbs hb1))
   refine bodyPost_ret (v := .tuple #[.agg #[.bool (putK x.sig RK.2).1.iter, .slice pzz (putK x.sig RK.2).1.args.length cz, str (putK x.sig RK.2).1.res, .slice py (putK x.sig RK.2).1.sigs.length cy], .int .i64 (putK x.sig RK.2).2]) (by simp [results, Tryz.results72, go_sem, b4.1]) rfl ?_;have hB3 := hB2.trans (below_less hb3 hB2.size);have hs2 : w.heap.size + 1 + 1 < w2.heap.size := heap_lt hbs2;refine ⟨_, rfl, ⟨_, _, rfl, l3, ?_, ?_⟩, Below.set4 hB3 (b := w.heap.size + 1 + 1) (by omega) _ _ _ _⟩
   · exact (SS.set4 r3 (b := w.heap.size + 1 + 1) (by intro b hb; omega) _ _ _ _).mono (by intro b hb; omega)
   · exact (SS.set4 s3 (b := w.heap.size + 1 + 1) (by intro b hb; omega) _ _ _ _).mono (by intro b hb; omega)
end Go.Proofs.YtakgjcfkdemipaaGreatDoor
namespace Go.Proofs.YtakgjcfkdemipaaGreatDoor
open Go.RowKit
theorem lacks_no {c : ScopeP} {t : List UInt8} {x : OpP} {l : List OpP} (h : lackK c t x = false) : lacksK c (x :: l) t = lacksK c l t := by
 unfold lacksK
 rw [List.find?_cons_of_neg (by simp [h])]
theorem lacks_yes {c : ScopeP} {t : List UInt8} {x : OpP} {l : List OpP} (h : lackK c t x = true) : lacksK c (x :: l) t = some x.name := by
 unfold lacksK
 rw [List.find?_cons_of_pos h]
 rfl
set_option maxRecDepth 8000 in
set_option maxHeartbeats 12800000 in
theorem lacks_any {D D' : Nat → Prop} (c : ScopeP) (v : Value) (want : List OpP) (wv : Value) (t : List UInt8) (w : World) (hv : ScopeM D w v c) (hw : OpsM D' w wv want) (hwl : ∀ o ∈ want, o.sig.args.length ≤ 100000 ∧ o.sig.sigs.length ≤ 100000) (hty : TyOk t) (hro : RawOk c t) (hT : Tab w) (ha : Apart c.faces) (hn : c.needs.length ≤ 100000) (hk : want ≠ [] → 1 ≤ (checkK t).2.k ∧ (checkK t).2.k ≤ 8) :
 Calls Tryz.prog 79 #[v, wv, str t] w fun e w' => e = .returned (.tuple #[str ((lacksK c want t).getD []), .bool (lacksK c want t).isSome]) ∧ Below w.heap.size w w' := by
 have HOP := Lib.hid (fun W (hW : Below w.heap.size w W) (n : List UInt8) (hne : want ≠ []) => op_any c v t n W (hv.below hW (nl _)) hty hro (hT.below hW (nl _)) ha hn (hk hne))
 have HPU := Lib.hid (fun W (hW : Below w.heap.size w W) (D0 : Nat → Prop) (u : Value) (x : OpP) (hx : x ∈ want) (hs : SigV D0 W u x.sig) => put_any u x.sig t W (hT.below hW (nl _)) hs (hwl x hx).1 (hwl x hx).2 hty.1)
 obtain ⟨m, q, cq, rfl⟩ := hv.shape
 obtain ⟨p, cw, rfl, _, hm, _⟩ := hw.shape
 unfold maxLen at hm
 have hbox := heap_alloc_new w (.cells #[.map (some m), .slice q c.needs.length cq, .bool c.par] 86)
 have hA := (Below.refl _ w).alloc (nl _) (.cells #[.map (some m), .slice q c.needs.length cq, .bool c.par] 86)
 clear hv hwl hty hro hT ha hk
 go_enter Tryz.func79, Tryz.ntmps79
 go_wp2_with fail
 go_loopw [16] (fun a wr => ∃ i : Nat, i ≤ want.length ∧ a = .int .i64 i ∧ Below w.heap.size w wr ∧ wr.heap[w.heap.size]? = some (.cells #[.map (some m), .slice q c.needs.length cq, .bool c.par] 86 (0, 0)) ∧ Hid (lacksK c want t = lacksK c (want.drop i) t)) (fun a _ => want.length - (intOf a).toNat)
 case atStart => exact ⟨0, Nat.zero_le _, by go_num, hA, hbox, rfl⟩
 case round =>
  clear hA hbox;obtain ⟨i, hi, rfl, hb, hbx, hL⟩ := hrel
  by_cases hlt : i < want.length
  case neg =>
   have HX := Lib.hid (show lacksK c want t = none by rw [hL.out, List.drop_eq_nil_of_le (by omega)]; rfl);clear hL;go_wp2_with fail;go_ret2;rw [HX.out];exact ⟨rfl, hb⟩
  case pos =>
   obtain ⟨x, hkx⟩ : ∃ x, want[i]? = some x := ⟨_, List.getElem?_eq_getElem hlt⟩
   have hmem := List.mem_of_getElem? hkx;have hne : want ≠ [] := by intro e; rw [e] at hlt; simp at hlt
   obtain ⟨b1, o1, av, sv, rfl, _, ⟨_, hxr⟩, hSa, hSs, pc0, pc1, pc2, pc3, pc4⟩ := (hw.below hb (nl _)).at hkx;obtain ⟨pa, ca, rfl, _⟩ := hSa.shape;obtain ⟨ps, cs, rfl, _⟩ := hSs.shape;have hd := hL.out;rw [fdrop_at hkx] at hd;clear hL hkx;have hN0 := heap_alloc_new wr (.cells #[str x.name, .bool x.sig.iter, .slice pa x.sig.args.length ca, str x.sig.res, .slice ps x.sig.sigs.length cs] 79);have hE := (Below.refl _ wr).alloc (nl _) (.cells #[str x.name, .bool x.sig.iter, .slice pa x.sig.args.length ca, str x.sig.res, .slice ps x.sig.sigs.length cs] 79);have hb1 := hb.trans (below_less hE hb.size);have hSa1 := hSa.below hE (nl _);have hSs1 := hSs.below hE (nl _);have hbx1 := kept_call hbx hE;have bs := box3 hbx1;have bn := (box5 hN0).1;have HO := HOP.out _ hb1 x.name hne;have hlk : lackK c t x = (decide ((opIn c t x.name).2 ≠ 0) || decide ((putK x.sig t).2 ≠ 0) || !sameK (opIn c t x.name).1 (putK x.sig t).1) := rfl;have HP := fun W hW D0 u hs => HPU.out W hW D0 u x hmem hs
   have hbox := hbx;clear HPU HOP hmem;generalize opIn c t x.name = OI at *;generalize putK x.sig t = PK at *
   by_cases h0 : OI.2 = 0
   case neg =>
    obtain ⟨g1, g2⟩ := nat_ne0 h0;have HX := Lib.hid (hd.trans (lacks_yes (hlk.trans (by simp [h0]))));clear hd hlk h0;go_wp2_with (first
     | (go_at_call 64; refine (HP _ hb32 D' _ ⟨_, _, rfl, hxr, (hSa1.below hb3 (nl _)).below hE3 (nl _), (hSs1.below hb3 (nl _)).below hE3 (nl _)⟩).mono ?_; rintro e w4 ⟨u4, rfl, ⟨a4, q4, rfl, l4, r4, s4⟩, hb4⟩; obtain ⟨p4, c4, rfl, _⟩ := r4.shape; obtain ⟨p4', c4', rfl, _⟩ := s4.shape; have hb41 := hb32.trans (below_less hb4 hb32.size); have hE4 := (Below.refl _ w4).alloc (nl _) (.cells #[.bool PK.1.iter, .slice p4 PK.1.args.length c4, (.string ⟨PK.1.res.toArray⟩), .slice p4' PK.1.sigs.length c4'] 36); have hb42 := hb41.alloc hb41.size (.cells #[.bool PK.1.iter, .slice p4 PK.1.args.length c4, (.string ⟨PK.1.res.toArray⟩), .slice p4' PK.1.sigs.length c4'] 36); have hG4 := (box4 (heap_alloc_new w4 (.cells #[.bool PK.1.iter, .slice p4 PK.1.args.length c4, (.string ⟨PK.1.res.toArray⟩), .slice p4' PK.1.sigs.length c4'] 36))).1; have hG34 := (box4 (kept_call (kept_call hG3 hb4) hE4)).1; have hN4 := kept_call (kept_call hN3 hb4) hE4; have bn4 := (box5 hN4).1)
     | (go_at_call 72; refine HO.mono ?_; clear HO; rintro e w3 ⟨u3, rfl, ⟨a3, q3, rfl, l3, r3, s3⟩, hb3⟩; obtain ⟨p3, c3, rfl, _⟩ := r3.shape; obtain ⟨p3', c3', rfl, _⟩ := s3.shape; have hN3 := kept_call hN0 hb3; have bn3 := (box5 hN3).1; have hb31 := hb1.trans (below_less hb3 hb1.size); have hE3 := (Below.refl _ w3).alloc (nl _) (.cells #[.bool OI.1.iter, .slice p3 OI.1.args.length c3, (.string ⟨OI.1.res.toArray⟩), .slice p3' OI.1.sigs.length c3'] 36); have hb32 := hb31.alloc hb31.size (.cells #[.bool OI.1.iter, .slice p3 OI.1.args.length c3, (.string ⟨OI.1.res.toArray⟩), .slice p3' OI.1.sigs.length c3'] 36); have hG3 := heap_alloc_new w3 (.cells #[.bool OI.1.iter, .slice p3 OI.1.args.length c3, (.string ⟨OI.1.res.toArray⟩), .slice p3' OI.1.sigs.length c3'] 36); have hN3 := kept_call hN3 hE3; have bn31 := (box5 hN3).1))
    go_ret2;rw [HX.out];exact ⟨rfl, hb42⟩
   case pos =>
    by_cases h1 : PK.2 = 0
    case neg =>
     obtain ⟨g1, g2⟩ := nat_ne0 h1;have HX := Lib.hid (hd.trans (lacks_yes (hlk.trans (by simp [h1]))));clear hd hlk h1;go_wp2_with (first
      | (go_at_call 64; refine (HP _ hb32 D' _ ⟨_, _, rfl, hxr, (hSa1.below hb3 (nl _)).below hE3 (nl _), (hSs1.below hb3 (nl _)).below hE3 (nl _)⟩).mono ?_; rintro e w4 ⟨u4, rfl, ⟨a4, q4, rfl, l4, r4, s4⟩, hb4⟩; obtain ⟨p4, c4, rfl, _⟩ := r4.shape; obtain ⟨p4', c4', rfl, _⟩ := s4.shape; have hb41 := hb32.trans (below_less hb4 hb32.size); have hE4 := (Below.refl _ w4).alloc (nl _) (.cells #[.bool PK.1.iter, .slice p4 PK.1.args.length c4, (.string ⟨PK.1.res.toArray⟩), .slice p4' PK.1.sigs.length c4'] 36); have hb42 := hb41.alloc hb41.size (.cells #[.bool PK.1.iter, .slice p4 PK.1.args.length c4, (.string ⟨PK.1.res.toArray⟩), .slice p4' PK.1.sigs.length c4'] 36); have hG4 := (box4 (heap_alloc_new w4 (.cells #[.bool PK.1.iter, .slice p4 PK.1.args.length c4, (.string ⟨PK.1.res.toArray⟩), .slice p4' PK.1.sigs.length c4'] 36))).1; have hG34 := (box4 (kept_call (kept_call hG3 hb4) hE4)).1; have hN4 := kept_call (kept_call hN3 hb4) hE4; have bn4 := (box5 hN4).1)
      | (go_at_call 72; refine HO.mono ?_; clear HO; rintro e w3 ⟨u3, rfl, ⟨a3, q3, rfl, l3, r3, s3⟩, hb3⟩; obtain ⟨p3, c3, rfl, _⟩ := r3.shape; obtain ⟨p3', c3', rfl, _⟩ := s3.shape; have hN3 := kept_call hN0 hb3; have bn3 := (box5 hN3).1; have hb31 := hb1.trans (below_less hb3 hb1.size); have hE3 := (Below.refl _ w3).alloc (nl _) (.cells #[.bool OI.1.iter, .slice p3 OI.1.args.length c3, (.string ⟨OI.1.res.toArray⟩), .slice p3' OI.1.sigs.length c3'] 36); have hb32 := hb31.alloc hb31.size (.cells #[.bool OI.1.iter, .slice p3 OI.1.args.length c3, (.string ⟨OI.1.res.toArray⟩), .slice p3' OI.1.sigs.length c3'] 36); have hG3 := heap_alloc_new w3 (.cells #[.bool OI.1.iter, .slice p3 OI.1.args.length c3, (.string ⟨OI.1.res.toArray⟩), .slice p3' OI.1.sigs.length c3'] 36); have hN3 := kept_call hN3 hE3; have bn31 := (box5 hN3).1))
     go_ret2;rw [HX.out];exact ⟨rfl, hb42⟩
    case pos =>
     rcases hB : sameK OI.1 PK.1 with _ | _
     · have HX := Lib.hid (hd.trans (lacks_yes (hlk.trans (by simp [hB]))))
       clear hd hlk;go_wp2_with (first
        | (go_at_call 139; refine (fsame_any OI.1 PK.1 _ _ _ ⟨_, _, rfl, l3, ((r3.below hE3 (nl _)).below hb4 (nl _)).below hE4 (nl _), ((s3.below hE3 (nl _)).below hb4 (nl _)).below hE4 (nl _)⟩ ⟨_, _, rfl, l4, r4.below hE4 (nl _), s4.below hE4 (nl _)⟩).mono ?_; rintro e w5 ⟨rfl, hb5⟩; rw [hB]; have bn5 := (box5 (kept_call hN4 hb5)).1; have hb51 := hb42.trans (below_less hb5 hb42.size))
        | (go_at_call 64; refine (HP _ hb32 D' _ ⟨_, _, rfl, hxr, (hSa1.below hb3 (nl _)).below hE3 (nl _), (hSs1.below hb3 (nl _)).below hE3 (nl _)⟩).mono ?_; rintro e w4 ⟨u4, rfl, ⟨a4, q4, rfl, l4, r4, s4⟩, hb4⟩; obtain ⟨p4, c4, rfl, _⟩ := r4.shape; obtain ⟨p4', c4', rfl, _⟩ := s4.shape; have hb41 := hb32.trans (below_less hb4 hb32.size); have hE4 := (Below.refl _ w4).alloc (nl _) (.cells #[.bool PK.1.iter, .slice p4 PK.1.args.length c4, (.string ⟨PK.1.res.toArray⟩), .slice p4' PK.1.sigs.length c4'] 36); have hb42 := hb41.alloc hb41.size (.cells #[.bool PK.1.iter, .slice p4 PK.1.args.length c4, (.string ⟨PK.1.res.toArray⟩), .slice p4' PK.1.sigs.length c4'] 36); have hG4 := (box4 (heap_alloc_new w4 (.cells #[.bool PK.1.iter, .slice p4 PK.1.args.length c4, (.string ⟨PK.1.res.toArray⟩), .slice p4' PK.1.sigs.length c4'] 36))).1; have hG34 := (box4 (kept_call (kept_call hG3 hb4) hE4)).1; have hN4 := kept_call (kept_call hN3 hb4) hE4; have bn4 := (box5 hN4).1)
        | (go_at_call 72; refine HO.mono ?_; clear HO; rintro e w3 ⟨u3, rfl, ⟨a3, q3, rfl, l3, r3, s3⟩, hb3⟩; obtain ⟨p3, c3, rfl, _⟩ := r3.shape; obtain ⟨p3', c3', rfl, _⟩ := s3.shape; have hN3 := kept_call hN0 hb3; have bn3 := (box5 hN3).1; have hb31 := hb1.trans (below_less hb3 hb1.size); have hE3 := (Below.refl _ w3).alloc (nl _) (.cells #[.bool OI.1.iter, .slice p3 OI.1.args.length c3, (.string ⟨OI.1.res.toArray⟩), .slice p3' OI.1.sigs.length c3'] 36); have hb32 := hb31.alloc hb31.size (.cells #[.bool OI.1.iter, .slice p3 OI.1.args.length c3, (.string ⟨OI.1.res.toArray⟩), .slice p3' OI.1.sigs.length c3'] 36); have hG3 := heap_alloc_new w3 (.cells #[.bool OI.1.iter, .slice p3 OI.1.args.length c3, (.string ⟨OI.1.res.toArray⟩), .slice p3' OI.1.sigs.length c3'] 36); have hN3 := kept_call hN3 hE3; have bn31 := (box5 hN3).1))
       go_ret2;rw [HX.out];exact ⟨rfl, hb51⟩
     · have HX := Lib.hid (hd.trans (lacks_no (hlk.trans (by simp [hB, h0, h1]))))
       clear hd hlk;go_wp2_with (first
        | (go_at_call 139; refine (fsame_any OI.1 PK.1 _ _ _ ⟨_, _, rfl, l3, ((r3.below hE3 (nl _)).below hb4 (nl _)).below hE4 (nl _), ((s3.below hE3 (nl _)).below hb4 (nl _)).below hE4 (nl _)⟩ ⟨_, _, rfl, l4, r4.below hE4 (nl _), s4.below hE4 (nl _)⟩).mono ?_; rintro e w5 ⟨rfl, hb5⟩; rw [hB]; have bn5 := (box5 (kept_call hN4 hb5)).1; have hb51 := hb42.trans (below_less hb5 hb42.size))
        | (go_at_call 64; refine (HP _ hb32 D' _ ⟨_, _, rfl, hxr, (hSa1.below hb3 (nl _)).below hE3 (nl _), (hSs1.below hb3 (nl _)).below hE3 (nl _)⟩).mono ?_; rintro e w4 ⟨u4, rfl, ⟨a4, q4, rfl, l4, r4, s4⟩, hb4⟩; obtain ⟨p4, c4, rfl, _⟩ := r4.shape; obtain ⟨p4', c4', rfl, _⟩ := s4.shape; have hb41 := hb32.trans (below_less hb4 hb32.size); have hE4 := (Below.refl _ w4).alloc (nl _) (.cells #[.bool PK.1.iter, .slice p4 PK.1.args.length c4, (.string ⟨PK.1.res.toArray⟩), .slice p4' PK.1.sigs.length c4'] 36); have hb42 := hb41.alloc hb41.size (.cells #[.bool PK.1.iter, .slice p4 PK.1.args.length c4, (.string ⟨PK.1.res.toArray⟩), .slice p4' PK.1.sigs.length c4'] 36); have hG4 := (box4 (heap_alloc_new w4 (.cells #[.bool PK.1.iter, .slice p4 PK.1.args.length c4, (.string ⟨PK.1.res.toArray⟩), .slice p4' PK.1.sigs.length c4'] 36))).1; have hG34 := (box4 (kept_call (kept_call hG3 hb4) hE4)).1; have hN4 := kept_call (kept_call hN3 hb4) hE4; have bn4 := (box5 hN4).1)
        | (go_at_call 72; refine HO.mono ?_; clear HO; rintro e w3 ⟨u3, rfl, ⟨a3, q3, rfl, l3, r3, s3⟩, hb3⟩; obtain ⟨p3, c3, rfl, _⟩ := r3.shape; obtain ⟨p3', c3', rfl, _⟩ := s3.shape; have hN3 := kept_call hN0 hb3; have bn3 := (box5 hN3).1; have hb31 := hb1.trans (below_less hb3 hb1.size); have hE3 := (Below.refl _ w3).alloc (nl _) (.cells #[.bool OI.1.iter, .slice p3 OI.1.args.length c3, (.string ⟨OI.1.res.toArray⟩), .slice p3' OI.1.sigs.length c3'] 36); have hb32 := hb31.alloc hb31.size (.cells #[.bool OI.1.iter, .slice p3 OI.1.args.length c3, (.string ⟨OI.1.res.toArray⟩), .slice p3' OI.1.sigs.length c3'] 36); have hG3 := heap_alloc_new w3 (.cells #[.bool OI.1.iter, .slice p3 OI.1.args.length c3, (.string ⟨OI.1.res.toArray⟩), .slice p3' OI.1.sigs.length c3'] 36); have hN3 := kept_call hN3 hE3; have bn31 := (box5 hN3).1))
       exact ⟨⟨i + 1, by omega, by go_num, hb51, kept_call (kept_call (kept_call (kept_call (kept_call hbx1 hb3) hE3) hb4) hE4) hb5, HX⟩, by simp only [intOf]; omega⟩
end Go.Proofs.YtakgjcfkdemipaaGreatDoor
namespace Go.Proofs.YtakgjcfkdemipaaGreatDoor
open Go.RowKit
theorem len_ok {s : List UInt8} (h : (checkK s).1 = 0) : s.length ≤ 100 := by
 rcases hq : checkK s with ⟨c, T⟩
 rw [hq] at h
 simp only at h
 subst h
 exact (checkK_ok hq).2.2.1
theorem tyOk {t : List UInt8} (h : (checkK t).1 = 0) : TyOk t := by
 have hm : ∀ n, n ≤ 100 → n ≤ maxLen := fun n hn => by unfold maxLen; omega
 refine ⟨hm _ (len_ok h), ?_, ?_, Nat.le_trans parts_names.2.2 (by decide), fun x hx => ⟨Nat.le_trans (name_small (parts_names.1 x hx).1) (by decide), hm _ (len_ok (parts_names.1 x hx).2)⟩⟩
 · unfold argK
   split
   · rename_i h1
     rcases hq : ofK t [4, 7] with ⟨c, T⟩;rw [hq] at h1;simp only at h1 ⊢;obtain ⟨rfl, h2⟩ := h1;obtain ⟨o1, e1, l1, _⟩ := checkK_ok (ofK_ok hq).1;have h3 := Fo.first_len h2;have h4 := (Fo.tx_len [] T.k T.n T.sub .nil).2.1;have h5 : (Fo.one ⟨T.k, T.n, T.sub⟩).tx.length = T.txt.length := by rw [Tr.txt_eq]
     rw [e1] at h5;exact hm _ (by omega)
   · unfold maxLen; simp
 · by_cases h7 : (checkK t).2.k = 7
   · exact hm _ (arg_level h h7).2.2.1
   · unfold baseK
     rcases hq : ofK t [7] with ⟨c, T⟩
     by_cases hc : c = 0
     · subst hc
       have := ofK_ok hq;rw [this.1] at h7;simp at this;exact absurd this.2 h7
     · rw [ofK_bad hq hc]
       unfold maxLen;simp
def ScopeOk (c : ScopeP) : Prop := Apart c.faces ∧ c.needs.length ≤ 100000 ∧ (∀ f ∈ c.faces, ∀ o ∈ f.needs, o.sig.args.length ≤ 100000 ∧ o.sig.sigs.length ≤ 100000) ∧ ∀ t, (checkK t).1 = 0 → RawOk c t
def GoodC (D : Nat → Prop) (c : ScopeP) (n : Nat) : Prop :=
 ∀ (v : Value) (t : List UInt8) (w : World), ScopeM D w v c → t.length ≤ maxLen → levelK t < n → Tab w → Calls Tryz.prog 59 #[v, str t] w fun e w' => e = .returned (.int .i64 (goodN c n t)) ∧ Below w.heap.size w w'
def fitN (c : ScopeP) (n : Nat) (want : List OpP) (t : List UInt8) : Bool := !((decide (want ≠ []) && decide (goodN c n t ≠ 0)) || (lacksK c want t).isSome)
set_option maxRecDepth 8000 in
set_option maxHeartbeats 12800000 in
theorem fits_any {D D' : Nat → Prop} (c : ScopeP) (k : Nat) (hG : GoodC D c k) (hso : ScopeOk c) (v : Value) (want : List OpP) (wv : Value) (t : List UInt8) (w : World) (hv : ScopeM D w v c) (hw : OpsM D' w wv want) (hwl : ∀ o ∈ want, o.sig.args.length ≤ 100000 ∧ o.sig.sigs.length ≤ 100000) (ht0 : (checkK t).1 = 0) (htk : levelK t < k) (hT : Tab w) :
 Calls Tryz.prog 76 #[v, wv, str t] w fun e w' => e = .returned (.bool (fitN c k want t)) ∧ Below w.heap.size w w' := by
 have hty := tyOk ht0
 have hkk := checkK_kinds ht0
 obtain ⟨m, q, cq, rfl⟩ := hv.shape
 have hbox := heap_alloc_new w (.cells #[.map (some m), .slice q c.needs.length cq, .bool c.par] 86)
 have hA := (Below.refl _ w).alloc (nl _) (.cells #[.map (some m), .slice q c.needs.length cq, .bool c.par] 86)
 have HL := fun W (hW : Below w.heap.size w W) => lacks_any c _ want wv t W (hv.below hW (nl _)) (hw.below hW (nl _)) hwl hty (hso.2.2.2 t ht0) (hT.below hW (nl _)) hso.1 hso.2.1 (fun _ => hkk)
 have HG := hG _ t _ (hv.below hA (nl _)) hty.1 htk (hT.below hA (nl _))
 obtain ⟨p, cw, rfl, _, hm, _⟩ := hw.shape
 unfold maxLen at hm
 have hw0 : (decide (want ≠ [])) = decide (0 < want.length) := by cases want <;> simp
 have bs := box3 hbox
 have hfn : fitN c k want t = !((decide (want ≠ []) && decide (goodN c k t ≠ 0)) || (lacksK c want t).isSome) := rfl
 rw [hw0] at hfn
 generalize fitN c k want t = FN at *
 generalize goodN c k t = GN at *
 generalize hLK : lacksK c want t = LK at *
 clear hLK hw0 hG hso hv hw hwl hty hkk hT
 by_cases h0 : 0 < want.length
 · by_cases hg : GN = 0
   · subst hg
     have HX := Lib.hid (show FN = !LK.isSome by rw [hfn]; simp);clear hfn;cases LK
     all_goals
      dsimp only [Option.getD_none, Option.isSome_none, Option.getD_some, Option.isSome_some] at HL HX;go_enter Tryz.func76, Tryz.ntmps76;go_wp2_with (first
       | (go_at_call 79; refine (HL _ hB1).mono ?_; rintro e w2 ⟨rfl, hb2⟩)
       | (go_at_call 59; refine HG.mono ?_; clear HG; rintro e w1 ⟨rfl, hb1⟩; have bs1 := box3 (kept_call hbox hb1); have hB1 := hA.trans (below_less hb1 (by simp))))
      go_ret;rw [HX.out];exact ⟨rfl, hB1.trans (below_less hb2 hB1.size)⟩
   · obtain ⟨g1, g2⟩ := nat_ne0 hg
     have HX := Lib.hid (show FN = false by rw [hfn]; simp [h0, hg]);clear hfn hg;go_enter Tryz.func76, Tryz.ntmps76;go_wp2_with (go_at_call 59; refine HG.mono ?_; clear HG; rintro e w1 ⟨rfl, hb1⟩; have hB1 := hA.trans (below_less hb1 (by simp)));go_ret;rw [HX.out];exact ⟨rfl, hB1⟩
 · have HX := Lib.hid (show FN = !LK.isSome by rw [hfn]; simp [h0])
   obtain rfl : want = [] := List.length_eq_zero_iff.1 (by omega);clear hfn h0;simp only [List.length_nil] at HL hm ⊢;cases LK
   all_goals
    dsimp only [Option.getD_none, Option.isSome_none, Option.getD_some, Option.isSome_some] at HL HX;go_enter Tryz.func76, Tryz.ntmps76;go_wp2_with (go_at_call 79; refine (HL _ hA).mono ?_; rintro e w2 ⟨rfl, hb2⟩);go_ret;rw [HX.out];exact ⟨rfl, hA.trans (below_less hb2 (by simp))⟩
end Go.Proofs.YtakgjcfkdemipaaGreatDoor
namespace Go.Proofs.YtakgjcfkdemipaaGreatDoor
open Go.RowKit Go.Maps
theorem opsC_no1 {par : Bool} {acc : List (List UInt8)} {o : OpP} {l : List OpP} (h : hasB acc o.name = true) : opsC par acc (o :: l) = false := by rw [opsC, h]; rfl
theorem opsC_no2 {par : Bool} {acc : List (List UInt8)} {o : OpP} {l : List OpP} (h : isName o.name = false) : opsC par acc (o :: l) = false := by rw [opsC, h]; simp
theorem opsC_no3 {par : Bool} {acc : List (List UInt8)} {o : OpP} {l : List OpP} (h : saidK o.sig par = false) : opsC par acc (o :: l) = false := by rw [opsC, h]; simp
theorem opsC_yes {par : Bool} {acc : List (List UInt8)} {o : OpP} {l : List OpP} (h1 : hasB acc o.name = false) (h2 : isName o.name = true) (h3 : saidK o.sig par = true) : opsC par acc (o :: l) = opsC par (acc ++ [o.name]) l := by rw [opsC, h1, h2, h3]; simp
theorem take_names {l : List OpP} {i : Nat} {x : OpP} (h : l[i]? = some x) : (l.take i).map (·.name) ++ [x.name] = (l.take (i + 1)).map (·.name) := by rw [List.take_add_one, h]; simp
theorem lone_cases (f : FaceP) (h : 1 ≤ f.ops.length) : (f.kind = 3 ∧ loneC f = true) ∨ (f.kind ≠ 3 ∧ f.ops.length ≠ 1 ∧ loneC f = false) ∨ (f.kind ≠ 3 ∧ ∃ o, f.ops = [o] ∧ ((o.name ≠ f.name ∧ loneC f = false) ∨ (o.name = f.name ∧ o.sig.iter ≠ decide (f.kind = 2) ∧ loneC f = false) ∨ (o.name = f.name ∧ o.sig.iter = decide (f.kind = 2) ∧ loneC f = true))) := by
 obtain ⟨name, kind, par, needs, ops⟩ := f
 unfold loneC
 simp only at *
 by_cases hk : kind = 3
 · exact .inl ⟨hk, by simp [hk]⟩
 · right
   match ops, h with
   | [o], _ =>
    right
    refine ⟨hk, o, rfl, ?_⟩
    by_cases h1 : o.name = name
    · by_cases h2 : o.sig.iter = decide (kind = 2)
      · exact .inr (.inr ⟨h1, h2, by simp [hk, h1, h2]⟩)
      · exact .inr (.inl ⟨h1, h2, by simp [hk, h2]⟩)
    · exact .inl ⟨h1, by simp [hk, h1]⟩
   | a :: b :: l, _ =>
    left
    exact ⟨hk, by simp, by simp [hk]⟩
theorem blwF {B : Nat} {a w : World} (h : Below B a w) (n : Nat) : Below B a (w.drewN n) := h.trans ⟨rfl, rfl, rfl, nl _, fun _ _ => rfl⟩
def restE (f : FaceP) : Nat := if (opsC f.par [] f.ops && loneC f) = true then 0 else 42
theorem restE_no {f : FaceP} {p : Bool} (hp : f.par = p) (h : opsC p [] f.ops = false) : restE f = 42 := by unfold restE; rw [hp, h]; rfl
theorem restE_lone {f : FaceP} {p : Bool} (hp : f.par = p) (h : opsC p [] f.ops = true) (h2 : loneC f = false) : restE f = 42 := by unfold restE; rw [hp, h, h2]; rfl
theorem restE_ok {f : FaceP} {p : Bool} (hp : f.par = p) (h : opsC p [] f.ops = true) (h2 : loneC f = true) : restE f = 0 := by unfold restE; rw [hp, h, h2]; rfl
theorem SetMap.below {w w' : World} {b K : Nat} {acc : List (List UInt8)} (h : SetMap w b acc) (hb : Below K w w') (hK : w.heap.size ≤ K) : SetMap w' b acc := h.of_block (hb.block b (Nat.lt_of_lt_of_le h.lt hK))
set_option maxRecDepth 8000 in
set_option maxHeartbeats 12800000 in
theorem fcheck_rest {D : Nat → Prop} (v : Value) (f : FaceP) (w : World) (ht : Tab w) (hv : FaceV D w v f) (hn : f.needs.length ≤ 100000)
 (k1 : isName f.name = true) (k2 : 1 ≤ f.kind) (k3 : f.kind ≤ 3) (k4 : neededK f.needs = true) (k5 : (f.par || f.needs.isEmpty) = true) (k6 : 1 ≤ f.ops.length) (k7 : f.ops.length ≤ 20) :
 Calls Tryz.prog 38 #[v] w fun e w' => e = .returned (.int .i64 (restE f)) ∧ Below w.heap.size w w' := by
 have HLN := Lib.hid (lone_cases f k6)
 have hmm := @run_makeMap Tryz.prog
 have HF := Lib.hid (Eq.refl f)
 obtain ⟨nv, ov, rfl, hnl, h1, h2⟩ := hv
 have HN := fun W (hW : Below w.heap.size w W) => tIsName_any f.name W (ht.below hW (nl _)) hnl
 have HD := fun W (hW : Below w.heap.size w W) => needed_any f.needs nv W (ht.below hW (nl _)) (h1.below hW (nl _)) hn
 obtain ⟨p1, c1, rfl, _⟩ := h1.shape
 obtain ⟨p2, c2, rfl, _, hm2, hle⟩ := h2.shape
 have HL := Lib.hid hle
 rw [k1] at HN
 rw [k4] at HD
 have hB := ((Below.refl _ w).alloc (nl _) (.cells #[str f.name, .int .u8 f.kind, .bool f.par, .slice p1 f.needs.length c1, .slice p2 f.ops.length c2] 58))
 have hg := heap_alloc_new w (.cells #[str f.name, .int .u8 f.kind, .bool f.par, .slice p1 f.needs.length c1, .slice p2 f.ops.length c2] 58)
 clear h1
 have g2 : ¬ (f.kind : Int) < 1 := by omega
 have b2 : decide ((f.kind : Int) < 1) = false := decide_eq_false g2
 have g3 : ¬ (3 : Int) < (f.kind : Int) := by omega
 have b3 : decide ((3 : Int) < (f.kind : Int)) = false := decide_eq_false g3
 have g6 : ¬ (f.ops.length : Int) < 1 := by omega
 have b6 : decide ((f.ops.length : Int) < 1) = false := decide_eq_false g6
 have g7 : ¬ (20 : Int) < (f.ops.length : Int) := by omega
 have b7 : decide ((20 : Int) < (f.ops.length : Int)) = false := decide_eq_false g7
 have g5 : f.par = true ∨ (f.par = false ∧ decide (0 < f.needs.length) = false) := by
  cases hp : f.par
  · refine .inr ⟨rfl, ?_⟩
    rw [hp] at k5;have : f.needs = [] := by simpa using k5
    rw [this]
    rfl
  · exact .inl rfl
 generalize hpar : f.par = par at *
 have HP := Lib.hid hpar
 have hs6 := Lib.hid k6
 have hs7 := Lib.hid k7
 clear k1 k2 k3 k4 k5 k6 k7 hpar
 rcases g5 with rfl | ⟨rfl, g5⟩
 all_goals
  go_enter Tryz.func38, Tryz.ntmps38;go_wp2_with (first
   | (go_at_call 88; refine (HN _ hB).mono ?_; clear HN; rintro e w1 ⟨rfl, hb1⟩; have hg := kept_call hg hb1; have bx := (box5 hg).1; have hB := hB.trans (below_less hb1 hB.size))
   | (go_at_call 78; refine (HD _ hB).mono ?_; clear HD; rintro e w2 ⟨rfl, hb2⟩; have hg := kept_call hg hb2; have bx := (box5 hg).1; have bxa := (box5 (heap_up (.map #[] 0) hg)).1; have hB := hB.trans (below_less hb2 hB.size)))
  have hMgt := heap_lt hg;have hS0 : SetMap (w2.alloc (.map #[] 0)) w2.heap.size [] := SetMap.made w2;have hB := hB.alloc hB.size (.map #[] 0);have hg := heap_up (.map #[] 0) hg;generalize hM2 : w2.heap.size = M at *;clear bx bxa;generalize w2.alloc (.map #[] 0) = W at *;go_loopw [53] (fun y wx => ∃ i : Nat, i ≤ f.ops.length ∧ y = .int .i64 i ∧ SetMap wx M ((f.ops.take i).map (·.name)) ∧ wx.heap[w.heap.size]? = W.heap[w.heap.size]? ∧ Below w.heap.size w wx ∧ Hid (opsC f.par [] f.ops = opsC f.par ((f.ops.take i).map (·.name)) (f.ops.drop i))) (fun y _ => f.ops.length - (intOf y).toNat)
  case atStart => exact ⟨0, Nat.zero_le _, by go_num, hS0, rfl, hB, rfl⟩
  case round =>
   obtain ⟨i, hi, rfl, hset, hgx, hb, hA⟩ := hrel;have HGX := Lib.hid hgx;have hgW := Lib.hid hg;have hg := hgx.trans hg;clear hgx
   by_cases hlt : i < f.ops.length
   case neg =>
    have hie : f.ops.drop i = [] := List.drop_eq_nil_of_le (by omega);have HX := Lib.hid (show opsC f.par [] f.ops = true by rw [hA.out, hie]; rfl);clear hA hie;have bg := (box5 hg).1;have hl0 := hs6.out;rcases HLN.out with ⟨a1, a2⟩ | ⟨a1, a2, a3⟩ | ⟨a1, o, a2, a3⟩
    · have HZ := Lib.hid (restE_ok rfl HX.out a2)
      have g : ((f.kind : Int) != 3) = false := by rw [a1]; rfl
      clear a1 a2 HLN hl0;go_upto_region 11 with fail;have gL : 0 < f.ops.length := hs6.out;go_quiet (fail);go_wp2_with fail;go_ret;exact ⟨by rw [HZ.out]; rfl, blwF hb _⟩
    · have HZ := Lib.hid (restE_lone rfl HX.out a3)
      have g : ((f.kind : Int) != 3) = true := by rw [bne_iff_ne]; omega
      have g1 : ((f.ops.length : Int) != 1) = true := by rw [bne_iff_ne]; omega
      clear a1 a2 a3 HLN hl0;go_upto_region 11 with fail;have gL : 0 < f.ops.length := hs6.out;go_quiet (fail);go_wp2_with fail;go_ret;exact ⟨by rw [HZ.out]; rfl, blwF hb _⟩
    · have hlen : f.ops.length = 1 := by rw [a2]; rfl
      have g : ((f.kind : Int) != 3) = true := by rw [bne_iff_ne]; omega
      have g1 : ((f.ops.length : Int) != 1) = false := by rw [hlen]; rfl
      obtain ⟨b1, o1, av, sv, rfl, _, _, _, _, d0, d1, _, _, _⟩ := h2.at (k := 0) (x := o) (by rw [a2]; rfl);have d0 := Below.keep hb d0;have d1 := Below.keep hb d1;rw [Nat.zero_mul, Nat.add_zero] at d0 d1;have hk2 : decide (f.kind = 2) = ((f.kind : Int) == 2) := by
       by_cases h : f.kind = 2
       · rw [h]; rfl
       · rw [decide_eq_false h, eq_comm, beq_eq_false_iff_ne]; omega
      rcases a3 with ⟨a3, a4⟩ | ⟨a3, a4, a5⟩ | ⟨a3, a4, a5⟩
      · have HZ := Lib.hid (restE_lone rfl HX.out a4)
        have g2 := Lib.hid (show (o.name == f.name) = false by simpa using a3);clear a1 a2 a3 a4 HLN hl0 hlen hk2;generalize o.sig.iter = it at d1;go_upto_region 11 with fail;have gL : 0 < f.ops.length := hs6.out;have g2 := g2.out;refine wp_region_spec (D := Any) (w := wr) 30 [(1, .eq (.pointer (some ⟨w.heap.size, 0, none⟩)))] [(.eq (.pointer (some ⟨w.heap.size, 1, none⟩))), (.eq (.int .u8 f.kind)), (.eq (.bool true)), (.eq (.bool true)), (.eq (.pointer (some ⟨w.heap.size, 4, none⟩))), (.eq (.slice (some ⟨b1, o1, none⟩) f.ops.length c2)), (.eq (.int .i64 f.ops.length)), (.eq (.bool false)), (.eq (.bool false)), (.eq (.pointer (some ⟨w.heap.size, 4, none⟩))), (.eq (.slice (some ⟨b1, o1, none⟩) f.ops.length c2)), (.eq (.pointer (some ⟨b1, o1, none⟩))), (.eq (.pointer (some ⟨b1, o1, none⟩))), (.eq (str o.name)), (.eq (.pointer (some ⟨w.heap.size, 0, none⟩))), (.eq (str f.name)), (.eq (.bool true)), (.eq (.bool true)), (.eq (.bool true)), (.skip), (.skip), (.skip), (.skip), (.skip), (.skip), (.skip), (.skip), (.skip), (.skip), (.eq (.bool true)), (.eq (.bool true))] (CellsAt [(⟨w.heap.size, 0, none⟩, str f.name), (⟨w.heap.size, 1, none⟩, .int .u8 f.kind), (⟨w.heap.size, 4, none⟩, .slice (some ⟨b1, o1, none⟩) f.ops.length c2), (⟨b1, o1, none⟩, str o.name)]) (by kernel_rfl) (by kernel_rfl) (by kernel_rfl) (by kernel_rfl) (by kernel_rfl) (fun _ _ h hb => h.below hb) (fun p hp => by simp only [List.mem_cons, List.not_mem_nil, or_false] at hp; rcases hp with rfl | rfl | rfl | rfl <;> first | exact Below.keep (Below.refl _ wr).drew (by first | exact bg.1 | exact bg.2.1 | exact bg.2.2.2.2 | exact d0 | exact d1)) ?_ ?_ ?_
        · intro p hp
          simp only [List.mem_cons, List.not_mem_nil, or_false] at hp;rcases hp with rfl
          · exact rfl
        · iterate 31
           refine And.intro ?_ ?_
           · first
             | exact stSkip (by kernel_rfl) rfl
             | exact stA (.inl rfl) (by kernel_rfl) rfl (by kernel_rfl)
             | exact stA (.inr rfl) (by kernel_rfl) rfl (by kernel_rfl)
             | exact stPick rfl (by kernel_rfl) rfl rfl (by kernel_rfl)
             | exact stNot rfl (by kernel_rfl) rfl rfl rfl
             | exact stLen rfl (by kernel_rfl) (by kernel_rfl) rfl rfl
             | exact stFA rfl (by kernel_rfl) rfl rfl (fun w => by simp [go_sem])
             | exact stIA rfl (by kernel_rfl) rfl rfl rfl (fun w => by simp [go_sem, gL])
             | exact stLd rfl (by kernel_rfl) rfl rfl (fun w hS => by simp [go_sem, (hS.get 0 rfl), (hS.get 1 rfl), (hS.get 2 rfl), (hS.get 3 rfl)])
             | exact stBin rfl (by kernel_rfl) rfl rfl rfl (fun w => by simp [go_sem, g, g1, g2])
          exact trivial
        · intro aE vE wE hSE hbE haE _ hvE
          obtain rfl : vE = .bool true := hvE _ rfl;rw [haE];clear haE;simp only [List.take_succ_cons, List.take_zero, putsOf, pz, pw];go_wp2_with fail;go_ret;exact ⟨by rw [HZ.out]; rfl, hb.trans (below_less hbE hb.size)⟩
      · have HZ := Lib.hid (restE_lone rfl HX.out a5)
        have g2 := Lib.hid (show (o.name == f.name) = true by simpa using a3);rw [hk2] at a4;obtain ⟨kq, g4⟩ : ∃ kq, ((f.kind : Int) == 2) = kq := ⟨_, rfl⟩
        rw [g4] at a4;have g4 := Lib.hid g4;clear a1 a2 a3 a5 HLN hl0 hlen hk2;generalize o.sig.iter = it at d1 a4;have g5 := Lib.hid (show ¬ it = kq by revert a4; cases it <;> cases kq <;> simp);clear a4;go_upto_region 11 with fail;have gL : 0 < f.ops.length := hs6.out;have g2 := g2.out;have g4 := g4.out;refine wp_region_spec (D := Any) (w := wr) 30 [(1, .eq (.pointer (some ⟨w.heap.size, 0, none⟩)))] [(.eq (.pointer (some ⟨w.heap.size, 1, none⟩))), (.eq (.int .u8 f.kind)), (.eq (.bool true)), (.eq (.bool true)), (.eq (.pointer (some ⟨w.heap.size, 4, none⟩))), (.eq (.slice (some ⟨b1, o1, none⟩) f.ops.length c2)), (.eq (.int .i64 f.ops.length)), (.eq (.bool false)), (.eq (.bool false)), (.eq (.pointer (some ⟨w.heap.size, 4, none⟩))), (.eq (.slice (some ⟨b1, o1, none⟩) f.ops.length c2)), (.eq (.pointer (some ⟨b1, o1, none⟩))), (.eq (.pointer (some ⟨b1, o1, none⟩))), (.eq (str o.name)), (.eq (.pointer (some ⟨w.heap.size, 0, none⟩))), (.eq (str f.name)), (.eq (.bool false)), (.eq (.bool false)), (.eq (.bool false)), (.eq (.pointer (some ⟨w.heap.size, 4, none⟩))), (.eq (.slice (some ⟨b1, o1, none⟩) f.ops.length c2)), (.eq (.pointer (some ⟨b1, o1, none⟩))), (.eq (.pointer (some ⟨b1, o1 + 1, none⟩))), (.eq (.pointer (some ⟨b1, o1 + 1, none⟩))), (.eq (.bool it)), (.eq (.pointer (some ⟨w.heap.size, 1, none⟩))), (.eq (.int .u8 f.kind)), (.eq (.bool kq)), (.eq (.bool true)), (.eq (.bool true)), (.eq (.bool true))] (CellsAt [(⟨w.heap.size, 0, none⟩, str f.name), (⟨w.heap.size, 1, none⟩, .int .u8 f.kind), (⟨w.heap.size, 4, none⟩, .slice (some ⟨b1, o1, none⟩) f.ops.length c2), (⟨b1, o1, none⟩, str o.name), (⟨b1, o1 + 1, none⟩, .bool it)]) (by kernel_rfl) (by kernel_rfl) (by kernel_rfl) (by kernel_rfl) (by kernel_rfl) (fun _ _ h hb => h.below hb) (fun p hp => by simp only [List.mem_cons, List.not_mem_nil, or_false] at hp; rcases hp with rfl | rfl | rfl | rfl | rfl <;> first | exact Below.keep (Below.refl _ wr).drew (by first | exact bg.1 | exact bg.2.1 | exact bg.2.2.2.2 | exact d0 | exact d1)) ?_ ?_ ?_
        · intro p hp
          simp only [List.mem_cons, List.not_mem_nil, or_false] at hp;rcases hp with rfl
          · exact rfl
        · iterate 31
           refine And.intro ?_ ?_
           · first
             | exact stSkip (by kernel_rfl) rfl
             | exact stA (.inl rfl) (by kernel_rfl) rfl (by kernel_rfl)
             | exact stA (.inr rfl) (by kernel_rfl) rfl (by kernel_rfl)
             | exact stPick rfl (by kernel_rfl) rfl rfl (by kernel_rfl)
             | exact stNot rfl (by kernel_rfl) rfl rfl rfl
             | exact stLen rfl (by kernel_rfl) (by kernel_rfl) rfl rfl
             | exact stFA rfl (by kernel_rfl) rfl rfl (fun w => by simp [go_sem])
             | exact stIA rfl (by kernel_rfl) rfl rfl rfl (fun w => by simp [go_sem, gL])
             | exact stLd rfl (by kernel_rfl) rfl rfl (fun w hS => by simp [go_sem, (hS.get 0 rfl), (hS.get 1 rfl), (hS.get 2 rfl), (hS.get 3 rfl), (hS.get 4 rfl)])
             | exact stBin rfl (by kernel_rfl) rfl rfl rfl (fun w => by simp [go_sem, g, g1, g2, g4, g5.out])
          exact trivial
        · intro aE vE wE hSE hbE haE _ hvE
          obtain rfl : vE = .bool true := hvE _ rfl;rw [haE];clear haE;simp only [List.take_succ_cons, List.take_zero, putsOf, pz, pw];go_wp2_with fail;go_ret;exact ⟨by rw [HZ.out]; rfl, hb.trans (below_less hbE hb.size)⟩
      · have HZ := Lib.hid (restE_ok rfl HX.out a5)
        have g2 := Lib.hid (show (o.name == f.name) = true by simpa using a3);rw [hk2] at a4;obtain ⟨kq, g4⟩ : ∃ kq, ((f.kind : Int) == 2) = kq := ⟨_, rfl⟩
        rw [g4] at a4;have g4 := Lib.hid g4;clear a1 a2 a3 a5 HLN hl0 hlen hk2;generalize o.sig.iter = it at d1 a4;have g5 := Lib.hid (show it = kq by revert a4; cases it <;> cases kq <;> simp);clear a4;go_upto_region 11 with fail;have gL : 0 < f.ops.length := hs6.out;have g2 := g2.out;have g4 := g4.out;refine wp_region_spec (D := Any) (w := wr) 30 [(1, .eq (.pointer (some ⟨w.heap.size, 0, none⟩)))] [(.eq (.pointer (some ⟨w.heap.size, 1, none⟩))), (.eq (.int .u8 f.kind)), (.eq (.bool true)), (.eq (.bool true)), (.eq (.pointer (some ⟨w.heap.size, 4, none⟩))), (.eq (.slice (some ⟨b1, o1, none⟩) f.ops.length c2)), (.eq (.int .i64 f.ops.length)), (.eq (.bool false)), (.eq (.bool false)), (.eq (.pointer (some ⟨w.heap.size, 4, none⟩))), (.eq (.slice (some ⟨b1, o1, none⟩) f.ops.length c2)), (.eq (.pointer (some ⟨b1, o1, none⟩))), (.eq (.pointer (some ⟨b1, o1, none⟩))), (.eq (str o.name)), (.eq (.pointer (some ⟨w.heap.size, 0, none⟩))), (.eq (str f.name)), (.eq (.bool false)), (.eq (.bool false)), (.eq (.bool false)), (.eq (.pointer (some ⟨w.heap.size, 4, none⟩))), (.eq (.slice (some ⟨b1, o1, none⟩) f.ops.length c2)), (.eq (.pointer (some ⟨b1, o1, none⟩))), (.eq (.pointer (some ⟨b1, o1 + 1, none⟩))), (.eq (.pointer (some ⟨b1, o1 + 1, none⟩))), (.eq (.bool it)), (.eq (.pointer (some ⟨w.heap.size, 1, none⟩))), (.eq (.int .u8 f.kind)), (.eq (.bool kq)), (.eq (.bool false)), (.eq (.bool false)), (.eq (.bool false))] (CellsAt [(⟨w.heap.size, 0, none⟩, str f.name), (⟨w.heap.size, 1, none⟩, .int .u8 f.kind), (⟨w.heap.size, 4, none⟩, .slice (some ⟨b1, o1, none⟩) f.ops.length c2), (⟨b1, o1, none⟩, str o.name), (⟨b1, o1 + 1, none⟩, .bool it)]) (by kernel_rfl) (by kernel_rfl) (by kernel_rfl) (by kernel_rfl) (by kernel_rfl) (fun _ _ h hb => h.below hb) (fun p hp => by simp only [List.mem_cons, List.not_mem_nil, or_false] at hp; rcases hp with rfl | rfl | rfl | rfl | rfl <;> first | exact Below.keep (Below.refl _ wr).drew (by first | exact bg.1 | exact bg.2.1 | exact bg.2.2.2.2 | exact d0 | exact d1)) ?_ ?_ ?_
        · intro p hp
          simp only [List.mem_cons, List.not_mem_nil, or_false] at hp;rcases hp with rfl
          · exact rfl
        · iterate 31
           refine And.intro ?_ ?_
           · first
             | exact stSkip (by kernel_rfl) rfl
             | exact stA (.inl rfl) (by kernel_rfl) rfl (by kernel_rfl)
             | exact stA (.inr rfl) (by kernel_rfl) rfl (by kernel_rfl)
             | exact stPick rfl (by kernel_rfl) rfl rfl (by kernel_rfl)
             | exact stNot rfl (by kernel_rfl) rfl rfl rfl
             | exact stLen rfl (by kernel_rfl) (by kernel_rfl) rfl rfl
             | exact stFA rfl (by kernel_rfl) rfl rfl (fun w => by simp [go_sem])
             | exact stIA rfl (by kernel_rfl) rfl rfl rfl (fun w => by simp [go_sem, gL])
             | exact stLd rfl (by kernel_rfl) rfl rfl (fun w hS => by simp [go_sem, (hS.get 0 rfl), (hS.get 1 rfl), (hS.get 2 rfl), (hS.get 3 rfl), (hS.get 4 rfl)])
             | exact stBin rfl (by kernel_rfl) rfl rfl rfl (fun w => by simp [go_sem, g, g1, g2, g4, g5.out])
          exact trivial
        · intro aE vE wE hSE hbE haE _ hvE
          obtain rfl : vE = .bool false := hvE _ rfl;rw [haE];clear haE;simp only [List.take_succ_cons, List.take_zero, putsOf, pz, pw];go_wp2_with fail;go_ret;exact ⟨by rw [HZ.out]; rfl, hb.trans (below_less hbE hb.size)⟩
   case pos =>
    obtain ⟨x, hkx⟩ : ∃ x, f.ops[i]? = some x := ⟨_, List.getElem?_eq_getElem hlt⟩
    obtain ⟨b1, o1, av, sv, rfl, _, hxl, ha, hs, d0, d1, d2, d3, d4⟩ := h2.at hkx;have d0 := Below.keep hb d0;have d1 := Below.keep hb d1;have d2 := Below.keep hb d2;have d3 := Below.keep hb d3;have d4 := Below.keep hb d4;have hd := hA.out;rw [fdrop_at hkx] at hd;have HTN := Lib.hid (take_names hkx);clear hA hkx;have HS := fun W (hW : Below w.heap.size w W) => said_any (.agg #[.bool x.sig.iter, av, str x.sig.res, sv]) x.sig f.par W (ht.below hW (nl _)) ⟨av, sv, rfl, hxl.2, ha.below hW (nl _), hs.below hW (nl _)⟩
    obtain ⟨pa, ca, rfl, _⟩ := ha.shape;obtain ⟨ps, cs, rfl, _⟩ := hs.shape;have hbA := hb.alloc hb.size (.cells #[str x.name, .bool x.sig.iter, .slice pa x.sig.args.length ca, str x.sig.res, .slice ps x.sig.sigs.length cs] 50);have hset1 := hset.kept (World.grownBy_alloc wr (.cells #[str x.name, .bool x.sig.iter, .slice pa x.sig.args.length ca, str x.sig.res, .slice ps x.sig.sigs.length cs] 50) none) (by simp);have hlk := hset1.look hxl.1;have HN2 := tIsName_any x.name (wr.alloc (.cells #[str x.name, .bool x.sig.iter, .slice pa x.sig.args.length ca, str x.sig.res, .slice ps x.sig.sigs.length cs] 50)) (ht.below hbA (nl _)) hxl.1;have hx := heap_alloc_new wr (.cells #[str x.name, .bool x.sig.iter, .slice pa x.sig.args.length ca, str x.sig.res, .slice ps x.sig.sigs.length cs] 50);have hg := heap_up (.cells #[str x.name, .bool x.sig.iter, .slice pa x.sig.args.length ca, str x.sig.res, .slice ps x.sig.sigs.length cs] 50) hg;clear ha hs;have hnl2 : ((f.ops.take i).map (·.name)).length < maxLen := by
     rw [List.length_map, List.length_take];have := hs7.out;unfold maxLen;omega
    rcases q1 : hasB ((f.ops.take i).map (·.name)) x.name with _ | _
    · rw [q1] at hlk
      rcases q2 : isName x.name with _ | _
      · rw [q2] at HN2
        have HX := Lib.hid (restE_no rfl (hd.trans (opsC_no2 q2)));clear hd q1 q2;go_wp2_with (go_at_call 88; refine HN2.mono ?_; clear HN2; rintro e w3 ⟨rfl, hb3⟩; have hx := kept_call hx hb3; have hg := kept_call hg hb3; have bx := (box5 hx).1; have bg := (box5 hg).1; have hB3 := hbA.trans (below_less hb3 hbA.size));go_ret;exact ⟨by rw [HX.out]; rfl, hB3⟩
      · rw [q2] at HN2
        rcases q3 : saidK x.sig f.par with _ | _
        · rw [q3, HP.out] at HS
          have HX := Lib.hid (restE_no rfl (hd.trans (opsC_no3 q3)));clear hd q1 q2 q3;go_wp2_with (first | (go_at_call 88; refine HN2.mono ?_; clear HN2; rintro e w3 ⟨rfl, hb3⟩; have hx := kept_call hx hb3; have hg := kept_call hg hb3; have bx := (box5 hx).1; have bg := (box5 hg).1; have hB3 := hbA.trans (below_less hb3 hbA.size)) | (go_at_call 89; refine (HS _ hB3).mono ?_; clear HS; rintro e w4 ⟨rfl, hb4⟩; have hx := kept_call hx hb4; have hg := kept_call hg hb4; have bx := (box5 hx).1; have hB4 := hB3.trans (below_less hb4 hB3.size)));go_ret;exact ⟨by rw [HX.out]; rfl, hB4⟩
        · rw [q3, HP.out] at HS
          have HX := Lib.hid (hd.trans (opsC_yes q1 q2 q3));clear hd q1 q2 q3;go_wp2_with (first
           | (go_at_call 88; refine HN2.mono ?_; clear HN2; rintro e w3 ⟨rfl, hb3⟩; have hx := kept_call hx hb3; have hg := kept_call hg hb3; have bx := (box5 hx).1; have bg := (box5 hg).1; have hB3 := hbA.trans (below_less hb3 hbA.size))
           | (go_at_call 89; refine (HS _ hB3).mono ?_; clear HS; rintro e w4 ⟨rfl, hb4⟩; have hx := kept_call hx hb4; have hg := kept_call hg hb4; have bx := (box5 hx).1; have hB4 := hB3.trans (below_less hb4 hB3.size))
           | (at_mapUpdate; refine wpList_set_add _ rfl _ _ _ rfl M ((f.ops.take i).map (·.name)) rfl ((hset1.below hb3 (nl _)).below hb4 (nl _)) hnl2 x.name rfl rfl hxl.1 ?_; intro w5 hset5 hgr5))
          have HY := HX.out;rw [HTN.out] at hset5 HY;refine ⟨⟨i + 1, hlt, by go_num, hset5, ?_, hB4.grown hgr5 hB4.size (fun k e => by cases e; omega), HY⟩, by simp only [intOf]; omega⟩;rw [grown_heap hgr5 hg (by intro e; injection e with e; omega)];exact hgW.out.symm
    · rw [q1] at hlk
      have HX := Lib.hid (restE_no rfl (hd.trans (opsC_no1 q1)));clear hd q1;go_wp2_with fail;go_ret;exact ⟨by rw [HX.out]; rfl, hbA⟩
theorem fcheck_any {D : Nat → Prop} (v : Value) (f : FaceP) (w : World) (ht : Tab w) (hv : FaceV D w v f) (hn : f.needs.length ≤ 100000) :
 Calls Tryz.prog 38 #[v] w fun e w' => e = .returned (.int .i64 (faceE f)) ∧ Below w.heap.size w w' := by
 have he := faceK_eq f
 rcases hq : (isName f.name && (decide (1 ≤ f.kind) && (decide (f.kind ≤ 3) && (neededK f.needs && ((f.par || f.needs.isEmpty) && (decide (1 ≤ f.ops.length) && decide (f.ops.length ≤ 20))))))) with _ | _
 · have hf : faceK f = false := by
    rw [he];simp only [← Bool.and_assoc] at hq ⊢;rw [hq];simp
   rw [faceE_no hf];exact fcheck_start v f w ht hv hn hq
 · have h2 := hq
   simp only [Bool.and_eq_true, decide_eq_true_eq] at h2;obtain ⟨k1, k2, k3, k4, k5, k6, k7⟩ := h2;have hr : restE f = faceE f := by
    unfold restE faceE;rw [he];have : (isName f.name && (decide (1 ≤ f.kind) && (decide (f.kind ≤ 3) && (neededK f.needs && ((f.par || f.needs.isEmpty) && (decide (1 ≤ f.ops.length) && (decide (f.ops.length ≤ 20) && (opsC f.par [] f.ops && loneC f)))))))) = (opsC f.par [] f.ops && loneC f) := by
     rw [k1, decide_eq_true k2, decide_eq_true k3, k4, k5, decide_eq_true k6, decide_eq_true k7];simp
    rw [this]
   rw [← hr];exact fcheck_rest v f w ht hv hn k1 k2 k3 k4 (by rw [Bool.or_eq_true]; simpa using k5) k6 k7
end Go.Proofs.YtakgjcfkdemipaaGreatDoor
