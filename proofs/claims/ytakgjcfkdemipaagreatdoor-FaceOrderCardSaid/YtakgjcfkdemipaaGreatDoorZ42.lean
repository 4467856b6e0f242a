/-
  The law FaceOrder answers true. Condition: the variable strings.asciiSpace.
-/
import Derived.Shelf.Abstract
import Derived.Test.YtakgjcfkdemipaaGreatDoorZn
import Derived.Test.YtakgjcfkdemipaaGreatDoorZ5
import Derived.Test.YtakgjcfkdemipaaGreatDoorZ38
import Derived.Test.YtakgjcfkdemipaaGreatDoorZ39
import Derived.Test.YtakgjcfkdemipaaGreatDoorZ40
namespace Go.Proofs.YtakgjcfkdemipaaGreatDoor
open Go Go.RowKit Go.Shelf
theorem few_needs {l : List FaceP} (h : fewS l = true) : ∀ f ∈ l, f.needs.length ≤ 100000 := fun f hf => by
 rw [fewS_eq, Bool.and_eq_true, List.all_eq_true] at h
 have h1 := h.1 f hf
 unfold faceS headS wantedS at h1
 simp only [Bool.and_eq_true, decide_eq_true_eq] at h1
 omega
theorem order_facts {f g h : FaceP} {own one two both back : Bool} {e i j k m : Nat} (h1 : extK f f = (own, e)) (h2 : extK f g = (one, i)) (h3 : extK g h = (two, j)) (h4 : extK f h = (both, k)) (h5 : extK g f = (back, m)) :
 (((e = 42 ∧ own = false) ∨ (e = 0 ∧ own = true)) ∧ i = 42 ∧ m = 42 ∧ one = false) ∨ (e = 0 ∧ own = true ∧ i = 0 ∧ m = 0 ∧ (j = 42 ∨ (j = 0 ∧ (one = false ∨ (one = true ∧ (two = false ∨ (two = true ∧ both = true ∧ k = 0)))))) ∧
  (one = true → back = true → f.needs = g.needs ∧ f.ops.length = g.ops.length ∧ ∀ o ∈ f.ops, o ∈ g.ops)) := by
 unfold extK at *
 rcases q1 : faceK f with _ | _ <;> rcases q2 : faceK g with _ | _ <;> rw [q1] at h1 h2 h4 h5 <;> rw [q2] at h2 h3 h5 <;> simp only [Bool.and_self, Bool.and_false, Bool.false_and, Bool.and_true, Bool.true_and, Bool.false_eq_true, if_false, if_true, Prod.mk.injEq] at h1 h2 h3 h4 h5
 · exact .inl ⟨.inl ⟨h1.2.symm, h1.1.symm⟩, h2.2.symm, h5.2.symm, h2.1.symm⟩
 · exact .inl ⟨.inl ⟨h1.2.symm, h1.1.symm⟩, h2.2.symm, h5.2.symm, h2.1.symm⟩
 · exact .inl ⟨.inr ⟨h1.2.symm, by rw [← h1.1, ext_self]⟩, h2.2.symm, h5.2.symm, h2.1.symm⟩
 · refine .inr ⟨h1.2.symm, by rw [← h1.1, ext_self], h2.2.symm, h5.2.symm, ?_, fun a b => ext_both q1 q2 (by rw [h2.1, a]) (by rw [h5.1, b])⟩
   rcases q3 : faceK h with _ | _ <;> rw [q3] at h3 h4 <;> simp only [Bool.false_eq_true, if_false, if_true, Prod.mk.injEq] at h3 h4
   · exact .inl h3.2.symm
   · refine .inr ⟨h3.2.symm, ?_⟩
     cases one
     · exact .inl rfl
     · refine .inr ⟨rfl, ?_⟩
       cases two
       · exact .inl rfl
       · exact .inr ⟨rfl, by rw [← h4.1, ext_trans h2.1 h3.1], h4.2.symm⟩
theorem order_leaves {f g h : FaceP} {own one two both back : Bool} {e i j k m : Nat} (h1 : extK f f = (own, e)) (h2 : extK f g = (one, i)) (h3 : extK g h = (two, j)) (h4 : extK f h = (both, k)) (h5 : extK g f = (back, m)) :
 ((own = false ∧ e = 42 ∧ i = 42 ∧ m = 42 ∧ one = false) ∨ (own = true ∧ e = 0 ∧ i = 42 ∧ m = 42 ∧ one = false) ∨ (own = true ∧ e = 0 ∧ i = 0 ∧ m = 0 ∧ j = 42 ∧ one = false) ∨ (own = true ∧ e = 0 ∧ i = 0 ∧ m = 0 ∧ j = 42 ∧ one = true ∧ back = false) ∨
  (own = true ∧ e = 0 ∧ i = 0 ∧ m = 0 ∧ j = 0 ∧ one = false) ∨ (own = true ∧ e = 0 ∧ i = 0 ∧ m = 0 ∧ j = 0 ∧ one = true ∧ two = false ∧ back = false) ∨ (own = true ∧ e = 0 ∧ i = 0 ∧ m = 0 ∧ j = 0 ∧ one = true ∧ two = true ∧ both = true ∧ k = 0 ∧ back = false)) ∨
 ((f.needs = g.needs ∧ f.ops.length = g.ops.length ∧ ∀ o ∈ f.ops, o ∈ g.ops) ∧ ((own = true ∧ e = 0 ∧ i = 0 ∧ m = 0 ∧ j = 42 ∧ one = true ∧ back = true) ∨ (own = true ∧ e = 0 ∧ i = 0 ∧ m = 0 ∧ j = 0 ∧ one = true ∧ two = false ∧ back = true) ∨ (own = true ∧ e = 0 ∧ i = 0 ∧ m = 0 ∧ j = 0 ∧ one = true ∧ two = true ∧ both = true ∧ k = 0 ∧ back = true))) := by
 have h := order_facts h1 h2 h3 h4 h5
 clear h1 h2 h3 h4 h5
 rcases h with ⟨⟨h1, h2⟩ | ⟨h1, h2⟩, h3, h4, h5⟩ | ⟨h1, h2, h3, h4, h5, h6⟩
 · exact .inl (.inl ⟨h2, h1, h3, h4, h5⟩)
 · exact .inl (.inr (.inl ⟨h2, h1, h3, h4, h5⟩))
 · rcases h5 with h5 | ⟨h5, h7⟩
   · cases one
     · exact .inl (.inr (.inr (.inl ⟨h2, h1, h3, h4, h5, rfl⟩)))
     · cases back
       · exact .inl (.inr (.inr (.inr (.inl ⟨h2, h1, h3, h4, h5, rfl, rfl⟩))))
       · exact .inr ⟨h6 rfl rfl, .inl ⟨h2, h1, h3, h4, h5, rfl, rfl⟩⟩
   · rcases h7 with h7 | ⟨h7, h8⟩
     · exact .inl (.inr (.inr (.inr (.inr (.inl ⟨h2, h1, h3, h4, h5, h7⟩)))))
     · rcases h8 with h8 | ⟨h8, h9, h10⟩
       · cases back
         · exact .inl (.inr (.inr (.inr (.inr (.inr (.inl ⟨h2, h1, h3, h4, h5, h7, h8, rfl⟩))))))
         · exact .inr ⟨h6 h7 rfl, .inr (.inl ⟨h2, h1, h3, h4, h5, h7, h8, rfl⟩)⟩
       · cases back
         · exact .inl (.inr (.inr (.inr (.inr (.inr (.inr ⟨h2, h1, h3, h4, h5, h7, h8, h9, h10, rfl⟩))))))
         · exact .inr ⟨h6 h7 rfl, .inr (.inr ⟨h2, h1, h3, h4, h5, h7, h8, h9, h10, rfl⟩)⟩
theorem any_take {l : List OpP} {j : Nat} {x y : OpP} (hy : l[j]? = some y) : (l.take (j + 1)).any (fun o => decide (o = x)) = ((l.take j).any (fun o => decide (o = x)) || decide (y = x)) := by
 rw [List.take_add_one, hy, Option.toList_some, List.any_append]
 simp
set_option maxRecDepth 8000 in
set_option maxHeartbeats 25600000 in
theorem order_any (f g h : FaceP) (vf vg vh : Value) (w : World) (ht : Tab w) (hf : FaceV Any w vf f) (hg : FaceV Any w vg g) (hh : FaceV Any w vh h) :
 Calls Tryz.prog 12 #[vf, vg, vh] w fun e w' => e = .returned (.bool true) ∧ Below w.heap.size w w' := by
 obtain ⟨fn, fk, fp, fN, fO⟩ := f
 obtain ⟨gn, gk, gp, gN, gO⟩ := g
 obtain ⟨hn, hk, hp, hN, hO⟩ := h
 obtain ⟨v1, v4, rfl, fl, f1, f4⟩ := hf
 obtain ⟨v5, v6, rfl, gl, g5, g6⟩ := hg
 obtain ⟨v7, v8, rfl, hl, h7, h8⟩ := hh
 dsimp only at fl f1 f4 gl g5 g6 hl h7 h8
 obtain ⟨p1, c1, rfl, _⟩ := f1.shape
 obtain ⟨p4, c4, rfl, _, m4, _⟩ := f4.shape
 obtain ⟨p5, c5, rfl, _⟩ := g5.shape
 obtain ⟨p6, c6, rfl, _, m6, _⟩ := g6.shape
 obtain ⟨p7, c7, rfl, _⟩ := h7.shape
 obtain ⟨p8, c8, rfl, _⟩ := h8.shape
 unfold maxLen at m4 m6
 have hA := (Below.refl _ w).alloc (nl _) (.cells #[str fn, .int .u8 fk, .bool fp, .slice p1 fN.length c1, .slice p4 fO.length c4] 58)
 have hB := hA.alloc hA.size (.cells #[str gn, .int .u8 gk, .bool gp, .slice p5 gN.length c5, .slice p6 gO.length c6] 58)
 have hC := hB.alloc hB.size (.cells #[str hn, .int .u8 hk, .bool hp, .slice p7 hN.length c7, .slice p8 hO.length c8] 58)
 have k1 := heap_up (.cells #[str hn, .int .u8 hk, .bool hp, .slice p7 hN.length c7, .slice p8 hO.length c8] 58) (heap_up (.cells #[str gn, .int .u8 gk, .bool gp, .slice p5 gN.length c5, .slice p6 gO.length c6] 58) (heap_alloc_new w (.cells #[str fn, .int .u8 fk, .bool fp, .slice p1 fN.length c1, .slice p4 fO.length c4] 58)))
 have k2 := heap_up (.cells #[str hn, .int .u8 hk, .bool hp, .slice p7 hN.length c7, .slice p8 hO.length c8] 58) (heap_to (w := w.alloc (.cells #[str fn, .int .u8 fk, .bool fp, .slice p1 fN.length c1, .slice p4 fO.length c4] 58)) (n := w.heap.size + 1) (by simp) #[str gn, .int .u8 gk, .bool gp, .slice p5 gN.length c5, .slice p6 gO.length c6] 58)
 have k3 := heap_to (w := (w.alloc (.cells #[str fn, .int .u8 fk, .bool fp, .slice p1 fN.length c1, .slice p4 fO.length c4] 58)).alloc (.cells #[str gn, .int .u8 gk, .bool gp, .slice p5 gN.length c5, .slice p6 gO.length c6] 58)) (n := w.heap.size + 1 + 1) (by simp) #[str hn, .int .u8 hk, .bool hp, .slice p7 hN.length c7, .slice p8 hO.length c8] 58
 have F0 : FaceV Any (((w.alloc (.cells #[str fn, .int .u8 fk, .bool fp, .slice p1 fN.length c1, .slice p4 fO.length c4] 58)).alloc (.cells #[str gn, .int .u8 gk, .bool gp, .slice p5 gN.length c5, .slice p6 gO.length c6] 58)).alloc (.cells #[str hn, .int .u8 hk, .bool hp, .slice p7 hN.length c7, .slice p8 hO.length c8] 58)) (.agg #[str fn, .int .u8 fk, .bool fp, .slice p1 fN.length c1, .slice p4 fO.length c4]) ⟨fn, fk, fp, fN, fO⟩ := ⟨_, _, rfl, fl, f1.below hC (nl _), f4.below hC (nl _)⟩
 have G0 : FaceV Any (((w.alloc (.cells #[str fn, .int .u8 fk, .bool fp, .slice p1 fN.length c1, .slice p4 fO.length c4] 58)).alloc (.cells #[str gn, .int .u8 gk, .bool gp, .slice p5 gN.length c5, .slice p6 gO.length c6] 58)).alloc (.cells #[str hn, .int .u8 hk, .bool hp, .slice p7 hN.length c7, .slice p8 hO.length c8] 58)) (.agg #[str gn, .int .u8 gk, .bool gp, .slice p5 gN.length c5, .slice p6 gO.length c6]) ⟨gn, gk, gp, gN, gO⟩ := ⟨_, _, rfl, gl, g5.below hC (nl _), g6.below hC (nl _)⟩
 have H0 : FaceV Any (((w.alloc (.cells #[str fn, .int .u8 fk, .bool fp, .slice p1 fN.length c1, .slice p4 fO.length c4] 58)).alloc (.cells #[str gn, .int .u8 gk, .bool gp, .slice p5 gN.length c5, .slice p6 gO.length c6] 58)).alloc (.cells #[str hn, .int .u8 hk, .bool hp, .slice p7 hN.length c7, .slice p8 hO.length c8] 58)) (.agg #[str hn, .int .u8 hk, .bool hp, .slice p7 hN.length c7, .slice p8 hO.length c8]) ⟨hn, hk, hp, hN, hO⟩ := ⟨_, _, rfl, hl, h7.below hC (nl _), h8.below hC (nl _)⟩
 have HFW := lfew_any [⟨fn, fk, fp, fN, fO⟩, ⟨gn, gk, gp, gN, gO⟩, ⟨hn, hk, hp, hN, hO⟩] _ _ (faces_at (D := Any) (((w.alloc (.cells #[str fn, .int .u8 fk, .bool fp, .slice p1 fN.length c1, .slice p4 fO.length c4] 58)).alloc (.cells #[str gn, .int .u8 gk, .bool gp, .slice p5 gN.length c5, .slice p6 gO.length c6] 58)).alloc (.cells #[str hn, .int .u8 hk, .bool hp, .slice p7 hN.length c7, .slice p8 hO.length c8] 58)) (w.heap.size + 1 + 1 + 1) (by simp) trivial (l := [⟨fn, fk, fp, fN, fO⟩, ⟨gn, gk, gp, gN, gO⟩, ⟨hn, hk, hp, hN, hO⟩]) 58 (by simp [maxLen]) ⟨_, _, _, rfl, fl, f1.below hC (nl _), f4.below hC (nl _), _, _, _, rfl, gl, g5.below hC (nl _), g6.below hC (nl _), _, _, [], rfl, hl, h7.below hC (nl _), h8.below hC (nl _), rfl⟩)
 have HT := Lib.hid (fun W (hW : Below w.heap.size w W) => ht.below hW (nl _))
 have hD := hC.alloc hC.size (.cells #[str fn, .int .u8 fk, .bool fp, .slice p1 fN.length c1, .slice p4 fO.length c4, str gn, .int .u8 gk, .bool gp, .slice p5 gN.length c5, .slice p6 gO.length c6, str hn, .int .u8 hk, .bool hp, .slice p7 hN.length c7, .slice p8 hO.length c8] 58)
 rcases q0 : fewS [⟨fn, fk, fp, fN, fO⟩, ⟨gn, gk, gp, gN, gO⟩, ⟨hn, hk, hp, hN, hO⟩] with _ | _
 · rw [q0] at HFW
   clear F0 G0 H0 q0;have b1 := box5 k1;have b2 := box5 k2;have b3 := box5 k3;go_enter Tryz.func12, Tryz.ntmps12;go_wp2_with (first
    | (go_at_call 18; refine (shown_any _ (HT.out w5 B5)).mono ?_; rintro e w6 ⟨rfl, hb6⟩)
    | (go_at_call 15; refine HFW.mono ?_; clear HFW; rintro e w5 ⟨rfl, hb5⟩; have B5 := hD.trans (below_less hb5 hD.size)))
   go_ret;exact ⟨rfl, B5.trans (below_less hb6 B5.size)⟩
 rw [q0] at HFW
 have hfn := few_needs q0
 have fb := hfn ⟨fn, fk, fp, fN, fO⟩ (by simp)
 have gb := hfn ⟨gn, gk, gp, gN, gO⟩ (by simp)
 have hb := hfn ⟨hn, hk, hp, hN, hO⟩ (by simp)
 have HE := fun (a b : FaceP) va vb W' (hW : Below (((w.alloc (.cells #[str fn, .int .u8 fk, .bool fp, .slice p1 fN.length c1, .slice p4 fO.length c4] 58)).alloc (.cells #[str gn, .int .u8 gk, .bool gp, .slice p5 gN.length c5, .slice p6 gO.length c6] 58)).alloc (.cells #[str hn, .int .u8 hk, .bool hp, .slice p7 hN.length c7, .slice p8 hO.length c8] 58)).heap.size (((w.alloc (.cells #[str fn, .int .u8 fk, .bool fp, .slice p1 fN.length c1, .slice p4 fO.length c4] 58)).alloc (.cells #[str gn, .int .u8 gk, .bool gp, .slice p5 gN.length c5, .slice p6 gO.length c6] 58)).alloc (.cells #[str hn, .int .u8 hk, .bool hp, .slice p7 hN.length c7, .slice p8 hO.length c8] 58)) W') (ha : FaceV Any (((w.alloc (.cells #[str fn, .int .u8 fk, .bool fp, .slice p1 fN.length c1, .slice p4 fO.length c4] 58)).alloc (.cells #[str gn, .int .u8 gk, .bool gp, .slice p5 gN.length c5, .slice p6 gO.length c6] 58)).alloc (.cells #[str hn, .int .u8 hk, .bool hp, .slice p7 hN.length c7, .slice p8 hO.length c8] 58)) va a) (hb : FaceV Any (((w.alloc (.cells #[str fn, .int .u8 fk, .bool fp, .slice p1 fN.length c1, .slice p4 fO.length c4] 58)).alloc (.cells #[str gn, .int .u8 gk, .bool gp, .slice p5 gN.length c5, .slice p6 gO.length c6] 58)).alloc (.cells #[str hn, .int .u8 hk, .bool hp, .slice p7 hN.length c7, .slice p8 hO.length c8] 58)) vb b) na nb => extends_any a b va vb W' (HT.out W' (hC.trans (below_less hW hC.size))) (ha.below hW (nl _)) (hb.below hW (nl _)) na nb
 have E1 := fun W' hW => HE _ _ _ _ W' hW F0 F0 fb fb
 have E2 := fun W' hW => HE _ _ _ _ W' hW F0 G0 fb gb
 have E3 := fun W' hW => HE _ _ _ _ W' hW G0 H0 gb hb
 have E4 := fun W' hW => HE _ _ _ _ W' hW F0 H0 fb hb
 have E5 := fun W' hW => HE _ _ _ _ W' hW G0 F0 gb fb
 clear HE
 have HK := Lib.hid (fun W' (hW : Below (((w.alloc (.cells #[str fn, .int .u8 fk, .bool fp, .slice p1 fN.length c1, .slice p4 fO.length c4] 58)).alloc (.cells #[str gn, .int .u8 gk, .bool gp, .slice p5 gN.length c5, .slice p6 gO.length c6] 58)).alloc (.cells #[str hn, .int .u8 hk, .bool hp, .slice p7 hN.length c7, .slice p8 hO.length c8] 58)).heap.size (((w.alloc (.cells #[str fn, .int .u8 fk, .bool fp, .slice p1 fN.length c1, .slice p4 fO.length c4] 58)).alloc (.cells #[str gn, .int .u8 gk, .bool gp, .slice p5 gN.length c5, .slice p6 gO.length c6] 58)).alloc (.cells #[str hn, .int .u8 hk, .bool hp, .slice p7 hN.length c7, .slice p8 hO.length c8] 58)) W') => And.intro (box5 (kept_call k1 hW)) (And.intro (box5 (kept_call k2 hW)) (box5 (kept_call k3 hW))))
 have hR := (Below.refl _ (((w.alloc (.cells #[str fn, .int .u8 fk, .bool fp, .slice p1 fN.length c1, .slice p4 fO.length c4] 58)).alloc (.cells #[str gn, .int .u8 gk, .bool gp, .slice p5 gN.length c5, .slice p6 gO.length c6] 58)).alloc (.cells #[str hn, .int .u8 hk, .bool hp, .slice p7 hN.length c7, .slice p8 hO.length c8] 58))).alloc (nl _) (.cells #[str fn, .int .u8 fk, .bool fp, .slice p1 fN.length c1, .slice p4 fO.length c4, str gn, .int .u8 gk, .bool gp, .slice p5 gN.length c5, .slice p6 gO.length c6, str hn, .int .u8 hk, .bool hp, .slice p7 hN.length c7, .slice p8 hO.length c8] 58)
 have b1 := box5 k1
 have b2 := box5 k2
 have b3 := box5 k3
 have f4' := Lib.hid (fun W' (hW : Below (((w.alloc (.cells #[str fn, .int .u8 fk, .bool fp, .slice p1 fN.length c1, .slice p4 fO.length c4] 58)).alloc (.cells #[str gn, .int .u8 gk, .bool gp, .slice p5 gN.length c5, .slice p6 gO.length c6] 58)).alloc (.cells #[str hn, .int .u8 hk, .bool hp, .slice p7 hN.length c7, .slice p8 hO.length c8] 58)).heap.size (((w.alloc (.cells #[str fn, .int .u8 fk, .bool fp, .slice p1 fN.length c1, .slice p4 fO.length c4] 58)).alloc (.cells #[str gn, .int .u8 gk, .bool gp, .slice p5 gN.length c5, .slice p6 gO.length c6] 58)).alloc (.cells #[str hn, .int .u8 hk, .bool hp, .slice p7 hN.length c7, .slice p8 hO.length c8] 58)) W') => (f4.below hC (nl _)).below hW (nl _))
 have g6' := Lib.hid (fun W' (hW : Below (((w.alloc (.cells #[str fn, .int .u8 fk, .bool fp, .slice p1 fN.length c1, .slice p4 fO.length c4] 58)).alloc (.cells #[str gn, .int .u8 gk, .bool gp, .slice p5 gN.length c5, .slice p6 gO.length c6] 58)).alloc (.cells #[str hn, .int .u8 hk, .bool hp, .slice p7 hN.length c7, .slice p8 hO.length c8] 58)).heap.size (((w.alloc (.cells #[str fn, .int .u8 fk, .bool fp, .slice p1 fN.length c1, .slice p4 fO.length c4] 58)).alloc (.cells #[str gn, .int .u8 gk, .bool gp, .slice p5 gN.length c5, .slice p6 gO.length c6] 58)).alloc (.cells #[str hn, .int .u8 hk, .bool hp, .slice p7 hN.length c7, .slice p8 hO.length c8] 58)) W') => (g6.below hC (nl _)).below hW (nl _))
 have HSN := fun W' (hW : Below (((w.alloc (.cells #[str fn, .int .u8 fk, .bool fp, .slice p1 fN.length c1, .slice p4 fO.length c4] 58)).alloc (.cells #[str gn, .int .u8 gk, .bool gp, .slice p5 gN.length c5, .slice p6 gO.length c6] 58)).alloc (.cells #[str hn, .int .u8 hk, .bool hp, .slice p7 hN.length c7, .slice p8 hO.length c8] 58)).heap.size (((w.alloc (.cells #[str fn, .int .u8 fk, .bool fp, .slice p1 fN.length c1, .slice p4 fO.length c4] 58)).alloc (.cells #[str gn, .int .u8 gk, .bool gp, .slice p5 gN.length c5, .slice p6 gO.length c6] 58)).alloc (.cells #[str hn, .int .u8 hk, .bool hp, .slice p7 hN.length c7, .slice p8 hO.length c8] 58)) W') => rsameNeeds_any fN gN _ _ W' ((f1.below hC (nl _)).below hW (nl _)) ((g5.below hC (nl _)).below hW (nl _))
 clear F0 G0 H0 q0 hfn k1 k2 k3 hD f1 f4 g5 g6 h7 h8
 rcases x1 : extK ⟨fn, fk, fp, fN, fO⟩ ⟨fn, fk, fp, fN, fO⟩ with ⟨own, e⟩
 rcases x2 : extK ⟨fn, fk, fp, fN, fO⟩ ⟨gn, gk, gp, gN, gO⟩ with ⟨one, i⟩
 rcases x3 : extK ⟨gn, gk, gp, gN, gO⟩ ⟨hn, hk, hp, hN, hO⟩ with ⟨two, j⟩
 rcases x4 : extK ⟨fn, fk, fp, fN, fO⟩ ⟨hn, hk, hp, hN, hO⟩ with ⟨both, k⟩
 rcases x5 : extK ⟨gn, gk, gp, gN, gO⟩ ⟨fn, fk, fp, fN, fO⟩ with ⟨back, m⟩
 have hlv := order_leaves x1 x2 x3 x4 x5
 rw [x1] at E1
 rw [x2] at E2
 rw [x3] at E3
 rw [x4] at E4
 rw [x5] at E5
 clear x1 x2 x3 x4 x5
 go_enter Tryz.func12, Tryz.ntmps12
 go_upto_region 8 with (first
  | (go_at_call 45; refine (E5 w9 B9).mono ?_; clear E5; rintro e w10 ⟨rfl, hb10⟩; have B10 := B9.trans (below_less hb10 B9.size); have kk10 := HK.out w10 B10)
  | (go_at_call 45; refine (E4 w8 B8).mono ?_; clear E4; rintro e w9 ⟨rfl, hb9⟩; have B9 := B8.trans (below_less hb9 B8.size); have kk9 := HK.out w9 B9)
  | (go_at_call 45; refine (E3 w7 B7).mono ?_; clear E3; rintro e w8 ⟨rfl, hb8⟩; have B8 := B7.trans (below_less hb8 B7.size); have kk8 := HK.out w8 B8)
  | (go_at_call 45; refine (E2 w6 B6).mono ?_; clear E2; rintro e w7 ⟨rfl, hb7⟩; have B7 := B6.trans (below_less hb7 B6.size); have kk7 := HK.out w7 B7)
  | (go_at_call 45; refine (E1 w5 B5).mono ?_; clear E1; rintro e w6 ⟨rfl, hb6⟩; have B6 := B5.trans (below_less hb6 B5.size); have kk6 := HK.out w6 B6)
  | (go_at_call 15; refine HFW.mono ?_; clear HFW; rintro e w5 ⟨rfl, hb5⟩; have B5 := hR.trans (below_less hb5 hR.size); have kk5 := HK.out w5 B5))
 clear b1 b2 b3 kk5 kk6 kk7 kk8 kk9
 rcases hlv with hlv | ⟨hm, hlv⟩
 · rcases hlv with ⟨rfl, rfl, rfl, rfl, rfl⟩ | ⟨rfl, rfl, rfl, rfl, rfl⟩ | ⟨rfl, rfl, rfl, rfl, rfl, rfl⟩ | ⟨rfl, rfl, rfl, rfl, rfl, rfl, rfl⟩ | ⟨rfl, rfl, rfl, rfl, rfl, rfl⟩ | ⟨rfl, rfl, rfl, rfl, rfl, rfl, rfl, rfl⟩ | ⟨rfl, rfl, rfl, rfl, rfl, rfl, rfl, rfl, rfl, rfl⟩
   · go_wp2_with (go_at_call 18; refine (shown_any _ (HT.out w10 (hC.trans (below_less B10 hC.size)))).mono ?_; rintro e w11 ⟨rfl, hb11⟩)
     go_ret;exact ⟨rfl, (hC.trans (below_less B10 hC.size)).trans (below_less hb11 (hC.trans (below_less B10 hC.size)).size)⟩
   · go_wp2_with (go_at_call 18; refine (shown_any _ (HT.out w10 (hC.trans (below_less B10 hC.size)))).mono ?_; rintro e w11 ⟨rfl, hb11⟩)
     go_ret;exact ⟨rfl, (hC.trans (below_less B10 hC.size)).trans (below_less hb11 (hC.trans (below_less B10 hC.size)).size)⟩
   · go_wp2_with (go_at_call 18; refine (shown_any _ (HT.out w10 (hC.trans (below_less B10 hC.size)))).mono ?_; rintro e w11 ⟨rfl, hb11⟩)
     go_ret;exact ⟨rfl, (hC.trans (below_less B10 hC.size)).trans (below_less hb11 (hC.trans (below_less B10 hC.size)).size)⟩
   · go_wp2_with (go_at_call 18; refine (shown_any _ (HT.out w10 (hC.trans (below_less B10 hC.size)))).mono ?_; rintro e w11 ⟨rfl, hb11⟩)
     go_ret;exact ⟨rfl, (hC.trans (below_less B10 hC.size)).trans (below_less hb11 (hC.trans (below_less B10 hC.size)).size)⟩
   · go_wp2_with (go_at_call 18; refine (shown_any _ (HT.out w10 (hC.trans (below_less B10 hC.size)))).mono ?_; rintro e w11 ⟨rfl, hb11⟩)
     go_ret;exact ⟨rfl, (hC.trans (below_less B10 hC.size)).trans (below_less hb11 (hC.trans (below_less B10 hC.size)).size)⟩
   · go_wp2_with (go_at_call 18; refine (shown_any _ (HT.out w10 (hC.trans (below_less B10 hC.size)))).mono ?_; rintro e w11 ⟨rfl, hb11⟩)
     go_ret;exact ⟨rfl, (hC.trans (below_less B10 hC.size)).trans (below_less hb11 (hC.trans (below_less B10 hC.size)).size)⟩
   · go_wp2_with (go_at_call 18; refine (shown_any _ (HT.out w10 (hC.trans (below_less B10 hC.size)))).mono ?_; rintro e w11 ⟨rfl, hb11⟩)
     go_ret;exact ⟨rfl, (hC.trans (below_less B10 hC.size)).trans (below_less hb11 (hC.trans (below_less B10 hC.size)).size)⟩
 · try dsimp only at hm
   obtain ⟨hm1, hm2, hm3⟩ := hm;have hd : decide (fN = gN) = true := decide_eq_true hm1;simp only [hd] at HSN;have g0 : ((fO.length : Int) != (gO.length : Int)) = false := by rw [hm2]; simp
   have HM := Lib.hid hm3;clear hd hm1 hm2 hm3;rcases hlv with ⟨rfl, rfl, rfl, rfl, rfl, rfl, rfl⟩ | ⟨rfl, rfl, rfl, rfl, rfl, rfl, rfl, rfl⟩ | ⟨rfl, rfl, rfl, rfl, rfl, rfl, rfl, rfl, rfl, rfl⟩
   · go_wp2_with (go_at_call 50; refine (HSN w10 B10).mono ?_; clear HSN; rintro e w11 ⟨rfl, hb11⟩; have B11 := B10.trans (below_less hb11 B10.size); have kk11 := HK.out w11 B11)
     clear kk10 kk11 g0 hb5 hb6 hb7 hb8 hb9 hb10 hb11 B5 B6 B7 B8 B9 B10 hR;go_loopw [17] (fun a wr => ∃ i : Nat, i ≤ fO.length ∧ a = .int .i64 i ∧ Below w11.heap.size w11 wr) (fun a _ => fO.length - (intOf a).toNat)
     case atStart => exact ⟨0, Nat.zero_le _, by go_num, Below.refl _ _⟩
     case round =>
      obtain ⟨i, hi, rfl, hr⟩ := hrel;have B12 := B11.trans (below_less hr B11.size);have kk := HK.out wr B12
      by_cases hlt : i < fO.length
      case neg =>
       go_wp2_with (go_at_call 18; refine (shown_any _ (HT.out wr (hC.trans (below_less B12 hC.size)))).mono ?_; rintro e w13 ⟨rfl, hb13⟩);go_ret;exact ⟨rfl, (hC.trans (below_less B12 hC.size)).trans (below_less hb13 (hC.trans (below_less B12 hC.size)).size)⟩
      case pos =>
       obtain ⟨x, hx⟩ : ∃ x, fO[i]? = some x := ⟨_, List.getElem?_eq_getElem hlt⟩
       have hxg := Lib.hid (HM.out x (List.mem_of_getElem? hx));obtain ⟨b1, o1, av, sv, hbe, _, hxl, hSa, hSs, pc0, pc1, pc2, pc3, pc4⟩ := (f4'.out wr B12).at hx;subst hbe;obtain ⟨x1, x2⟩ := x;dsimp only at hxl hSa hSs pc0 pc1 pc3;clear hx;go_wp2_with fail;clear kk;have B13 := B12;have hr13 := hr;clear B12 hr;generalize wr = wo at *;go_loopw [18, 19] (fun t y wx => ∃ j : Nat, j ≤ gO.length ∧ y = .int .i64 j ∧ t = .bool ((gO.take j).any fun o => decide (o = ⟨x1, x2⟩)) ∧ Below wo.heap.size wo wx) (fun _ y _ => gO.length - (intOf y).toNat)
       case atStart => exact ⟨0, Nat.zero_le _, by go_num, rfl, Below.refl _ _⟩
       case round =>
        obtain ⟨j, hj, rfl, rfl, hq⟩ := hrel;have B14 := B13.trans (below_less hq B13.size);obtain ⟨⟨⟨_, _, _, _, kf4⟩, _⟩, ⟨⟨_, _, _, _, kg4⟩, _⟩, _⟩ := HK.out wr B14
        by_cases hji : j < gO.length
        case neg =>
         have hie : j = gO.length := by omega
         subst hie;have hany : (gO.take gO.length).any (fun o => decide (o = ⟨x1, x2⟩)) = true := by
          rw [List.take_length, List.any_eq_true];exact ⟨_, hxg.out, decide_eq_true rfl⟩
         rw [hany];clear hany;go_wp2_with fail;exact ⟨⟨i + 1, hlt, by go_num, hr13.trans (below_less hq hr13.size)⟩, by simp only [intOf]; omega⟩
        case pos =>
         obtain ⟨y, hy⟩ : ∃ y, gO[j]? = some y := ⟨_, List.getElem?_eq_getElem hji⟩
         have HA := Lib.hid (any_take (x := ⟨x1, x2⟩) hy);rcases hT : (gO.take j).any (fun o => decide (o = ⟨x1, x2⟩)) with _ | _
         · obtain ⟨b2, o2, bv, tv, hbe, _, hyl, hTa, hTs, qc0, qc1, qc2, qc3, qc4⟩ := (g6'.out wr B14).at hy
           subst hbe;obtain ⟨y1, y2⟩ := y;dsimp only at hyl hTa hTs qc0 qc1 qc3;have pc0 := Below.keep hq pc0;have pc1 := Below.keep hq pc1;have pc2 := Below.keep hq pc2;have pc3 := Below.keep hq pc3;have pc4 := Below.keep hq pc4;have hSx : SigV Any wr (.agg #[.bool x2.iter, av, str x2.res, sv]) x2 := ⟨av, sv, rfl, hxl.2, hSa.below hq (nl _), hSs.below hq (nl _)⟩;have hSy : SigV Any wr (.agg #[.bool y2.iter, bv, str y2.res, tv]) y2 := ⟨bv, tv, rfl, hyl.2, hTa, hTs⟩;clear hy
           by_cases hnm : y1 = x1
           case neg =>
            have HZ := Lib.hid (HA.out.trans (by rw [hT, decide_eq_false (show ¬ (⟨y1, y2⟩ : OpP) = ⟨x1, x2⟩ from fun e => hnm (by injection e))]; first | done | rfl));have g1 : (y1 == x1) = false := by simpa using hnm
            clear hT HA hnm;go_upto_region 21 with fail;refine wp_region_spec (D := Any) (w := wr) 31 [(3, .eq (.pointer (some ⟨w.heap.size, 0, none⟩))), (4, .eq (.pointer (some ⟨w.heap.size + 1, 0, none⟩))), (17, .eq (.int .i64 i)), (18, .eq (.bool false)), (19, .eq (.int .i64 j))] [(.eq (.bool false)), (.eq (.bool false)), (.eq (.pointer (some ⟨w.heap.size + 1, 4, none⟩))), (.eq (.slice (some ⟨b2, o2, none⟩) gO.length c6)), (.eq (.int .i64 j)), (.eq (.pointer (some ⟨b2, o2 + j * 5, none⟩))), (.eq (.pointer (some ⟨b2, o2 + j * 5, none⟩))), (.eq (str y1)), (.eq (.pointer (some ⟨w.heap.size, 4, none⟩))), (.eq (.slice (some ⟨b1, o1, none⟩) fO.length c4)), (.eq (.int .i64 i)), (.eq (.pointer (some ⟨b1, o1 + i * 5, none⟩))), (.eq (.pointer (some ⟨b1, o1 + i * 5, none⟩))), (.eq (str x1)), (.eq (.bool false)), (.eq (.bool false)), (.skip), (.skip), (.skip), (.skip), (.skip), (.skip), (.skip), (.skip), (.skip), (.skip), (.skip), (.skip), (.skip), (.eq (.bool false)), (.eq (.bool false)), (.eq (.bool false))] (CellsAt [(⟨w.heap.size + 1, 4, none⟩, .slice (some ⟨b2, o2, none⟩) gO.length c6), (⟨w.heap.size, 4, none⟩, .slice (some ⟨b1, o1, none⟩) fO.length c4), (⟨b2, o2 + j * 5, none⟩, str y1), (⟨b1, o1 + i * 5, none⟩, str x1)]) (by kernel_rfl) (by kernel_rfl) (by kernel_rfl) (by kernel_rfl) (by kernel_rfl) (fun _ _ h hb => h.below hb) (fun p hp => by simp only [List.mem_cons, List.not_mem_nil, or_false] at hp; rcases hp with rfl | rfl | rfl | rfl <;> exact Below.keep (Below.refl _ wr).drew (by assumption)) ?_ ?_ ?_
            · intro p hp
              simp only [List.mem_cons, List.not_mem_nil, or_false] at hp;rcases hp with rfl | rfl | rfl | rfl | rfl
              · exact rfl
              · exact rfl
              · exact rfl
              · exact rfl
              · exact rfl
            · iterate 32
               refine And.intro ?_ ?_
               · first
                 | exact stSkip (by kernel_rfl) rfl
                 | exact stA (.inl rfl) (by kernel_rfl) rfl (by kernel_rfl)
                 | exact stA (.inr rfl) (by kernel_rfl) rfl (by kernel_rfl)
                 | exact stPick rfl (by kernel_rfl) rfl rfl (by kernel_rfl)
                 | exact stNot rfl (by kernel_rfl) rfl rfl rfl
                 | exact stLen rfl (by kernel_rfl) (by kernel_rfl) rfl rfl
                 | exact stFA rfl (by kernel_rfl) rfl rfl (fun w => by simp [go_sem])
                 | exact stIA rfl (by kernel_rfl) rfl rfl rfl (fun w => by simp [go_sem, hji, hlt])
                 | exact stLd rfl (by kernel_rfl) rfl rfl (fun w hS => by simp [go_sem, (hS.get 0 rfl), (hS.get 1 rfl), (hS.get 2 rfl), (hS.get 3 rfl)])
                 | exact stBin rfl (by kernel_rfl) rfl rfl rfl (fun w => by simp [go_sem, g1])
              exact trivial
            · intro aE vE wE hSE hbE haE _ hvE
              obtain rfl : vE = .bool false := hvE _ rfl;rw [haE];clear haE;simp only [List.take_succ_cons, List.take_zero, putsOf, pz, pw];go_wp2_with fail;exact ⟨⟨j + 1, hji, by go_num, by rw [HZ.out]; first | done | simp, hq.trans (below_less hbE hq.size)⟩, by simp only [intOf]; omega⟩
           case pos =>
            have g1 : (y1 == x1) = true := by simpa using hnm
            rcases hn : sameK y2 x2 with _ | _
            · have HZ := Lib.hid (HA.out.trans (by rw [hT, decide_eq_false (show ¬ (⟨y1, y2⟩ : OpP) = ⟨x1, x2⟩ from fun e => by injection e with _ e2; rw [(sameK_iff y2 x2).2 e2] at hn; cases hn)]; first | done | rfl))
              clear hT HA hnm;go_upto_region 21 with fail;refine wp_region_spec (D := Any) (w := wr) 31 [(3, .eq (.pointer (some ⟨w.heap.size, 0, none⟩))), (4, .eq (.pointer (some ⟨w.heap.size + 1, 0, none⟩))), (17, .eq (.int .i64 i)), (18, .eq (.bool false)), (19, .eq (.int .i64 j))] [(.eq (.bool false)), (.eq (.bool false)), (.eq (.pointer (some ⟨w.heap.size + 1, 4, none⟩))), (.eq (.slice (some ⟨b2, o2, none⟩) gO.length c6)), (.eq (.int .i64 j)), (.eq (.pointer (some ⟨b2, o2 + j * 5, none⟩))), (.eq (.pointer (some ⟨b2, o2 + j * 5, none⟩))), (.eq (str y1)), (.eq (.pointer (some ⟨w.heap.size, 4, none⟩))), (.eq (.slice (some ⟨b1, o1, none⟩) fO.length c4)), (.eq (.int .i64 i)), (.eq (.pointer (some ⟨b1, o1 + i * 5, none⟩))), (.eq (.pointer (some ⟨b1, o1 + i * 5, none⟩))), (.eq (str x1)), (.eq (.bool true)), (.eq (.bool true)), (.eq (.pointer (some ⟨w.heap.size + 1, 4, none⟩))), (.eq (.slice (some ⟨b2, o2, none⟩) gO.length c6)), (.eq (.int .i64 j)), (.eq (.pointer (some ⟨b2, o2 + j * 5, none⟩))), (.eq (.pointer (some ⟨b2, o2 + j * 5 + 1, none⟩))), (.eq (.agg #[.bool y2.iter, bv, str y2.res, tv])), (.eq (.pointer (some ⟨w.heap.size, 4, none⟩))), (.eq (.slice (some ⟨b1, o1, none⟩) fO.length c4)), (.eq (.int .i64 i)), (.eq (.pointer (some ⟨b1, o1 + i * 5, none⟩))), (.eq (.pointer (some ⟨b1, o1 + i * 5 + 1, none⟩))), (.eq (.agg #[.bool x2.iter, av, str x2.res, sv])), (.eq (.bool false)), (.eq (.bool false)), (.eq (.bool false)), (.eq (.bool false))] (fun w' => CellsAt [(⟨w.heap.size + 1, 4, none⟩, .slice (some ⟨b2, o2, none⟩) gO.length c6), (⟨w.heap.size, 4, none⟩, .slice (some ⟨b1, o1, none⟩) fO.length c4), (⟨b2, o2 + j * 5, none⟩, str y1), (⟨b1, o1 + i * 5, none⟩, str x1), (⟨b2, o2 + j * 5 + 1, none⟩, .bool y2.iter), (⟨b2, o2 + j * 5 + 2, none⟩, bv), (⟨b2, o2 + j * 5 + 3, none⟩, str y2.res), (⟨b2, o2 + j * 5 + 4, none⟩, tv), (⟨b1, o1 + i * 5 + 1, none⟩, .bool x2.iter), (⟨b1, o1 + i * 5 + 2, none⟩, av), (⟨b1, o1 + i * 5 + 3, none⟩, str x2.res), (⟨b1, o1 + i * 5 + 4, none⟩, sv)] w' ∧ (SigV Any w' (.agg #[.bool y2.iter, bv, str y2.res, tv]) y2 ∧ SigV Any w' (.agg #[.bool x2.iter, av, str x2.res, sv]) x2)) (by kernel_rfl) (by kernel_rfl) (by kernel_rfl) (by kernel_rfl) (by kernel_rfl) (fun _ _ h hb => ⟨h.1.below hb, ⟨SigV.below h.2.1 hb (nl _), SigV.below h.2.2 hb (nl _)⟩⟩) ⟨(fun p hp => by simp only [List.mem_cons, List.not_mem_nil, or_false] at hp; rcases hp with rfl | rfl | rfl | rfl | rfl | rfl | rfl | rfl | rfl | rfl | rfl | rfl <;> exact Below.keep (Below.refl _ wr).drew (by assumption)), SigV.below hSy (Below.refl _ wr).drew (nl _), SigV.below hSx (Below.refl _ wr).drew (nl _)⟩ ?_ ?_ ?_
              · intro p hp
                simp only [List.mem_cons, List.not_mem_nil, or_false] at hp;rcases hp with rfl | rfl | rfl | rfl | rfl
                · exact rfl
                · exact rfl
                · exact rfl
                · exact rfl
                · exact rfl
              · iterate 32
                 refine And.intro ?_ ?_
                 · first
                   | exact stSkip (by kernel_rfl) rfl
                   | exact stA (.inl rfl) (by kernel_rfl) rfl (by kernel_rfl)
                   | exact stA (.inr rfl) (by kernel_rfl) rfl (by kernel_rfl)
                   | exact stPick rfl (by kernel_rfl) rfl rfl (by kernel_rfl)
                   | exact stNot rfl (by kernel_rfl) rfl rfl rfl
                   | exact stLen rfl (by kernel_rfl) (by kernel_rfl) rfl rfl
                   | exact stFA rfl (by kernel_rfl) rfl rfl (fun w => by simp [go_sem])
                   | exact stIA rfl (by kernel_rfl) rfl rfl rfl (fun w => by simp [go_sem, hji, hlt])
                   | exact stLd rfl (by kernel_rfl) rfl rfl (fun w hS => by simp [go_sem, (hS.1.get 0 rfl), (hS.1.get 1 rfl), (hS.1.get 2 rfl), (hS.1.get 3 rfl), (hS.1.get 4 rfl), (hS.1.get 5 rfl), (hS.1.get 6 rfl), (hS.1.get 7 rfl), (hS.1.get 8 rfl), (hS.1.get 9 rfl), (hS.1.get 10 rfl), (hS.1.get 11 rfl)])
                   | exact stCall2 (s1 := .eq (.agg #[.bool y2.iter, bv, str y2.res, tv])) (s2 := .eq (.agg #[.bool x2.iter, av, str x2.res, sv])) rfl (enters_of Tryz.func26 (by kernel_rfl) rfl) (by kernel_rfl) rfl rfl rfl (fun v v2 wx hS h1 h2 => by rw [show v = .agg #[.bool y2.iter, bv, str y2.res, tv] from h1, show v2 = .agg #[.bool x2.iter, av, str x2.res, sv] from h2]; exact (rsig_any _ _ _ _ wx hS.2.1 hS.2.2).mono (by rw [hn]; rintro e w' ⟨rfl, hb⟩; exact ⟨_, rfl, rfl, hb⟩))
                   | exact stBin rfl (by kernel_rfl) rfl rfl rfl (fun w => by simp [go_sem, g1])
                exact trivial
              · intro aE vE wE hSE hbE haE _ hvE
                obtain rfl : vE = .bool false := hvE _ rfl;rw [haE];clear haE;simp only [List.take_succ_cons, List.take_zero, putsOf, pz, pw];go_wp2_with fail;exact ⟨⟨j + 1, hji, by go_num, by rw [HZ.out]; first | done | simp, hq.trans (below_less hbE hq.size)⟩, by simp only [intOf]; omega⟩
            · have HZ := Lib.hid (HA.out.trans (by rw [hT, decide_eq_true (show (⟨y1, y2⟩ : OpP) = ⟨x1, x2⟩ by rw [hnm, (sameK_iff y2 x2).1 hn])]; first | done | rfl))
              clear hT HA hnm;go_upto_region 21 with fail;refine wp_region_spec (D := Any) (w := wr) 31 [(3, .eq (.pointer (some ⟨w.heap.size, 0, none⟩))), (4, .eq (.pointer (some ⟨w.heap.size + 1, 0, none⟩))), (17, .eq (.int .i64 i)), (18, .eq (.bool false)), (19, .eq (.int .i64 j))] [(.eq (.bool false)), (.eq (.bool false)), (.eq (.pointer (some ⟨w.heap.size + 1, 4, none⟩))), (.eq (.slice (some ⟨b2, o2, none⟩) gO.length c6)), (.eq (.int .i64 j)), (.eq (.pointer (some ⟨b2, o2 + j * 5, none⟩))), (.eq (.pointer (some ⟨b2, o2 + j * 5, none⟩))), (.eq (str y1)), (.eq (.pointer (some ⟨w.heap.size, 4, none⟩))), (.eq (.slice (some ⟨b1, o1, none⟩) fO.length c4)), (.eq (.int .i64 i)), (.eq (.pointer (some ⟨b1, o1 + i * 5, none⟩))), (.eq (.pointer (some ⟨b1, o1 + i * 5, none⟩))), (.eq (str x1)), (.eq (.bool true)), (.eq (.bool true)), (.eq (.pointer (some ⟨w.heap.size + 1, 4, none⟩))), (.eq (.slice (some ⟨b2, o2, none⟩) gO.length c6)), (.eq (.int .i64 j)), (.eq (.pointer (some ⟨b2, o2 + j * 5, none⟩))), (.eq (.pointer (some ⟨b2, o2 + j * 5 + 1, none⟩))), (.eq (.agg #[.bool y2.iter, bv, str y2.res, tv])), (.eq (.pointer (some ⟨w.heap.size, 4, none⟩))), (.eq (.slice (some ⟨b1, o1, none⟩) fO.length c4)), (.eq (.int .i64 i)), (.eq (.pointer (some ⟨b1, o1 + i * 5, none⟩))), (.eq (.pointer (some ⟨b1, o1 + i * 5 + 1, none⟩))), (.eq (.agg #[.bool x2.iter, av, str x2.res, sv])), (.eq (.bool true)), (.eq (.bool true)), (.eq (.bool true)), (.eq (.bool true))] (fun w' => CellsAt [(⟨w.heap.size + 1, 4, none⟩, .slice (some ⟨b2, o2, none⟩) gO.length c6), (⟨w.heap.size, 4, none⟩, .slice (some ⟨b1, o1, none⟩) fO.length c4), (⟨b2, o2 + j * 5, none⟩, str y1), (⟨b1, o1 + i * 5, none⟩, str x1), (⟨b2, o2 + j * 5 + 1, none⟩, .bool y2.iter), (⟨b2, o2 + j * 5 + 2, none⟩, bv), (⟨b2, o2 + j * 5 + 3, none⟩, str y2.res), (⟨b2, o2 + j * 5 + 4, none⟩, tv), (⟨b1, o1 + i * 5 + 1, none⟩, .bool x2.iter), (⟨b1, o1 + i * 5 + 2, none⟩, av), (⟨b1, o1 + i * 5 + 3, none⟩, str x2.res), (⟨b1, o1 + i * 5 + 4, none⟩, sv)] w' ∧ (SigV Any w' (.agg #[.bool y2.iter, bv, str y2.res, tv]) y2 ∧ SigV Any w' (.agg #[.bool x2.iter, av, str x2.res, sv]) x2)) (by kernel_rfl) (by kernel_rfl) (by kernel_rfl) (by kernel_rfl) (by kernel_rfl) (fun _ _ h hb => ⟨h.1.below hb, ⟨SigV.below h.2.1 hb (nl _), SigV.below h.2.2 hb (nl _)⟩⟩) ⟨(fun p hp => by simp only [List.mem_cons, List.not_mem_nil, or_false] at hp; rcases hp with rfl | rfl | rfl | rfl | rfl | rfl | rfl | rfl | rfl | rfl | rfl | rfl <;> exact Below.keep (Below.refl _ wr).drew (by assumption)), SigV.below hSy (Below.refl _ wr).drew (nl _), SigV.below hSx (Below.refl _ wr).drew (nl _)⟩ ?_ ?_ ?_
              · intro p hp
                simp only [List.mem_cons, List.not_mem_nil, or_false] at hp;rcases hp with rfl | rfl | rfl | rfl | rfl
                · exact rfl
                · exact rfl
                · exact rfl
                · exact rfl
                · exact rfl
              · iterate 32
                 refine And.intro ?_ ?_
                 · first
                   | exact stSkip (by kernel_rfl) rfl
                   | exact stA (.inl rfl) (by kernel_rfl) rfl (by kernel_rfl)
                   | exact stA (.inr rfl) (by kernel_rfl) rfl (by kernel_rfl)
                   | exact stPick rfl (by kernel_rfl) rfl rfl (by kernel_rfl)
                   | exact stNot rfl (by kernel_rfl) rfl rfl rfl
                   | exact stLen rfl (by kernel_rfl) (by kernel_rfl) rfl rfl
                   | exact stFA rfl (by kernel_rfl) rfl rfl (fun w => by simp [go_sem])
                   | exact stIA rfl (by kernel_rfl) rfl rfl rfl (fun w => by simp [go_sem, hji, hlt])
                   | exact stLd rfl (by kernel_rfl) rfl rfl (fun w hS => by simp [go_sem, (hS.1.get 0 rfl), (hS.1.get 1 rfl), (hS.1.get 2 rfl), (hS.1.get 3 rfl), (hS.1.get 4 rfl), (hS.1.get 5 rfl), (hS.1.get 6 rfl), (hS.1.get 7 rfl), (hS.1.get 8 rfl), (hS.1.get 9 rfl), (hS.1.get 10 rfl), (hS.1.get 11 rfl)])
                   | exact stCall2 (s1 := .eq (.agg #[.bool y2.iter, bv, str y2.res, tv])) (s2 := .eq (.agg #[.bool x2.iter, av, str x2.res, sv])) rfl (enters_of Tryz.func26 (by kernel_rfl) rfl) (by kernel_rfl) rfl rfl rfl (fun v v2 wx hS h1 h2 => by rw [show v = .agg #[.bool y2.iter, bv, str y2.res, tv] from h1, show v2 = .agg #[.bool x2.iter, av, str x2.res, sv] from h2]; exact (rsig_any _ _ _ _ wx hS.2.1 hS.2.2).mono (by rw [hn]; rintro e w' ⟨rfl, hb⟩; exact ⟨_, rfl, rfl, hb⟩))
                   | exact stBin rfl (by kernel_rfl) rfl rfl rfl (fun w => by simp [go_sem, g1])
                exact trivial
              · intro aE vE wE hSE hbE haE _ hvE
                obtain rfl : vE = .bool true := hvE _ rfl;rw [haE];clear haE;simp only [List.take_succ_cons, List.take_zero, putsOf, pz, pw];go_wp2_with fail;exact ⟨⟨j + 1, hji, by go_num, by rw [HZ.out]; first | done | simp, hq.trans (below_less hbE hq.size)⟩, by simp only [intOf]; omega⟩
         · have HZ := Lib.hid (HA.out.trans (by rw [hT]; first | done | rfl))
           clear hT HA hy;go_upto_region 21 with fail;refine wp_region_spec (D := Any) (w := wr) 31 [(18, .eq (.bool true))] [(.eq (.bool true)), (.eq (.bool true)), (.skip), (.skip), (.skip), (.skip), (.skip), (.skip), (.skip), (.skip), (.skip), (.skip), (.skip), (.skip), (.skip), (.skip), (.skip), (.skip), (.skip), (.skip), (.skip), (.skip), (.skip), (.skip), (.skip), (.skip), (.skip), (.skip), (.skip), (.skip), (.eq (.bool true)), (.eq (.bool true))] (CellsAt []) (by kernel_rfl) (by kernel_rfl) (by kernel_rfl) (by kernel_rfl) (by kernel_rfl) (fun _ _ h hb => h.below hb) (fun p hp => by cases hp) ?_ ?_ ?_
           · intro p hp
             simp only [List.mem_cons, List.not_mem_nil, or_false] at hp;rcases hp with rfl
             · exact rfl
           · iterate 32
              refine And.intro ?_ ?_
              · first
                | exact stSkip (by kernel_rfl) rfl
                | exact stA (.inl rfl) (by kernel_rfl) rfl (by kernel_rfl)
                | exact stA (.inr rfl) (by kernel_rfl) rfl (by kernel_rfl)
                | exact stPick rfl (by kernel_rfl) rfl rfl (by kernel_rfl)
                | exact stNot rfl (by kernel_rfl) rfl rfl rfl
                | exact stLen rfl (by kernel_rfl) (by kernel_rfl) rfl rfl
                | exact stFA rfl (by kernel_rfl) rfl rfl (fun w => by simp [go_sem])
                | exact stIA rfl (by kernel_rfl) rfl rfl rfl (fun w => by simp [go_sem])
                | exact stLd rfl (by kernel_rfl) rfl rfl (fun w hS => by simp [go_sem])
                | exact stBin rfl (by kernel_rfl) rfl rfl rfl (fun w => by simp [go_sem])
             exact trivial
           · intro aE vE wE hSE hbE haE _ hvE
             obtain rfl : vE = .bool true := hvE _ rfl;rw [haE];clear haE;simp only [List.take_succ_cons, List.take_zero, putsOf, pz, pw];go_wp2_with fail;exact ⟨⟨j + 1, hji, by go_num, by rw [HZ.out]; first | done | simp, hq.trans (below_less hbE hq.size)⟩, by simp only [intOf]; omega⟩
   · go_wp2_with (go_at_call 50; refine (HSN w10 B10).mono ?_; clear HSN; rintro e w11 ⟨rfl, hb11⟩; have B11 := B10.trans (below_less hb11 B10.size); have kk11 := HK.out w11 B11)
     clear kk10 kk11 g0 hb5 hb6 hb7 hb8 hb9 hb10 hb11 B5 B6 B7 B8 B9 B10 hR;go_loopw [17] (fun a wr => ∃ i : Nat, i ≤ fO.length ∧ a = .int .i64 i ∧ Below w11.heap.size w11 wr) (fun a _ => fO.length - (intOf a).toNat)
     case atStart => exact ⟨0, Nat.zero_le _, by go_num, Below.refl _ _⟩
     case round =>
      obtain ⟨i, hi, rfl, hr⟩ := hrel;have B12 := B11.trans (below_less hr B11.size);have kk := HK.out wr B12
      by_cases hlt : i < fO.length
      case neg =>
       go_wp2_with (go_at_call 18; refine (shown_any _ (HT.out wr (hC.trans (below_less B12 hC.size)))).mono ?_; rintro e w13 ⟨rfl, hb13⟩);go_ret;exact ⟨rfl, (hC.trans (below_less B12 hC.size)).trans (below_less hb13 (hC.trans (below_less B12 hC.size)).size)⟩
      case pos =>
       obtain ⟨x, hx⟩ : ∃ x, fO[i]? = some x := ⟨_, List.getElem?_eq_getElem hlt⟩
       have hxg := Lib.hid (HM.out x (List.mem_of_getElem? hx));obtain ⟨b1, o1, av, sv, hbe, _, hxl, hSa, hSs, pc0, pc1, pc2, pc3, pc4⟩ := (f4'.out wr B12).at hx;subst hbe;obtain ⟨x1, x2⟩ := x;dsimp only at hxl hSa hSs pc0 pc1 pc3;clear hx;go_wp2_with fail;clear kk;have B13 := B12;have hr13 := hr;clear B12 hr;generalize wr = wo at *;go_loopw [18, 19] (fun t y wx => ∃ j : Nat, j ≤ gO.length ∧ y = .int .i64 j ∧ t = .bool ((gO.take j).any fun o => decide (o = ⟨x1, x2⟩)) ∧ Below wo.heap.size wo wx) (fun _ y _ => gO.length - (intOf y).toNat)
       case atStart => exact ⟨0, Nat.zero_le _, by go_num, rfl, Below.refl _ _⟩
       case round =>
        obtain ⟨j, hj, rfl, rfl, hq⟩ := hrel;have B14 := B13.trans (below_less hq B13.size);obtain ⟨⟨⟨_, _, _, _, kf4⟩, _⟩, ⟨⟨_, _, _, _, kg4⟩, _⟩, _⟩ := HK.out wr B14
        by_cases hji : j < gO.length
        case neg =>
         have hie : j = gO.length := by omega
         subst hie;have hany : (gO.take gO.length).any (fun o => decide (o = ⟨x1, x2⟩)) = true := by
          rw [List.take_length, List.any_eq_true];exact ⟨_, hxg.out, decide_eq_true rfl⟩
         rw [hany];clear hany;go_wp2_with fail;exact ⟨⟨i + 1, hlt, by go_num, hr13.trans (below_less hq hr13.size)⟩, by simp only [intOf]; omega⟩
        case pos =>
         obtain ⟨y, hy⟩ : ∃ y, gO[j]? = some y := ⟨_, List.getElem?_eq_getElem hji⟩
         have HA := Lib.hid (any_take (x := ⟨x1, x2⟩) hy);rcases hT : (gO.take j).any (fun o => decide (o = ⟨x1, x2⟩)) with _ | _
         · obtain ⟨b2, o2, bv, tv, hbe, _, hyl, hTa, hTs, qc0, qc1, qc2, qc3, qc4⟩ := (g6'.out wr B14).at hy
           subst hbe;obtain ⟨y1, y2⟩ := y;dsimp only at hyl hTa hTs qc0 qc1 qc3;have pc0 := Below.keep hq pc0;have pc1 := Below.keep hq pc1;have pc2 := Below.keep hq pc2;have pc3 := Below.keep hq pc3;have pc4 := Below.keep hq pc4;have hSx : SigV Any wr (.agg #[.bool x2.iter, av, str x2.res, sv]) x2 := ⟨av, sv, rfl, hxl.2, hSa.below hq (nl _), hSs.below hq (nl _)⟩;have hSy : SigV Any wr (.agg #[.bool y2.iter, bv, str y2.res, tv]) y2 := ⟨bv, tv, rfl, hyl.2, hTa, hTs⟩;clear hy
           by_cases hnm : y1 = x1
           case neg =>
            have HZ := Lib.hid (HA.out.trans (by rw [hT, decide_eq_false (show ¬ (⟨y1, y2⟩ : OpP) = ⟨x1, x2⟩ from fun e => hnm (by injection e))]; first | done | rfl));have g1 : (y1 == x1) = false := by simpa using hnm
            clear hT HA hnm;go_upto_region 21 with fail;refine wp_region_spec (D := Any) (w := wr) 31 [(3, .eq (.pointer (some ⟨w.heap.size, 0, none⟩))), (4, .eq (.pointer (some ⟨w.heap.size + 1, 0, none⟩))), (17, .eq (.int .i64 i)), (18, .eq (.bool false)), (19, .eq (.int .i64 j))] [(.eq (.bool false)), (.eq (.bool false)), (.eq (.pointer (some ⟨w.heap.size + 1, 4, none⟩))), (.eq (.slice (some ⟨b2, o2, none⟩) gO.length c6)), (.eq (.int .i64 j)), (.eq (.pointer (some ⟨b2, o2 + j * 5, none⟩))), (.eq (.pointer (some ⟨b2, o2 + j * 5, none⟩))), (.eq (str y1)), (.eq (.pointer (some ⟨w.heap.size, 4, none⟩))), (.eq (.slice (some ⟨b1, o1, none⟩) fO.length c4)), (.eq (.int .i64 i)), (.eq (.pointer (some ⟨b1, o1 + i * 5, none⟩))), (.eq (.pointer (some ⟨b1, o1 + i * 5, none⟩))), (.eq (str x1)), (.eq (.bool false)), (.eq (.bool false)), (.skip), (.skip), (.skip), (.skip), (.skip), (.skip), (.skip), (.skip), (.skip), (.skip), (.skip), (.skip), (.skip), (.eq (.bool false)), (.eq (.bool false)), (.eq (.bool false))] (CellsAt [(⟨w.heap.size + 1, 4, none⟩, .slice (some ⟨b2, o2, none⟩) gO.length c6), (⟨w.heap.size, 4, none⟩, .slice (some ⟨b1, o1, none⟩) fO.length c4), (⟨b2, o2 + j * 5, none⟩, str y1), (⟨b1, o1 + i * 5, none⟩, str x1)]) (by kernel_rfl) (by kernel_rfl) (by kernel_rfl) (by kernel_rfl) (by kernel_rfl) (fun _ _ h hb => h.below hb) (fun p hp => by simp only [List.mem_cons, List.not_mem_nil, or_false] at hp; rcases hp with rfl | rfl | rfl | rfl <;> exact Below.keep (Below.refl _ wr).drew (by assumption)) ?_ ?_ ?_
            · intro p hp
              simp only [List.mem_cons, List.not_mem_nil, or_false] at hp;rcases hp with rfl | rfl | rfl | rfl | rfl
              · exact rfl
              · exact rfl
              · exact rfl
              · exact rfl
              · exact rfl
            · iterate 32
               refine And.intro ?_ ?_
               · first
                 | exact stSkip (by kernel_rfl) rfl
                 | exact stA (.inl rfl) (by kernel_rfl) rfl (by kernel_rfl)
                 | exact stA (.inr rfl) (by kernel_rfl) rfl (by kernel_rfl)
                 | exact stPick rfl (by kernel_rfl) rfl rfl (by kernel_rfl)
                 | exact stNot rfl (by kernel_rfl) rfl rfl rfl
                 | exact stLen rfl (by kernel_rfl) (by kernel_rfl) rfl rfl
                 | exact stFA rfl (by kernel_rfl) rfl rfl (fun w => by simp [go_sem])
                 | exact stIA rfl (by kernel_rfl) rfl rfl rfl (fun w => by simp [go_sem, hji, hlt])
                 | exact stLd rfl (by kernel_rfl) rfl rfl (fun w hS => by simp [go_sem, (hS.get 0 rfl), (hS.get 1 rfl), (hS.get 2 rfl), (hS.get 3 rfl)])
                 | exact stBin rfl (by kernel_rfl) rfl rfl rfl (fun w => by simp [go_sem, g1])
              exact trivial
            · intro aE vE wE hSE hbE haE _ hvE
              obtain rfl : vE = .bool false := hvE _ rfl;rw [haE];clear haE;simp only [List.take_succ_cons, List.take_zero, putsOf, pz, pw];go_wp2_with fail;exact ⟨⟨j + 1, hji, by go_num, by rw [HZ.out]; first | done | simp, hq.trans (below_less hbE hq.size)⟩, by simp only [intOf]; omega⟩
           case pos =>
            have g1 : (y1 == x1) = true := by simpa using hnm
            rcases hn : sameK y2 x2 with _ | _
            · have HZ := Lib.hid (HA.out.trans (by rw [hT, decide_eq_false (show ¬ (⟨y1, y2⟩ : OpP) = ⟨x1, x2⟩ from fun e => by injection e with _ e2; rw [(sameK_iff y2 x2).2 e2] at hn; cases hn)]; first | done | rfl))
              clear hT HA hnm;go_upto_region 21 with fail;refine wp_region_spec (D := Any) (w := wr) 31 [(3, .eq (.pointer (some ⟨w.heap.size, 0, none⟩))), (4, .eq (.pointer (some ⟨w.heap.size + 1, 0, none⟩))), (17, .eq (.int .i64 i)), (18, .eq (.bool false)), (19, .eq (.int .i64 j))] [(.eq (.bool false)), (.eq (.bool false)), (.eq (.pointer (some ⟨w.heap.size + 1, 4, none⟩))), (.eq (.slice (some ⟨b2, o2, none⟩) gO.length c6)), (.eq (.int .i64 j)), (.eq (.pointer (some ⟨b2, o2 + j * 5, none⟩))), (.eq (.pointer (some ⟨b2, o2 + j * 5, none⟩))), (.eq (str y1)), (.eq (.pointer (some ⟨w.heap.size, 4, none⟩))), (.eq (.slice (some ⟨b1, o1, none⟩) fO.length c4)), (.eq (.int .i64 i)), (.eq (.pointer (some ⟨b1, o1 + i * 5, none⟩))), (.eq (.pointer (some ⟨b1, o1 + i * 5, none⟩))), (.eq (str x1)), (.eq (.bool true)), (.eq (.bool true)), (.eq (.pointer (some ⟨w.heap.size + 1, 4, none⟩))), (.eq (.slice (some ⟨b2, o2, none⟩) gO.length c6)), (.eq (.int .i64 j)), (.eq (.pointer (some ⟨b2, o2 + j * 5, none⟩))), (.eq (.pointer (some ⟨b2, o2 + j * 5 + 1, none⟩))), (.eq (.agg #[.bool y2.iter, bv, str y2.res, tv])), (.eq (.pointer (some ⟨w.heap.size, 4, none⟩))), (.eq (.slice (some ⟨b1, o1, none⟩) fO.length c4)), (.eq (.int .i64 i)), (.eq (.pointer (some ⟨b1, o1 + i * 5, none⟩))), (.eq (.pointer (some ⟨b1, o1 + i * 5 + 1, none⟩))), (.eq (.agg #[.bool x2.iter, av, str x2.res, sv])), (.eq (.bool false)), (.eq (.bool false)), (.eq (.bool false)), (.eq (.bool false))] (fun w' => CellsAt [(⟨w.heap.size + 1, 4, none⟩, .slice (some ⟨b2, o2, none⟩) gO.length c6), (⟨w.heap.size, 4, none⟩, .slice (some ⟨b1, o1, none⟩) fO.length c4), (⟨b2, o2 + j * 5, none⟩, str y1), (⟨b1, o1 + i * 5, none⟩, str x1), (⟨b2, o2 + j * 5 + 1, none⟩, .bool y2.iter), (⟨b2, o2 + j * 5 + 2, none⟩, bv), (⟨b2, o2 + j * 5 + 3, none⟩, str y2.res), (⟨b2, o2 + j * 5 + 4, none⟩, tv), (⟨b1, o1 + i * 5 + 1, none⟩, .bool x2.iter), (⟨b1, o1 + i * 5 + 2, none⟩, av), (⟨b1, o1 + i * 5 + 3, none⟩, str x2.res), (⟨b1, o1 + i * 5 + 4, none⟩, sv)] w' ∧ (SigV Any w' (.agg #[.bool y2.iter, bv, str y2.res, tv]) y2 ∧ SigV Any w' (.agg #[.bool x2.iter, av, str x2.res, sv]) x2)) (by kernel_rfl) (by kernel_rfl) (by kernel_rfl) (by kernel_rfl) (by kernel_rfl) (fun _ _ h hb => ⟨h.1.below hb, ⟨SigV.below h.2.1 hb (nl _), SigV.below h.2.2 hb (nl _)⟩⟩) ⟨(fun p hp => by simp only [List.mem_cons, List.not_mem_nil, or_false] at hp; rcases hp with rfl | rfl | rfl | rfl | rfl | rfl | rfl | rfl | rfl | rfl | rfl | rfl <;> exact Below.keep (Below.refl _ wr).drew (by assumption)), SigV.below hSy (Below.refl _ wr).drew (nl _), SigV.below hSx (Below.refl _ wr).drew (nl _)⟩ ?_ ?_ ?_
              · intro p hp
                simp only [List.mem_cons, List.not_mem_nil, or_false] at hp;rcases hp with rfl | rfl | rfl | rfl | rfl
                · exact rfl
                · exact rfl
                · exact rfl
                · exact rfl
                · exact rfl
              · iterate 32
                 refine And.intro ?_ ?_
                 · first
                   | exact stSkip (by kernel_rfl) rfl
                   | exact stA (.inl rfl) (by kernel_rfl) rfl (by kernel_rfl)
                   | exact stA (.inr rfl) (by kernel_rfl) rfl (by kernel_rfl)
                   | exact stPick rfl (by kernel_rfl) rfl rfl (by kernel_rfl)
                   | exact stNot rfl (by kernel_rfl) rfl rfl rfl
                   | exact stLen rfl (by kernel_rfl) (by kernel_rfl) rfl rfl
                   | exact stFA rfl (by kernel_rfl) rfl rfl (fun w => by simp [go_sem])
                   | exact stIA rfl (by kernel_rfl) rfl rfl rfl (fun w => by simp [go_sem, hji, hlt])
                   | exact stLd rfl (by kernel_rfl) rfl rfl (fun w hS => by simp [go_sem, (hS.1.get 0 rfl), (hS.1.get 1 rfl), (hS.1.get 2 rfl), (hS.1.get 3 rfl), (hS.1.get 4 rfl), (hS.1.get 5 rfl), (hS.1.get 6 rfl), (hS.1.get 7 rfl), (hS.1.get 8 rfl), (hS.1.get 9 rfl), (hS.1.get 10 rfl), (hS.1.get 11 rfl)])
                   | exact stCall2 (s1 := .eq (.agg #[.bool y2.iter, bv, str y2.res, tv])) (s2 := .eq (.agg #[.bool x2.iter, av, str x2.res, sv])) rfl (enters_of Tryz.func26 (by kernel_rfl) rfl) (by kernel_rfl) rfl rfl rfl (fun v v2 wx hS h1 h2 => by rw [show v = .agg #[.bool y2.iter, bv, str y2.res, tv] from h1, show v2 = .agg #[.bool x2.iter, av, str x2.res, sv] from h2]; exact (rsig_any _ _ _ _ wx hS.2.1 hS.2.2).mono (by rw [hn]; rintro e w' ⟨rfl, hb⟩; exact ⟨_, rfl, rfl, hb⟩))
                   | exact stBin rfl (by kernel_rfl) rfl rfl rfl (fun w => by simp [go_sem, g1])
                exact trivial
              · intro aE vE wE hSE hbE haE _ hvE
                obtain rfl : vE = .bool false := hvE _ rfl;rw [haE];clear haE;simp only [List.take_succ_cons, List.take_zero, putsOf, pz, pw];go_wp2_with fail;exact ⟨⟨j + 1, hji, by go_num, by rw [HZ.out]; first | done | simp, hq.trans (below_less hbE hq.size)⟩, by simp only [intOf]; omega⟩
            · have HZ := Lib.hid (HA.out.trans (by rw [hT, decide_eq_true (show (⟨y1, y2⟩ : OpP) = ⟨x1, x2⟩ by rw [hnm, (sameK_iff y2 x2).1 hn])]; first | done | rfl))
              clear hT HA hnm;go_upto_region 21 with fail;refine wp_region_spec (D := Any) (w := wr) 31 [(3, .eq (.pointer (some ⟨w.heap.size, 0, none⟩))), (4, .eq (.pointer (some ⟨w.heap.size + 1, 0, none⟩))), (17, .eq (.int .i64 i)), (18, .eq (.bool false)), (19, .eq (.int .i64 j))] [(.eq (.bool false)), (.eq (.bool false)), (.eq (.pointer (some ⟨w.heap.size + 1, 4, none⟩))), (.eq (.slice (some ⟨b2, o2, none⟩) gO.length c6)), (.eq (.int .i64 j)), (.eq (.pointer (some ⟨b2, o2 + j * 5, none⟩))), (.eq (.pointer (some ⟨b2, o2 + j * 5, none⟩))), (.eq (str y1)), (.eq (.pointer (some ⟨w.heap.size, 4, none⟩))), (.eq (.slice (some ⟨b1, o1, none⟩) fO.length c4)), (.eq (.int .i64 i)), (.eq (.pointer (some ⟨b1, o1 + i * 5, none⟩))), (.eq (.pointer (some ⟨b1, o1 + i * 5, none⟩))), (.eq (str x1)), (.eq (.bool true)), (.eq (.bool true)), (.eq (.pointer (some ⟨w.heap.size + 1, 4, none⟩))), (.eq (.slice (some ⟨b2, o2, none⟩) gO.length c6)), (.eq (.int .i64 j)), (.eq (.pointer (some ⟨b2, o2 + j * 5, none⟩))), (.eq (.pointer (some ⟨b2, o2 + j * 5 + 1, none⟩))), (.eq (.agg #[.bool y2.iter, bv, str y2.res, tv])), (.eq (.pointer (some ⟨w.heap.size, 4, none⟩))), (.eq (.slice (some ⟨b1, o1, none⟩) fO.length c4)), (.eq (.int .i64 i)), (.eq (.pointer (some ⟨b1, o1 + i * 5, none⟩))), (.eq (.pointer (some ⟨b1, o1 + i * 5 + 1, none⟩))), (.eq (.agg #[.bool x2.iter, av, str x2.res, sv])), (.eq (.bool true)), (.eq (.bool true)), (.eq (.bool true)), (.eq (.bool true))] (fun w' => CellsAt [(⟨w.heap.size + 1, 4, none⟩, .slice (some ⟨b2, o2, none⟩) gO.length c6), (⟨w.heap.size, 4, none⟩, .slice (some ⟨b1, o1, none⟩) fO.length c4), (⟨b2, o2 + j * 5, none⟩, str y1), (⟨b1, o1 + i * 5, none⟩, str x1), (⟨b2, o2 + j * 5 + 1, none⟩, .bool y2.iter), (⟨b2, o2 + j * 5 + 2, none⟩, bv), (⟨b2, o2 + j * 5 + 3, none⟩, str y2.res), (⟨b2, o2 + j * 5 + 4, none⟩, tv), (⟨b1, o1 + i * 5 + 1, none⟩, .bool x2.iter), (⟨b1, o1 + i * 5 + 2, none⟩, av), (⟨b1, o1 + i * 5 + 3, none⟩, str x2.res), (⟨b1, o1 + i * 5 + 4, none⟩, sv)] w' ∧ (SigV Any w' (.agg #[.bool y2.iter, bv, str y2.res, tv]) y2 ∧ SigV Any w' (.agg #[.bool x2.iter, av, str x2.res, sv]) x2)) (by kernel_rfl) (by kernel_rfl) (by kernel_rfl) (by kernel_rfl) (by kernel_rfl) (fun _ _ h hb => ⟨h.1.below hb, ⟨SigV.below h.2.1 hb (nl _), SigV.below h.2.2 hb (nl _)⟩⟩) ⟨(fun p hp => by simp only [List.mem_cons, List.not_mem_nil, or_false] at hp; rcases hp with rfl | rfl | rfl | rfl | rfl | rfl | rfl | rfl | rfl | rfl | rfl | rfl <;> exact Below.keep (Below.refl _ wr).drew (by assumption)), SigV.below hSy (Below.refl _ wr).drew (nl _), SigV.below hSx (Below.refl _ wr).drew (nl _)⟩ ?_ ?_ ?_
              · intro p hp
                simp only [List.mem_cons, List.not_mem_nil, or_false] at hp;rcases hp with rfl | rfl | rfl | rfl | rfl
                · exact rfl
                · exact rfl
                · exact rfl
                · exact rfl
                · exact rfl
              · iterate 32
                 refine And.intro ?_ ?_
                 · first
                   | exact stSkip (by kernel_rfl) rfl
                   | exact stA (.inl rfl) (by kernel_rfl) rfl (by kernel_rfl)
                   | exact stA (.inr rfl) (by kernel_rfl) rfl (by kernel_rfl)
                   | exact stPick rfl (by kernel_rfl) rfl rfl (by kernel_rfl)
                   | exact stNot rfl (by kernel_rfl) rfl rfl rfl
                   | exact stLen rfl (by kernel_rfl) (by kernel_rfl) rfl rfl
                   | exact stFA rfl (by kernel_rfl) rfl rfl (fun w => by simp [go_sem])
                   | exact stIA rfl (by kernel_rfl) rfl rfl rfl (fun w => by simp [go_sem, hji, hlt])
                   | exact stLd rfl (by kernel_rfl) rfl rfl (fun w hS => by simp [go_sem, (hS.1.get 0 rfl), (hS.1.get 1 rfl), (hS.1.get 2 rfl), (hS.1.get 3 rfl), (hS.1.get 4 rfl), (hS.1.get 5 rfl), (hS.1.get 6 rfl), (hS.1.get 7 rfl), (hS.1.get 8 rfl), (hS.1.get 9 rfl), (hS.1.get 10 rfl), (hS.1.get 11 rfl)])
                   | exact stCall2 (s1 := .eq (.agg #[.bool y2.iter, bv, str y2.res, tv])) (s2 := .eq (.agg #[.bool x2.iter, av, str x2.res, sv])) rfl (enters_of Tryz.func26 (by kernel_rfl) rfl) (by kernel_rfl) rfl rfl rfl (fun v v2 wx hS h1 h2 => by rw [show v = .agg #[.bool y2.iter, bv, str y2.res, tv] from h1, show v2 = .agg #[.bool x2.iter, av, str x2.res, sv] from h2]; exact (rsig_any _ _ _ _ wx hS.2.1 hS.2.2).mono (by rw [hn]; rintro e w' ⟨rfl, hb⟩; exact ⟨_, rfl, rfl, hb⟩))
                   | exact stBin rfl (by kernel_rfl) rfl rfl rfl (fun w => by simp [go_sem, g1])
                exact trivial
              · intro aE vE wE hSE hbE haE _ hvE
                obtain rfl : vE = .bool true := hvE _ rfl;rw [haE];clear haE;simp only [List.take_succ_cons, List.take_zero, putsOf, pz, pw];go_wp2_with fail;exact ⟨⟨j + 1, hji, by go_num, by rw [HZ.out]; first | done | simp, hq.trans (below_less hbE hq.size)⟩, by simp only [intOf]; omega⟩
         · have HZ := Lib.hid (HA.out.trans (by rw [hT]; first | done | rfl))
           clear hT HA hy;go_upto_region 21 with fail;refine wp_region_spec (D := Any) (w := wr) 31 [(18, .eq (.bool true))] [(.eq (.bool true)), (.eq (.bool true)), (.skip), (.skip), (.skip), (.skip), (.skip), (.skip), (.skip), (.skip), (.skip), (.skip), (.skip), (.skip), (.skip), (.skip), (.skip), (.skip), (.skip), (.skip), (.skip), (.skip), (.skip), (.skip), (.skip), (.skip), (.skip), (.skip), (.skip), (.skip), (.eq (.bool true)), (.eq (.bool true))] (CellsAt []) (by kernel_rfl) (by kernel_rfl) (by kernel_rfl) (by kernel_rfl) (by kernel_rfl) (fun _ _ h hb => h.below hb) (fun p hp => by cases hp) ?_ ?_ ?_
           · intro p hp
             simp only [List.mem_cons, List.not_mem_nil, or_false] at hp;rcases hp with rfl
             · exact rfl
           · iterate 32
              refine And.intro ?_ ?_
              · first
                | exact stSkip (by kernel_rfl) rfl
                | exact stA (.inl rfl) (by kernel_rfl) rfl (by kernel_rfl)
                | exact stA (.inr rfl) (by kernel_rfl) rfl (by kernel_rfl)
                | exact stPick rfl (by kernel_rfl) rfl rfl (by kernel_rfl)
                | exact stNot rfl (by kernel_rfl) rfl rfl rfl
                | exact stLen rfl (by kernel_rfl) (by kernel_rfl) rfl rfl
                | exact stFA rfl (by kernel_rfl) rfl rfl (fun w => by simp [go_sem])
                | exact stIA rfl (by kernel_rfl) rfl rfl rfl (fun w => by simp [go_sem])
                | exact stLd rfl (by kernel_rfl) rfl rfl (fun w hS => by simp [go_sem])
                | exact stBin rfl (by kernel_rfl) rfl rfl rfl (fun w => by simp [go_sem])
             exact trivial
           · intro aE vE wE hSE hbE haE _ hvE
             obtain rfl : vE = .bool true := hvE _ rfl;rw [haE];clear haE;simp only [List.take_succ_cons, List.take_zero, putsOf, pz, pw];go_wp2_with fail;exact ⟨⟨j + 1, hji, by go_num, by rw [HZ.out]; first | done | simp, hq.trans (below_less hbE hq.size)⟩, by simp only [intOf]; omega⟩
   · go_wp2_with (go_at_call 50; refine (HSN w10 B10).mono ?_; clear HSN; rintro e w11 ⟨rfl, hb11⟩; have B11 := B10.trans (below_less hb11 B10.size); have kk11 := HK.out w11 B11)
     clear kk10 kk11 g0 hb5 hb6 hb7 hb8 hb9 hb10 hb11 B5 B6 B7 B8 B9 B10 hR;go_loopw [17] (fun a wr => ∃ i : Nat, i ≤ fO.length ∧ a = .int .i64 i ∧ Below w11.heap.size w11 wr) (fun a _ => fO.length - (intOf a).toNat)
     case atStart => exact ⟨0, Nat.zero_le _, by go_num, Below.refl _ _⟩
     case round =>
      obtain ⟨i, hi, rfl, hr⟩ := hrel;have B12 := B11.trans (below_less hr B11.size);have kk := HK.out wr B12
      by_cases hlt : i < fO.length
      case neg =>
       go_wp2_with (go_at_call 18; refine (shown_any _ (HT.out wr (hC.trans (below_less B12 hC.size)))).mono ?_; rintro e w13 ⟨rfl, hb13⟩);go_ret;exact ⟨rfl, (hC.trans (below_less B12 hC.size)).trans (below_less hb13 (hC.trans (below_less B12 hC.size)).size)⟩
      case pos =>
       obtain ⟨x, hx⟩ : ∃ x, fO[i]? = some x := ⟨_, List.getElem?_eq_getElem hlt⟩
       have hxg := Lib.hid (HM.out x (List.mem_of_getElem? hx));obtain ⟨b1, o1, av, sv, hbe, _, hxl, hSa, hSs, pc0, pc1, pc2, pc3, pc4⟩ := (f4'.out wr B12).at hx;subst hbe;obtain ⟨x1, x2⟩ := x;dsimp only at hxl hSa hSs pc0 pc1 pc3;clear hx;go_wp2_with fail;clear kk;have B13 := B12;have hr13 := hr;clear B12 hr;generalize wr = wo at *;go_loopw [18, 19] (fun t y wx => ∃ j : Nat, j ≤ gO.length ∧ y = .int .i64 j ∧ t = .bool ((gO.take j).any fun o => decide (o = ⟨x1, x2⟩)) ∧ Below wo.heap.size wo wx) (fun _ y _ => gO.length - (intOf y).toNat)
       case atStart => exact ⟨0, Nat.zero_le _, by go_num, rfl, Below.refl _ _⟩
       case round =>
        obtain ⟨j, hj, rfl, rfl, hq⟩ := hrel;have B14 := B13.trans (below_less hq B13.size);obtain ⟨⟨⟨_, _, _, _, kf4⟩, _⟩, ⟨⟨_, _, _, _, kg4⟩, _⟩, _⟩ := HK.out wr B14
        by_cases hji : j < gO.length
        case neg =>
         have hie : j = gO.length := by omega
         subst hie;have hany : (gO.take gO.length).any (fun o => decide (o = ⟨x1, x2⟩)) = true := by
          rw [List.take_length, List.any_eq_true];exact ⟨_, hxg.out, decide_eq_true rfl⟩
         rw [hany];clear hany;go_wp2_with fail;exact ⟨⟨i + 1, hlt, by go_num, hr13.trans (below_less hq hr13.size)⟩, by simp only [intOf]; omega⟩
        case pos =>
         obtain ⟨y, hy⟩ : ∃ y, gO[j]? = some y := ⟨_, List.getElem?_eq_getElem hji⟩
         have HA := Lib.hid (any_take (x := ⟨x1, x2⟩) hy);rcases hT : (gO.take j).any (fun o => decide (o = ⟨x1, x2⟩)) with _ | _
         · obtain ⟨b2, o2, bv, tv, hbe, _, hyl, hTa, hTs, qc0, qc1, qc2, qc3, qc4⟩ := (g6'.out wr B14).at hy
           subst hbe;obtain ⟨y1, y2⟩ := y;dsimp only at hyl hTa hTs qc0 qc1 qc3;have pc0 := Below.keep hq pc0;have pc1 := Below.keep hq pc1;have pc2 := Below.keep hq pc2;have pc3 := Below.keep hq pc3;have pc4 := Below.keep hq pc4;have hSx : SigV Any wr (.agg #[.bool x2.iter, av, str x2.res, sv]) x2 := ⟨av, sv, rfl, hxl.2, hSa.below hq (nl _), hSs.below hq (nl _)⟩;have hSy : SigV Any wr (.agg #[.bool y2.iter, bv, str y2.res, tv]) y2 := ⟨bv, tv, rfl, hyl.2, hTa, hTs⟩;clear hy
           by_cases hnm : y1 = x1
           case neg =>
            have HZ := Lib.hid (HA.out.trans (by rw [hT, decide_eq_false (show ¬ (⟨y1, y2⟩ : OpP) = ⟨x1, x2⟩ from fun e => hnm (by injection e))]; first | done | rfl));have g1 : (y1 == x1) = false := by simpa using hnm
            clear hT HA hnm;go_upto_region 21 with fail;refine wp_region_spec (D := Any) (w := wr) 31 [(3, .eq (.pointer (some ⟨w.heap.size, 0, none⟩))), (4, .eq (.pointer (some ⟨w.heap.size + 1, 0, none⟩))), (17, .eq (.int .i64 i)), (18, .eq (.bool false)), (19, .eq (.int .i64 j))] [(.eq (.bool false)), (.eq (.bool false)), (.eq (.pointer (some ⟨w.heap.size + 1, 4, none⟩))), (.eq (.slice (some ⟨b2, o2, none⟩) gO.length c6)), (.eq (.int .i64 j)), (.eq (.pointer (some ⟨b2, o2 + j * 5, none⟩))), (.eq (.pointer (some ⟨b2, o2 + j * 5, none⟩))), (.eq (str y1)), (.eq (.pointer (some ⟨w.heap.size, 4, none⟩))), (.eq (.slice (some ⟨b1, o1, none⟩) fO.length c4)), (.eq (.int .i64 i)), (.eq (.pointer (some ⟨b1, o1 + i * 5, none⟩))), (.eq (.pointer (some ⟨b1, o1 + i * 5, none⟩))), (.eq (str x1)), (.eq (.bool false)), (.eq (.bool false)), (.skip), (.skip), (.skip), (.skip), (.skip), (.skip), (.skip), (.skip), (.skip), (.skip), (.skip), (.skip), (.skip), (.eq (.bool false)), (.eq (.bool false)), (.eq (.bool false))] (CellsAt [(⟨w.heap.size + 1, 4, none⟩, .slice (some ⟨b2, o2, none⟩) gO.length c6), (⟨w.heap.size, 4, none⟩, .slice (some ⟨b1, o1, none⟩) fO.length c4), (⟨b2, o2 + j * 5, none⟩, str y1), (⟨b1, o1 + i * 5, none⟩, str x1)]) (by kernel_rfl) (by kernel_rfl) (by kernel_rfl) (by kernel_rfl) (by kernel_rfl) (fun _ _ h hb => h.below hb) (fun p hp => by simp only [List.mem_cons, List.not_mem_nil, or_false] at hp; rcases hp with rfl | rfl | rfl | rfl <;> exact Below.keep (Below.refl _ wr).drew (by assumption)) ?_ ?_ ?_
            · intro p hp
              simp only [List.mem_cons, List.not_mem_nil, or_false] at hp;rcases hp with rfl | rfl | rfl | rfl | rfl
              · exact rfl
              · exact rfl
              · exact rfl
              · exact rfl
              · exact rfl
            · iterate 32
               refine And.intro ?_ ?_
               · first
                 | exact stSkip (by kernel_rfl) rfl
                 | exact stA (.inl rfl) (by kernel_rfl) rfl (by kernel_rfl)
                 | exact stA (.inr rfl) (by kernel_rfl) rfl (by kernel_rfl)
                 | exact stPick rfl (by kernel_rfl) rfl rfl (by kernel_rfl)
                 | exact stNot rfl (by kernel_rfl) rfl rfl rfl
                 | exact stLen rfl (by kernel_rfl) (by kernel_rfl) rfl rfl
                 | exact stFA rfl (by kernel_rfl) rfl rfl (fun w => by simp [go_sem])
                 | exact stIA rfl (by kernel_rfl) rfl rfl rfl (fun w => by simp [go_sem, hji, hlt])
                 | exact stLd rfl (by kernel_rfl) rfl rfl (fun w hS => by simp [go_sem, (hS.get 0 rfl), (hS.get 1 rfl), (hS.get 2 rfl), (hS.get 3 rfl)])
                 | exact stBin rfl (by kernel_rfl) rfl rfl rfl (fun w => by simp [go_sem, g1])
              exact trivial
            · intro aE vE wE hSE hbE haE _ hvE
              obtain rfl : vE = .bool false := hvE _ rfl;rw [haE];clear haE;simp only [List.take_succ_cons, List.take_zero, putsOf, pz, pw];go_wp2_with fail;exact ⟨⟨j + 1, hji, by go_num, by rw [HZ.out]; first | done | simp, hq.trans (below_less hbE hq.size)⟩, by simp only [intOf]; omega⟩
           case pos =>
            have g1 : (y1 == x1) = true := by simpa using hnm
            rcases hn : sameK y2 x2 with _ | _
            · have HZ := Lib.hid (HA.out.trans (by rw [hT, decide_eq_false (show ¬ (⟨y1, y2⟩ : OpP) = ⟨x1, x2⟩ from fun e => by injection e with _ e2; rw [(sameK_iff y2 x2).2 e2] at hn; cases hn)]; first | done | rfl))
              clear hT HA hnm;go_upto_region 21 with fail;refine wp_region_spec (D := Any) (w := wr) 31 [(3, .eq (.pointer (some ⟨w.heap.size, 0, none⟩))), (4, .eq (.pointer (some ⟨w.heap.size + 1, 0, none⟩))), (17, .eq (.int .i64 i)), (18, .eq (.bool false)), (19, .eq (.int .i64 j))] [(.eq (.bool false)), (.eq (.bool false)), (.eq (.pointer (some ⟨w.heap.size + 1, 4, none⟩))), (.eq (.slice (some ⟨b2, o2, none⟩) gO.length c6)), (.eq (.int .i64 j)), (.eq (.pointer (some ⟨b2, o2 + j * 5, none⟩))), (.eq (.pointer (some ⟨b2, o2 + j * 5, none⟩))), (.eq (str y1)), (.eq (.pointer (some ⟨w.heap.size, 4, none⟩))), (.eq (.slice (some ⟨b1, o1, none⟩) fO.length c4)), (.eq (.int .i64 i)), (.eq (.pointer (some ⟨b1, o1 + i * 5, none⟩))), (.eq (.pointer (some ⟨b1, o1 + i * 5, none⟩))), (.eq (str x1)), (.eq (.bool true)), (.eq (.bool true)), (.eq (.pointer (some ⟨w.heap.size + 1, 4, none⟩))), (.eq (.slice (some ⟨b2, o2, none⟩) gO.length c6)), (.eq (.int .i64 j)), (.eq (.pointer (some ⟨b2, o2 + j * 5, none⟩))), (.eq (.pointer (some ⟨b2, o2 + j * 5 + 1, none⟩))), (.eq (.agg #[.bool y2.iter, bv, str y2.res, tv])), (.eq (.pointer (some ⟨w.heap.size, 4, none⟩))), (.eq (.slice (some ⟨b1, o1, none⟩) fO.length c4)), (.eq (.int .i64 i)), (.eq (.pointer (some ⟨b1, o1 + i * 5, none⟩))), (.eq (.pointer (some ⟨b1, o1 + i * 5 + 1, none⟩))), (.eq (.agg #[.bool x2.iter, av, str x2.res, sv])), (.eq (.bool false)), (.eq (.bool false)), (.eq (.bool false)), (.eq (.bool false))] (fun w' => CellsAt [(⟨w.heap.size + 1, 4, none⟩, .slice (some ⟨b2, o2, none⟩) gO.length c6), (⟨w.heap.size, 4, none⟩, .slice (some ⟨b1, o1, none⟩) fO.length c4), (⟨b2, o2 + j * 5, none⟩, str y1), (⟨b1, o1 + i * 5, none⟩, str x1), (⟨b2, o2 + j * 5 + 1, none⟩, .bool y2.iter), (⟨b2, o2 + j * 5 + 2, none⟩, bv), (⟨b2, o2 + j * 5 + 3, none⟩, str y2.res), (⟨b2, o2 + j * 5 + 4, none⟩, tv), (⟨b1, o1 + i * 5 + 1, none⟩, .bool x2.iter), (⟨b1, o1 + i * 5 + 2, none⟩, av), (⟨b1, o1 + i * 5 + 3, none⟩, str x2.res), (⟨b1, o1 + i * 5 + 4, none⟩, sv)] w' ∧ (SigV Any w' (.agg #[.bool y2.iter, bv, str y2.res, tv]) y2 ∧ SigV Any w' (.agg #[.bool x2.iter, av, str x2.res, sv]) x2)) (by kernel_rfl) (by kernel_rfl) (by kernel_rfl) (by kernel_rfl) (by kernel_rfl) (fun _ _ h hb => ⟨h.1.below hb, ⟨SigV.below h.2.1 hb (nl _), SigV.below h.2.2 hb (nl _)⟩⟩) ⟨(fun p hp => by simp only [List.mem_cons, List.not_mem_nil, or_false] at hp; rcases hp with rfl | rfl | rfl | rfl | rfl | rfl | rfl | rfl | rfl | rfl | rfl | rfl <;> exact Below.keep (Below.refl _ wr).drew (by assumption)), SigV.below hSy (Below.refl _ wr).drew (nl _), SigV.below hSx (Below.refl _ wr).drew (nl _)⟩ ?_ ?_ ?_
              · intro p hp
                simp only [List.mem_cons, List.not_mem_nil, or_false] at hp;rcases hp with rfl | rfl | rfl | rfl | rfl
                · exact rfl
                · exact rfl
                · exact rfl
                · exact rfl
                · exact rfl
              · iterate 32
                 refine And.intro ?_ ?_
                 · first
                   | exact stSkip (by kernel_rfl) rfl
                   | exact stA (.inl rfl) (by kernel_rfl) rfl (by kernel_rfl)
                   | exact stA (.inr rfl) (by kernel_rfl) rfl (by kernel_rfl)
                   | exact stPick rfl (by kernel_rfl) rfl rfl (by kernel_rfl)
                   | exact stNot rfl (by kernel_rfl) rfl rfl rfl
                   | exact stLen rfl (by kernel_rfl) (by kernel_rfl) rfl rfl
                   | exact stFA rfl (by kernel_rfl) rfl rfl (fun w => by simp [go_sem])
                   | exact stIA rfl (by kernel_rfl) rfl rfl rfl (fun w => by simp [go_sem, hji, hlt])
                   | exact stLd rfl (by kernel_rfl) rfl rfl (fun w hS => by simp [go_sem, (hS.1.get 0 rfl), (hS.1.get 1 rfl), (hS.1.get 2 rfl), (hS.1.get 3 rfl), (hS.1.get 4 rfl), (hS.1.get 5 rfl), (hS.1.get 6 rfl), (hS.1.get 7 rfl), (hS.1.get 8 rfl), (hS.1.get 9 rfl), (hS.1.get 10 rfl), (hS.1.get 11 rfl)])
                   | exact stCall2 (s1 := .eq (.agg #[.bool y2.iter, bv, str y2.res, tv])) (s2 := .eq (.agg #[.bool x2.iter, av, str x2.res, sv])) rfl (enters_of Tryz.func26 (by kernel_rfl) rfl) (by kernel_rfl) rfl rfl rfl (fun v v2 wx hS h1 h2 => by rw [show v = .agg #[.bool y2.iter, bv, str y2.res, tv] from h1, show v2 = .agg #[.bool x2.iter, av, str x2.res, sv] from h2]; exact (rsig_any _ _ _ _ wx hS.2.1 hS.2.2).mono (by rw [hn]; rintro e w' ⟨rfl, hb⟩; exact ⟨_, rfl, rfl, hb⟩))
                   | exact stBin rfl (by kernel_rfl) rfl rfl rfl (fun w => by simp [go_sem, g1])
                exact trivial
              · intro aE vE wE hSE hbE haE _ hvE
                obtain rfl : vE = .bool false := hvE _ rfl;rw [haE];clear haE;simp only [List.take_succ_cons, List.take_zero, putsOf, pz, pw];go_wp2_with fail;exact ⟨⟨j + 1, hji, by go_num, by rw [HZ.out]; first | done | simp, hq.trans (below_less hbE hq.size)⟩, by simp only [intOf]; omega⟩
            · have HZ := Lib.hid (HA.out.trans (by rw [hT, decide_eq_true (show (⟨y1, y2⟩ : OpP) = ⟨x1, x2⟩ by rw [hnm, (sameK_iff y2 x2).1 hn])]; first | done | rfl))
              clear hT HA hnm;go_upto_region 21 with fail;refine wp_region_spec (D := Any) (w := wr) 31 [(3, .eq (.pointer (some ⟨w.heap.size, 0, none⟩))), (4, .eq (.pointer (some ⟨w.heap.size + 1, 0, none⟩))), (17, .eq (.int .i64 i)), (18, .eq (.bool false)), (19, .eq (.int .i64 j))] [(.eq (.bool false)), (.eq (.bool false)), (.eq (.pointer (some ⟨w.heap.size + 1, 4, none⟩))), (.eq (.slice (some ⟨b2, o2, none⟩) gO.length c6)), (.eq (.int .i64 j)), (.eq (.pointer (some ⟨b2, o2 + j * 5, none⟩))), (.eq (.pointer (some ⟨b2, o2 + j * 5, none⟩))), (.eq (str y1)), (.eq (.pointer (some ⟨w.heap.size, 4, none⟩))), (.eq (.slice (some ⟨b1, o1, none⟩) fO.length c4)), (.eq (.int .i64 i)), (.eq (.pointer (some ⟨b1, o1 + i * 5, none⟩))), (.eq (.pointer (some ⟨b1, o1 + i * 5, none⟩))), (.eq (str x1)), (.eq (.bool true)), (.eq (.bool true)), (.eq (.pointer (some ⟨w.heap.size + 1, 4, none⟩))), (.eq (.slice (some ⟨b2, o2, none⟩) gO.length c6)), (.eq (.int .i64 j)), (.eq (.pointer (some ⟨b2, o2 + j * 5, none⟩))), (.eq (.pointer (some ⟨b2, o2 + j * 5 + 1, none⟩))), (.eq (.agg #[.bool y2.iter, bv, str y2.res, tv])), (.eq (.pointer (some ⟨w.heap.size, 4, none⟩))), (.eq (.slice (some ⟨b1, o1, none⟩) fO.length c4)), (.eq (.int .i64 i)), (.eq (.pointer (some ⟨b1, o1 + i * 5, none⟩))), (.eq (.pointer (some ⟨b1, o1 + i * 5 + 1, none⟩))), (.eq (.agg #[.bool x2.iter, av, str x2.res, sv])), (.eq (.bool true)), (.eq (.bool true)), (.eq (.bool true)), (.eq (.bool true))] (fun w' => CellsAt [(⟨w.heap.size + 1, 4, none⟩, .slice (some ⟨b2, o2, none⟩) gO.length c6), (⟨w.heap.size, 4, none⟩, .slice (some ⟨b1, o1, none⟩) fO.length c4), (⟨b2, o2 + j * 5, none⟩, str y1), (⟨b1, o1 + i * 5, none⟩, str x1), (⟨b2, o2 + j * 5 + 1, none⟩, .bool y2.iter), (⟨b2, o2 + j * 5 + 2, none⟩, bv), (⟨b2, o2 + j * 5 + 3, none⟩, str y2.res), (⟨b2, o2 + j * 5 + 4, none⟩, tv), (⟨b1, o1 + i * 5 + 1, none⟩, .bool x2.iter), (⟨b1, o1 + i * 5 + 2, none⟩, av), (⟨b1, o1 + i * 5 + 3, none⟩, str x2.res), (⟨b1, o1 + i * 5 + 4, none⟩, sv)] w' ∧ (SigV Any w' (.agg #[.bool y2.iter, bv, str y2.res, tv]) y2 ∧ SigV Any w' (.agg #[.bool x2.iter, av, str x2.res, sv]) x2)) (by kernel_rfl) (by kernel_rfl) (by kernel_rfl) (by kernel_rfl) (by kernel_rfl) (fun _ _ h hb => ⟨h.1.below hb, ⟨SigV.below h.2.1 hb (nl _), SigV.below h.2.2 hb (nl _)⟩⟩) ⟨(fun p hp => by simp only [List.mem_cons, List.not_mem_nil, or_false] at hp; rcases hp with rfl | rfl | rfl | rfl | rfl | rfl | rfl | rfl | rfl | rfl | rfl | rfl <;> exact Below.keep (Below.refl _ wr).drew (by assumption)), SigV.below hSy (Below.refl _ wr).drew (nl _), SigV.below hSx (Below.refl _ wr).drew (nl _)⟩ ?_ ?_ ?_
              · intro p hp
                simp only [List.mem_cons, List.not_mem_nil, or_false] at hp;rcases hp with rfl | rfl | rfl | rfl | rfl
                · exact rfl
                · exact rfl
                · exact rfl
                · exact rfl
                · exact rfl
              · iterate 32
                 refine And.intro ?_ ?_
                 · first
                   | exact stSkip (by kernel_rfl) rfl
                   | exact stA (.inl rfl) (by kernel_rfl) rfl (by kernel_rfl)
                   | exact stA (.inr rfl) (by kernel_rfl) rfl (by kernel_rfl)
                   | exact stPick rfl (by kernel_rfl) rfl rfl (by kernel_rfl)
                   | exact stNot rfl (by kernel_rfl) rfl rfl rfl
                   | exact stLen rfl (by kernel_rfl) (by kernel_rfl) rfl rfl
                   | exact stFA rfl (by kernel_rfl) rfl rfl (fun w => by simp [go_sem])
                   | exact stIA rfl (by kernel_rfl) rfl rfl rfl (fun w => by simp [go_sem, hji, hlt])
                   | exact stLd rfl (by kernel_rfl) rfl rfl (fun w hS => by simp [go_sem, (hS.1.get 0 rfl), (hS.1.get 1 rfl), (hS.1.get 2 rfl), (hS.1.get 3 rfl), (hS.1.get 4 rfl), (hS.1.get 5 rfl), (hS.1.get 6 rfl), (hS.1.get 7 rfl), (hS.1.get 8 rfl), (hS.1.get 9 rfl), (hS.1.get 10 rfl), (hS.1.get 11 rfl)])
                   | exact stCall2 (s1 := .eq (.agg #[.bool y2.iter, bv, str y2.res, tv])) (s2 := .eq (.agg #[.bool x2.iter, av, str x2.res, sv])) rfl (enters_of Tryz.func26 (by kernel_rfl) rfl) (by kernel_rfl) rfl rfl rfl (fun v v2 wx hS h1 h2 => by rw [show v = .agg #[.bool y2.iter, bv, str y2.res, tv] from h1, show v2 = .agg #[.bool x2.iter, av, str x2.res, sv] from h2]; exact (rsig_any _ _ _ _ wx hS.2.1 hS.2.2).mono (by rw [hn]; rintro e w' ⟨rfl, hb⟩; exact ⟨_, rfl, rfl, hb⟩))
                   | exact stBin rfl (by kernel_rfl) rfl rfl rfl (fun w => by simp [go_sem, g1])
                exact trivial
              · intro aE vE wE hSE hbE haE _ hvE
                obtain rfl : vE = .bool true := hvE _ rfl;rw [haE];clear haE;simp only [List.take_succ_cons, List.take_zero, putsOf, pz, pw];go_wp2_with fail;exact ⟨⟨j + 1, hji, by go_num, by rw [HZ.out]; first | done | simp, hq.trans (below_less hbE hq.size)⟩, by simp only [intOf]; omega⟩
         · have HZ := Lib.hid (HA.out.trans (by rw [hT]; first | done | rfl))
           clear hT HA hy;go_upto_region 21 with fail;refine wp_region_spec (D := Any) (w := wr) 31 [(18, .eq (.bool true))] [(.eq (.bool true)), (.eq (.bool true)), (.skip), (.skip), (.skip), (.skip), (.skip), (.skip), (.skip), (.skip), (.skip), (.skip), (.skip), (.skip), (.skip), (.skip), (.skip), (.skip), (.skip), (.skip), (.skip), (.skip), (.skip), (.skip), (.skip), (.skip), (.skip), (.skip), (.skip), (.skip), (.eq (.bool true)), (.eq (.bool true))] (CellsAt []) (by kernel_rfl) (by kernel_rfl) (by kernel_rfl) (by kernel_rfl) (by kernel_rfl) (fun _ _ h hb => h.below hb) (fun p hp => by cases hp) ?_ ?_ ?_
           · intro p hp
             simp only [List.mem_cons, List.not_mem_nil, or_false] at hp;rcases hp with rfl
             · exact rfl
           · iterate 32
              refine And.intro ?_ ?_
              · first
                | exact stSkip (by kernel_rfl) rfl
                | exact stA (.inl rfl) (by kernel_rfl) rfl (by kernel_rfl)
                | exact stA (.inr rfl) (by kernel_rfl) rfl (by kernel_rfl)
                | exact stPick rfl (by kernel_rfl) rfl rfl (by kernel_rfl)
                | exact stNot rfl (by kernel_rfl) rfl rfl rfl
                | exact stLen rfl (by kernel_rfl) (by kernel_rfl) rfl rfl
                | exact stFA rfl (by kernel_rfl) rfl rfl (fun w => by simp [go_sem])
                | exact stIA rfl (by kernel_rfl) rfl rfl rfl (fun w => by simp [go_sem])
                | exact stLd rfl (by kernel_rfl) rfl rfl (fun w hS => by simp [go_sem])
                | exact stBin rfl (by kernel_rfl) rfl rfl rfl (fun w => by simp [go_sem])
             exact trivial
           · intro aE vE wE hSE hbE haE _ hvE
             obtain rfl : vE = .bool true := hvE _ rfl;rw [haE];clear haE;simp only [List.take_succ_cons, List.take_zero, putsOf, pz, pw];go_wp2_with fail;exact ⟨⟨j + 1, hji, by go_num, by rw [HZ.out]; first | done | simp, hq.trans (below_less hbE hq.size)⟩, by simp only [intOf]; omega⟩
end Go.Proofs.YtakgjcfkdemipaaGreatDoor
