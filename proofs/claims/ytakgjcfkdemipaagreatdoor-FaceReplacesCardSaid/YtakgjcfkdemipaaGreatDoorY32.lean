/-
  Contract: of the package face: CheckAll. Condition: the lengths; the variable strings.asciiSpace.
  Contracts: of the package face: opened, isOpen. Condition: the lengths; the variable strings.asciiSpace.
  Contracts: of the package face: isOpen, Good. Condition: the lengths; the variable strings.asciiSpace.
  Contract: of the package face: typed. Condition: the lengths; the variable strings.asciiSpace.
  Contract: of the package face: OpOf. Condition: the lengths; the variable strings.asciiSpace.
-/
import Derived.Test.YtakgjcfkdemipaaGreatDoorYn
import Derived.Test.YtakgjcfkdemipaaGreatDoorY23
import Derived.Test.YtakgjcfkdemipaaGreatDoorY27
import Derived.Test.YtakgjcfkdemipaaGreatDoorY30
import Derived.Test.YtakgjcfkdemipaaGreatDoorY31
namespace Go.Proofs.YtakgjcfkdemipaaGreatDoor
open Go.RowKit
def prevF (l : List FaceP) : Nat → Option (List UInt8)
 | 0 => none
 | i + 1 => (l[i]?).map (·.name)
theorem checkF_lim {f : FaceP} {l : List FaceP} {i : Nat} {p : Option (List UInt8)} (h : 20 ≤ i) : checkF (f :: l) i p = some (i, 2) := by rw [checkF, if_pos h]
theorem checkF_bad {f : FaceP} {l : List FaceP} {i : Nat} {p : Option (List UInt8)} (h : ¬20 ≤ i) (hf : faceK f = false) : checkF (f :: l) i p = some (i, 42) := by rw [checkF, if_neg h, if_pos hf]
theorem checkF_twice {f : FaceP} {l : List FaceP} {i : Nat} {q : List UInt8} (h : ¬20 ≤ i) (hf : faceK f = true) (hq : Op.bytesLess q f.name = false) : checkF (f :: l) i (some q) = some (i, 6) := by
 rw [checkF, if_neg h, if_neg (by rw [hf]; simp), if_pos (by simp [hq])]
theorem checkF_on {f : FaceP} {l : List FaceP} {i : Nat} {p : Option (List UInt8)} (h : ¬20 ≤ i) (hf : faceK f = true) (hq : (p.any fun q => !Op.bytesLess q f.name) = false) : checkF (f :: l) i p = checkF l (i + 1) (some f.name) := by
 rw [checkF, if_neg h, if_neg (by rw [hf]; simp), if_neg (by rw [hq]; simp)]
theorem typed_hit {all : List FaceP} {f : FaceP} {r : List FaceP} {i : Nat} (h : firstE (((sigsF f).flatMap typesK).map (goodK ⟨all, f.needs, f.par⟩)) ≠ 0) : typedF all (f :: r) i = some (i, firstE (((sigsF f).flatMap typesK).map (goodK ⟨all, f.needs, f.par⟩))) := by
 unfold typedF
 simp only
 rw [if_neg h]
theorem typed_on {all : List FaceP} {f : FaceP} {r : List FaceP} {i : Nat} (h : firstE (((sigsF f).flatMap typesK).map (goodK ⟨all, f.needs, f.par⟩)) = 0) : typedF all (f :: r) i = typedF all r (i + 1) := by
 conv => lhs; unfold typedF
 simp only
 rw [if_pos h]
theorem allK_hit {l : List FaceP} {r : Nat × Nat} (h : checkF l 0 none = some r) : allK l = r := by unfold allK; rw [h]; rfl
set_option maxRecDepth 8000 in
set_option maxHeartbeats 12800000 in
theorem all_any {D : Nat → Prop} (l : List FaceP) (v : Value) (w : World) (hT : Tab w) (hv : FacesM D w v l) (hn : ∀ f ∈ l, f.needs.length ≤ 100000) :
 Calls Tryz.prog 40 #[v] w fun e w' => e = .returned (.tuple #[.int .i64 (allK l).1, .int .i64 (allK l).2]) ∧ Below w.heap.size w w' := by
 obtain ⟨p, c, rfl, _, hm, hle⟩ := hv.shape
 unfold maxLen at hm
 have HT := Lib.hid (fun W (hW : Below w.heap.size w W) => hT.below hW (nl _))
 clear hT hle
 go_enter Tryz.func40, Tryz.ntmps40
 go_wp2_with fail
 go_loopw [22] (fun y wx => ∃ i : Nat, i ≤ l.length ∧ y = .int .i64 i ∧ Below w.heap.size w wx ∧ Hid (checkF l 0 none = checkF (l.drop i) i (prevF l i))) (fun y _ => l.length - (intOf y).toNat)
 case atStart => exact ⟨0, Nat.zero_le _, by go_num, Below.refl _ _, rfl⟩
 case round =>
  obtain ⟨i, hi, rfl, hb, hA⟩ := hrel
  by_cases hlt : i < l.length
  case neg => as_aux_lemma =>
   have hie : i = l.length := by omega
   have HX := Lib.hid (show checkF l 0 none = none by rw [hA.out, List.drop_eq_nil_of_le (by omega)]; rfl);clear hA;have hcf := checkF_ok l 0 none HX.out;have hap := apart_of HX.out;obtain ⟨hl20, hFK, _, _⟩ := hcf;have hll : l.length ≤ 100000 := by
    rcases hl20 with rfl | h
    · simp
    · omega
   have HAK := Lib.hid (show allK l = (typedF l l 0).getD (0, 0) by unfold allK; rw [HX.out]; rfl);have hvx := hv.below hb (nl _);clear HX;go_wp2_with (go_at_call 91; refine (shelved_any l _ _ hvx hll).mono ?_; rintro e w1 ⟨M, rfl, hM, hb1⟩);have hSh := heap_alloc_new w1 (.cells #[.map (some M)] 84);have hEs := (Below.refl _ w1).alloc (nl _) (.cells #[.map (some M)] 84);have hB1 := (hb.trans (below_less hb1 hb.size)).alloc (by have := hb.size; have := hb1.size; omega) (.cells #[.map (some M)] 84);have hM1 := hM.below hEs (nl _);have hV1 := (hvx.below hb1 (nl _)).below hEs (nl _);clear hvx hM hb1 hEs hb;go_loopw [56] (fun y wx => ∃ i : Nat, i ≤ l.length ∧ y = .int .i64 i ∧ Below w.heap.size w wx ∧ wx.heap[w1.heap.size]? = some (.cells #[.map (some M)] 84 (0, 0)) ∧ ShelfM D wx M l ∧ Hid (typedF l l 0 = typedF l (l.drop i) i)) (fun y _ => l.length - (intOf y).toNat)
   case atStart => exact ⟨0, Nat.zero_le _, by go_num, hB1, hSh, hM1, rfl⟩
   case round =>
    clear hB1 hSh hM1 hV1;obtain ⟨i, hi, rfl, hb, hSh, hM, hTy⟩ := hrel
    by_cases hlt : i < l.length
    case neg => as_aux_lemma =>
     have HZ := Lib.hid (show allK l = (0, 0) by rw [HAK.out, hTy.out, List.drop_eq_nil_of_le (by omega)]; rfl);clear hTy;go_wp2_with fail;go_ret2;rw [HZ.out];exact ⟨rfl, hb⟩
    case pos => as_aux_lemma =>
     obtain ⟨f, hkx⟩ : ∃ f, l[i]? = some f := ⟨_, List.getElem?_eq_getElem hlt⟩
     have hfm := List.mem_of_getElem? hkx;have hvx := hv.below hb (nl _);obtain ⟨b1, o1, nv, ov, rfl, _, hfl, hN, hO, c0, c1, c2, c3, c4⟩ := hvx.at hkx;obtain ⟨p1, z1, rfl, _⟩ := hN.shape;obtain ⟨p2, z2, rfl, _⟩ := hO.shape;obtain ⟨i0, hi0, hz0, hz1, hz2⟩ := finfo_parts infoSig;rw [fdrop_at hkx] at hTy;have hfp := faceK_parts (hFK f hfm);have hnl := (needed_len hfp.2.2.2.1).1;have hol := hfp.2.2.2.2.2.2.1;have hso : ScopeOk ⟨l, f.needs, f.par⟩ := scopeOk_of hap hFK hfp.2.2.2.1;have hc := (cells_at hSh 0).trans rfl;have hE1 := (Below.refl _ wr).alloc (nl _) (.cells #[.string ⟨f.name.toArray⟩, .int .u8 f.kind, .bool f.par, .slice p1 f.needs.length z1, .slice p2 f.ops.length z2] 58);have hF0 := heap_alloc_new wr (.cells #[.string ⟨f.name.toArray⟩, .int .u8 f.kind, .bool f.par, .slice p1 f.needs.length z1, .slice p2 f.ops.length z2] 58);have hSh1 := kept_call hSh hE1;have hc1 : (wr.alloc (.cells #[.string ⟨f.name.toArray⟩, .int .u8 f.kind, .bool f.par, .slice p1 f.needs.length z1, .slice p2 f.ops.length z2] 58)).cell? ⟨w1.heap.size, 0, none⟩ = some (.map (some M)) := (cells_at hSh1 0).trans rfl;have hF0 := heap_up (.cells #[.map (some M), .slice p1 f.needs.length z1, .bool f.par] 86) hF0;have hE2 := hE1.alloc (by simp) (.cells #[.map (some M), .slice p1 f.needs.length z1, .bool f.par] 86);have hS0 := heap_to (w := wr.alloc (.cells #[.string ⟨f.name.toArray⟩, .int .u8 f.kind, .bool f.par, .slice p1 f.needs.length z1, .slice p2 f.ops.length z2] 58)) (n := wr.heap.size + 1) (by simp) #[.map (some M), .slice p1 f.needs.length z1, .bool f.par] 86;have bF0 := (box5 hF0).1;have hsl : ∀ x ∈ f.needs.map (·.sig) ++ f.ops.map (·.sig), x.args.length ≤ 6 := by
      intro x hx;rcases List.mem_append.1 hx with hx | hx
      · obtain ⟨o, ho, rfl⟩ := List.mem_map.1 hx
        exact ((needed_len hfp.2.2.2.1).2 o ho).1
      · obtain ⟨o, ho, rfl⟩ := List.mem_map.1 hx
        exact (saidK_parts (hfp.2.2.2.2.2.2.2.1 o ho).2).1
     clear hkx hfp;go_upto_region 17 with fail;have hNW0 := hN.below hE2 (nl _);have hNW := hNW0.fresh;have hOW := (hO.below hE2 (nl _)).fresh;have hMW := hM.below hE2 (nl _);have hBW := hb.trans (below_less hE2 hb.size);have hShW := heap_up (.cells #[.map (some M), .slice p1 f.needs.length z1, .bool f.par] 86) hSh1;clear hN hO c0 c1 c2 c3 c4 hE1 hE2 hSh hSh1 hc hc1 hvx hM hb;generalize (wr.alloc (.cells #[.string ⟨f.name.toArray⟩, .int .u8 f.kind, .bool f.par, .slice p1 f.needs.length z1, .slice p2 f.ops.length z2] 58)).alloc (.cells #[.map (some M), .slice p1 f.needs.length z1, .bool f.par] 86) = W2 at *;generalize wr.heap.size = PB at *;go_wp2_with fail;go_loopw [10, 70] (fun a y wx => ∃ k : Nat, k ≤ f.needs.length ∧ y = .int .i64 k ∧ OwnS W2.heap.size wx a ((f.needs.take k).map (·.sig)) ∧ Below W2.heap.size W2 wx) (fun _ y _ => f.needs.length - (intOf y).toNat)
     case atStart => exact ⟨0, Nat.zero_le _, by go_num, OwnS.nil _ _, Below.refl _ _⟩
     case round =>
      clear bF0;obtain ⟨k, hk, rfl, hown, hbw⟩ := hrel;obtain ⟨pv, cv, rfl⟩ := hown.shape
      by_cases hlt : k < f.needs.length
      case neg => as_aux_lemma =>
       have hke : k = f.needs.length := by omega
       subst hke;simp only [List.take_length] at hown ⊢;have hown0 := hown;have hbw0 := hbw;have bF := (box5 (heap_kept hF0 hbw (heap_lt hF0))).1;clear hown hbw;go_wp2_with fail;clear bF;go_loopw [10, 83] (fun a y wx => ∃ k : Nat, k ≤ f.ops.length ∧ y = .int .i64 k ∧ OwnS W2.heap.size wx a (f.needs.map (·.sig) ++ (f.ops.take k).map (·.sig)) ∧ Below W2.heap.size W2 wx) (fun _ y _ => f.ops.length - (intOf y).toNat)
       case atStart => exact ⟨0, Nat.zero_le _, by go_num, by simpa using hown0, hbw0⟩
       case round =>
        clear hown0 hbw0;obtain ⟨k, hk, rfl, hown, hbw⟩ := hrel;obtain ⟨pv, cv, rfl⟩ := hown.shape
        by_cases hlt : k < f.ops.length
        case neg => as_aux_lemma =>
         have hke : k = f.ops.length := by omega
         subst hke;simp only [List.take_length] at hown ⊢;have hown0 := hown;have hbw0 := hbw;have hLl : (f.needs.map (·.sig) ++ f.ops.map (·.sig)).length ≤ 30 := by rw [List.length_append, List.length_map, List.length_map]; omega
         have hSF : Hid (sigsF f = f.needs.map (·.sig) ++ f.ops.map (·.sig)) := rfl;generalize f.needs.map (·.sig) ++ f.ops.map (·.sig) = LS at *;clear hown hbw;go_wp2_with fail;go_loopw [95] (fun y wx => ∃ k : Nat, k ≤ LS.length ∧ y = .int .i64 k ∧ OwnS W2.heap.size wx (.slice pv LS.length cv) LS ∧ Below W2.heap.size W2 wx ∧ Hid (firstE ((LS.flatMap typesK).map (goodK ⟨l, f.needs, f.par⟩)) = firstE (((LS.drop k).flatMap typesK).map (goodK ⟨l, f.needs, f.par⟩)))) (fun y _ => LS.length - (intOf y).toNat)
         case atStart => exact ⟨0, Nat.zero_le _, by go_num, hown0, hbw0, rfl⟩
         case round =>
          clear hown0 hbw0;obtain ⟨k, hk, rfl, hown, hbw, hF⟩ := hrel
          by_cases hlt5 : k < LS.length
          case neg => as_aux_lemma =>
           have h0 : firstE ((LS.flatMap typesK).map (goodK ⟨l, f.needs, f.par⟩)) = 0 := by rw [hF.out, List.drop_eq_nil_of_le (by omega)]; rfl
           have HZ := Lib.hid (show typedF l l 0 = typedF l (l.drop (i + 1)) (i + 1) by rw [hTy.out, typed_on (by rw [hSF.out]; exact h0)]);clear hF h0;go_wp2_with fail;exact ⟨⟨i + 1, by omega, by go_num, hBW.trans (below_less hbw hBW.size), heap_kept hShW hbw (heap_lt hShW), hMW.below hbw (nl _), HZ⟩, by simp only [intOf]; omega⟩
          case pos => as_aux_lemma =>
           obtain ⟨x, hx⟩ : ∃ x, LS[k]? = some x := ⟨_, List.getElem?_eq_getElem hlt5⟩
           obtain ⟨g, av, sv, hpe, hxr, hSa, hSs, d0, d1, d2, d3⟩ := hown.at hx;subst hpe;simp only [Nat.zero_add] at d0 d1 d2 d3;obtain ⟨pa, ca, rfl, _⟩ := hSa.shape;obtain ⟨ps, cs, rfl, _⟩ := hSs.shape;have hxl := hsl x (List.mem_of_getElem? hx);have hd := hF.out;rw [fdrop_at hx, List.flatMap_cons, List.map_append] at hd;clear hF hx;have hE4 := (Below.refl _ wr).alloc (nl _) (.cells #[.bool x.iter, .slice pa x.args.length ca, .string ⟨x.res.toArray⟩, .slice ps x.sigs.length cs] 36);have hB4 := hbw.alloc hbw.size (.cells #[.bool x.iter, .slice pa x.args.length ca, .string ⟨x.res.toArray⟩, .slice ps x.sigs.length cs] 36);have HTY := types_any _ x _ ⟨_, _, rfl, hxr, hSa.below hE4 (nl _), hSs.below hE4 (nl _)⟩ (by omega);have hown4 := hown.below hE4 (nl _);clear hown hSa hSs hbw;generalize typesK x = T at *;obtain ⟨RST, hRR⟩ : ∃ r, r = ((LS.drop (k + 1)).flatMap typesK).map (goodK ⟨l, f.needs, f.par⟩) := ⟨_, rfl⟩
           rw [← hRR] at hd;have hRST := Lib.hid hRR;have hFE := Lib.hid hd;clear hRR hd;go_wp2_with (go_at_call 92; refine HTY.mono ?_; clear HTY; rintro e w5 ⟨tv, rfl, hTT, hb5⟩; obtain ⟨pt, ct, rfl, _, hTl, _⟩ := hTT.shape);have hb5W := hB4.trans (below_less hb5 hB4.size);have hown5 := hown4.below hb5 (nl _);unfold maxLen at hTl;clear hB4 hb5 hown4 hE4;go_loopw [102] (fun y wx => ∃ j : Nat, j ≤ T.length ∧ y = .int .i64 j ∧ Below w5.heap.size w5 wx ∧ Hid (firstE ((LS.flatMap typesK).map (goodK ⟨l, f.needs, f.par⟩)) = firstE (((T.drop j).map (goodK ⟨l, f.needs, f.par⟩)) ++ RST))) (fun y _ => T.length - (intOf y).toNat)
           case atStart => exact ⟨0, Nat.zero_le _, by go_num, Below.refl _ _, hFE⟩
           case round =>
            clear hFE;obtain ⟨j, hj, rfl, hb6, hG⟩ := hrel;have hW6 := hb5W.trans (below_less hb6 hb5W.size)
            by_cases hlt6 : j < T.length
            case neg => as_aux_lemma =>
             have HZ := Lib.hid ((show firstE ((LS.flatMap typesK).map (goodK ⟨l, f.needs, f.par⟩)) = firstE RST by rw [hG.out, List.drop_eq_nil_of_le (by omega)]; rfl).trans (by rw [hRST.out]));clear hG;go_wp2_with fail;exact ⟨⟨k + 1, hlt5, by go_num, hown5.below hb6 (nl _), hW6, HZ⟩, by have h9 := hlt5; simp only [intOf]; omega⟩
            case pos => as_aux_lemma =>
             obtain ⟨u, hku⟩ : ∃ u, T[j]? = some u := ⟨_, List.getElem?_eq_getElem hlt6⟩
             have hTw := hTT.below hb6 (nl _);obtain ⟨b1, o1, rfl, _, pc⟩ := hTw.at hku;have hul := hTw.le u (List.mem_of_getElem? hku);have hd := hG.out;rw [fdrop_at hku, List.map_cons, List.cons_append] at hd;clear hG hku;have hWw := hBW.trans (below_less hW6 hBW.size);have bS := box3 (heap_kept hS0 hW6 (heap_lt hS0));have HGD := good_any (D := D) ⟨l, f.needs, f.par⟩ (.agg #[.map (some M), .slice p1 f.needs.length z1, .bool f.par]) u wr ⟨M, _, rfl, hMW.below hW6 (nl _), (hNW0.below hW6 (nl _))⟩ hso hul (HT.out _ hWw);generalize goodK ⟨l, f.needs, f.par⟩ u = GK at *
             by_cases h0 : GK = 0
             · subst h0
               rw [firstE_zero rfl] at hd;have HZ := Lib.hid hd;clear hd;go_wp2_with (go_at_call 59; refine HGD.mono ?_; clear HGD; rintro e w7 ⟨rfl, hb7⟩);exact ⟨⟨j + 1, hlt6, by go_num, hb6.trans (below_less hb7 hb6.size), HZ⟩, by simp only [intOf]; omega⟩
             · obtain ⟨g1, g2⟩ := nat_ne0 h0
               rw [firstE_hit h0] at hd;have HZ := Lib.hid (show allK l = (i, GK) by rw [HAK.out, hTy.out, typed_hit (by rw [hSF.out, hd]; exact h0), hSF.out, hd]; rfl);clear hd h0;go_wp2_with (go_at_call 59; refine HGD.mono ?_; clear HGD; rintro e w7 ⟨rfl, hb7⟩);go_ret2;rw [HZ.out];exact ⟨rfl, hWw.trans (below_less hb7 hWw.size)⟩
        case pos => as_aux_lemma =>
         obtain ⟨x, hx⟩ : ∃ x, f.ops[k]? = some x := ⟨_, List.getElem?_eq_getElem hlt⟩
         obtain ⟨b1, o1, av, sv, hbe, hDb, ⟨hxn, hxr⟩, hSa, hSs, pc0, pc1, pc2, pc3, pc4⟩ := (hOW.below hbw (nl _)).at hx;subst hbe;obtain ⟨pa, ca, rfl, _⟩ := hSa.shape;obtain ⟨ps, cs, rfl, _⟩ := hSs.shape;have hTk := Lib.hid (show (f.needs.map (·.sig) ++ (f.ops.take k).map (·.sig)) ++ [x.sig] = f.needs.map (·.sig) ++ (f.ops.take (k + 1)).map (·.sig) by rw [List.take_add_one, hx]; simp);have hlen : (f.needs.map (·.sig) ++ (f.ops.take k).map (·.sig)).length ≤ 30 := by simp; omega
         generalize (f.needs.map (·.sig) ++ (f.ops.take k).map (·.sig)) = LS at *;clear hx;obtain ⟨cc, hcs, hC⟩ := hown;have hE1 := (Below.refl _ wr).alloc (nl _) (.cells #[str x.name, .bool x.sig.iter, .slice pa x.sig.args.length ca, str x.sig.res, .slice ps x.sig.sigs.length cs] 50);have hB1 := hbw.alloc hbw.size (.cells #[str x.name, .bool x.sig.iter, .slice pa x.sig.args.length ca, str x.sig.res, .slice ps x.sig.sigs.length cs] 50);have hcs1 := ownsRow_below hcs hE1 (nl _);have hC1 := hC.below hE1 (nl _);have hSa1 := hSa.below hE1 (nl _);have hSs1 := hSs.below hE1 (nl _);have hp1 := (box5 (heap_alloc_new wr (.cells #[str x.name, .bool x.sig.iter, .slice pa x.sig.args.length ca, str x.sig.res, .slice ps x.sig.sigs.length cs] 50))).1;clear hC hE1 hSa hSs;go_wp2_with (at_builtin; refine wpList_append_own2 _ rfl _ _ 115 rfl W2.heap.size 36 i0 _ 4 72 underSigs hi0 hz0 hz1 hz2 rfl (by decide) _ _ cc rfl (hcs1.alloc _) ⟨wr.heap.size + 1, 0, none⟩ 1 1 [.bool x.sig.iter, .slice pa x.sig.args.length ca, str x.sig.res, .slice ps x.sig.sigs.length cs] rfl rfl (by have := cells_new (wr.alloc (.cells #[str x.name, .bool x.sig.iter, .slice pa x.sig.args.length ca, str x.sig.res, .slice ps x.sig.sigs.length cs] 50)) [.bool x.sig.iter, .slice pa x.sig.args.length ca, str x.sig.res, .slice ps x.sig.sigs.length cs] 36; simpa using this) (by intro u hu; simp only [List.mem_cons, List.not_mem_nil, or_false] at hu; rcases hu with rfl | rfl | rfl | rfl <;> rfl) (by decide) (by unfold maxLen; omega) (by omega) (Nat.le_trans hB1.size (by simp)) ?_; intro v' w5 hown5 hgr hob);have hD3 := (Below.refl _ (wr.alloc (.cells #[str x.name, .bool x.sig.iter, .slice pa x.sig.args.length ca, str x.sig.res, .slice ps x.sig.sigs.length cs] 50))).alloc (nl _) (.cells #[.bool x.sig.iter, .slice pa x.sig.args.length ca, str x.sig.res, .slice ps x.sig.sigs.length cs] 36);have hne : ∀ b, D b ∧ b < W2.heap.size → (Value.slice pv LS.length cv).ownBlock ≠ some b := fun b hb e => by have := (hcs1.lt _ e).1; omega
         have h5 := OwnS.append (k := [x.sig]) (hC1.below hD3 (nl _)) (SgC.below hD3 (nl _) ⟨_, _, [], rfl, hxr, hSa1.mono hne, hSs1.mono hne, rfl⟩) hown5 hgr hob;have hB5 := Below.grown (B := W2.heap.size) (hB1.alloc hB1.size (.cells #[.bool x.sig.iter, .slice pa x.sig.args.length ca, str x.sig.res, .slice ps x.sig.sigs.length cs] 36)) hgr (Nat.le_trans hB1.size (by simp)) (fun k e => (hcs1.lt k e).1);refine ⟨⟨k + 1, hlt, by go_num, hTk.out ▸ h5, hB5⟩, by simp only [intOf]; omega⟩
      case pos => as_aux_lemma =>
       obtain ⟨x, hx⟩ : ∃ x, f.needs[k]? = some x := ⟨_, List.getElem?_eq_getElem hlt⟩
       obtain ⟨b1, o1, av, sv, hbe, hDb, ⟨hxn, hxr⟩, hSa, hSs, pc0, pc1, pc2, pc3, pc4⟩ := (hNW.below hbw (nl _)).at hx;subst hbe;obtain ⟨pa, ca, rfl, _⟩ := hSa.shape;obtain ⟨ps, cs, rfl, _⟩ := hSs.shape;have hTk := Lib.hid (show ((f.needs.take k).map (·.sig)) ++ [x.sig] = (f.needs.take (k + 1)).map (·.sig) by rw [List.take_add_one, hx]; simp);have hlen : ((f.needs.take k).map (·.sig)).length ≤ 30 := by simp; omega
       generalize ((f.needs.take k).map (·.sig)) = LS at *;clear hx;obtain ⟨cc, hcs, hC⟩ := hown;have hE1 := (Below.refl _ wr).alloc (nl _) (.cells #[str x.name, .bool x.sig.iter, .slice pa x.sig.args.length ca, str x.sig.res, .slice ps x.sig.sigs.length cs] 79);have hB1 := hbw.alloc hbw.size (.cells #[str x.name, .bool x.sig.iter, .slice pa x.sig.args.length ca, str x.sig.res, .slice ps x.sig.sigs.length cs] 79);have hcs1 := ownsRow_below hcs hE1 (nl _);have hC1 := hC.below hE1 (nl _);have hSa1 := hSa.below hE1 (nl _);have hSs1 := hSs.below hE1 (nl _);have hp1 := (box5 (heap_alloc_new wr (.cells #[str x.name, .bool x.sig.iter, .slice pa x.sig.args.length ca, str x.sig.res, .slice ps x.sig.sigs.length cs] 79))).1;clear hC hE1 hSa hSs;go_wp2_with (at_builtin; refine wpList_append_own2 _ rfl _ _ 115 rfl W2.heap.size 36 i0 _ 4 72 underSigs hi0 hz0 hz1 hz2 rfl (by decide) _ _ cc rfl (hcs1.alloc _) ⟨wr.heap.size + 1, 0, none⟩ 1 1 [.bool x.sig.iter, .slice pa x.sig.args.length ca, str x.sig.res, .slice ps x.sig.sigs.length cs] rfl rfl (by have := cells_new (wr.alloc (.cells #[str x.name, .bool x.sig.iter, .slice pa x.sig.args.length ca, str x.sig.res, .slice ps x.sig.sigs.length cs] 79)) [.bool x.sig.iter, .slice pa x.sig.args.length ca, str x.sig.res, .slice ps x.sig.sigs.length cs] 36; simpa using this) (by intro u hu; simp only [List.mem_cons, List.not_mem_nil, or_false] at hu; rcases hu with rfl | rfl | rfl | rfl <;> rfl) (by decide) (by unfold maxLen; omega) (by omega) (Nat.le_trans hB1.size (by simp)) ?_; intro v' w5 hown5 hgr hob);have hD3 := (Below.refl _ (wr.alloc (.cells #[str x.name, .bool x.sig.iter, .slice pa x.sig.args.length ca, str x.sig.res, .slice ps x.sig.sigs.length cs] 79))).alloc (nl _) (.cells #[.bool x.sig.iter, .slice pa x.sig.args.length ca, str x.sig.res, .slice ps x.sig.sigs.length cs] 36);have hne : ∀ b, D b ∧ b < W2.heap.size → (Value.slice pv LS.length cv).ownBlock ≠ some b := fun b hb e => by have := (hcs1.lt _ e).1; omega
       have h5 := OwnS.append (k := [x.sig]) (hC1.below hD3 (nl _)) (SgC.below hD3 (nl _) ⟨_, _, [], rfl, hxr, hSa1.mono hne, hSs1.mono hne, rfl⟩) hown5 hgr hob;have hB5 := Below.grown (B := W2.heap.size) (hB1.alloc hB1.size (.cells #[.bool x.sig.iter, .slice pa x.sig.args.length ca, str x.sig.res, .slice ps x.sig.sigs.length cs] 36)) hgr (Nat.le_trans hB1.size (by simp)) (fun k e => (hcs1.lt k e).1);refine ⟨⟨k + 1, hlt, by go_num, hTk.out ▸ h5, hB5⟩, by simp only [intOf]; omega⟩
  case pos => as_aux_lemma =>
   obtain ⟨f, hkx⟩ : ∃ f, l[i]? = some f := ⟨_, List.getElem?_eq_getElem hlt⟩
   have hvx := hv.below hb (nl _);obtain ⟨b1, o1, nv, ov, rfl, _, hfl, hN, hO, c0, c1, c2, c3, c4⟩ := hvx.at hkx;obtain ⟨p1, z1, rfl, _⟩ := hN.shape;obtain ⟨p2, z2, rfl, _⟩ := hO.shape;have hd := hA.out;rw [fdrop_at hkx] at hd;clear hA
   by_cases h20 : 20 ≤ i
   · have HX := Lib.hid (allK_hit (hd.trans (checkF_lim h20)))
     have g0 : (20 : Int) ≤ (i : Int) := by omega
     clear hd hkx;go_wp2_with fail;go_ret2;rw [HX.out];exact ⟨rfl, hb.alloc hb.size _⟩
   · have g0 : ¬(20 : Int) ≤ (i : Int) := by omega
     have hbx := heap_alloc_new wr (.cells #[.string ⟨f.name.toArray⟩, .int .u8 f.kind, .bool f.par, .slice p1 f.needs.length z1, .slice p2 f.ops.length z2] 58);have hE := (Below.refl _ wr).alloc (nl _) (.cells #[.string ⟨f.name.toArray⟩, .int .u8 f.kind, .bool f.par, .slice p1 f.needs.length z1, .slice p2 f.ops.length z2] 58);have hB := hb.alloc hb.size (.cells #[.string ⟨f.name.toArray⟩, .int .u8 f.kind, .bool f.par, .slice p1 f.needs.length z1, .slice p2 f.ops.length z2] 58);have HC := fcheck_any _ f _ (HT.out _ hB) ⟨_, _, rfl, hfl, hN.below hE (nl _), hO.below hE (nl _)⟩ (hn f (List.mem_of_getElem? hkx));rcases hfk : faceK f with _ | _
     · rw [faceE_no hfk] at HC
       have HX := Lib.hid (allK_hit (hd.trans (checkF_bad h20 hfk)));clear hd hkx hfk;go_wp2_with (go_at_call 38; refine HC.mono ?_; clear HC; rintro e w1 ⟨rfl, hb1⟩);go_ret2;rw [HX.out];exact ⟨rfl, hB.trans (below_less hb1 hB.size)⟩
     · rw [faceE_yes hfk] at HC
       have hbx0 := (box5 hbx).1;cases i with
       | zero =>
        have HX := Lib.hid (show checkF l 0 none = checkF (l.drop 1) 1 (prevF l 1) by rw [hd, checkF_on h20 hfk (by rfl)]; simp [prevF, hkx]);simp only [Nat.zero_mul, Nat.add_zero] at c0 c1 c2 c3 c4;clear hd hkx hfk;go_upto_region 8 with (go_at_call 38; refine HC.mono ?_; clear HC; rintro e w1 ⟨rfl, hb1⟩; have bx1 := (box5 (kept_call hbx hb1)).1);go_quiet (fail);go_wp2_with fail;exact ⟨⟨1, by omega, by go_num, blwF (hB.trans (below_less hb1 hB.size)) _, HX⟩, by simp only [intOf]; omega⟩
       | succ j =>
        have hj : j < l.length := by omega
        obtain ⟨y, hky⟩ : ∃ y, l[j]? = some y := ⟨_, List.getElem?_eq_getElem hj⟩
        obtain ⟨b2, o2, nv2, ov2, e2, _, _, _, _, d0, _⟩ := hvx.at hky;injection e2 with e2;injection e2 with e2 e3;subst e2 e3;have d0 := Below.keep hE d0;rcases hl : Op.bytesLess y.name f.name with _ | _
        · have HX := Lib.hid (allK_hit (hd.trans (by rw [show prevF l (j + 1) = some y.name by rw [prevF, hky]; rfl]; exact checkF_twice h20 hfk hl)))
          clear hd hkx hky hfk;go_upto_region 8 with (go_at_call 38; refine HC.mono ?_; clear HC; rintro e w1 ⟨rfl, hb1⟩; have bx1 := (box5 (kept_call hbx hb1)).1; have d0 := Below.keep hb1 d0);go_quiet (fail);go_wp2_with fail;go_ret2;rw [HX.out];exact ⟨rfl, blwF (hB.trans (below_less hb1 hB.size)) _⟩
        · have HX := Lib.hid (show checkF l 0 none = checkF (l.drop (j + 2)) (j + 2) (prevF l (j + 2)) by rw [hd, checkF_on h20 hfk (by rw [show prevF l (j + 1) = some y.name by rw [prevF, hky]; rfl]; simp [hl])]; simp [prevF, hkx])
          clear hd hkx hky hfk;go_upto_region 8 with (go_at_call 38; refine HC.mono ?_; clear HC; rintro e w1 ⟨rfl, hb1⟩; have bx1 := (box5 (kept_call hbx hb1)).1; have d0 := Below.keep hb1 d0);go_quiet (fail);go_wp2_with fail;exact ⟨⟨j + 2, by omega, by go_num, blwF (hB.trans (below_less hb1 hB.size)) _, HX⟩, by simp only [intOf]; omega⟩
end Go.Proofs.YtakgjcfkdemipaaGreatDoor
namespace Go.Proofs.YtakgjcfkdemipaaGreatDoor
open Go.RowKit
theorem FacesM.fresh {D : Nat → Prop} {w : World} {v : Value} {l : List FaceP} (h : FacesM D w v l) : FacesM (fun b => D b ∧ b < w.heap.size) w v l := by
 obtain ⟨p, c, h1, h2, h3, h4, h5⟩ := h
 refine ⟨p, c, h1, h2, h3, h4, ?_⟩
 rcases h5 with h5 | ⟨b, o, e, hb, hlt, hj⟩
 · exact .inl h5
 · refine .inr ⟨b, o, e, ⟨hb, hlt⟩, hlt, fun j hj' => ?_⟩
   obtain ⟨n, q, k1, k2, k3⟩ := hj j hj';exact ⟨n, q, k1.fresh, k2.fresh, k3⟩
set_option maxRecDepth 8000 in
set_option maxHeartbeats 6400000 in
theorem opened_any {D : Nat → Prop} (l : List FaceP) (v : Value) (needs : List OpP) (wv : Value) (par : Bool) (w : World) (hT : Tab w) (hv : FacesM D w v l) (hw : OpsM D w wv needs) (hn : ∀ f ∈ l, f.needs.length ≤ 100000) (hnl : needs.length ≤ 100000) :
 Calls Tryz.prog 58 #[v, wv, .bool par] w fun e w' => ∃ m q n c pb, e = .returned (.tuple #[.agg #[.map m, .slice q n c, .bool pb], .int .i64 (askedK l needs)]) ∧ (askedK l needs = 0 → ScopeM D w' (.agg #[.map m, .slice q n c, .bool pb]) ⟨l, needs, par⟩) ∧ Below w.heap.size w w' := by
 have hA := (Below.refl _ w).alloc (nl _) (.cells #[.map none, .slice none 0 0, .bool false] 86)
 have hg := heap_alloc_new w (.cells #[.map none, .slice none 0 0, .bool false] 86)
 have HC := all_any l v _ (hT.below hA (nl _)) (hv.below hA (nl _)) hn
 have HN := fun W (hW : Below w.heap.size w W) => needed_any needs wv W (hT.below hW (nl _)) (hw.below hW (nl _)) hnl
 have HV := Lib.hid (fun W (hW : Below w.heap.size w W) => hv.fresh.below hW (nl _))
 have HW := Lib.hid (fun W (hW : Below w.heap.size w W) => hw.fresh.below hW (nl _))
 have hok := fun h => (allK_ok (l := l) h).1
 obtain ⟨p, c, rfl, _⟩ := hv.shape
 obtain ⟨q, cq, rfl, _⟩ := hw.shape
 have hak : askedK l needs = if (allK l).2 ≠ 0 then (allK l).2 else if neededK needs = true then 0 else 42 := rfl
 generalize askedK l needs = AS at *
 generalize allK l = AK at *
 obtain ⟨j, C⟩ := AK
 simp only at HC hok hak
 clear hT hv hw
 by_cases h0 : C = 0
 case neg =>
  obtain ⟨g1, g2⟩ := nat_ne0 h0;rw [if_pos h0] at hak;subst hak;have H0 := Lib.hid h0;clear h0 hok;go_enter Tryz.func58, Tryz.ntmps58;go_wp2_with (go_at_call 40; refine HC.mono ?_; clear HC; rintro e w1 ⟨rfl, hb1⟩; have hg1 := kept_call hg hb1; have b3 := box3 hg1; have bfr := free_at hg1 0; have bfr1 := free_at hg1 1; have bfr2 := free_at hg1 2);refine bodyPost_ret (v := .tuple #[.agg #[.map none, .slice none 0 0, .bool false], .int .i64 AS]) (by simp [results, Tryz.results58, go_sem, b3]) rfl ?_;have hB1 := hA.trans (below_less hb1 (by simp));exact ⟨_, _, _, _, _, rfl, fun h => absurd h H0.out, ((hB1.setCell (p := ⟨w.heap.size, 0, none⟩) (nl _) _).setCell (p := ⟨w.heap.size, 1, none⟩) (nl _) _).setCell (p := ⟨w.heap.size, 2, none⟩) (nl _) _⟩
 case pos =>
  subst h0;rw [if_neg (by simp)] at hak;rcases hnk : neededK needs with _ | _
  · rw [hnk] at HN hak
    simp only [Bool.false_eq_true, if_false] at hak;subst hak;go_enter Tryz.func58, Tryz.ntmps58;go_wp2_with (first
     | (go_at_call 78; refine (HN _ hB1).mono ?_; clear HN; rintro e w2 ⟨rfl, hb2⟩; have hg2 := kept_call hg1 hb2; have b3 := box3 hg2; have bfr := free_at hg2 0; have bfr1 := free_at hg2 1; have bfr2 := free_at hg2 2; have hB2 := hB1.trans (below_less hb2 hB1.size))
     | (go_at_call 40; refine HC.mono ?_; clear HC; rintro e w1 ⟨rfl, hb1⟩; have hg1 := kept_call hg hb1; have hB1 := hA.trans (below_less hb1 (by simp))))
    refine bodyPost_ret (v := .tuple #[.agg #[.map none, .slice none 0 0, .bool false], .int .i64 42]) (by simp [results, Tryz.results58, go_sem, b3]) rfl ?_;exact ⟨_, _, _, _, _, rfl, fun h => absurd h (by decide), ((hB2.setCell (p := ⟨w.heap.size, 0, none⟩) (nl _) _).setCell (p := ⟨w.heap.size, 1, none⟩) (nl _) _).setCell (p := ⟨w.heap.size, 2, none⟩) (nl _) _⟩
  · rw [hnk] at HN hak
    simp only [if_true] at hak;subst hak;have hll : l.length ≤ 100000 := by
     rcases (checkF_ok l 0 none (hok rfl)).1 with h | h
     · rw [h]; simp
     · omega
    clear hok;go_enter Tryz.func58, Tryz.ntmps58;go_wp2_with (first
     | (go_at_call 91; refine (shelved_any l _ _ (HV.out _ hB2) hll).mono ?_; rintro e w3 ⟨M, rfl, hM, hb3⟩; have hg3 := kept_call hg2 hb3; have b3 := box3 hg3; have bfr := free_at hg3 0; have bfr1 := free_at hg3 1; have bfr2 := free_at hg3 2; have hB3 := hB2.trans (below_less hb3 hB2.size))
     | (go_at_call 78; refine (HN _ hB1).mono ?_; clear HN; rintro e w2 ⟨rfl, hb2⟩; have hg2 := kept_call hg1 hb2; have hB2 := hB1.trans (below_less hb2 hB1.size))
     | (go_at_call 40; refine HC.mono ?_; clear HC; rintro e w1 ⟨rfl, hb1⟩; have hg1 := kept_call hg hb1; have hB1 := hA.trans (below_less hb1 (by simp))))
    refine bodyPost_ret (v := .tuple #[.agg #[.map (some M), .slice q needs.length cq, .bool par], .int .i64 0]) (by simp [results, Tryz.results58, go_sem, b3]) rfl ?_;have hMne : M ≠ w.heap.size := by
     intro hMe;obtain ⟨L, _, hf, _⟩ := hM;obtain ⟨es, clock, h1, _⟩ := hf;rw [hMe, hg3] at h1;simp at h1
    have hNW := HW.out _ hB3;refine ⟨_, _, _, _, _, rfl, fun _ => ⟨M, _, rfl, ShelfM.mono (((hM.set (a := ⟨w.heap.size, 0, none⟩) hMne (fun b hb => by have := hb.2; simp only; omega) _).set (a := ⟨w.heap.size, 1, none⟩) hMne (fun b hb => by have := hb.2; simp only; omega) _).set (a := ⟨w.heap.size, 2, none⟩) hMne (fun b hb => by have := hb.2; simp only; omega) _) (fun b hb => hb.1), OpsM.mono (((hNW.set (a := ⟨w.heap.size, 0, none⟩) (fun b hb => by have := hb.2; simp only; omega) _).set (a := ⟨w.heap.size, 1, none⟩) (fun b hb => by have := hb.2; simp only; omega) _).set (a := ⟨w.heap.size, 2, none⟩) (fun b hb => by have := hb.2; simp only; omega) _) (fun b hb => hb.1)⟩, ((hB3.setCell (p := ⟨w.heap.size, 0, none⟩) (nl _) _).setCell (p := ⟨w.heap.size, 1, none⟩) (nl _) _).setCell (p := ⟨w.heap.size, 2, none⟩) (nl _) _⟩
end Go.Proofs.YtakgjcfkdemipaaGreatDoor
namespace Go.Proofs.YtakgjcfkdemipaaGreatDoor
open Go.RowKit
set_option maxHeartbeats 3200000 in
theorem isOpen_any (t : List UInt8) (w : World) (htl : t.length ≤ maxLen) (hT : Tab w) :
 Calls Tryz.prog 74 #[str t] w fun e w' => e = .returned (.bool (openK t)) ∧ Below w.heap.size w w' := by
 have HO := kopen_any t htl w hT
 go_enter Tryz.func74, Tryz.ntmps74
 go_wp2_with (go_at_call 117; refine HO.mono ?_; clear HO; rintro e w1 ⟨rfl, hb1⟩)
 go_ret
 exact ⟨rfl, hb1⟩
theorem asked_scope {l : List FaceP} {needs : List OpP} {par : Bool} (h : askedK l needs = 0) : ScopeOk ⟨l, needs, par⟩ := by
 unfold askedK at h
 split at h
 · rename_i h1; exact absurd h h1
 · rename_i h1
   split at h
   · rename_i h2
     have hc := (allK_ok (by simpa using h1)).1;exact scopeOk_of (apart_of hc) (checkF_ok l 0 none hc).2.1 h2
   · cases h
set_option maxRecDepth 8000 in
set_option maxHeartbeats 6400000 in
theorem goodL_any {D : Nat → Prop} (l : List FaceP) (v : Value) (needs : List OpP) (wv : Value) (par : Bool) (t : List UInt8) (w : World) (hT : Tab w) (hv : FacesM D w v l) (hw : OpsM D w wv needs) (hn : ∀ f ∈ l, f.needs.length ≤ 100000) (hnl : needs.length ≤ 100000) (htl : t.length ≤ maxLen) :
 Calls Tryz.prog 19 #[v, wv, .bool par, str t] w fun e w' => e = .returned (.int .i64 (goodL l needs par t)) ∧ Below w.heap.size w w' := by
 have HC := opened_any l v needs wv par w hT hv hw hn hnl
 have HT := Lib.hid (fun W (hW : Below w.heap.size w W) => hT.below hW (nl _))
 have hsc := fun h => asked_scope (l := l) (needs := needs) (par := par) h
 obtain ⟨p, c, rfl, _⟩ := hv.shape
 obtain ⟨q, cq, rfl, _⟩ := hw.shape
 have hgl : goodL l needs par t = if askedK l needs ≠ 0 then askedK l needs else goodK ⟨l, needs, par⟩ t := rfl
 generalize goodL l needs par t = GL at *
 generalize askedK l needs = AS at *
 clear hT hv hw
 by_cases h0 : AS = 0
 case neg =>
  obtain ⟨g1, g2⟩ := nat_ne0 h0;rw [if_pos h0] at hgl;subst hgl;clear h0 hsc;go_enter Tryz.func19, Tryz.ntmps19;go_wp2_with (go_at_call 58; refine HC.mono ?_; clear HC; rintro e w1 ⟨m1, q1, n1, c1, pb1, rfl, _, hb1⟩);go_ret;exact ⟨rfl, hb1.alloc hb1.size _⟩
 case pos =>
  subst h0;rw [if_neg (by simp)] at hgl;have hso := hsc rfl;have HX := Lib.hid hgl;clear hsc hgl;go_enter Tryz.func19, Tryz.ntmps19;go_wp2_with (first
   | (go_at_call 59; refine (good_any ⟨l, needs, par⟩ _ t _ hS2 hso htl (HT.out _ hB2)).mono ?_; rintro e w3 ⟨rfl, hb3⟩)
   | (go_at_call 58; refine HC.mono ?_; clear HC; rintro e w1 ⟨m1, q1, n1, c1, pb1, rfl, hS, hb1⟩; have hS1 := hS rfl; clear hS; have hE2 := (Below.refl _ w1).alloc (nl _) (.cells #[m1 |> Value.map, .slice q1 n1 c1, .bool pb1] 86); have hS2 := hS1.below hE2 (nl _); have hB2 := hb1.alloc hb1.size (.cells #[.map m1, .slice q1 n1 c1, .bool pb1] 86)))
  go_ret;rw [HX.out];exact ⟨rfl, hB2.trans (below_less hb3 hB2.size)⟩
end Go.Proofs.YtakgjcfkdemipaaGreatDoor
namespace Go.Proofs.YtakgjcfkdemipaaGreatDoor
open Go.RowKit
theorem ScopeM.mono {D D' : Nat → Prop} {w : World} {v : Value} {c : ScopeP} (h : ScopeM D w v c) (hD : ∀ b, D b → D' b) : ScopeM D' w v c := by
 obtain ⟨m, nv, h1, h2, h3⟩ := h
 exact ⟨m, nv, h1, h2.mono hD, h3.mono hD⟩
theorem ScopeM.set3 {D : Nat → Prop} {w : World} {v : Value} {c : ScopeP} (h : ScopeM D w v c) {b : Nat} {cs : Array Value} {t : TypeId} (hb : w.heap[b]? = some (.cells cs t (0, 0))) (hD : ∀ k, D k → k ≠ b) (x y z : Value) :
 ScopeM D (((w.setCell ⟨b, 0, none⟩ x).setCell ⟨b, 1, none⟩ y).setCell ⟨b, 2, none⟩ z) v c := by
 obtain ⟨m, nv, h1, h2, h3⟩ := h
 have hm : m ≠ b := by
  intro e;obtain ⟨L, _, hf, _⟩ := h2;obtain ⟨es, clock, h4, _⟩ := hf;rw [e, hb] at h4;simp at h4
 exact ⟨m, nv, h1, ((h2.set (a := ⟨b, 0, none⟩) hm hD _).set (a := ⟨b, 1, none⟩) hm hD _).set (a := ⟨b, 2, none⟩) hm hD _, ((h3.set (a := ⟨b, 0, none⟩) hD _).set (a := ⟨b, 1, none⟩) hD _).set (a := ⟨b, 2, none⟩) hD _⟩
set_option maxRecDepth 8000 in
set_option maxHeartbeats 12800000 in
theorem typed_any {D : Nat → Prop} (l : List FaceP) (v : Value) (needs : List OpP) (wv : Value) (t : List UInt8) (w : World) (hT : Tab w) (hv : FacesM D w v l) (hw : OpsM D w wv needs) (hn : ∀ f ∈ l, f.needs.length ≤ 100000) (hnl : needs.length ≤ 100000) (htl : t.length ≤ maxLen) :
 Calls Tryz.prog 62 #[v, wv, str t] w fun e w' => ∃ m q n c pb, e = .returned (.tuple #[.agg #[.map m, .slice q n c, .bool pb], .int .i64 (typedK l needs t)]) ∧ (typedK l needs t = 0 → ScopeM D w' (.agg #[.map m, .slice q n c, .bool pb]) ⟨l, needs, parK needs t⟩) ∧ Below w.heap.size w w' := by
 have hA := (Below.refl _ w).alloc (nl _) (.cells #[.map none, .slice none 0 0, .bool false] 86)
 have hg := heap_alloc_new w (.cells #[.map none, .slice none 0 0, .bool false] 86)
 have HT := Lib.hid (fun W (hW : Below w.heap.size w W) => hT.below hW (nl _))
 have HI := isOpen_any t _ htl (HT.out _ hA)
 have HC := fun par W (hW : Below w.heap.size w W) => opened_any l v needs wv par W (HT.out W hW) (hv.fresh.below hW (nl _)) (hw.fresh.below hW (nl _)) hn hnl
 have hsc := fun par h => asked_scope (l := l) (needs := needs) (par := par) h
 obtain ⟨p, c, rfl, _⟩ := hv.shape
 obtain ⟨q, cq, rfl, _⟩ := hw.shape
 have hgl : typedK l needs t = if askedK l needs ≠ 0 then askedK l needs else goodK ⟨l, needs, parK needs t⟩ t := rfl
 generalize typedK l needs t = GL at *
 generalize askedK l needs = AS at *
 clear hT hv hw hn hnl
 by_cases hn0 : 0 < needs.length
 · have hpar : parK needs t = true := by unfold parK; simp [hn0]
   rw [hpar] at hgl ⊢;clear HI hpar
   by_cases h0 : AS = 0
   case neg =>
    obtain ⟨g1, g2⟩ := nat_ne0 h0;rw [if_pos h0] at hgl;subst hgl;have H0 := Lib.hid h0;clear h0 hsc;go_enter Tryz.func62, Tryz.ntmps62;go_wp2_with (first
     | (go_at_call 58; refine (HC true _ hA).mono ?_; clear HC; rintro e w1 ⟨m1, q1, n1, c1, pb1, rfl, hS, hb1⟩; have hg1 := kept_call hg hb1; have b3 := box3 (heap_up (.cells #[.map m1, .slice q1 n1 c1, .bool pb1] 86) hg1); have bf0 := free_at (heap_up (.cells #[.map m1, .slice q1 n1 c1, .bool pb1] 86) hg1) 0; have bf1 := free_at (heap_up (.cells #[.map m1, .slice q1 n1 c1, .bool pb1] 86) hg1) 1; have bf2 := free_at (heap_up (.cells #[.map m1, .slice q1 n1 c1, .bool pb1] 86) hg1) 2; have hB1 := hA.trans (below_less hb1 hA.size)))
    refine bodyPost_ret (v := .tuple #[.agg #[.map m1, .slice q1 n1 c1, .bool pb1], .int .i64 GL]) (by simp [results, Tryz.results62, go_sem, b3]) rfl ?_;exact ⟨_, _, _, _, _, rfl, fun h => absurd h H0.out, (((hB1.alloc hB1.size (.cells #[.map m1, .slice q1 n1 c1, .bool pb1] 86)).setCell (p := ⟨w.heap.size, 0, none⟩) (nl _) _).setCell (p := ⟨w.heap.size, 1, none⟩) (nl _) _).setCell (p := ⟨w.heap.size, 2, none⟩) (nl _) _⟩
   case pos =>
    subst h0;rw [if_neg (by simp)] at hgl;have hso := hsc (true) rfl;have HX := Lib.hid hgl;clear hsc hgl;go_enter Tryz.func62, Tryz.ntmps62;go_wp2_with (first
     | (go_at_call 59; refine (good_any ⟨l, needs, true⟩ _ t _ hS2 hso htl (HT.out _ hB2)).mono ?_; rintro e w3 ⟨rfl, hb3⟩; have hg3 := kept_call hg2 hb3; have hx3 := kept_call hx2 hb3; have b3 := box3 hg3; have bx3 := box3 hx3; have bf0 := free_at hg3 0; have bf1 := free_at hg3 1; have bf2 := free_at hg3 2; have hS3 := hS2.below hb3 (nl _); have hB3 := hB2.trans (below_less hb3 hB2.size))
     | (go_at_call 58; refine (HC true _ hA).mono ?_; clear HC; rintro e w1 ⟨m1, q1, n1, c1, pb1, rfl, hS, hb1⟩; have hg1 := kept_call hg hb1; have hB1 := hA.trans (below_less hb1 hA.size); have hS1 := hS (by first | rfl | trivial); clear hS; have hE2 := (Below.refl _ w1).alloc (nl _) (.cells #[.map m1, .slice q1 n1 c1, .bool pb1] 86); have hS2 := hS1.below hE2 (nl _); have hB2 := hB1.alloc hB1.size (.cells #[.map m1, .slice q1 n1 c1, .bool pb1] 86); have hg2 := heap_up (.cells #[.map m1, .slice q1 n1 c1, .bool pb1] 86) hg1; have hx2 := heap_alloc_new w1 (.cells #[.map m1, .slice q1 n1 c1, .bool pb1] 86)))
    refine bodyPost_ret (v := .tuple #[.agg #[.map m1, .slice q1 n1 c1, .bool pb1], .int .i64 (goodK ⟨l, needs, true⟩ t)]) (by simp [results, Tryz.results62, go_sem, b3]) rfl ?_;rw [HX.out];exact ⟨_, _, _, _, _, rfl, fun _ => ScopeM.mono (ScopeM.set3 hS3 hg3 (fun k hk => by have := hk.2; omega) _ _ _) (fun b hb => hb.1), ((hB3.setCell (p := ⟨w.heap.size, 0, none⟩) (nl _) _).setCell (p := ⟨w.heap.size, 1, none⟩) (nl _) _).setCell (p := ⟨w.heap.size, 2, none⟩) (nl _) _⟩
 · obtain rfl : needs = [] := List.length_eq_zero_iff.1 (by omega)
   have hpar : parK [] t = openK t := by unfold parK; simp
   rw [hpar] at hgl ⊢;clear hn0 hpar;generalize openK t = O at *;simp only [List.length_nil] at HC ⊢;rcases O with _ | _
   · by_cases h0 : AS = 0
     case neg =>
      obtain ⟨g1, g2⟩ := nat_ne0 h0;rw [if_pos h0] at hgl;subst hgl;have H0 := Lib.hid h0;clear h0 hsc;go_enter Tryz.func62, Tryz.ntmps62;go_wp2_with (first
       | (go_at_call 74; refine HI.mono ?_; clear HI; rintro e w0 ⟨rfl, hb0⟩; have hg0 := kept_call hg hb0; have hB0 := hA.trans (below_less hb0 (by simp)))
       | (go_at_call 58; refine (HC false _ hB0).mono ?_; clear HC; rintro e w1 ⟨m1, q1, n1, c1, pb1, rfl, hS, hb1⟩; have hg1 := kept_call hg0 hb1; have b3 := box3 (heap_up (.cells #[.map m1, .slice q1 n1 c1, .bool pb1] 86) hg1); have bf0 := free_at (heap_up (.cells #[.map m1, .slice q1 n1 c1, .bool pb1] 86) hg1) 0; have bf1 := free_at (heap_up (.cells #[.map m1, .slice q1 n1 c1, .bool pb1] 86) hg1) 1; have bf2 := free_at (heap_up (.cells #[.map m1, .slice q1 n1 c1, .bool pb1] 86) hg1) 2; have hB1 := hB0.trans (below_less hb1 hB0.size)))
      refine bodyPost_ret (v := .tuple #[.agg #[.map m1, .slice q1 n1 c1, .bool pb1], .int .i64 GL]) (by simp [results, Tryz.results62, go_sem, b3]) rfl ?_;exact ⟨_, _, _, _, _, rfl, fun h => absurd h H0.out, (((hB1.alloc hB1.size (.cells #[.map m1, .slice q1 n1 c1, .bool pb1] 86)).setCell (p := ⟨w.heap.size, 0, none⟩) (nl _) _).setCell (p := ⟨w.heap.size, 1, none⟩) (nl _) _).setCell (p := ⟨w.heap.size, 2, none⟩) (nl _) _⟩
     case pos =>
      subst h0;rw [if_neg (by simp)] at hgl;have hso := hsc (false) rfl;have HX := Lib.hid hgl;clear hsc hgl;go_enter Tryz.func62, Tryz.ntmps62;go_wp2_with (first
       | (go_at_call 59; refine (good_any ⟨l, [], false⟩ _ t _ hS2 hso htl (HT.out _ hB2)).mono ?_; rintro e w3 ⟨rfl, hb3⟩; have hg3 := kept_call hg2 hb3; have hx3 := kept_call hx2 hb3; have b3 := box3 hg3; have bx3 := box3 hx3; have bf0 := free_at hg3 0; have bf1 := free_at hg3 1; have bf2 := free_at hg3 2; have hS3 := hS2.below hb3 (nl _); have hB3 := hB2.trans (below_less hb3 hB2.size))
       | (go_at_call 74; refine HI.mono ?_; clear HI; rintro e w0 ⟨rfl, hb0⟩; have hg0 := kept_call hg hb0; have hB0 := hA.trans (below_less hb0 (by simp)))
       | (go_at_call 58; refine (HC false _ hB0).mono ?_; clear HC; rintro e w1 ⟨m1, q1, n1, c1, pb1, rfl, hS, hb1⟩; have hg1 := kept_call hg0 hb1; have hB1 := hB0.trans (below_less hb1 hB0.size); have hS1 := hS (by first | rfl | trivial); clear hS; have hE2 := (Below.refl _ w1).alloc (nl _) (.cells #[.map m1, .slice q1 n1 c1, .bool pb1] 86); have hS2 := hS1.below hE2 (nl _); have hB2 := hB1.alloc hB1.size (.cells #[.map m1, .slice q1 n1 c1, .bool pb1] 86); have hg2 := heap_up (.cells #[.map m1, .slice q1 n1 c1, .bool pb1] 86) hg1; have hx2 := heap_alloc_new w1 (.cells #[.map m1, .slice q1 n1 c1, .bool pb1] 86)))
      refine bodyPost_ret (v := .tuple #[.agg #[.map m1, .slice q1 n1 c1, .bool pb1], .int .i64 (goodK ⟨l, [], false⟩ t)]) (by simp [results, Tryz.results62, go_sem, b3]) rfl ?_;rw [HX.out];exact ⟨_, _, _, _, _, rfl, fun _ => ScopeM.mono (ScopeM.set3 hS3 hg3 (fun k hk => by have := hk.2; omega) _ _ _) (fun b hb => hb.1), ((hB3.setCell (p := ⟨w.heap.size, 0, none⟩) (nl _) _).setCell (p := ⟨w.heap.size, 1, none⟩) (nl _) _).setCell (p := ⟨w.heap.size, 2, none⟩) (nl _) _⟩
   · by_cases h0 : AS = 0
     case neg =>
      obtain ⟨g1, g2⟩ := nat_ne0 h0;rw [if_pos h0] at hgl;subst hgl;have H0 := Lib.hid h0;clear h0 hsc;go_enter Tryz.func62, Tryz.ntmps62;go_wp2_with (first
       | (go_at_call 74; refine HI.mono ?_; clear HI; rintro e w0 ⟨rfl, hb0⟩; have hg0 := kept_call hg hb0; have hB0 := hA.trans (below_less hb0 (by simp)))
       | (go_at_call 58; refine (HC true _ hB0).mono ?_; clear HC; rintro e w1 ⟨m1, q1, n1, c1, pb1, rfl, hS, hb1⟩; have hg1 := kept_call hg0 hb1; have b3 := box3 (heap_up (.cells #[.map m1, .slice q1 n1 c1, .bool pb1] 86) hg1); have bf0 := free_at (heap_up (.cells #[.map m1, .slice q1 n1 c1, .bool pb1] 86) hg1) 0; have bf1 := free_at (heap_up (.cells #[.map m1, .slice q1 n1 c1, .bool pb1] 86) hg1) 1; have bf2 := free_at (heap_up (.cells #[.map m1, .slice q1 n1 c1, .bool pb1] 86) hg1) 2; have hB1 := hB0.trans (below_less hb1 hB0.size)))
      refine bodyPost_ret (v := .tuple #[.agg #[.map m1, .slice q1 n1 c1, .bool pb1], .int .i64 GL]) (by simp [results, Tryz.results62, go_sem, b3]) rfl ?_;exact ⟨_, _, _, _, _, rfl, fun h => absurd h H0.out, (((hB1.alloc hB1.size (.cells #[.map m1, .slice q1 n1 c1, .bool pb1] 86)).setCell (p := ⟨w.heap.size, 0, none⟩) (nl _) _).setCell (p := ⟨w.heap.size, 1, none⟩) (nl _) _).setCell (p := ⟨w.heap.size, 2, none⟩) (nl _) _⟩
     case pos =>
      subst h0;rw [if_neg (by simp)] at hgl;have hso := hsc (true) rfl;have HX := Lib.hid hgl;clear hsc hgl;go_enter Tryz.func62, Tryz.ntmps62;go_wp2_with (first
       | (go_at_call 59; refine (good_any ⟨l, [], true⟩ _ t _ hS2 hso htl (HT.out _ hB2)).mono ?_; rintro e w3 ⟨rfl, hb3⟩; have hg3 := kept_call hg2 hb3; have hx3 := kept_call hx2 hb3; have b3 := box3 hg3; have bx3 := box3 hx3; have bf0 := free_at hg3 0; have bf1 := free_at hg3 1; have bf2 := free_at hg3 2; have hS3 := hS2.below hb3 (nl _); have hB3 := hB2.trans (below_less hb3 hB2.size))
       | (go_at_call 74; refine HI.mono ?_; clear HI; rintro e w0 ⟨rfl, hb0⟩; have hg0 := kept_call hg hb0; have hB0 := hA.trans (below_less hb0 (by simp)))
       | (go_at_call 58; refine (HC true _ hB0).mono ?_; clear HC; rintro e w1 ⟨m1, q1, n1, c1, pb1, rfl, hS, hb1⟩; have hg1 := kept_call hg0 hb1; have hB1 := hB0.trans (below_less hb1 hB0.size); have hS1 := hS (by first | rfl | trivial); clear hS; have hE2 := (Below.refl _ w1).alloc (nl _) (.cells #[.map m1, .slice q1 n1 c1, .bool pb1] 86); have hS2 := hS1.below hE2 (nl _); have hB2 := hB1.alloc hB1.size (.cells #[.map m1, .slice q1 n1 c1, .bool pb1] 86); have hg2 := heap_up (.cells #[.map m1, .slice q1 n1 c1, .bool pb1] 86) hg1; have hx2 := heap_alloc_new w1 (.cells #[.map m1, .slice q1 n1 c1, .bool pb1] 86)))
      refine bodyPost_ret (v := .tuple #[.agg #[.map m1, .slice q1 n1 c1, .bool pb1], .int .i64 (goodK ⟨l, [], true⟩ t)]) (by simp [results, Tryz.results62, go_sem, b3]) rfl ?_;rw [HX.out];exact ⟨_, _, _, _, _, rfl, fun _ => ScopeM.mono (ScopeM.set3 hS3 hg3 (fun k hk => by have := hk.2; omega) _ _ _) (fun b hb => hb.1), ((hB3.setCell (p := ⟨w.heap.size, 0, none⟩) (nl _) _).setCell (p := ⟨w.heap.size, 1, none⟩) (nl _) _).setCell (p := ⟨w.heap.size, 2, none⟩) (nl _) _⟩
end Go.Proofs.YtakgjcfkdemipaaGreatDoor
namespace Go.Proofs.YtakgjcfkdemipaaGreatDoor
open Go.RowKit
theorem typed_zero {l : List FaceP} {needs : List OpP} {t : List UInt8} (h : typedK l needs t = 0) : askedK l needs = 0 ∧ (checkK t).1 = 0 := by
 unfold typedK at h
 split at h
 · rename_i h1; exact absurd h h1
 · rename_i h1
   refine ⟨by simpa using h1, ?_⟩;apply Classical.byContradiction;intro h2;unfold goodK goodN at h;rw [if_pos h2] at h;exact h2 h
set_option maxRecDepth 8000 in
set_option maxHeartbeats 12800000 in
theorem opOf_any {D : Nat → Prop} (l : List FaceP) (v : Value) (needs : List OpP) (wv : Value) (t n : List UInt8) (w : World) (hT : Tab w) (hv : FacesM D w v l) (hw : OpsM D w wv needs) (hn : ∀ f ∈ l, f.needs.length ≤ 100000) (hnl : needs.length ≤ 100000) (htl : t.length ≤ maxLen) :
 Calls Tryz.prog 23 #[v, wv, str t, str n] w fun e w' => ∃ u, e = .returned (.tuple #[u, .int .i64 (opOfK l needs t n).2]) ∧ SigV (fun b => w.heap.size ≤ b) w' u (opOfK l needs t n).1 ∧ Below w.heap.size w w' := by
 have hA := (Below.refl _ w).alloc (nl _) (.cells #[.bool false, .slice none 0 0, .string ⟨#[]⟩, .slice none 0 0] 36)
 have hg := heap_alloc_new w (.cells #[.bool false, .slice none 0 0, .string ⟨#[]⟩, .slice none 0 0] 36)
 have HT := Lib.hid (fun W (hW : Below w.heap.size w W) => hT.below hW (nl _))
 have HC := typed_any l v needs wv t _ (HT.out _ hA) (hv.below hA (nl _)) (hw.below hA (nl _)) hn hnl htl
 have hz := fun h => typed_zero (l := l) (needs := needs) (t := t) h
 obtain ⟨p, c, rfl, _⟩ := hv.shape
 obtain ⟨q, cq, rfl, _⟩ := hw.shape
 have hgl : opOfK l needs t n = if typedK l needs t ≠ 0 then (.zero, typedK l needs t) else opIn ⟨l, needs, parK needs t⟩ t n := rfl
 generalize opOfK l needs t n = RS at *
 generalize typedK l needs t = TK at *
 clear hT hv hw hn hnl
 by_cases h0 : TK = 0
 case neg =>
  obtain ⟨g1, g2⟩ := nat_ne0 h0;rw [if_pos h0] at hgl;subst hgl;clear h0 hz;go_enter Tryz.func23, Tryz.ntmps23;go_wp2_with (go_at_call 62; refine HC.mono ?_; clear HC; rintro e w1 ⟨m1, q1, n1, c1, pb1, rfl, _, hb1⟩; have hg1 := kept_call hg hb1; have hB1 := hA.trans (below_less hb1 (by simp)); have hg2 := heap_up (.cells #[.map m1, .slice q1 n1 c1, .bool pb1] 86) hg1; have b4 := box4 hg2);refine bodyPost_ret (v := .tuple #[.agg #[.bool false, .slice none 0 0, str [], .slice none 0 0], .int .i64 TK]) (by simp [results, Tryz.results23, go_sem, b4.1]) rfl ?_;exact ⟨_, rfl, SigV.zero _ _, Below.set4 (hB1.alloc hB1.size _) (b := w.heap.size) (nl _) _ _ _ _⟩
 case pos =>
  subst h0;rw [if_neg (by simp)] at hgl;obtain ⟨ha0, hc0⟩ := hz rfl;have hso := asked_scope (par := parK needs t) ha0;have HO := fun v' W hW hS => op_any (D := D) ⟨l, needs, parK needs t⟩ v' t n W hS (tyOk hc0) (hso.2.2.2 t hc0) (HT.out W hW) hso.1 hso.2.1 (checkK_kinds hc0)
  have HX := Lib.hid hgl;clear hz hgl ha0;generalize opIn ⟨l, needs, parK needs t⟩ t n = OI at *;go_enter Tryz.func23, Tryz.ntmps23;go_wp2_with (first
   | (go_at_call 72; refine (HO _ _ hB2 hS2).mono ?_; clear HO; rintro e w3 ⟨u3, rfl, ⟨a3, q3, rfl, l3, r3, s3⟩, hb3⟩; obtain ⟨pzz, cz, rfl, _⟩ := r3.shape; obtain ⟨py, cy, rfl, _⟩ := s3.shape; have hg3 := kept_call hg2 hb3; have b4 := box4 hg3; have hB3 := hB2.trans (below_less hb3 hB2.size))
   | (go_at_call 62; refine HC.mono ?_; clear HC; rintro e w1 ⟨m1, q1, n1, c1, pb1, rfl, hS, hb1⟩; have hg1 := kept_call hg hb1; have hB1 := hA.trans (below_less hb1 (by simp)); have hS1 := hS (by first | rfl | trivial); clear hS; have hE2 := (Below.refl _ w1).alloc (nl _) (.cells #[.map m1, .slice q1 n1 c1, .bool pb1] 86); have hS2 := hS1.below hE2 (nl _); have hB2 := hB1.alloc hB1.size (.cells #[.map m1, .slice q1 n1 c1, .bool pb1] 86); have hg2 := heap_up (.cells #[.map m1, .slice q1 n1 c1, .bool pb1] 86) hg1))
  refine bodyPost_ret (v := .tuple #[.agg #[.bool OI.1.iter, .slice pzz OI.1.args.length cz, str OI.1.res, .slice py OI.1.sigs.length cy], .int .i64 OI.2]) (by simp [results, Tryz.results23, go_sem, b4.1]) rfl ?_;rw [HX.out];have hs2 := heap_lt hg2;refine ⟨_, rfl, ⟨_, _, rfl, l3, ?_, ?_⟩, Below.set4 hB3 (b := w.heap.size) (nl _) _ _ _ _⟩
  · exact (SS.set4 r3 (b := w.heap.size) (by intro b hb; omega) _ _ _ _).mono (by intro b hb; omega)
  · exact (SS.set4 s3 (b := w.heap.size) (by intro b hb; omega) _ _ _ _).mono (by intro b hb; omega)
end Go.Proofs.YtakgjcfkdemipaaGreatDoor
