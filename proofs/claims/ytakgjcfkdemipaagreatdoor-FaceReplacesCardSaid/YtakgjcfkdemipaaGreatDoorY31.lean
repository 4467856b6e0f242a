/-
  Contract: of the package face: (scope).good. Condition: what is asked of a scope; the type's length; the variable strings.asciiSpace.
  Contract: of the package face: (scope).good, whole. Condition: what is asked of a scope; the type's length; the variable strings.asciiSpace.
  Rows of signatures that the call makes and appends to. No condition but on lengths.
  A scope of faces that are well formed is as is asked of a scope. Plain.
-/
import Derived.ChangeAlike
import Derived.Deep.LoopGhost
import Derived.RegionTactic
import Derived.Test.YtakgjcfkdemipaaGreatDoorYn
import Derived.Test.YtakgjcfkdemipaaGreatDoorY30
namespace Go.Proofs.YtakgjcfkdemipaaGreatDoor
open Go.RowKit
theorem firstE_zero {e : Nat} {l : List Nat} (h : e = 0) : firstE (e :: l) = firstE l := by rw [firstE, if_pos h]
theorem firstE_hit {e : Nat} {l : List Nat} (h : e ≠ 0) : firstE (e :: l) = e := by rw [firstE, if_neg h]
theorem named_not {c : ScopeP} {r : List UInt8 → Nat} {u : List UInt8} (h : (checkK u).2.k ≠ 7) : namedE c r u = 0 := by unfold namedE; rw [if_neg h]
theorem named_none {c : ScopeP} {r : List UInt8 → Nat} {u : List UInt8} (h : (checkK u).2.k = 7) (hf : findK c.faces (baseK u).1 = none) : namedE c r u = 5 := by unfold namedE; rw [if_pos h, hf]
theorem named_bad {c : ScopeP} {r : List UInt8 → Nat} {u : List UInt8} {f : FaceP} (h : (checkK u).2.k = 7) (hf : findK c.faces (baseK u).1 = some f) (hx : ¬(f.kind = 3 ∧ (argK u).2.1 = f.par)) : namedE c r u = 5 := by unfold namedE; rw [if_pos h, hf]; simp only; rw [if_neg hx]
theorem named_lone {c : ScopeP} {r : List UInt8 → Nat} {u : List UInt8} {f : FaceP} (h : (checkK u).2.k = 7) (hf : findK c.faces (baseK u).1 = some f) (h3 : f.kind = 3) (hp : f.par = false) (ha : (argK u).2.1 = false) : namedE c r u = 0 := by
 unfold namedE
 rw [if_pos h, hf]
 simp only
 rw [if_pos ⟨h3, by rw [hp, ha]⟩, if_neg (by rw [ha]; simp)]
theorem named_fit {c : ScopeP} {n : Nat} {u : List UInt8} {f : FaceP} (h : (checkK u).2.k = 7) (hf : findK c.faces (baseK u).1 = some f) (h3 : f.kind = 3) (hp : f.par = true) (ha : (argK u).2.1 = true) : namedE c (goodN c n) u = if fitN c n f.needs (argK u).1 = true then 0 else 41 := by
 unfold namedE fitN
 rw [if_pos h, hf]
 simp only
 rw [if_pos ⟨h3, by rw [hp, ha]⟩, ha]
 by_cases h1 : f.needs = [] <;> by_cases h2 : goodN c n (argK u).1 = 0 <;> cases (lacksK c f.needs (argK u).1).isSome <;> simp [h1, h2]
set_option maxRecDepth 8000 in
set_option maxHeartbeats 25600000 in
theorem good_step {D : Nat → Prop} (c : ScopeP) (n : Nat) (hG : GoodC D c n) (hso : ScopeOk c) : GoodC D c (n + 1) := by
 intro v t w hv htl hlev hT
 have HV := Lib.hid (fun W (hW : Below w.heap.size w W) => hv.below hW (nl _))
 have HT := Lib.hid (fun W (hW : Below w.heap.size w W) => hT.below hW (nl _))
 obtain ⟨m, nv, rfl, hs, hN⟩ := hv
 have HS := Lib.hid (fun W (hW : Below w.heap.size w W) => hs.below hW (nl _))
 obtain ⟨q, cq, rfl, _⟩ := hN.shape
 have hbox := heap_alloc_new w (.cells #[.map (some m), .slice q c.needs.length cq, .bool c.par] 86)
 have hA := (Below.refl _ w).alloc (nl _) (.cells #[.map (some m), .slice q c.needs.length cq, .bool c.par] 86)
 have HC := kcheck_any t htl _ (HT.out _ hA)
 clear hs hN hT
 by_cases h0 : (checkK t).1 = 0
 case neg =>
  obtain ⟨g1, g2⟩ := nat_ne0 h0;have HX := Lib.hid (show goodN c (n + 1) t = (checkK t).1 by rw [goodN, if_pos h0]);clear h0;generalize (checkK t).1 = C at *;generalize goodN c (n + 1) t = GN at *;go_enter Tryz.func59, Tryz.ntmps59;go_wp2_with fail
  go_step3
  go_wp2_with (go_at_call 116; refine HC.mono ?_; clear HC; rintro e w1 ⟨rfl, hb1⟩);try rw [Exit.noGoto_ret]
  go_ret;rw [HX.out];exact ⟨rfl, hA.trans (below_less hb1 (by simp))⟩
 case pos =>
  obtain ⟨hi2, hil, hia⟩ := inside_all h0
  by_cases ho : openK t = true ∧ c.par = false
  case pos =>
   obtain ⟨ho1, ho2⟩ := ho;have HX := Lib.hid (show goodN c (n + 1) t = 43 by rw [goodN, if_neg (by simp [h0]), if_pos ⟨ho1, ho2⟩]);have HOP := fun W hW => kopen_any t htl W (HT.out W hW)
   rw [ho1, h0] at HOP;rw [h0] at HC;generalize goodN c (n + 1) t = GN at *;rw [ho2] at hbox hA HV HC;simp only [ho2];clear h0 ho1 ho2 hi2 hil hia;go_enter Tryz.func59, Tryz.ntmps59;go_wp2_with fail
   go_step3
   go_wp2_with (first
    | (go_at_call 117; refine (HOP _ hB1).mono ?_; clear HOP; rintro e w2 ⟨rfl, hb2⟩; have bx2 := box3 (kept_call hbx1 hb2))
    | (go_at_call 116; refine HC.mono ?_; clear HC; rintro e w1 ⟨rfl, hb1⟩; have hbx1 := kept_call hbox hb1; have hB1 := hA.trans (below_less hb1 (by simp))))
   try rw [Exit.noGoto_ret]
   go_ret;rw [HX.out];exact ⟨rfl, hB1.trans (below_less hb2 hB1.size)⟩
  case neg =>
   have HX := Lib.hid (show goodN c (n + 1) t = firstE ((insideK t).1.map (namedE c (goodN c n))) by rw [goodN, if_neg (by simp [h0]), if_neg ho]);have HOP := fun W hW => kopen_any t htl W (HT.out W hW)
   have HIN := fun W hW => kinside_any t htl W (HT.out W hW)
   rw [h0] at HC HOP;generalize goodN c (n + 1) t = GN at *;unfold InsidePost at HIN;rw [hi2] at HIN;generalize (insideK t).1 = l at *;have hgo : openK t = false ∨ c.par = true := by cases h1 : openK t <;> cases h2 : c.par <;> simp_all
   clear ho h0 hi2;generalize openK t = O at *;have HK := fun (u : List UInt8) (hu : u.length ≤ maxLen) W hW => kkind_any u hu W (HT.out W hW)
   have hcase : O = false ∨ (O = true ∧ c.par = true) := by rcases hgo with h | h; exact .inl h; cases O; exact .inl rfl; exact .inr ⟨rfl, h⟩
   clear hgo;rcases hcase with rfl | ⟨rfl, hpp⟩
   · go_enter Tryz.func59, Tryz.ntmps59
     go_wp2_with fail
     go_step3
     go_wp2_with (first
      | (go_at_call 118; refine (HIN _ hB2).mono ?_; clear HIN; rintro e w3 ⟨vl, rfl, hown, hb3⟩; obtain ⟨pl, cl, rfl⟩ := row_shape hown; have hbx3 := kept_call hbx2 hb3; have hB3 := hB2.trans (below_less hb3 hB2.size))
      | (go_at_call 117; refine (HOP _ hB1).mono ?_; clear HOP; rintro e w2 ⟨rfl, hb2⟩; have hbx2 := kept_call hbx1 hb2; have bx2 := box3 hbx2; have hB2 := hB1.trans (below_less hb2 hB1.size))
      | (go_at_call 116; refine HC.mono ?_; clear HC; rintro e w1 ⟨rfl, hb1⟩; have hbx1 := kept_call hbox hb1; have hB1 := hA.trans (below_less hb1 (by simp))))
     go_step3
     go_wp2_with fail;have hSS : SS (fun _ => True) w3 (.slice pl l.length cl) l := SS.of_own hown (fun s hs => Nat.le_trans (hia s hs).2.1 (by decide)) (fun _ _ => trivial);have hBx := hbx3;have hBB := hB3;clear hown hbx3 hB3 hbx2 hbx1 hB1 hB2 hb1 hb2 hb3 bx2 hA hbox;go_loopw [10, 45] (fun o y wr => o = .int .i64 0 ∧ ∃ i : Nat, i ≤ l.length ∧ y = .int .i64 i ∧ Below w.heap.size w wr ∧ wr.heap[w.heap.size]? = some (.cells #[.map (some m), .slice q c.needs.length cq, .bool c.par] 86 (0, 0)) ∧ SS (fun _ => True) wr (.slice pl l.length cl) l ∧ Hid (firstE (l.map (namedE c (goodN c n))) = firstE ((l.drop i).map (namedE c (goodN c n))))) (fun _ y _ => l.length - (intOf y).toNat)
     case atStart => exact ⟨rfl, 0, Nat.zero_le _, by go_num, hBB, hBx, hSS, rfl⟩
     case round =>
      clear hBx hBB hSS;obtain ⟨rfl, i, hi, rfl, hb, hbx, hSS, hE⟩ := hrel
      by_cases hlt : i < l.length
      case neg =>
       have HY := Lib.hid (show GN = 0 by rw [HX.out, hE.out, List.drop_eq_nil_of_le (by omega)]; rfl);clear hE;go_wp2_with fail;try rw [Exit.noGoto_ret]
       go_ret;rw [HY.out];exact ⟨rfl, hb⟩
      case pos =>
       obtain ⟨u, hku⟩ : ∃ u, l[i]? = some u := ⟨_, List.getElem?_eq_getElem hlt⟩
       obtain ⟨hu0, hul, huv⟩ := hia u (List.mem_of_getElem? hku);have hul : u.length ≤ maxLen := Nat.le_trans hul (by decide);obtain ⟨b1, o1, rfl, _, pc⟩ := hSS.at hku;have hd := hE.out;rw [fdrop_at hku, List.map_cons] at hd;clear hE hku;have HK := HK u hul wr hb
       by_cases hk7 : (checkK u).2.k = 7
       case neg =>
        have g1 : (((checkK u).2.k : Int) != 7) = true := by rw [bne_iff_ne]; omega
        have g2 : (((checkK u).2.k : Int) == 7) = false := by rw [beq_eq_false_iff_ne]; omega
        have HY := Lib.hid (hd.trans (firstE_zero (named_not hk7)));clear hk7;clear hd;go_wp2_with (go_at_call 119; refine HK.mono ?_; clear HK; rintro e w1 ⟨rfl, hb1⟩; have hbx1 := kept_call hbx hb1; have hB1 := hb.trans (below_less hb1 hb.size); have hS1 := hSS.below hb1 (nl _));exact ⟨⟨rfl, i + 1, hlt, by go_num, hB1, hbx1, hS1, HY⟩, by simp only [intOf]; omega⟩
       case pos =>
        obtain ⟨_, hal, hbl, _, hac, _⟩ := arg_level hu0 hk7;have hbl : (baseK u).1.length ≤ maxLen := Nat.le_trans hbl (by decide);rw [hk7] at HK;have HBA := fun W hW => kbase_any u hul W (HT.out W hW)
        have HAR := fun W hW => karg_any u hul W (HT.out W hW)
        have HFI := fun W hW => find_any c.faces m (baseK u).1 W (HS.out W hW) hso.1 hbl
        rcases hq : findK c.faces (baseK u).1 with _ | f
        · have HY := Lib.hid (hd.trans ((firstE_hit (by rw [named_none hk7 hq]; decide)).trans (named_none hk7 hq)))
          simp only [hq, Option.isSome_none] at HFI;clear hd;go_wp2_with (first
           | (go_at_call 75; refine (HFI _ hB3).mono ?_; clear HFI; rintro e w4 ⟨fv, rfl, f1, _, hb4⟩; obtain rfl := f1 trivial; have hB4 := hB3.trans (below_less hb4 hB3.size))
           | (go_at_call 121; refine (HAR _ hB2).mono ?_; clear HAR; rintro e w3' ⟨rfl, hb3⟩; have hbx3 := kept_call hbx2 hb3; have bx3 := box3 hbx3; have hB3 := hB2.trans (below_less hb3 hB2.size); have hS3 := hS2.below hb3 (nl _))
           | (go_at_call 120; refine (HBA _ hB1).mono ?_; clear HBA; rintro e w2 ⟨rfl, hb2⟩; have hbx2 := kept_call hbx1 hb2; have hB2 := hB1.trans (below_less hb2 hB1.size); have hS2 := hS1.below hb2 (nl _))
           | (go_at_call 119; refine HK.mono ?_; clear HK; rintro e w1 ⟨rfl, hb1⟩; have hbx1 := kept_call hbx hb1; have hB1 := hb.trans (below_less hb1 hb.size); have hS1 := hSS.below hb1 (nl _)))
          try rw [Exit.noGoto_ret]
          go_ret;rw [HX.out, HY.out];exact ⟨rfl, hB4.alloc hB4.size _⟩
        · have hfm := hso.2.2.1 f (by unfold findK at hq; exact List.mem_of_find?_eq_some hq)
          simp only [hq, Option.isSome_some] at HFI
          by_cases h3 : f.kind = 3
          case neg =>
           have HY := Lib.hid (hd.trans ((firstE_hit (by rw [named_bad hk7 hq (fun h => h3 h.1)]; decide)).trans (named_bad hk7 hq (fun h => h3 h.1))));clear hq;obtain ⟨fn, fk, fp, fneeds, fops⟩ := f;simp only at h3;have g1 : ((fk : Int) != 3) = true := by rw [bne_iff_ne]; omega
           have g2 : ((fk : Int) == 3) = false := by rw [beq_eq_false_iff_ne]; omega
           clear h3;clear hd;go_wp2_with (first
            | (go_at_call 75; refine (HFI _ hB3).mono ?_; clear HFI; rintro e w4 ⟨fv, rfl, _, f2, hb4⟩; obtain ⟨nv, ov, rfl, hfl, hNn, hOo⟩ := f2 _ rfl; obtain ⟨p1, c1, rfl, _⟩ := hNn.shape; obtain ⟨p2, c2, rfl, _⟩ := hOo.shape; have hbx4 := kept_call hbx3 hb4; have hB4 := hB3.trans (below_less hb4 hB3.size); have hS4 := hS3.below hb4 (nl _); have hE5 := (Below.refl _ w4).alloc (nl _) (.cells #[.string ⟨fn.toArray⟩, .int .u8 fk, .bool fp, .slice p1 fneeds.length c1, .slice p2 fops.length c2] 58); have hbx5 := heap_up (.cells #[.string ⟨fn.toArray⟩, .int .u8 fk, .bool fp, .slice p1 fneeds.length c1, .slice p2 fops.length c2] 58) hbx4; have bx5 := box3 hbx5; have hB5 := hB4.alloc hB4.size (.cells #[.string ⟨fn.toArray⟩, .int .u8 fk, .bool fp, .slice p1 fneeds.length c1, .slice p2 fops.length c2] 58); have hS5 := hS4.below hE5 (nl _))
            | (go_at_call 121; refine (HAR _ hB2).mono ?_; clear HAR; rintro e w3' ⟨rfl, hb3⟩; have hbx3 := kept_call hbx2 hb3; have bx3 := box3 hbx3; have hB3 := hB2.trans (below_less hb3 hB2.size); have hS3 := hS2.below hb3 (nl _))
            | (go_at_call 120; refine (HBA _ hB1).mono ?_; clear HBA; rintro e w2 ⟨rfl, hb2⟩; have hbx2 := kept_call hbx1 hb2; have hB2 := hB1.trans (below_less hb2 hB1.size); have hS2 := hS1.below hb2 (nl _))
            | (go_at_call 119; refine HK.mono ?_; clear HK; rintro e w1 ⟨rfl, hb1⟩; have hbx1 := kept_call hbx hb1; have hB1 := hb.trans (below_less hb1 hb.size); have hS1 := hSS.below hb1 (nl _)))
           try rw [Exit.noGoto_ret]
           go_ret;rw [HX.out, HY.out];exact ⟨rfl, hB5⟩
          case pos =>
           rcases hha : (argK u).2.1 with _ | _ <;> rcases hfp : f.par with _ | _
           · have HY := Lib.hid (hd.trans (firstE_zero (named_lone hk7 hq h3 hfp hha)))
             clear hq;rw [hha] at HAR hac;clear hha;obtain ⟨fn, fk, fp, fneeds, fops⟩ := f;simp only at h3 hfp hfm;subst hfp;have g1 : ((fk : Int) != 3) = false := by subst h3; rfl
             have g2 : ((fk : Int) == 3) = true := by subst h3; rfl
             clear h3;clear hd;go_wp2_with (first
              | (go_at_call 75; refine (HFI _ hB3).mono ?_; clear HFI; rintro e w4 ⟨fv, rfl, _, f2, hb4⟩; obtain ⟨nv, ov, rfl, hfl, hNn, hOo⟩ := f2 _ rfl; obtain ⟨p1, c1, rfl, _⟩ := hNn.shape; obtain ⟨p2, c2, rfl, _⟩ := hOo.shape; have hbx4 := kept_call hbx3 hb4; have hB4 := hB3.trans (below_less hb4 hB3.size); have hS4 := hS3.below hb4 (nl _); have hE5 := (Below.refl _ w4).alloc (nl _) (.cells #[.string ⟨fn.toArray⟩, .int .u8 fk, .bool false, .slice p1 fneeds.length c1, .slice p2 fops.length c2] 58); have hbx5 := heap_up (.cells #[.string ⟨fn.toArray⟩, .int .u8 fk, .bool false, .slice p1 fneeds.length c1, .slice p2 fops.length c2] 58) hbx4; have bx5 := box3 hbx5; have hB5 := hB4.alloc hB4.size (.cells #[.string ⟨fn.toArray⟩, .int .u8 fk, .bool false, .slice p1 fneeds.length c1, .slice p2 fops.length c2] 58); have hS5 := hS4.below hE5 (nl _))
              | (go_at_call 121; refine (HAR _ hB2).mono ?_; clear HAR; rintro e w3' ⟨rfl, hb3⟩; have hbx3 := kept_call hbx2 hb3; have bx3 := box3 hbx3; have hB3 := hB2.trans (below_less hb3 hB2.size); have hS3 := hS2.below hb3 (nl _))
              | (go_at_call 120; refine (HBA _ hB1).mono ?_; clear HBA; rintro e w2 ⟨rfl, hb2⟩; have hbx2 := kept_call hbx1 hb2; have hB2 := hB1.trans (below_less hb2 hB1.size); have hS2 := hS1.below hb2 (nl _))
              | (go_at_call 119; refine HK.mono ?_; clear HK; rintro e w1 ⟨rfl, hb1⟩; have hbx1 := kept_call hbx hb1; have hB1 := hb.trans (below_less hb1 hb.size); have hS1 := hSS.below hb1 (nl _)))
             exact ⟨⟨rfl, i + 1, hlt, by go_num, hB5, hbx5, hS5, HY⟩, by simp only [intOf]; omega⟩
           · have HY := Lib.hid (hd.trans ((firstE_hit (by rw [named_bad hk7 hq (fun h => by rw [hha, hfp] at h; simp at h)]; decide)).trans (named_bad hk7 hq (fun h => by rw [hha, hfp] at h; simp at h))))
             clear hq;rw [hha] at HAR hac;clear hha;obtain ⟨fn, fk, fp, fneeds, fops⟩ := f;simp only at h3 hfp hfm;subst hfp;have g1 : ((fk : Int) != 3) = false := by subst h3; rfl
             have g2 : ((fk : Int) == 3) = true := by subst h3; rfl
             clear h3;clear hd;go_wp2_with (first
              | (go_at_call 75; refine (HFI _ hB3).mono ?_; clear HFI; rintro e w4 ⟨fv, rfl, _, f2, hb4⟩; obtain ⟨nv, ov, rfl, hfl, hNn, hOo⟩ := f2 _ rfl; obtain ⟨p1, c1, rfl, _⟩ := hNn.shape; obtain ⟨p2, c2, rfl, _⟩ := hOo.shape; have hbx4 := kept_call hbx3 hb4; have hB4 := hB3.trans (below_less hb4 hB3.size); have hS4 := hS3.below hb4 (nl _); have hE5 := (Below.refl _ w4).alloc (nl _) (.cells #[.string ⟨fn.toArray⟩, .int .u8 fk, .bool true, .slice p1 fneeds.length c1, .slice p2 fops.length c2] 58); have hbx5 := heap_up (.cells #[.string ⟨fn.toArray⟩, .int .u8 fk, .bool true, .slice p1 fneeds.length c1, .slice p2 fops.length c2] 58) hbx4; have bx5 := box3 hbx5; have hB5 := hB4.alloc hB4.size (.cells #[.string ⟨fn.toArray⟩, .int .u8 fk, .bool true, .slice p1 fneeds.length c1, .slice p2 fops.length c2] 58); have hS5 := hS4.below hE5 (nl _))
              | (go_at_call 121; refine (HAR _ hB2).mono ?_; clear HAR; rintro e w3' ⟨rfl, hb3⟩; have hbx3 := kept_call hbx2 hb3; have bx3 := box3 hbx3; have hB3 := hB2.trans (below_less hb3 hB2.size); have hS3 := hS2.below hb3 (nl _))
              | (go_at_call 120; refine (HBA _ hB1).mono ?_; clear HBA; rintro e w2 ⟨rfl, hb2⟩; have hbx2 := kept_call hbx1 hb2; have hB2 := hB1.trans (below_less hb2 hB1.size); have hS2 := hS1.below hb2 (nl _))
              | (go_at_call 119; refine HK.mono ?_; clear HK; rintro e w1 ⟨rfl, hb1⟩; have hbx1 := kept_call hbx hb1; have hB1 := hb.trans (below_less hb1 hb.size); have hS1 := hSS.below hb1 (nl _)))
             try rw [Exit.noGoto_ret]
             go_ret;rw [HX.out, HY.out];exact ⟨rfl, hB5⟩
           · have HY := Lib.hid (hd.trans ((firstE_hit (by rw [named_bad hk7 hq (fun h => by rw [hha, hfp] at h; simp at h)]; decide)).trans (named_bad hk7 hq (fun h => by rw [hha, hfp] at h; simp at h))))
             clear hq;rw [hha] at HAR hac;clear hha;obtain ⟨fn, fk, fp, fneeds, fops⟩ := f;simp only at h3 hfp hfm;subst hfp;have g1 : ((fk : Int) != 3) = false := by subst h3; rfl
             have g2 : ((fk : Int) == 3) = true := by subst h3; rfl
             clear h3;clear hd;go_wp2_with (first
              | (go_at_call 75; refine (HFI _ hB3).mono ?_; clear HFI; rintro e w4 ⟨fv, rfl, _, f2, hb4⟩; obtain ⟨nv, ov, rfl, hfl, hNn, hOo⟩ := f2 _ rfl; obtain ⟨p1, c1, rfl, _⟩ := hNn.shape; obtain ⟨p2, c2, rfl, _⟩ := hOo.shape; have hbx4 := kept_call hbx3 hb4; have hB4 := hB3.trans (below_less hb4 hB3.size); have hS4 := hS3.below hb4 (nl _); have hE5 := (Below.refl _ w4).alloc (nl _) (.cells #[.string ⟨fn.toArray⟩, .int .u8 fk, .bool false, .slice p1 fneeds.length c1, .slice p2 fops.length c2] 58); have hbx5 := heap_up (.cells #[.string ⟨fn.toArray⟩, .int .u8 fk, .bool false, .slice p1 fneeds.length c1, .slice p2 fops.length c2] 58) hbx4; have bx5 := box3 hbx5; have hB5 := hB4.alloc hB4.size (.cells #[.string ⟨fn.toArray⟩, .int .u8 fk, .bool false, .slice p1 fneeds.length c1, .slice p2 fops.length c2] 58); have hS5 := hS4.below hE5 (nl _))
              | (go_at_call 121; refine (HAR _ hB2).mono ?_; clear HAR; rintro e w3' ⟨rfl, hb3⟩; have hbx3 := kept_call hbx2 hb3; have bx3 := box3 hbx3; have hB3 := hB2.trans (below_less hb3 hB2.size); have hS3 := hS2.below hb3 (nl _))
              | (go_at_call 120; refine (HBA _ hB1).mono ?_; clear HBA; rintro e w2 ⟨rfl, hb2⟩; have hbx2 := kept_call hbx1 hb2; have hB2 := hB1.trans (below_less hb2 hB1.size); have hS2 := hS1.below hb2 (nl _))
              | (go_at_call 119; refine HK.mono ?_; clear HK; rintro e w1 ⟨rfl, hb1⟩; have hbx1 := kept_call hbx hb1; have hB1 := hb.trans (below_less hb1 hb.size); have hS1 := hSS.below hb1 (nl _)))
             try rw [Exit.noGoto_ret]
             go_ret;rw [HX.out, HY.out];exact ⟨rfl, hB5⟩
           · have hnf := named_fit (n := n) hk7 hq h3 hfp hha
             rcases hfit : fitN c n f.needs (argK u).1 with _ | _
             · rw [hfit, if_neg (by simp)] at hnf
               have HY := Lib.hid (hd.trans ((firstE_hit (by rw [hnf]; decide)).trans hnf));clear hnf;clear hq;rw [hha] at HAR hac;clear hha;have hacx := Lib.hid (hac rfl);clear hac;obtain ⟨fn, fk, fp, fneeds, fops⟩ := f;simp only at h3 hfp hfm hfit;subst hfp;have g1 : ((fk : Int) != 3) = false := by subst h3; rfl
               have g2 : ((fk : Int) == 3) = true := by subst h3; rfl
               clear h3;clear hd;go_wp2_with (first
                | (go_at_call 76; refine (fits_any c n hG hso _ fneeds _ (argK u).1 _ (HV.out _ hB5) (hNn.below hE5 (nl _)) hfm hacx.out.1 (Nat.lt_of_lt_of_le hacx.out.2.2 (by omega)) (HT.out _ hB5)).mono ?_; rintro e w6 ⟨rfl, hb6⟩; rw [hfit]; have hbx6 := kept_call hbx5 hb6; have hB6 := hB5.trans (below_less hb6 hB5.size); have hS6 := hS5.below hb6 (nl _))
                | (go_at_call 75; refine (HFI _ hB3).mono ?_; clear HFI; rintro e w4 ⟨fv, rfl, _, f2, hb4⟩; obtain ⟨nv, ov, rfl, hfl, hNn, hOo⟩ := f2 _ rfl; obtain ⟨p1, c1, rfl, _⟩ := hNn.shape; obtain ⟨p2, c2, rfl, _⟩ := hOo.shape; have hbx4 := kept_call hbx3 hb4; have hB4 := hB3.trans (below_less hb4 hB3.size); have hS4 := hS3.below hb4 (nl _); have hE5 := (Below.refl _ w4).alloc (nl _) (.cells #[.string ⟨fn.toArray⟩, .int .u8 fk, .bool true, .slice p1 fneeds.length c1, .slice p2 fops.length c2] 58); have hbx5 := heap_up (.cells #[.string ⟨fn.toArray⟩, .int .u8 fk, .bool true, .slice p1 fneeds.length c1, .slice p2 fops.length c2] 58) hbx4; have bx5 := box3 hbx5; have hB5 := hB4.alloc hB4.size (.cells #[.string ⟨fn.toArray⟩, .int .u8 fk, .bool true, .slice p1 fneeds.length c1, .slice p2 fops.length c2] 58); have hS5 := hS4.below hE5 (nl _))
                | (go_at_call 121; refine (HAR _ hB2).mono ?_; clear HAR; rintro e w3' ⟨rfl, hb3⟩; have hbx3 := kept_call hbx2 hb3; have bx3 := box3 hbx3; have hB3 := hB2.trans (below_less hb3 hB2.size); have hS3 := hS2.below hb3 (nl _))
                | (go_at_call 120; refine (HBA _ hB1).mono ?_; clear HBA; rintro e w2 ⟨rfl, hb2⟩; have hbx2 := kept_call hbx1 hb2; have hB2 := hB1.trans (below_less hb2 hB1.size); have hS2 := hS1.below hb2 (nl _))
                | (go_at_call 119; refine HK.mono ?_; clear HK; rintro e w1 ⟨rfl, hb1⟩; have hbx1 := kept_call hbx hb1; have hB1 := hb.trans (below_less hb1 hb.size); have hS1 := hSS.below hb1 (nl _)))
               try rw [Exit.noGoto_ret]
               go_ret;rw [HX.out, HY.out];exact ⟨rfl, hB6⟩
             · rw [hfit, if_pos rfl] at hnf
               have HY := Lib.hid (hd.trans (firstE_zero hnf));clear hnf;clear hq;rw [hha] at HAR hac;clear hha;have hacx := Lib.hid (hac rfl);clear hac;obtain ⟨fn, fk, fp, fneeds, fops⟩ := f;simp only at h3 hfp hfm hfit;subst hfp;have g1 : ((fk : Int) != 3) = false := by subst h3; rfl
               have g2 : ((fk : Int) == 3) = true := by subst h3; rfl
               clear h3;clear hd;go_wp2_with (first
                | (go_at_call 76; refine (fits_any c n hG hso _ fneeds _ (argK u).1 _ (HV.out _ hB5) (hNn.below hE5 (nl _)) hfm hacx.out.1 (Nat.lt_of_lt_of_le hacx.out.2.2 (by omega)) (HT.out _ hB5)).mono ?_; rintro e w6 ⟨rfl, hb6⟩; rw [hfit]; have hbx6 := kept_call hbx5 hb6; have hB6 := hB5.trans (below_less hb6 hB5.size); have hS6 := hS5.below hb6 (nl _))
                | (go_at_call 75; refine (HFI _ hB3).mono ?_; clear HFI; rintro e w4 ⟨fv, rfl, _, f2, hb4⟩; obtain ⟨nv, ov, rfl, hfl, hNn, hOo⟩ := f2 _ rfl; obtain ⟨p1, c1, rfl, _⟩ := hNn.shape; obtain ⟨p2, c2, rfl, _⟩ := hOo.shape; have hbx4 := kept_call hbx3 hb4; have hB4 := hB3.trans (below_less hb4 hB3.size); have hS4 := hS3.below hb4 (nl _); have hE5 := (Below.refl _ w4).alloc (nl _) (.cells #[.string ⟨fn.toArray⟩, .int .u8 fk, .bool true, .slice p1 fneeds.length c1, .slice p2 fops.length c2] 58); have hbx5 := heap_up (.cells #[.string ⟨fn.toArray⟩, .int .u8 fk, .bool true, .slice p1 fneeds.length c1, .slice p2 fops.length c2] 58) hbx4; have bx5 := box3 hbx5; have hB5 := hB4.alloc hB4.size (.cells #[.string ⟨fn.toArray⟩, .int .u8 fk, .bool true, .slice p1 fneeds.length c1, .slice p2 fops.length c2] 58); have hS5 := hS4.below hE5 (nl _))
                | (go_at_call 121; refine (HAR _ hB2).mono ?_; clear HAR; rintro e w3' ⟨rfl, hb3⟩; have hbx3 := kept_call hbx2 hb3; have bx3 := box3 hbx3; have hB3 := hB2.trans (below_less hb3 hB2.size); have hS3 := hS2.below hb3 (nl _))
                | (go_at_call 120; refine (HBA _ hB1).mono ?_; clear HBA; rintro e w2 ⟨rfl, hb2⟩; have hbx2 := kept_call hbx1 hb2; have hB2 := hB1.trans (below_less hb2 hB1.size); have hS2 := hS1.below hb2 (nl _))
                | (go_at_call 119; refine HK.mono ?_; clear HK; rintro e w1 ⟨rfl, hb1⟩; have hbx1 := kept_call hbx hb1; have hB1 := hb.trans (below_less hb1 hb.size); have hS1 := hSS.below hb1 (nl _)))
               exact ⟨⟨rfl, i + 1, hlt, by go_num, hB6, hbx6, hS6, HY⟩, by simp only [intOf]; omega⟩
   · rw [hpp] at hbox hA HC HV ⊢
     go_enter Tryz.func59, Tryz.ntmps59;go_wp2_with fail
     go_step3
     go_wp2_with (first
      | (go_at_call 118; refine (HIN _ hB2).mono ?_; clear HIN; rintro e w3 ⟨vl, rfl, hown, hb3⟩; obtain ⟨pl, cl, rfl⟩ := row_shape hown; have hbx3 := kept_call hbx2 hb3; have hB3 := hB2.trans (below_less hb3 hB2.size))
      | (go_at_call 117; refine (HOP _ hB1).mono ?_; clear HOP; rintro e w2 ⟨rfl, hb2⟩; have hbx2 := kept_call hbx1 hb2; have bx2 := box3 hbx2; have hB2 := hB1.trans (below_less hb2 hB1.size))
      | (go_at_call 116; refine HC.mono ?_; clear HC; rintro e w1 ⟨rfl, hb1⟩; have hbx1 := kept_call hbox hb1; have hB1 := hA.trans (below_less hb1 (by simp))))
     go_step3
     go_wp2_with fail;have hSS : SS (fun _ => True) w3 (.slice pl l.length cl) l := SS.of_own hown (fun s hs => Nat.le_trans (hia s hs).2.1 (by decide)) (fun _ _ => trivial);have hBx := hbx3;have hBB := hB3;clear hown hbx3 hB3 hbx2 hbx1 hB1 hB2 hb1 hb2 hb3 bx2 hA hbox;go_loopw [10, 45] (fun o y wr => o = .int .i64 0 ∧ ∃ i : Nat, i ≤ l.length ∧ y = .int .i64 i ∧ Below w.heap.size w wr ∧ wr.heap[w.heap.size]? = some (.cells #[.map (some m), .slice q c.needs.length cq, .bool true] 86 (0, 0)) ∧ SS (fun _ => True) wr (.slice pl l.length cl) l ∧ Hid (firstE (l.map (namedE c (goodN c n))) = firstE ((l.drop i).map (namedE c (goodN c n))))) (fun _ y _ => l.length - (intOf y).toNat)
     case atStart => exact ⟨rfl, 0, Nat.zero_le _, by go_num, hBB, hBx, hSS, rfl⟩
     case round =>
      clear hBx hBB hSS;obtain ⟨rfl, i, hi, rfl, hb, hbx, hSS, hE⟩ := hrel
      by_cases hlt : i < l.length
      case neg =>
       have HY := Lib.hid (show GN = 0 by rw [HX.out, hE.out, List.drop_eq_nil_of_le (by omega)]; rfl);clear hE;go_wp2_with fail;try rw [Exit.noGoto_ret]
       go_ret;rw [HY.out];exact ⟨rfl, hb⟩
      case pos =>
       obtain ⟨u, hku⟩ : ∃ u, l[i]? = some u := ⟨_, List.getElem?_eq_getElem hlt⟩
       obtain ⟨hu0, hul, huv⟩ := hia u (List.mem_of_getElem? hku);have hul : u.length ≤ maxLen := Nat.le_trans hul (by decide);obtain ⟨b1, o1, rfl, _, pc⟩ := hSS.at hku;have hd := hE.out;rw [fdrop_at hku, List.map_cons] at hd;clear hE hku;have HK := HK u hul wr hb
       by_cases hk7 : (checkK u).2.k = 7
       case neg =>
        have g1 : (((checkK u).2.k : Int) != 7) = true := by rw [bne_iff_ne]; omega
        have g2 : (((checkK u).2.k : Int) == 7) = false := by rw [beq_eq_false_iff_ne]; omega
        have HY := Lib.hid (hd.trans (firstE_zero (named_not hk7)));clear hk7;clear hd;go_wp2_with (go_at_call 119; refine HK.mono ?_; clear HK; rintro e w1 ⟨rfl, hb1⟩; have hbx1 := kept_call hbx hb1; have hB1 := hb.trans (below_less hb1 hb.size); have hS1 := hSS.below hb1 (nl _));exact ⟨⟨rfl, i + 1, hlt, by go_num, hB1, hbx1, hS1, HY⟩, by simp only [intOf]; omega⟩
       case pos =>
        obtain ⟨_, hal, hbl, _, hac, _⟩ := arg_level hu0 hk7;have hbl : (baseK u).1.length ≤ maxLen := Nat.le_trans hbl (by decide);rw [hk7] at HK;have HBA := fun W hW => kbase_any u hul W (HT.out W hW)
        have HAR := fun W hW => karg_any u hul W (HT.out W hW)
        have HFI := fun W hW => find_any c.faces m (baseK u).1 W (HS.out W hW) hso.1 hbl
        rcases hq : findK c.faces (baseK u).1 with _ | f
        · have HY := Lib.hid (hd.trans ((firstE_hit (by rw [named_none hk7 hq]; decide)).trans (named_none hk7 hq)))
          simp only [hq, Option.isSome_none] at HFI;clear hd;go_wp2_with (first
           | (go_at_call 75; refine (HFI _ hB3).mono ?_; clear HFI; rintro e w4 ⟨fv, rfl, f1, _, hb4⟩; obtain rfl := f1 trivial; have hB4 := hB3.trans (below_less hb4 hB3.size))
           | (go_at_call 121; refine (HAR _ hB2).mono ?_; clear HAR; rintro e w3' ⟨rfl, hb3⟩; have hbx3 := kept_call hbx2 hb3; have bx3 := box3 hbx3; have hB3 := hB2.trans (below_less hb3 hB2.size); have hS3 := hS2.below hb3 (nl _))
           | (go_at_call 120; refine (HBA _ hB1).mono ?_; clear HBA; rintro e w2 ⟨rfl, hb2⟩; have hbx2 := kept_call hbx1 hb2; have hB2 := hB1.trans (below_less hb2 hB1.size); have hS2 := hS1.below hb2 (nl _))
           | (go_at_call 119; refine HK.mono ?_; clear HK; rintro e w1 ⟨rfl, hb1⟩; have hbx1 := kept_call hbx hb1; have hB1 := hb.trans (below_less hb1 hb.size); have hS1 := hSS.below hb1 (nl _)))
          try rw [Exit.noGoto_ret]
          go_ret;rw [HX.out, HY.out];exact ⟨rfl, hB4.alloc hB4.size _⟩
        · have hfm := hso.2.2.1 f (by unfold findK at hq; exact List.mem_of_find?_eq_some hq)
          simp only [hq, Option.isSome_some] at HFI
          by_cases h3 : f.kind = 3
          case neg =>
           have HY := Lib.hid (hd.trans ((firstE_hit (by rw [named_bad hk7 hq (fun h => h3 h.1)]; decide)).trans (named_bad hk7 hq (fun h => h3 h.1))));clear hq;obtain ⟨fn, fk, fp, fneeds, fops⟩ := f;simp only at h3;have g1 : ((fk : Int) != 3) = true := by rw [bne_iff_ne]; omega
           have g2 : ((fk : Int) == 3) = false := by rw [beq_eq_false_iff_ne]; omega
           clear h3;clear hd;go_wp2_with (first
            | (go_at_call 75; refine (HFI _ hB3).mono ?_; clear HFI; rintro e w4 ⟨fv, rfl, _, f2, hb4⟩; obtain ⟨nv, ov, rfl, hfl, hNn, hOo⟩ := f2 _ rfl; obtain ⟨p1, c1, rfl, _⟩ := hNn.shape; obtain ⟨p2, c2, rfl, _⟩ := hOo.shape; have hbx4 := kept_call hbx3 hb4; have hB4 := hB3.trans (below_less hb4 hB3.size); have hS4 := hS3.below hb4 (nl _); have hE5 := (Below.refl _ w4).alloc (nl _) (.cells #[.string ⟨fn.toArray⟩, .int .u8 fk, .bool fp, .slice p1 fneeds.length c1, .slice p2 fops.length c2] 58); have hbx5 := heap_up (.cells #[.string ⟨fn.toArray⟩, .int .u8 fk, .bool fp, .slice p1 fneeds.length c1, .slice p2 fops.length c2] 58) hbx4; have bx5 := box3 hbx5; have hB5 := hB4.alloc hB4.size (.cells #[.string ⟨fn.toArray⟩, .int .u8 fk, .bool fp, .slice p1 fneeds.length c1, .slice p2 fops.length c2] 58); have hS5 := hS4.below hE5 (nl _))
            | (go_at_call 121; refine (HAR _ hB2).mono ?_; clear HAR; rintro e w3' ⟨rfl, hb3⟩; have hbx3 := kept_call hbx2 hb3; have bx3 := box3 hbx3; have hB3 := hB2.trans (below_less hb3 hB2.size); have hS3 := hS2.below hb3 (nl _))
            | (go_at_call 120; refine (HBA _ hB1).mono ?_; clear HBA; rintro e w2 ⟨rfl, hb2⟩; have hbx2 := kept_call hbx1 hb2; have hB2 := hB1.trans (below_less hb2 hB1.size); have hS2 := hS1.below hb2 (nl _))
            | (go_at_call 119; refine HK.mono ?_; clear HK; rintro e w1 ⟨rfl, hb1⟩; have hbx1 := kept_call hbx hb1; have hB1 := hb.trans (below_less hb1 hb.size); have hS1 := hSS.below hb1 (nl _)))
           try rw [Exit.noGoto_ret]
           go_ret;rw [HX.out, HY.out];exact ⟨rfl, hB5⟩
          case pos =>
           rcases hha : (argK u).2.1 with _ | _ <;> rcases hfp : f.par with _ | _
           · have HY := Lib.hid (hd.trans (firstE_zero (named_lone hk7 hq h3 hfp hha)))
             clear hq;rw [hha] at HAR hac;clear hha;obtain ⟨fn, fk, fp, fneeds, fops⟩ := f;simp only at h3 hfp hfm;subst hfp;have g1 : ((fk : Int) != 3) = false := by subst h3; rfl
             have g2 : ((fk : Int) == 3) = true := by subst h3; rfl
             clear h3;clear hd;go_wp2_with (first
              | (go_at_call 75; refine (HFI _ hB3).mono ?_; clear HFI; rintro e w4 ⟨fv, rfl, _, f2, hb4⟩; obtain ⟨nv, ov, rfl, hfl, hNn, hOo⟩ := f2 _ rfl; obtain ⟨p1, c1, rfl, _⟩ := hNn.shape; obtain ⟨p2, c2, rfl, _⟩ := hOo.shape; have hbx4 := kept_call hbx3 hb4; have hB4 := hB3.trans (below_less hb4 hB3.size); have hS4 := hS3.below hb4 (nl _); have hE5 := (Below.refl _ w4).alloc (nl _) (.cells #[.string ⟨fn.toArray⟩, .int .u8 fk, .bool false, .slice p1 fneeds.length c1, .slice p2 fops.length c2] 58); have hbx5 := heap_up (.cells #[.string ⟨fn.toArray⟩, .int .u8 fk, .bool false, .slice p1 fneeds.length c1, .slice p2 fops.length c2] 58) hbx4; have bx5 := box3 hbx5; have hB5 := hB4.alloc hB4.size (.cells #[.string ⟨fn.toArray⟩, .int .u8 fk, .bool false, .slice p1 fneeds.length c1, .slice p2 fops.length c2] 58); have hS5 := hS4.below hE5 (nl _))
              | (go_at_call 121; refine (HAR _ hB2).mono ?_; clear HAR; rintro e w3' ⟨rfl, hb3⟩; have hbx3 := kept_call hbx2 hb3; have bx3 := box3 hbx3; have hB3 := hB2.trans (below_less hb3 hB2.size); have hS3 := hS2.below hb3 (nl _))
              | (go_at_call 120; refine (HBA _ hB1).mono ?_; clear HBA; rintro e w2 ⟨rfl, hb2⟩; have hbx2 := kept_call hbx1 hb2; have hB2 := hB1.trans (below_less hb2 hB1.size); have hS2 := hS1.below hb2 (nl _))
              | (go_at_call 119; refine HK.mono ?_; clear HK; rintro e w1 ⟨rfl, hb1⟩; have hbx1 := kept_call hbx hb1; have hB1 := hb.trans (below_less hb1 hb.size); have hS1 := hSS.below hb1 (nl _)))
             exact ⟨⟨rfl, i + 1, hlt, by go_num, hB5, hbx5, hS5, HY⟩, by simp only [intOf]; omega⟩
           · have HY := Lib.hid (hd.trans ((firstE_hit (by rw [named_bad hk7 hq (fun h => by rw [hha, hfp] at h; simp at h)]; decide)).trans (named_bad hk7 hq (fun h => by rw [hha, hfp] at h; simp at h))))
             clear hq;rw [hha] at HAR hac;clear hha;obtain ⟨fn, fk, fp, fneeds, fops⟩ := f;simp only at h3 hfp hfm;subst hfp;have g1 : ((fk : Int) != 3) = false := by subst h3; rfl
             have g2 : ((fk : Int) == 3) = true := by subst h3; rfl
             clear h3;clear hd;go_wp2_with (first
              | (go_at_call 75; refine (HFI _ hB3).mono ?_; clear HFI; rintro e w4 ⟨fv, rfl, _, f2, hb4⟩; obtain ⟨nv, ov, rfl, hfl, hNn, hOo⟩ := f2 _ rfl; obtain ⟨p1, c1, rfl, _⟩ := hNn.shape; obtain ⟨p2, c2, rfl, _⟩ := hOo.shape; have hbx4 := kept_call hbx3 hb4; have hB4 := hB3.trans (below_less hb4 hB3.size); have hS4 := hS3.below hb4 (nl _); have hE5 := (Below.refl _ w4).alloc (nl _) (.cells #[.string ⟨fn.toArray⟩, .int .u8 fk, .bool true, .slice p1 fneeds.length c1, .slice p2 fops.length c2] 58); have hbx5 := heap_up (.cells #[.string ⟨fn.toArray⟩, .int .u8 fk, .bool true, .slice p1 fneeds.length c1, .slice p2 fops.length c2] 58) hbx4; have bx5 := box3 hbx5; have hB5 := hB4.alloc hB4.size (.cells #[.string ⟨fn.toArray⟩, .int .u8 fk, .bool true, .slice p1 fneeds.length c1, .slice p2 fops.length c2] 58); have hS5 := hS4.below hE5 (nl _))
              | (go_at_call 121; refine (HAR _ hB2).mono ?_; clear HAR; rintro e w3' ⟨rfl, hb3⟩; have hbx3 := kept_call hbx2 hb3; have bx3 := box3 hbx3; have hB3 := hB2.trans (below_less hb3 hB2.size); have hS3 := hS2.below hb3 (nl _))
              | (go_at_call 120; refine (HBA _ hB1).mono ?_; clear HBA; rintro e w2 ⟨rfl, hb2⟩; have hbx2 := kept_call hbx1 hb2; have hB2 := hB1.trans (below_less hb2 hB1.size); have hS2 := hS1.below hb2 (nl _))
              | (go_at_call 119; refine HK.mono ?_; clear HK; rintro e w1 ⟨rfl, hb1⟩; have hbx1 := kept_call hbx hb1; have hB1 := hb.trans (below_less hb1 hb.size); have hS1 := hSS.below hb1 (nl _)))
             try rw [Exit.noGoto_ret]
             go_ret;rw [HX.out, HY.out];exact ⟨rfl, hB5⟩
           · have HY := Lib.hid (hd.trans ((firstE_hit (by rw [named_bad hk7 hq (fun h => by rw [hha, hfp] at h; simp at h)]; decide)).trans (named_bad hk7 hq (fun h => by rw [hha, hfp] at h; simp at h))))
             clear hq;rw [hha] at HAR hac;clear hha;obtain ⟨fn, fk, fp, fneeds, fops⟩ := f;simp only at h3 hfp hfm;subst hfp;have g1 : ((fk : Int) != 3) = false := by subst h3; rfl
             have g2 : ((fk : Int) == 3) = true := by subst h3; rfl
             clear h3;clear hd;go_wp2_with (first
              | (go_at_call 75; refine (HFI _ hB3).mono ?_; clear HFI; rintro e w4 ⟨fv, rfl, _, f2, hb4⟩; obtain ⟨nv, ov, rfl, hfl, hNn, hOo⟩ := f2 _ rfl; obtain ⟨p1, c1, rfl, _⟩ := hNn.shape; obtain ⟨p2, c2, rfl, _⟩ := hOo.shape; have hbx4 := kept_call hbx3 hb4; have hB4 := hB3.trans (below_less hb4 hB3.size); have hS4 := hS3.below hb4 (nl _); have hE5 := (Below.refl _ w4).alloc (nl _) (.cells #[.string ⟨fn.toArray⟩, .int .u8 fk, .bool false, .slice p1 fneeds.length c1, .slice p2 fops.length c2] 58); have hbx5 := heap_up (.cells #[.string ⟨fn.toArray⟩, .int .u8 fk, .bool false, .slice p1 fneeds.length c1, .slice p2 fops.length c2] 58) hbx4; have bx5 := box3 hbx5; have hB5 := hB4.alloc hB4.size (.cells #[.string ⟨fn.toArray⟩, .int .u8 fk, .bool false, .slice p1 fneeds.length c1, .slice p2 fops.length c2] 58); have hS5 := hS4.below hE5 (nl _))
              | (go_at_call 121; refine (HAR _ hB2).mono ?_; clear HAR; rintro e w3' ⟨rfl, hb3⟩; have hbx3 := kept_call hbx2 hb3; have bx3 := box3 hbx3; have hB3 := hB2.trans (below_less hb3 hB2.size); have hS3 := hS2.below hb3 (nl _))
              | (go_at_call 120; refine (HBA _ hB1).mono ?_; clear HBA; rintro e w2 ⟨rfl, hb2⟩; have hbx2 := kept_call hbx1 hb2; have hB2 := hB1.trans (below_less hb2 hB1.size); have hS2 := hS1.below hb2 (nl _))
              | (go_at_call 119; refine HK.mono ?_; clear HK; rintro e w1 ⟨rfl, hb1⟩; have hbx1 := kept_call hbx hb1; have hB1 := hb.trans (below_less hb1 hb.size); have hS1 := hSS.below hb1 (nl _)))
             try rw [Exit.noGoto_ret]
             go_ret;rw [HX.out, HY.out];exact ⟨rfl, hB5⟩
           · have hnf := named_fit (n := n) hk7 hq h3 hfp hha
             rcases hfit : fitN c n f.needs (argK u).1 with _ | _
             · rw [hfit, if_neg (by simp)] at hnf
               have HY := Lib.hid (hd.trans ((firstE_hit (by rw [hnf]; decide)).trans hnf));clear hnf;clear hq;rw [hha] at HAR hac;clear hha;have hacx := Lib.hid (hac rfl);clear hac;obtain ⟨fn, fk, fp, fneeds, fops⟩ := f;simp only at h3 hfp hfm hfit;subst hfp;have g1 : ((fk : Int) != 3) = false := by subst h3; rfl
               have g2 : ((fk : Int) == 3) = true := by subst h3; rfl
               clear h3;clear hd;go_wp2_with (first
                | (go_at_call 76; refine (fits_any c n hG hso _ fneeds _ (argK u).1 _ (HV.out _ hB5) (hNn.below hE5 (nl _)) hfm hacx.out.1 (Nat.lt_of_lt_of_le hacx.out.2.2 (by omega)) (HT.out _ hB5)).mono ?_; rintro e w6 ⟨rfl, hb6⟩; rw [hfit]; have hbx6 := kept_call hbx5 hb6; have hB6 := hB5.trans (below_less hb6 hB5.size); have hS6 := hS5.below hb6 (nl _))
                | (go_at_call 75; refine (HFI _ hB3).mono ?_; clear HFI; rintro e w4 ⟨fv, rfl, _, f2, hb4⟩; obtain ⟨nv, ov, rfl, hfl, hNn, hOo⟩ := f2 _ rfl; obtain ⟨p1, c1, rfl, _⟩ := hNn.shape; obtain ⟨p2, c2, rfl, _⟩ := hOo.shape; have hbx4 := kept_call hbx3 hb4; have hB4 := hB3.trans (below_less hb4 hB3.size); have hS4 := hS3.below hb4 (nl _); have hE5 := (Below.refl _ w4).alloc (nl _) (.cells #[.string ⟨fn.toArray⟩, .int .u8 fk, .bool true, .slice p1 fneeds.length c1, .slice p2 fops.length c2] 58); have hbx5 := heap_up (.cells #[.string ⟨fn.toArray⟩, .int .u8 fk, .bool true, .slice p1 fneeds.length c1, .slice p2 fops.length c2] 58) hbx4; have bx5 := box3 hbx5; have hB5 := hB4.alloc hB4.size (.cells #[.string ⟨fn.toArray⟩, .int .u8 fk, .bool true, .slice p1 fneeds.length c1, .slice p2 fops.length c2] 58); have hS5 := hS4.below hE5 (nl _))
                | (go_at_call 121; refine (HAR _ hB2).mono ?_; clear HAR; rintro e w3' ⟨rfl, hb3⟩; have hbx3 := kept_call hbx2 hb3; have bx3 := box3 hbx3; have hB3 := hB2.trans (below_less hb3 hB2.size); have hS3 := hS2.below hb3 (nl _))
                | (go_at_call 120; refine (HBA _ hB1).mono ?_; clear HBA; rintro e w2 ⟨rfl, hb2⟩; have hbx2 := kept_call hbx1 hb2; have hB2 := hB1.trans (below_less hb2 hB1.size); have hS2 := hS1.below hb2 (nl _))
                | (go_at_call 119; refine HK.mono ?_; clear HK; rintro e w1 ⟨rfl, hb1⟩; have hbx1 := kept_call hbx hb1; have hB1 := hb.trans (below_less hb1 hb.size); have hS1 := hSS.below hb1 (nl _)))
               try rw [Exit.noGoto_ret]
               go_ret;rw [HX.out, HY.out];exact ⟨rfl, hB6⟩
             · rw [hfit, if_pos rfl] at hnf
               have HY := Lib.hid (hd.trans (firstE_zero hnf));clear hnf;clear hq;rw [hha] at HAR hac;clear hha;have hacx := Lib.hid (hac rfl);clear hac;obtain ⟨fn, fk, fp, fneeds, fops⟩ := f;simp only at h3 hfp hfm hfit;subst hfp;have g1 : ((fk : Int) != 3) = false := by subst h3; rfl
               have g2 : ((fk : Int) == 3) = true := by subst h3; rfl
               clear h3;clear hd;go_wp2_with (first
                | (go_at_call 76; refine (fits_any c n hG hso _ fneeds _ (argK u).1 _ (HV.out _ hB5) (hNn.below hE5 (nl _)) hfm hacx.out.1 (Nat.lt_of_lt_of_le hacx.out.2.2 (by omega)) (HT.out _ hB5)).mono ?_; rintro e w6 ⟨rfl, hb6⟩; rw [hfit]; have hbx6 := kept_call hbx5 hb6; have hB6 := hB5.trans (below_less hb6 hB5.size); have hS6 := hS5.below hb6 (nl _))
                | (go_at_call 75; refine (HFI _ hB3).mono ?_; clear HFI; rintro e w4 ⟨fv, rfl, _, f2, hb4⟩; obtain ⟨nv, ov, rfl, hfl, hNn, hOo⟩ := f2 _ rfl; obtain ⟨p1, c1, rfl, _⟩ := hNn.shape; obtain ⟨p2, c2, rfl, _⟩ := hOo.shape; have hbx4 := kept_call hbx3 hb4; have hB4 := hB3.trans (below_less hb4 hB3.size); have hS4 := hS3.below hb4 (nl _); have hE5 := (Below.refl _ w4).alloc (nl _) (.cells #[.string ⟨fn.toArray⟩, .int .u8 fk, .bool true, .slice p1 fneeds.length c1, .slice p2 fops.length c2] 58); have hbx5 := heap_up (.cells #[.string ⟨fn.toArray⟩, .int .u8 fk, .bool true, .slice p1 fneeds.length c1, .slice p2 fops.length c2] 58) hbx4; have bx5 := box3 hbx5; have hB5 := hB4.alloc hB4.size (.cells #[.string ⟨fn.toArray⟩, .int .u8 fk, .bool true, .slice p1 fneeds.length c1, .slice p2 fops.length c2] 58); have hS5 := hS4.below hE5 (nl _))
                | (go_at_call 121; refine (HAR _ hB2).mono ?_; clear HAR; rintro e w3' ⟨rfl, hb3⟩; have hbx3 := kept_call hbx2 hb3; have bx3 := box3 hbx3; have hB3 := hB2.trans (below_less hb3 hB2.size); have hS3 := hS2.below hb3 (nl _))
                | (go_at_call 120; refine (HBA _ hB1).mono ?_; clear HBA; rintro e w2 ⟨rfl, hb2⟩; have hbx2 := kept_call hbx1 hb2; have hB2 := hB1.trans (below_less hb2 hB1.size); have hS2 := hS1.below hb2 (nl _))
                | (go_at_call 119; refine HK.mono ?_; clear HK; rintro e w1 ⟨rfl, hb1⟩; have hbx1 := kept_call hbx hb1; have hB1 := hb.trans (below_less hb1 hb.size); have hS1 := hSS.below hb1 (nl _)))
               exact ⟨⟨rfl, i + 1, hlt, by go_num, hB6, hbx6, hS6, HY⟩, by simp only [intOf]; omega⟩
end Go.Proofs.YtakgjcfkdemipaaGreatDoor
namespace Go.Proofs.YtakgjcfkdemipaaGreatDoor
open Go.RowKit
theorem good_all {D : Nat → Prop} (c : ScopeP) (hso : ScopeOk c) : ∀ n, GoodC D c n
 | 0 => fun _ _ _ _ _ h _ => absurd h (by omega)
 | n + 1 => good_step c n (good_all c hso n) hso
theorem good_any {D : Nat → Prop} (c : ScopeP) (v : Value) (t : List UInt8) (w : World) (hv : ScopeM D w v c) (hso : ScopeOk c) (htl : t.length ≤ maxLen) (hT : Tab w) :
 Calls Tryz.prog 59 #[v, str t] w fun e w' => e = .returned (.int .i64 (goodK c t)) ∧ Below w.heap.size w w' :=
 good_all c hso 7 v t w hv htl (by have := levelK_le t; omega) hT
end Go.Proofs.YtakgjcfkdemipaaGreatDoor
namespace Go.Proofs.YtakgjcfkdemipaaGreatDoor
open Go.RowKit
theorem infoSig : (Tryz.prog.info? 36).map (fun i => (i.zero, i.size, i.bytes)) = some (some (.agg #[.bool false, .slice none 0 0, .string ⟨#[]⟩, .slice none 0 0]), 4, 72) := by kernel_rfl
theorem underSigs : Tryz.prog.underlying 115 = some (.slice 36) := by kernel_rfl
def SgC (D : Nat → Prop) (w : World) : List Value → List SigP → Prop
 | cs, [] => cs = []
 | cs, x :: l => ∃ a s r, cs = .bool x.iter :: a :: str x.res :: s :: r ∧ x.res.length ≤ maxLen ∧ SS D w a x.args ∧ SS D w s x.sigs ∧ SgC D w r l
theorem SgC.below {D : Nat → Prop} {K : Nat} {w w' : World} (hb : Below K w w') (hK : w.heap.size ≤ K) : ∀ {l : List SigP} {cs : List Value}, SgC D w cs l → SgC D w' cs l
 | [], _, h => h
 | _ :: _, _, ⟨a, s, r, h1, h0, h2, h3, h4⟩ => ⟨a, s, r, h1, h0, h2.below hb hK, h3.below hb hK, SgC.below hb hK h4⟩
theorem SgC.mono {D D' : Nat → Prop} {w : World} (hD : ∀ b, D b → D' b) : ∀ {l : List SigP} {cs : List Value}, SgC D w cs l → SgC D' w cs l
 | [], _, h => h
 | _ :: _, _, ⟨a, s, r, h1, h0, h2, h3, h4⟩ => ⟨a, s, r, h1, h0, h2.mono hD, h3.mono hD, SgC.mono hD h4⟩
theorem SgC.fresh {D : Nat → Prop} {w : World} : ∀ {l : List SigP} {cs : List Value}, SgC D w cs l → SgC (fun b => D b ∧ b < w.heap.size) w cs l
 | [], _, h => h
 | _ :: _, _, ⟨a, s, r, h1, h0, h2, h3, h4⟩ => ⟨a, s, r, h1, h0, h2.fresh, h3.fresh, SgC.fresh h4⟩
theorem SgC.agree {D : Nat → Prop} {w w' : World} (hk : ∀ b, D b → b < w.heap.size → w'.heap[b]? = w.heap[b]?) : ∀ {l : List SigP} {cs : List Value}, SgC D w cs l → SgC D w' cs l
 | [], _, h => h
 | _ :: _, _, ⟨a, s, r, h1, h0, h2, h3, h4⟩ => ⟨a, s, r, h1, h0, h2.agree hk, h3.agree hk, SgC.agree hk h4⟩
theorem SgC.append {D : Nat → Prop} {w : World} {k : List SigP} {ds : List Value} (hk : SgC D w ds k) : ∀ {l : List SigP} {cs : List Value}, SgC D w cs l → SgC D w (cs ++ ds) (l ++ k)
 | [], _, h => by rw [show _ = _ from h]; exact hk
 | _ :: _, _, ⟨a', s', r, h1, k0, k2, k3, k4⟩ => by subst h1; exact ⟨a', s', _, rfl, k0, k2, k3, SgC.append hk k4⟩
theorem SgC.get {D : Nat → Prop} {w : World} : ∀ {l : List SigP} {cs : List Value} (i : Nat) {x : SigP}, SgC D w cs l → l[i]? = some x →
 ∃ a s, x.res.length ≤ maxLen ∧ SS D w a x.args ∧ SS D w s x.sigs ∧ cs[i * 4]? = some (.bool x.iter) ∧ cs[i * 4 + 1]? = some a ∧ cs[i * 4 + 2]? = some (str x.res) ∧ cs[i * 4 + 3]? = some s
 | [], _, _, _, _, h => by simp at h
 | y :: l, _, 0, x, ⟨a, s, r, h1, h0, h2, h3, h4⟩, h => by
  simp only [List.getElem?_cons_zero, Option.some.injEq] at h;subst h;subst h1;exact ⟨a, s, h0, h2, h3, rfl, rfl, rfl, rfl⟩
 | y :: l, _, i + 1, x, ⟨a, s, r, h1, h0, h2, h3, h4⟩, h => by
  rw [List.getElem?_cons_succ] at h;obtain ⟨a', s', k0, k1, k2, k3, k4, k5, k6⟩ := SgC.get i h4 h;subst h1;refine ⟨a', s', k0, k1, k2, ?_, ?_, ?_, ?_⟩
  · rw [show (i + 1) * 4 = i * 4 + 4 by omega]; exact k3
  · rw [show (i + 1) * 4 + 1 = i * 4 + 1 + 4 by omega]; exact k4
  · rw [show (i + 1) * 4 + 2 = i * 4 + 2 + 4 by omega]; exact k5
  · rw [show (i + 1) * 4 + 3 = i * 4 + 3 + 4 by omega]; exact k6
def OwnS (B : Nat) (w : World) (v : Value) (l : List SigP) : Prop := ∃ cs, w.ownsRow B 36 4 v l.length cs ∧ SgC (fun b => v.ownBlock ≠ some b) w cs l
theorem OwnS.below {B K : Nat} {w w' : World} {v : Value} {l : List SigP} (h : OwnS B w v l) (hb : Below K w w') (hK : w.heap.size ≤ K) : OwnS B w' v l := by
 obtain ⟨cs, h1, h2⟩ := h
 exact ⟨cs, ownsRow_below h1 hb hK, h2.below hb hK⟩
theorem OwnS.shape {B : Nat} {w : World} {v : Value} {l : List SigP} (h : OwnS B w v l) : ∃ p c, v = .slice p l.length c := by
 obtain ⟨cs, h1, _⟩ := h
 exact row_shape h1
theorem OwnS.nil (B : Nat) (w : World) : OwnS B w (.slice none 0 0) [] := ⟨[], World.ownsRow_nil _ _ _ _, rfl⟩
theorem OwnS.at {B : Nat} {w : World} {p : Option Addr} {n c : Nat} {l : List SigP} (h : OwnS B w (.slice p n c) l) {i : Nat} {x : SigP} (hi : l[i]? = some x) :
 ∃ g a s, p = some ⟨g, 0, none⟩ ∧ x.res.length ≤ maxLen ∧ SS (fun _ => True) w a x.args ∧ SS (fun _ => True) w s x.sigs ∧ w.cell? ⟨g, 0 + i * 4, none⟩ = some (.bool x.iter) ∧ w.cell? ⟨g, 0 + i * 4 + 1, none⟩ = some a ∧ w.cell? ⟨g, 0 + i * 4 + 2, none⟩ = some (str x.res) ∧ w.cell? ⟨g, 0 + i * 4 + 3, none⟩ = some s := by
 obtain ⟨cs, h1, h2⟩ := h
 obtain ⟨a, s, k0, k1, k2, k3, k4, k5, k6⟩ := h2.get i hi
 obtain ⟨hl, _⟩ := List.getElem?_eq_some_iff.1 hi
 rcases h1.2 with ⟨_, h0⟩ | ⟨g, cap, cur, h0, _⟩
 · omega
 · injection h0 with h0 _ _
   subst h0;have key : ∀ j u, cs[j]? = some u → w.cell? ⟨g, j, none⟩ = some u := by
    intro j u hj;have := h1.cells (g := g) rfl j u hj
    rwa [show (⟨g, 0, none⟩ : Addr).add j = ⟨g, j, none⟩ from by unfold Addr.add; simp; omega] at this
   exact ⟨g, a, s, rfl, k0, k1.mono fun _ _ => trivial, k2.mono fun _ _ => trivial, by rw [Nat.zero_add]; exact key _ _ k3, by rw [Nat.zero_add]; exact key _ _ k4, by rw [Nat.zero_add]; exact key _ _ k5, by rw [Nat.zero_add]; exact key _ _ k6⟩
theorem OwnS.append {B : Nat} {W W' : World} {v v' : Value} {l k : List SigP} {ds cs : List Value} (hC : SgC (fun b => v.ownBlock ≠ some b) W cs l) (hk : SgC (fun b => v.ownBlock ≠ some b) W ds k) (h' : W'.ownsRow B 36 4 v' (l.length + k.length) (cs ++ ds)) (hg : W.grownBy W' v.ownBlock) (ho : v'.ownBlock = v.ownBlock ∨ v'.ownBlock = some W.heap.size) : OwnS B W' v' (l ++ k) := by
 refine ⟨cs ++ ds, by rw [List.length_append]; exact h', ?_⟩
 have key : ∀ {l : List SigP} {cs : List Value}, SgC (fun b => v.ownBlock ≠ some b) W cs l → SgC (fun b => v'.ownBlock ≠ some b) W' cs l := by
  intro l cs hc;refine (hc.fresh.agree (w' := W') fun b hb hlt => hg.block b hlt fun e => hb.1 e.symm).mono fun b hb e => ?_
  rcases ho with ho | ho
  · exact hb.1 (by rw [← ho]; exact e)
  · have h2 := hb.2
    rw [ho] at e;injection e with e;omega
 exact SgC.append (key hk) (key hC)
end Go.Proofs.YtakgjcfkdemipaaGreatDoor
namespace Go.Proofs.YtakgjcfkdemipaaGreatDoor
open Go.RowKit
theorem needed_len {l : List OpP} (h : neededK l = true) : l.length ≤ 4 ∧ ∀ o ∈ l, o.sig.args.length ≤ 6 ∧ o.sig.sigs.length ≤ 6 := by
 unfold neededK at h
 rw [Bool.and_eq_true, Bool.and_eq_true, List.all_eq_true, decide_eq_true_eq] at h
 exact ⟨h.1.2, fun o ho => ⟨(saidK_parts (h.1.1 o ho)).1, (saidK_parts (h.1.1 o ho)).2.1⟩⟩
theorem rawOk {c : ScopeP} {t : List UInt8} (ht : (checkK t).1 = 0) (hf : ∀ f ∈ c.faces, faceK f = true) (hn : ∀ o ∈ c.needs, o.sig.args.length ≤ 6 ∧ o.sig.sigs.length ≤ 6) : RawOk c t := by
 have hty := tyOk ht
 have hpl := (parts_names (t := t)).2.2
 have hz : ([] : List UInt8).length ≤ maxLen := by simp
 have hkk := checkK_kinds ht
 have h8 : (checkK t).2.k = 1 ∨ (checkK t).2.k = 2 ∨ (checkK t).2.k = 3 ∨ (checkK t).2.k = 4 ∨ (checkK t).2.k = 5 ∨ (checkK t).2.k = 6 ∨ (checkK t).2.k = 7 ∨ (checkK t).2.k = 8 := by omega
 unfold RawOk rawK
 rcases h8 with hk | hk | hk | hk | hk | hk | hk | hk
 all_goals rw [hk]
 · exact ⟨hz, by simp [sg]⟩
 · exact ⟨hz, by simp [sg]⟩
 · exact ⟨hz, by simp [sg]⟩
 · exact ⟨hz, by simp [sg]⟩
 · refine ⟨hz, fun o ho => ?_⟩
   simp only [List.mem_append, List.mem_cons, List.mem_flatMap, List.not_mem_nil, or_false] at ho;rcases ho with (rfl | ⟨p, _, rfl | rfl⟩) | rfl <;> simp [sg]
   omega
 · refine ⟨hz, fun o ho => ?_⟩
   simp only [List.mem_cons, List.mem_flatMap, List.not_mem_nil, or_false] at ho;rcases ho with rfl | ⟨p, _, rfl | rfl⟩ <;> simp [sg]
 · refine ⟨hty.2.1, fun o ho => ?_⟩
   simp only at ho;rcases hq : findK c.faces (baseK t).1 with _ | f
   · rw [hq] at ho
     simp at ho
   · rw [hq] at ho
     have hfm : f ∈ c.faces := by unfold findK at hq; exact List.mem_of_find?_eq_some hq
     have := saidK_parts ((faceK_parts (hf f hfm)).2.2.2.2.2.2.2.1 o ho).2;exact ⟨by omega, by omega⟩
 · refine ⟨hz, fun o ho => ?_⟩
   have := hn o ho;exact ⟨by omega, by omega⟩
theorem scopeOk_of {l : List FaceP} {needs : List OpP} {par : Bool} (ha : Apart l) (hf : ∀ f ∈ l, faceK f = true) (hn : neededK needs = true) : ScopeOk ⟨l, needs, par⟩ := by
 obtain ⟨h1, h2⟩ := needed_len hn
 refine ⟨ha, by simp only; omega, fun f hfm o ho => ?_, fun t ht => rawOk ht hf h2⟩
 have := (needed_len (faceK_parts (hf f hfm)).2.2.2.1).2 o ho
 exact ⟨by omega, by omega⟩
end Go.Proofs.YtakgjcfkdemipaaGreatDoor
