/-
  Contract: of the package face: Fits. Condition: the lengths; the variable strings.asciiSpace.
  Contract: of the package face: Uses. Condition: the number of needs; the variable strings.asciiSpace.
  A row of faces of the call's own: append to an empty row; a face put into a place. No condition but on lengths.
-/
import Derived.Maps.RangeWalk
import Derived.Sort.KeysCollected
import Derived.Sort.OwnSorted
import Derived.Test.YtakgjcfkdemipaaGreatDoorYn
import Derived.Test.YtakgjcfkdemipaaGreatDoorY22
import Derived.Test.YtakgjcfkdemipaaGreatDoorY29
import Derived.Test.YtakgjcfkdemipaaGreatDoorY30
import Derived.Test.YtakgjcfkdemipaaGreatDoorY31
import Derived.Test.YtakgjcfkdemipaaGreatDoorY32
namespace Go.Proofs.YtakgjcfkdemipaaGreatDoor
open Go.RowKit
theorem good_zero {c : ScopeP} {t : List UInt8} (h : goodK c t = 0) : (checkK t).1 = 0 := by
 apply Classical.byContradiction
 intro h2
 unfold goodK goodN at h
 rw [if_pos h2] at h
 exact h2 h
set_option maxRecDepth 8000 in
set_option maxHeartbeats 25600000 in
theorem fitsL_any {D D' : Nat → Prop} (l : List FaceP) (v : Value) (needs : List OpP) (wv : Value) (want : List OpP) (xv : Value) (t : List UInt8) (w : World) (hT : Tab w) (hv : FacesM D w v l) (hw : OpsM D w wv needs) (hx : OpsM D' w xv want) (hn : ∀ f ∈ l, f.needs.length ≤ 100000) (hnl : needs.length ≤ 100000) (hxl : want.length ≤ 100000) (htl : t.length ≤ maxLen) :
 Calls Tryz.prog 29 #[v, wv, xv, str t] w fun e w' => e = .returned (.tuple #[str (fitsL l needs want t).1, .bool (fitsL l needs want t).2.1, .int .i64 (fitsL l needs want t).2.2]) ∧ Below w.heap.size w w' := by
 have HT := Lib.hid (fun W (hW : Below w.heap.size w W) => hT.below hW (nl _))
 have HI := isOpen_any t w htl hT
 have hA := Below.refl w.heap.size w
 have HC := fun par W (hW : Below w.heap.size w W) => opened_any l v needs wv par W (HT.out W hW) (hv.below hW (nl _)) (hw.below hW (nl _)) hn hnl
 have HN := fun W (hW : Below w.heap.size w W) => needed_any want xv W (HT.out W hW) (hx.below hW (nl _)) hxl
 have hsc := fun par h => asked_scope (l := l) (needs := needs) (par := par) h
 have HL := fun par (hso : ScopeOk ⟨l, needs, par⟩) (hnk : neededK want = true) (hc0 : (checkK t).1 = 0) v' W (hW : Below w.heap.size w W) (hS : ScopeM D W v' ⟨l, needs, par⟩) => lacks_any ⟨l, needs, par⟩ v' want xv t W hS (hx.below hW (nl _)) (fun o ho => ⟨Nat.le_trans ((needed_len hnk).2 o ho).1 (by decide), Nat.le_trans ((needed_len hnk).2 o ho).2 (by decide)⟩) (tyOk hc0) (hso.2.2.2 t hc0) (HT.out W hW) hso.1 hso.2.1 (fun _ => checkK_kinds hc0)
 have HG := fun par (hso : ScopeOk ⟨l, needs, par⟩) v' W (hW : Below w.heap.size w W) (hS : ScopeM D W v' ⟨l, needs, par⟩) => good_any ⟨l, needs, par⟩ v' t W hS hso htl (HT.out W hW)
 obtain ⟨p, c, rfl, _⟩ := hv.shape
 obtain ⟨q, cq, rfl, _⟩ := hw.shape
 obtain ⟨q2, cq2, rfl, _⟩ := hx.shape
 have hgl : fitsL l needs want t = if askedK l needs ≠ 0 then ([], false, askedK l needs) else if neededK want = false then ([], false, 42) else if goodK ⟨l, needs, parK needs t⟩ t ≠ 0 then ([], false, goodK ⟨l, needs, parK needs t⟩ t) else match lacksK ⟨l, needs, parK needs t⟩ want t with | none => ([], true, 0) | some n => (n, false, 0) := rfl
 generalize fitsL l needs want t = FL at *
 generalize askedK l needs = AS at *
 clear hT hv hw hx hn hnl hxl
 by_cases hn0 : 0 < needs.length
 · have hpar : parK needs t = true := by unfold parK; simp [hn0]
   rw [hpar] at hgl;clear HI hpar
   by_cases h0 : AS = 0
   case neg =>
    obtain ⟨g1, g2⟩ := nat_ne0 h0;rw [if_pos h0] at hgl;have HX := Lib.hid hgl;clear h0 hsc hgl HL HG HN;go_enter Tryz.func29, Tryz.ntmps29;go_wp2_with (first
     | (go_at_call 58; refine (HC true _ hA).mono ?_; clear HC; rintro e w1 ⟨m1, q1, n1, c1, pb1, rfl, hS, hb1⟩; have hB1 := hA.trans (below_less hb1 hA.size); have hB2 := hB1.alloc hB1.size (.cells #[.map m1, .slice q1 n1 c1, .bool pb1] 86)))
    go_ret3
    rw [HX.out];exact ⟨rfl, hB2⟩
   case pos =>
    subst h0;rw [if_neg (by simp)] at hgl;have hso := hsc true rfl;have HG := HG true hso;have HL := HL true hso;clear hsc hso;rcases hnk : neededK want with _ | _
    · rw [hnk] at HN
      rw [hnk, if_pos rfl] at hgl;have HX := Lib.hid hgl;clear hgl HL HG hnk;go_enter Tryz.func29, Tryz.ntmps29;go_wp2_with (first
       | (go_at_call 78; refine (HN _ hB2).mono ?_; clear HN; rintro e w2 ⟨rfl, hb2⟩; have hB3 := hB2.trans (below_less hb2 hB2.size))
       | (go_at_call 58; refine (HC true _ hA).mono ?_; clear HC; rintro e w1 ⟨m1, q1, n1, c1, pb1, rfl, hS, hb1⟩; have hB1 := hA.trans (below_less hb1 hA.size); have hB2 := hB1.alloc hB1.size (.cells #[.map m1, .slice q1 n1 c1, .bool pb1] 86)))
      go_ret3
      rw [HX.out];exact ⟨rfl, hB3⟩
    · rw [hnk] at HN
      rw [hnk, if_neg (by simp)] at hgl;have HL := HL hnk;have hgz := fun h => good_zero (c := ⟨l, needs, true⟩) (t := t) h
      clear hnk;generalize goodK ⟨l, needs, true⟩ t = GK at *
      by_cases hg0 : GK = 0
      case neg =>
       obtain ⟨g1, g2⟩ := nat_ne0 hg0;rw [if_pos hg0] at hgl;have HX := Lib.hid hgl;clear hgl HL hgz hg0;go_enter Tryz.func29, Tryz.ntmps29;go_wp2_with (first
        | (go_at_call 59; refine (HG _ _ hB3 hS3).mono ?_; clear HG; rintro e w3 ⟨rfl, hb3⟩; have hB4 := hB3.trans (below_less hb3 hB3.size); have bx4 := box3 (kept_call hx3 hb3); have hS4 := hS3.below hb3 (nl _))
        | (go_at_call 78; refine (HN _ hB2).mono ?_; clear HN; rintro e w2 ⟨rfl, hb2⟩; have hB3 := hB2.trans (below_less hb2 hB2.size); have hx3 := kept_call hx2 hb2; have bx3 := box3 hx3; have hS3 := hS2.below hb2 (nl _))
        | (go_at_call 58; refine (HC true _ hA).mono ?_; clear HC; rintro e w1 ⟨m1, q1, n1, c1, pb1, rfl, hS, hb1⟩; have hB1 := hA.trans (below_less hb1 hA.size); have hB2 := hB1.alloc hB1.size (.cells #[.map m1, .slice q1 n1 c1, .bool pb1] 86); have hS1 := hS (by first | rfl | trivial); clear hS; have hE2 := (Below.refl _ w1).alloc (nl _) (.cells #[.map m1, .slice q1 n1 c1, .bool pb1] 86); have hS2 := hS1.below hE2 (nl _); have hx2 := heap_alloc_new w1 (.cells #[.map m1, .slice q1 n1 c1, .bool pb1] 86)))
       go_ret3
       rw [HX.out];exact ⟨rfl, hB4⟩
      case pos =>
       subst hg0;rw [if_neg (by simp)] at hgl;have HL := HL (hgz rfl);clear hgz;generalize lacksK ⟨l, needs, true⟩ want t = LK at *;rcases LK with _ | nm
       all_goals
        have HX := Lib.hid hgl;clear hgl;dsimp only [Option.getD_none, Option.isSome_none, Option.getD_some, Option.isSome_some] at HL HX;go_enter Tryz.func29, Tryz.ntmps29;go_wp2_with (first
         | (go_at_call 79; refine (HL _ _ hB4 hS4).mono ?_; clear HL; rintro e w4 ⟨rfl, hb4⟩; have hB5 := hB4.trans (below_less hb4 hB4.size))
         | (go_at_call 59; refine (HG _ _ hB3 hS3).mono ?_; clear HG; rintro e w3 ⟨rfl, hb3⟩; have hB4 := hB3.trans (below_less hb3 hB3.size); have bx4 := box3 (kept_call hx3 hb3); have hS4 := hS3.below hb3 (nl _))
         | (go_at_call 78; refine (HN _ hB2).mono ?_; clear HN; rintro e w2 ⟨rfl, hb2⟩; have hB3 := hB2.trans (below_less hb2 hB2.size); have hx3 := kept_call hx2 hb2; have bx3 := box3 hx3; have hS3 := hS2.below hb2 (nl _))
         | (go_at_call 58; refine (HC true _ hA).mono ?_; clear HC; rintro e w1 ⟨m1, q1, n1, c1, pb1, rfl, hS, hb1⟩; have hB1 := hA.trans (below_less hb1 hA.size); have hB2 := hB1.alloc hB1.size (.cells #[.map m1, .slice q1 n1 c1, .bool pb1] 86); have hS1 := hS (by first | rfl | trivial); clear hS; have hE2 := (Below.refl _ w1).alloc (nl _) (.cells #[.map m1, .slice q1 n1 c1, .bool pb1] 86); have hS2 := hS1.below hE2 (nl _); have hx2 := heap_alloc_new w1 (.cells #[.map m1, .slice q1 n1 c1, .bool pb1] 86)))
        go_ret3
        rw [HX.out];exact ⟨rfl, hB5⟩
 · obtain rfl : needs = [] := List.length_eq_zero_iff.1 (by omega)
   have hpar : parK [] t = openK t := by unfold parK; simp
   rw [hpar] at hgl;clear hn0 hpar;generalize openK t = O at *;simp only [List.length_nil] at HC ⊢;rcases O with _ | _
   · by_cases h0 : AS = 0
     case neg =>
      obtain ⟨g1, g2⟩ := nat_ne0 h0;rw [if_pos h0] at hgl;have HX := Lib.hid hgl;clear h0 hsc hgl HL HG HN;go_enter Tryz.func29, Tryz.ntmps29;go_wp2_with (first
       | (go_at_call 58; refine (HC false _ hB0).mono ?_; clear HC; rintro e w1 ⟨m1, q1, n1, c1, pb1, rfl, hS, hb1⟩; have hB1 := hB0.trans (below_less hb1 hB0.size); have hB2 := hB1.alloc hB1.size (.cells #[.map m1, .slice q1 n1 c1, .bool pb1] 86))
       | (go_at_call 74; refine HI.mono ?_; clear HI; rintro e w0 ⟨rfl, hb0⟩; have hB0 := hb0))
      go_ret3
      rw [HX.out];exact ⟨rfl, hB2⟩
     case pos =>
      subst h0;rw [if_neg (by simp)] at hgl;have hso := hsc false rfl;have HG := HG false hso;have HL := HL false hso;clear hsc hso;rcases hnk : neededK want with _ | _
      · rw [hnk] at HN
        rw [hnk, if_pos rfl] at hgl;have HX := Lib.hid hgl;clear hgl HL HG hnk;go_enter Tryz.func29, Tryz.ntmps29;go_wp2_with (first
         | (go_at_call 78; refine (HN _ hB2).mono ?_; clear HN; rintro e w2 ⟨rfl, hb2⟩; have hB3 := hB2.trans (below_less hb2 hB2.size))
         | (go_at_call 58; refine (HC false _ hB0).mono ?_; clear HC; rintro e w1 ⟨m1, q1, n1, c1, pb1, rfl, hS, hb1⟩; have hB1 := hB0.trans (below_less hb1 hB0.size); have hB2 := hB1.alloc hB1.size (.cells #[.map m1, .slice q1 n1 c1, .bool pb1] 86))
         | (go_at_call 74; refine HI.mono ?_; clear HI; rintro e w0 ⟨rfl, hb0⟩; have hB0 := hb0))
        go_ret3
        rw [HX.out];exact ⟨rfl, hB3⟩
      · rw [hnk] at HN
        rw [hnk, if_neg (by simp)] at hgl;have HL := HL hnk;have hgz := fun h => good_zero (c := ⟨l, [], false⟩) (t := t) h
        clear hnk;generalize goodK ⟨l, [], false⟩ t = GK at *
        by_cases hg0 : GK = 0
        case neg =>
         obtain ⟨g1, g2⟩ := nat_ne0 hg0;rw [if_pos hg0] at hgl;have HX := Lib.hid hgl;clear hgl HL hgz hg0;go_enter Tryz.func29, Tryz.ntmps29;go_wp2_with (first
          | (go_at_call 59; refine (HG _ _ hB3 hS3).mono ?_; clear HG; rintro e w3 ⟨rfl, hb3⟩; have hB4 := hB3.trans (below_less hb3 hB3.size); have bx4 := box3 (kept_call hx3 hb3); have hS4 := hS3.below hb3 (nl _))
          | (go_at_call 78; refine (HN _ hB2).mono ?_; clear HN; rintro e w2 ⟨rfl, hb2⟩; have hB3 := hB2.trans (below_less hb2 hB2.size); have hx3 := kept_call hx2 hb2; have bx3 := box3 hx3; have hS3 := hS2.below hb2 (nl _))
          | (go_at_call 58; refine (HC false _ hB0).mono ?_; clear HC; rintro e w1 ⟨m1, q1, n1, c1, pb1, rfl, hS, hb1⟩; have hB1 := hB0.trans (below_less hb1 hB0.size); have hB2 := hB1.alloc hB1.size (.cells #[.map m1, .slice q1 n1 c1, .bool pb1] 86); have hS1 := hS (by first | rfl | trivial); clear hS; have hE2 := (Below.refl _ w1).alloc (nl _) (.cells #[.map m1, .slice q1 n1 c1, .bool pb1] 86); have hS2 := hS1.below hE2 (nl _); have hx2 := heap_alloc_new w1 (.cells #[.map m1, .slice q1 n1 c1, .bool pb1] 86))
          | (go_at_call 74; refine HI.mono ?_; clear HI; rintro e w0 ⟨rfl, hb0⟩; have hB0 := hb0))
         go_ret3
         rw [HX.out];exact ⟨rfl, hB4⟩
        case pos =>
         subst hg0;rw [if_neg (by simp)] at hgl;have HL := HL (hgz rfl);clear hgz;generalize lacksK ⟨l, [], false⟩ want t = LK at *;rcases LK with _ | nm
         all_goals
          have HX := Lib.hid hgl;clear hgl;dsimp only [Option.getD_none, Option.isSome_none, Option.getD_some, Option.isSome_some] at HL HX;go_enter Tryz.func29, Tryz.ntmps29;go_wp2_with (first
           | (go_at_call 79; refine (HL _ _ hB4 hS4).mono ?_; clear HL; rintro e w4 ⟨rfl, hb4⟩; have hB5 := hB4.trans (below_less hb4 hB4.size))
           | (go_at_call 59; refine (HG _ _ hB3 hS3).mono ?_; clear HG; rintro e w3 ⟨rfl, hb3⟩; have hB4 := hB3.trans (below_less hb3 hB3.size); have bx4 := box3 (kept_call hx3 hb3); have hS4 := hS3.below hb3 (nl _))
           | (go_at_call 78; refine (HN _ hB2).mono ?_; clear HN; rintro e w2 ⟨rfl, hb2⟩; have hB3 := hB2.trans (below_less hb2 hB2.size); have hx3 := kept_call hx2 hb2; have bx3 := box3 hx3; have hS3 := hS2.below hb2 (nl _))
           | (go_at_call 58; refine (HC false _ hB0).mono ?_; clear HC; rintro e w1 ⟨m1, q1, n1, c1, pb1, rfl, hS, hb1⟩; have hB1 := hB0.trans (below_less hb1 hB0.size); have hB2 := hB1.alloc hB1.size (.cells #[.map m1, .slice q1 n1 c1, .bool pb1] 86); have hS1 := hS (by first | rfl | trivial); clear hS; have hE2 := (Below.refl _ w1).alloc (nl _) (.cells #[.map m1, .slice q1 n1 c1, .bool pb1] 86); have hS2 := hS1.below hE2 (nl _); have hx2 := heap_alloc_new w1 (.cells #[.map m1, .slice q1 n1 c1, .bool pb1] 86))
           | (go_at_call 74; refine HI.mono ?_; clear HI; rintro e w0 ⟨rfl, hb0⟩; have hB0 := hb0))
          go_ret3
          rw [HX.out];exact ⟨rfl, hB5⟩
   · by_cases h0 : AS = 0
     case neg =>
      obtain ⟨g1, g2⟩ := nat_ne0 h0;rw [if_pos h0] at hgl;have HX := Lib.hid hgl;clear h0 hsc hgl HL HG HN;go_enter Tryz.func29, Tryz.ntmps29;go_wp2_with (first
       | (go_at_call 58; refine (HC true _ hB0).mono ?_; clear HC; rintro e w1 ⟨m1, q1, n1, c1, pb1, rfl, hS, hb1⟩; have hB1 := hB0.trans (below_less hb1 hB0.size); have hB2 := hB1.alloc hB1.size (.cells #[.map m1, .slice q1 n1 c1, .bool pb1] 86))
       | (go_at_call 74; refine HI.mono ?_; clear HI; rintro e w0 ⟨rfl, hb0⟩; have hB0 := hb0))
      go_ret3
      rw [HX.out];exact ⟨rfl, hB2⟩
     case pos =>
      subst h0;rw [if_neg (by simp)] at hgl;have hso := hsc true rfl;have HG := HG true hso;have HL := HL true hso;clear hsc hso;rcases hnk : neededK want with _ | _
      · rw [hnk] at HN
        rw [hnk, if_pos rfl] at hgl;have HX := Lib.hid hgl;clear hgl HL HG hnk;go_enter Tryz.func29, Tryz.ntmps29;go_wp2_with (first
         | (go_at_call 78; refine (HN _ hB2).mono ?_; clear HN; rintro e w2 ⟨rfl, hb2⟩; have hB3 := hB2.trans (below_less hb2 hB2.size))
         | (go_at_call 58; refine (HC true _ hB0).mono ?_; clear HC; rintro e w1 ⟨m1, q1, n1, c1, pb1, rfl, hS, hb1⟩; have hB1 := hB0.trans (below_less hb1 hB0.size); have hB2 := hB1.alloc hB1.size (.cells #[.map m1, .slice q1 n1 c1, .bool pb1] 86))
         | (go_at_call 74; refine HI.mono ?_; clear HI; rintro e w0 ⟨rfl, hb0⟩; have hB0 := hb0))
        go_ret3
        rw [HX.out];exact ⟨rfl, hB3⟩
      · rw [hnk] at HN
        rw [hnk, if_neg (by simp)] at hgl;have HL := HL hnk;have hgz := fun h => good_zero (c := ⟨l, [], true⟩) (t := t) h
        clear hnk;generalize goodK ⟨l, [], true⟩ t = GK at *
        by_cases hg0 : GK = 0
        case neg =>
         obtain ⟨g1, g2⟩ := nat_ne0 hg0;rw [if_pos hg0] at hgl;have HX := Lib.hid hgl;clear hgl HL hgz hg0;go_enter Tryz.func29, Tryz.ntmps29;go_wp2_with (first
          | (go_at_call 59; refine (HG _ _ hB3 hS3).mono ?_; clear HG; rintro e w3 ⟨rfl, hb3⟩; have hB4 := hB3.trans (below_less hb3 hB3.size); have bx4 := box3 (kept_call hx3 hb3); have hS4 := hS3.below hb3 (nl _))
          | (go_at_call 78; refine (HN _ hB2).mono ?_; clear HN; rintro e w2 ⟨rfl, hb2⟩; have hB3 := hB2.trans (below_less hb2 hB2.size); have hx3 := kept_call hx2 hb2; have bx3 := box3 hx3; have hS3 := hS2.below hb2 (nl _))
          | (go_at_call 58; refine (HC true _ hB0).mono ?_; clear HC; rintro e w1 ⟨m1, q1, n1, c1, pb1, rfl, hS, hb1⟩; have hB1 := hB0.trans (below_less hb1 hB0.size); have hB2 := hB1.alloc hB1.size (.cells #[.map m1, .slice q1 n1 c1, .bool pb1] 86); have hS1 := hS (by first | rfl | trivial); clear hS; have hE2 := (Below.refl _ w1).alloc (nl _) (.cells #[.map m1, .slice q1 n1 c1, .bool pb1] 86); have hS2 := hS1.below hE2 (nl _); have hx2 := heap_alloc_new w1 (.cells #[.map m1, .slice q1 n1 c1, .bool pb1] 86))
          | (go_at_call 74; refine HI.mono ?_; clear HI; rintro e w0 ⟨rfl, hb0⟩; have hB0 := hb0))
         go_ret3
         rw [HX.out];exact ⟨rfl, hB4⟩
        case pos =>
         subst hg0;rw [if_neg (by simp)] at hgl;have HL := HL (hgz rfl);clear hgz;generalize lacksK ⟨l, [], true⟩ want t = LK at *;rcases LK with _ | nm
         all_goals
          have HX := Lib.hid hgl;clear hgl;dsimp only [Option.getD_none, Option.isSome_none, Option.getD_some, Option.isSome_some] at HL HX;go_enter Tryz.func29, Tryz.ntmps29;go_wp2_with (first
           | (go_at_call 79; refine (HL _ _ hB4 hS4).mono ?_; clear HL; rintro e w4 ⟨rfl, hb4⟩; have hB5 := hB4.trans (below_less hb4 hB4.size))
           | (go_at_call 59; refine (HG _ _ hB3 hS3).mono ?_; clear HG; rintro e w3 ⟨rfl, hb3⟩; have hB4 := hB3.trans (below_less hb3 hB3.size); have bx4 := box3 (kept_call hx3 hb3); have hS4 := hS3.below hb3 (nl _))
           | (go_at_call 78; refine (HN _ hB2).mono ?_; clear HN; rintro e w2 ⟨rfl, hb2⟩; have hB3 := hB2.trans (below_less hb2 hB2.size); have hx3 := kept_call hx2 hb2; have bx3 := box3 hx3; have hS3 := hS2.below hb2 (nl _))
           | (go_at_call 58; refine (HC true _ hB0).mono ?_; clear HC; rintro e w1 ⟨m1, q1, n1, c1, pb1, rfl, hS, hb1⟩; have hB1 := hB0.trans (below_less hb1 hB0.size); have hB2 := hB1.alloc hB1.size (.cells #[.map m1, .slice q1 n1 c1, .bool pb1] 86); have hS1 := hS (by first | rfl | trivial); clear hS; have hE2 := (Below.refl _ w1).alloc (nl _) (.cells #[.map m1, .slice q1 n1 c1, .bool pb1] 86); have hS2 := hS1.below hE2 (nl _); have hx2 := heap_alloc_new w1 (.cells #[.map m1, .slice q1 n1 c1, .bool pb1] 86))
           | (go_at_call 74; refine HI.mono ?_; clear HI; rintro e w0 ⟨rfl, hb0⟩; have hB0 := hb0))
          go_ret3
          rw [HX.out];exact ⟨rfl, hB5⟩
end Go.Proofs.YtakgjcfkdemipaaGreatDoor
namespace Go.Proofs.YtakgjcfkdemipaaGreatDoor
open Go.RowKit Go.Maps Go.Sort
theorem sort_row (v : Value) (ss : List (List UInt8)) (B : Nat) (W : World) (h : W.ownsRow B 9 1 v ss.length (strsC ss)) (hl : ss.length ≤ 100000) :
 Calls Tryz.prog 102 #[v] W fun e w' => e = .returned (.tuple #[]) ∧ w'.ownsRow B 9 1 v ss.length (strsC (ss.mergeSort leB)) ∧ W.grownBy w' v.ownBlock := by
 rcases h.2 with ⟨rfl, h0⟩ | ⟨g, cap, cur, rfl, hb, hh, h1, h2, h3, h4⟩
 · have e0 : ss = [] := List.length_eq_zero_iff.1 (by omega)
   subst e0;refine (Tryz.slices_Sort_string_none none 0 W).mono ?_;rintro e w' ⟨rfl, rfl⟩;exact ⟨rfl, by simpa [strsC] using h, grown_refl _ _⟩
 · have hH : Holds encStr W g 0 ss.toArray := holds_of_block hh (by simpa [strsC] using h4)
   refine (Tryz.slices_Sort_string g 0 cap ss W hH (Array.getElem?_eq_some_iff.1 hh).1 (by omega)).mono ?_;rintro e w' ⟨rfl, n, os, rfl⟩;exact ⟨rfl, ownsRow_sorted (by simp) hb hh h1 h2 h3, grownBy_sorted _⟩
theorem nmK_len {s : SigP} (h1 : s.args.length ≤ 6) (hty : ∀ t ∈ typesK s, (checkK t).1 = 0) : (nmK s).length ≤ 700 := by
 have h2 : ∀ l : List (List UInt8), (∀ t ∈ l, (checkK t).1 = 0) → (l.flatMap fun t => (namesK t).1).length ≤ l.length * 100 := by
  intro l
  induction l with
  | nil => simp
  | cons x l ih =>
   intro h;have h3 := (names_small (h x (by simp))).2.1;have h4 := ih fun y hy => h y (by simp [hy])
   rw [List.flatMap_cons, List.length_append, List.length_cons, Nat.succ_mul];omega
 have h3 := h2 _ hty
 have h4 : (typesK s).length ≤ 7 := by
  unfold typesK;rw [List.length_append];split <;> simp <;> omega
 have := Nat.mul_le_mul_right 100 h4
 unfold nmK
 omega
theorem nms_len : ∀ l : List OpP, (∀ o ∈ l, o.sig.args.length ≤ 6 ∧ ∀ t ∈ typesK o.sig, (checkK t).1 = 0) → (l.flatMap fun o => nmK o.sig).length ≤ l.length * 700
 | [], _ => by simp
 | o :: l, h => by
  have h1 := nmK_len (h o (by simp)).1 (h o (by simp)).2;have h2 := nms_len l fun x hx => h x (by simp [hx])
  rw [List.flatMap_cons, List.length_append, List.length_cons, Nat.succ_mul];omega
theorem nms_small : ∀ l : List OpP, (∀ o ∈ l, ∀ t ∈ typesK o.sig, (checkK t).1 = 0) → ∀ n ∈ l.flatMap fun o => nmK o.sig, n.length ≤ 100 := by
 intro l h n hn
 obtain ⟨o, ho, hn⟩ := List.mem_flatMap.1 hn
 obtain ⟨t, ht, hn⟩ := List.mem_flatMap.1 hn
 exact (names_small (h o ho t ht)).2.2 n hn
theorem uses_names (f : FaceP) : (((sigsF f).flatMap typesK).flatMap fun t => (namesK t).1) = (f.needs.flatMap fun o => nmK o.sig) ++ f.ops.flatMap fun o => nmK o.sig := by
 unfold sigsF nmK
 rw [List.flatMap_append, List.flatMap_append, List.flatMap_assoc, List.flatMap_assoc, List.flatMap_map, List.flatMap_map]
set_option maxRecDepth 8000 in
set_option maxHeartbeats 25600000 in
theorem uses_any {D : Nat → Prop} (v : Value) (f : FaceP) (w : World) (ht : Tab w) (hv : FaceV D w v f) (hn : f.needs.length ≤ 100000) :
 Calls Tryz.prog 47 #[v] w fun e w' => ∃ u, e = .returned (.tuple #[u, .int .i64 (usesK f).2]) ∧ SS (fun b => w.heap.size ≤ b) w' u (usesK f).1 ∧ Below w.heap.size w w' := by
 obtain ⟨nv, ov, rfl, hnl, hN, hO⟩ := hv
 have hA := (Below.refl _ w).alloc (nl _) (.cells #[str f.name, .int .u8 f.kind, .bool f.par, nv, ov] 58)
 have hbox := heap_alloc_new w (.cells #[str f.name, .int .u8 f.kind, .bool f.par, nv, ov] 58)
 have HT := Lib.hid (fun W (hW : Below w.heap.size w W) => ht.below hW (nl _))
 have HC := fcheck_any _ f (w.alloc (.cells #[str f.name, .int .u8 f.kind, .bool f.par, nv, ov] 58)) (ht.below hA (nl _)) ⟨nv, ov, rfl, hnl, hN.below hA (nl _), hO.below hA (nl _)⟩ hn
 have HW : usesK f = if faceK f = true then (sortU (((sigsF f).flatMap typesK).flatMap fun t => (namesK t).1), 0) else ([], 42) := rfl
 have HE : faceE f = if faceK f = true then 0 else 42 := rfl
 obtain ⟨p1, c1, rfl, _⟩ := hN.shape
 obtain ⟨p2, c2, rfl, _⟩ := hO.shape
 have bx := box5 hbox
 generalize usesK f = UR at *
 rcases hf : faceK f with _ | _
 · rw [HE, hf] at HC
   rw [hf] at HW;have HX := Lib.hid HW;clear HW HE hN hO hf;go_enter Tryz.func47, Tryz.ntmps47;go_wp2_with (go_at_call 38; refine HC.mono ?_; clear HC; rintro e w2 ⟨rfl, hb2⟩);go_ret2;rw [HX.out];exact ⟨_, rfl, SS.nil _ _ _ _, hA.trans (below_less hb2 (by simp))⟩
 · rw [HE, hf] at HC
   rw [hf, uses_names] at HW;have hp := faceK_parts hf;have hln := (needed_len hp.2.2.2.1).1;have hlo := hp.2.2.2.2.2.2.1;have hns : ∀ o ∈ f.needs, o.sig.args.length ≤ 6 ∧ ∀ t ∈ typesK o.sig, (checkK t).1 = 0 := fun o ho => by
    have hn := hp.2.2.2.1;unfold neededK at hn;simp only [Bool.and_eq_true, List.all_eq_true, decide_eq_true_eq] at hn;have hs := saidK_parts (hn.1.1 o ho);exact ⟨hs.1, fun t ht => (hs.2.2.2.2 t ht).1⟩
   have hos : ∀ o ∈ f.ops, o.sig.args.length ≤ 6 ∧ ∀ t ∈ typesK o.sig, (checkK t).1 = 0 := fun o ho => by
    have hs := saidK_parts (hp.2.2.2.2.2.2.2.1 o ho).2;exact ⟨hs.1, fun t ht => (hs.2.2.2.2 t ht).1⟩
   have hll := nms_len f.needs hns;have hlm := nms_len f.ops hos;have hs1 := nms_small f.needs fun o ho => (hns o ho).2
   have hs2 := nms_small f.ops fun o ho => (hos o ho).2
   have HX := Lib.hid HW;have hmm := @run_makeMap Tryz.prog;clear HW HE hf hp;go_enter Tryz.func47, Tryz.ntmps47;go_wp2_with (go_at_call 38; refine HC.mono ?_; clear HC; rintro e w2 ⟨rfl, hb2⟩; have hbx2 := kept_call hbox hb2; have hB2 := hA.trans (below_less hb2 (by simp)); have bx3 := box5 (heap_up (.cells #[.map (some w2.heap.size)] 112) (heap_up (.map #[] 0) hbx2)));clear bx3;have hB3 := (hB2.alloc hB2.size (.map #[] 0)).alloc (by have := hB2.size; simp; omega) (.cells #[.map (some w2.heap.size)] 112);have hm3 := (SetMap.made w2).kept (World.grownBy_alloc (w2.alloc (.map #[] 0)) (.cells #[.map (some w2.heap.size)] 112) none) (by simp);have hx3 := heap_to (w := w2.alloc (.map #[] 0)) (n := w2.heap.size + 1) (by simp) #[.map (some w2.heap.size)] 112;have hbx3 := heap_up (.cells #[.map (some w2.heap.size)] 112) (heap_up (.map #[] 0) hbx2);have hM : w.heap.size ≤ w2.heap.size := hB2.size;have hwlt := heap_lt hbx2;clear hbx2 hbox bx hA hb2 hB2;have hN3 := hN.fresh.below hB3 (nl _);have hO3 := hO.fresh.below hB3 (nl _);have hsz3 := hB3.size;have hM3 : w2.heap.size + 1 < ((w2.alloc (.map #[] 0)).alloc (.cells #[.map (some w2.heap.size)] 112)).heap.size := by simp
   clear hN hO;generalize (w2.alloc (.map #[] 0)).alloc (.cells #[.map (some w2.heap.size)] 112) = W3 at *;generalize w2.heap.size = M at *;have HT3 := Lib.hid (fun W (hW : W3.grownBy W (some M)) => HT.out W (Below.grown hB3 hW hB3.size (fun b e => by injection e with e; omega)));go_loopw [23] (fun y wx => ∃ i : Nat, i ≤ f.needs.length ∧ y = .int .i64 i ∧ SetMap wx M ((f.needs.take i).flatMap fun o => nmK o.sig) ∧ W3.grownBy wx (some M)) (fun y _ => f.needs.length - (intOf y).toNat)
   case atStart => exact ⟨0, Nat.zero_le _, by go_num, by simpa using hm3, grown_refl _ _⟩
   case round =>
    clear hm3;obtain ⟨i, hi, rfl, hset, hgr⟩ := hrel;have hbr := (hgr.block (M + 1) (heap_lt hx3) (fun e => by injection e with e; omega)).trans hx3
    by_cases hlt : i < f.needs.length
    case neg =>
     have hie : i = f.needs.length := by omega
     subst hie;rw [List.take_length] at hset;have hbxr := (hgr.block w.heap.size (heap_lt hbx3) (fun e => by injection e with e; omega)).trans hbx3;have bxr := box5 hbxr;generalize (f.needs.flatMap fun o => nmK o.sig) = A0 at *;have hal : ∀ i, (A0 ++ (f.ops.take i).flatMap fun o => nmK o.sig).length ≤ 20000 := fun i => by
      have h1 := nms_len (f.ops.take i) fun o ho => hos o (List.mem_of_mem_take ho)
      rw [List.length_append];rw [List.length_take] at h1;have := Nat.mul_le_mul_right 700 (show min i f.ops.length ≤ 20 by omega);omega
     go_wp2_with fail;clear bxr hbr;have hgr0 := hgr;go_loopw [35] (fun y wx => ∃ i : Nat, i ≤ f.ops.length ∧ y = .int .i64 i ∧ SetMap wx M (A0 ++ (f.ops.take i).flatMap fun o => nmK o.sig) ∧ W3.grownBy wx (some M)) (fun y _ => f.ops.length - (intOf y).toNat)
     case atStart => exact ⟨0, Nat.zero_le _, by go_num, by simpa using hset, hgr0⟩
     case round =>
      clear hset hgr hgr0 hbxr;obtain ⟨i, hi, rfl, hset, hgr⟩ := hrel;have hbr := (hgr.block (M + 1) (heap_lt hx3) (fun e => by injection e with e; omega)).trans hx3
      by_cases hlt : i < f.ops.length
      case neg =>
       have hie : i = f.ops.length := by omega
       subst hie;rw [List.take_length] at hset;have hAl : (A0 ++ f.ops.flatMap fun o => nmK o.sig).length ≤ 20000 := by have := hal f.ops.length; rwa [List.take_length] at this
       have hAs : ∀ n ∈ A0 ++ f.ops.flatMap fun o => nmK o.sig, n.length ≤ 100 := fun n hn => by
        rcases List.mem_append.1 hn with hn | hn
        · exact hs1 n hn
        · exact hs2 n hn
       clear hal hll hlm hs1 hs2 hns hos;generalize (A0 ++ f.ops.flatMap fun o => nmK o.sig) = AL at *;have hbc := (cells_at hbr 0).trans rfl;obtain ⟨i0, hi0, hz0, hz1, hz2⟩ := finfo_parts finfoStr;have hsd : size (setOf (H := Unit) (.lit (.bool true)) (keysOf AL)) ≤ 20000 := by
        rw [size_strKeys, ← hset.perm.length_eq];exact Nat.le_trans (onceB_len AL) hAl
       go_wp2_with (at_range; refine wpList_range_own _ rfl _ 112 rfl 9 4 (string_keyed Tryz.underlying9) Tryz.underlying112 _ M AL.length _ rfl hset ?_; intro w0 hrg0 hg0 hs0);have hB0 := Below.grown hB3 (grown_trans hgr (hg0.but (some M))) hB3.size (fun b e => by injection e with e; omega);have hset0 := hset.kept hg0 (by simp);have hMr : M < wr.heap.size := hset.lt;have hBr := hgr.size;have hsz0 : wr.heap.size < w0.heap.size := by omega
       clear hs0 hbc hbr hset hi;generalize wr.heap.size = R at *
       go_frame
       have hrgS := hrg0;clear hrg0;go_loopw [11] (fun v wx => ∃ (left : Lit → Bool) (cnt : Nat) (ss : List (List UInt8)), wx.ranges Tryz.prog 9 (plainElem (H := Unit) Tryz.prog 4) M R AL.length (setOf (H := Unit) (.lit (.bool true)) (keysOf AL)) left cnt ∧ ss.length + cnt ≤ size (setOf (H := Unit) (.lit (.bool true)) (keysOf AL)) ∧
        wx.ownsRow W3.heap.size 9 1 v ss.length (strsC ss) ∧ Collected (setOf (H := Unit) (.lit (.bool true)) (keysOf AL)) left ss ∧ Below w.heap.size w wx ∧ R < wx.heap.size) (fun _ wx => wx.rangeLeft M R)
       case atStart => exact ⟨_, _, [], hrgS, by simp, World.ownsRow_nil _ _ _ _, Collected.start _, hB0, hsz0⟩
       case round =>
        obtain ⟨left, cnt, ss, hrg, hcs, hrow, hC, hBx, hsx⟩ := hrel;go_wp2_with (at_next; refine wpList_next_ranges _ rfl _ rfl 9 (string_keyed Tryz.underlying9) (plainElem (H := Unit) Tryz.prog 4) encStr (fun b : Value => b) (fun key kl hk => by obtain ⟨x, hx, _⟩ := Maps.keyOf_str Tryz.underlying9 hk; exact ⟨x, hx⟩) (fun v y _ => ⟨v, rfl⟩) M R AL.length _ _ _ rfl hrg ?_ ?_)
        · intro hc0 hl0
          have hp := (hC.perm hset0 (string_keyed Tryz.underlying9) Tryz.underlying9 hl0).trans hset0.perm.symm;have hes : ss.mergeSort leB = sortU AL := mergeSort_of_perm hp;have hsl : ss.length ≤ 100000 := by omega
          have HS := sort_row _ ss _ _ hrow hsl;have hob := fun b e => (hrow.lt b e).1
          obtain ⟨pv, cv, rfl⟩ := row_shape hrow;go_wp2_with (go_at_call 102; refine HS.mono ?_; clear HS; rintro e w5 ⟨rfl, hrow5, hg5⟩);go_ret2;rw [HX.out];rw [hes] at hrow5;refine ⟨_, rfl, (SS.row hrow5 (by rw [← hes, List.length_mergeSort]) (fun s hs => ?_)).mono (fun b hb => Nat.le_trans hsz3 hb), hBx.grown hg5 hBx.size (fun k e => Nat.le_trans hsz3 (hob k e))⟩;simp only [sortU, List.mem_mergeSort, onceB_mem] at hs;have := hAs s hs;unfold maxLen;omega
        · intro x c kl yd yp w3 cnt3 hkey hlk hv hat hrg3 hlt hg3 hs3 hen
          obtain ⟨x', ex, rfl, hxm⟩ := Maps.keyOf_str Tryz.underlying9 hkey;obtain rfl : x = x' := encStr_inj ex;have hrow3 := hrow.kept hg3 (Or.inr (row_ne_iter hrow hrg).symm);have hcl := hlt;clear hs3 hlt;have hsz0' := hsz3;have hsz3 := hg3.size;go_wp2_with (at_builtin; refine wpList_append_own _ rfl _ _ 34 rfl W3.heap.size 9 i0 _ 1 16 underStrs hi0 hz0 hz1 hz2 rfl (by decide) _ _ _ rfl (hrow3.alloc _) ⟨w3.heap.size, 0, none⟩ 1 1 [encStr x] rfl rfl (cell_one_new _ _ _) (by intro u hu; rw [List.mem_singleton.1 hu]; rfl) (by unfold maxLen; omega) (by omega) (by simp; omega) ?_; intro v' w4 hown4 hgr4 _);have hrg4 := (hrg3.alloc _).kept hgr4 (row_ne_low hrow3 (by omega)) (row_ne_iter hrow3 hrg3);refine ⟨⟨_, cnt3, ss ++ [x], hrg4, by simp; omega, by simpa [strsC] using hown4, hC.step hlk hat, ?_, ?_⟩, ?_⟩
          · have hB4 := hBx.grown hg3 hBx.size (fun k e => by cases e; omega)
            exact (hB4.alloc hB4.size _).grown hgr4 (by have := hB4.size; simp; omega) (fun k e => Nat.le_trans hsz0' (hrow3.lt k e).1)
          · have := hgr4.size
            simp at this;omega
          · show World.rangeLeft w4 M R < World.rangeLeft wr M R
            rw [hrg4.left_eq, hrg.left_eq]; exact hcl
      case pos =>
       obtain ⟨x, hx⟩ : ∃ x, f.ops[i]? = some x := ⟨_, List.getElem?_eq_getElem hlt⟩
       have hxm := List.mem_of_getElem? hx;have hNr := hO3.agree (w' := wr) (fun b hb hlt => hgr.block b hlt (fun e => by injection e with e; have := hb.2; omega));obtain ⟨b1, o1, av, sv, hbe, hDb, ⟨hxn, hxr⟩, hSa, hSs, pc0, pc1, pc2, pc3, pc4⟩ := hNr.at hx;subst hbe;obtain ⟨pa, ca, rfl, _⟩ := hSa.shape;obtain ⟨ps, cs, rfl, _⟩ := hSs.shape;have hE1 := (Below.refl _ wr).alloc (nl _) (.cells #[str x.name, .bool x.sig.iter, .slice pa x.sig.args.length ca, str x.sig.res, .slice ps x.sig.sigs.length cs] 50);have hb1 := box5 (heap_alloc_new wr (.cells #[str x.name, .bool x.sig.iter, .slice pa x.sig.args.length ca, str x.sig.res, .slice ps x.sig.sigs.length cs] 50));have g1 := below_grown hE1 (some M);have HN := note_any _ x.sig (M + 1) M _ _ (fun W hW => HT3.out W (grown_trans hgr (grown_trans g1 hW))) ⟨_, _, rfl, hxr, hSa.below hE1 (nl _), hSs.below hE1 (nl _)⟩ (heap_up (.cells #[str x.name, .bool x.sig.iter, .slice pa x.sig.args.length ca, str x.sig.res, .slice ps x.sig.sigs.length cs] 50) hbr) (hset.grown hE1) (by have := (hos x hxm).1; omega) (by have := hal i; omega) (hos x hxm).2;have HAB := Lib.hid (show (A0 ++ (f.ops.take i).flatMap fun o => nmK o.sig) ++ nmK x.sig = A0 ++ (f.ops.take (i + 1)).flatMap fun o => nmK o.sig by rw [List.take_add_one, hx, Option.toList_some, List.flatMap_append, List.append_assoc]; simp);rw [HAB.out] at HN;clear hx hNr hSa hSs hset;go_wp2_with (go_at_call 100; refine HN.mono ?_; clear HN; rintro e w5 ⟨rfl, hset5, hg5⟩);exact ⟨⟨i + 1, hlt, by go_num, hset5, grown_trans hgr (grown_trans g1 hg5)⟩, by simp only [intOf]; omega⟩
    case pos =>
     have hal : ∀ i, ((f.needs.take i).flatMap fun o => nmK o.sig).length ≤ 20000 := fun i => by
      have h1 := nms_len (f.needs.take i) fun o ho => hns o (List.mem_of_mem_take ho)
      rw [List.length_take] at h1;have := Nat.mul_le_mul_right 700 (show min i f.needs.length ≤ 20 by omega);omega
     obtain ⟨x, hx⟩ : ∃ x, f.needs[i]? = some x := ⟨_, List.getElem?_eq_getElem hlt⟩
     have hxm := List.mem_of_getElem? hx;have hNr := hN3.agree (w' := wr) (fun b hb hlt => hgr.block b hlt (fun e => by injection e with e; have := hb.2; omega));obtain ⟨b1, o1, av, sv, hbe, hDb, ⟨hxn, hxr⟩, hSa, hSs, pc0, pc1, pc2, pc3, pc4⟩ := hNr.at hx;subst hbe;obtain ⟨pa, ca, rfl, _⟩ := hSa.shape;obtain ⟨ps, cs, rfl, _⟩ := hSs.shape;have hE1 := (Below.refl _ wr).alloc (nl _) (.cells #[str x.name, .bool x.sig.iter, .slice pa x.sig.args.length ca, str x.sig.res, .slice ps x.sig.sigs.length cs] 79);have hb1 := box5 (heap_alloc_new wr (.cells #[str x.name, .bool x.sig.iter, .slice pa x.sig.args.length ca, str x.sig.res, .slice ps x.sig.sigs.length cs] 79));have g1 := below_grown hE1 (some M);have HN := note_any _ x.sig (M + 1) M _ _ (fun W hW => HT3.out W (grown_trans hgr (grown_trans g1 hW))) ⟨_, _, rfl, hxr, hSa.below hE1 (nl _), hSs.below hE1 (nl _)⟩ (heap_up (.cells #[str x.name, .bool x.sig.iter, .slice pa x.sig.args.length ca, str x.sig.res, .slice ps x.sig.sigs.length cs] 79) hbr) (hset.grown hE1) (by have := (hns x hxm).1; omega) (by have := hal i; omega) (hns x hxm).2;have HAB := Lib.hid (show ((f.needs.take i).flatMap fun o => nmK o.sig) ++ nmK x.sig = (f.needs.take (i + 1)).flatMap fun o => nmK o.sig by rw [List.take_add_one, hx, Option.toList_some, List.flatMap_append]; simp);rw [HAB.out] at HN;clear hx hNr hSa hSs hset;go_wp2_with (go_at_call 100; refine HN.mono ?_; clear HN; rintro e w5 ⟨rfl, hset5, hg5⟩);exact ⟨⟨i + 1, hlt, by go_num, hset5, grown_trans hgr (grown_trans g1 hg5)⟩, by simp only [intOf]; omega⟩
end Go.Proofs.YtakgjcfkdemipaaGreatDoor
namespace Go.Proofs.YtakgjcfkdemipaaGreatDoor
open Go Go.RowKit
theorem infoFace : (Tryz.prog.info? 58).map (fun i => (i.zero, i.size, i.bytes)) = some (some (.agg #[.string ⟨#[]⟩, .int .u8 0, .bool false, .slice none 0 0, .slice none 0 0]), 5, 72) := by kernel_rfl
theorem underFaces : Tryz.prog.underlying 22 = some (.slice 58) := by kernel_rfl
theorem FacesC.length {D : Nat → Prop} {w : World} : ∀ {l : List FaceP} {cs : List Value}, FacesC D w cs l → cs.length = l.length * 5
 | [], _, h => by rw [show _ = _ from h]; rfl
 | _ :: _, _, ⟨a, s, r, h1, _, _, _, h4⟩ => by rw [h1]; simp only [List.length_cons, FacesC.length h4]; omega
theorem FacesC.one_cell {D : Nat → Prop} {w : World} : ∀ {l : List FaceP} {cs : List Value}, FacesC D w cs l → ∀ u ∈ cs, u.oneCell' = true
 | [], _, h => by rw [show _ = _ from h]; intro u hu; cases hu
 | x :: l, _, ⟨a, s, r, h1, _, h2, h3, h4⟩ => by
  subst h1;obtain ⟨p1, c1, rfl, _⟩ := h2;obtain ⟨p2, c2, rfl, _⟩ := h3;intro u hu;simp only [List.mem_cons] at hu;rcases hu with rfl | rfl | rfl | rfl | rfl | hu
  · rfl
  · rfl
  · rfl
  · rfl
  · rfl
  · exact FacesC.one_cell h4 u hu
theorem FacesC.below {D : Nat → Prop} {K : Nat} {w w' : World} (hb : Below K w w') (hK : w.heap.size ≤ K) : ∀ {l : List FaceP} {cs : List Value}, FacesC D w cs l → FacesC D w' cs l
 | [], _, h => h
 | _ :: _, _, ⟨a, s, r, h1, h0, h2, h3, h4⟩ => ⟨a, s, r, h1, h0, h2.below hb hK, h3.below hb hK, FacesC.below hb hK h4⟩
theorem FacesC.agree {D : Nat → Prop} {w w' : World} (hk : ∀ b, D b → b < w.heap.size → w'.heap[b]? = w.heap[b]?) : ∀ {l : List FaceP} {cs : List Value}, FacesC D w cs l → FacesC D w' cs l
 | [], _, h => h
 | _ :: _, _, ⟨a, s, r, h1, h0, h2, h3, h4⟩ => ⟨a, s, r, h1, h0, h2.agree hk, h3.agree hk, FacesC.agree hk h4⟩
theorem facesC_of {D : Nat → Prop} {w : World} {b : Nat} : ∀ (l : List FaceP) (o : Nat), (∀ x ∈ l, x.name.length ≤ maxLen) → (∀ j (_ : j < l.length), ∃ n q, OpsM D w n l[j].needs ∧ OpsM D w q l[j].ops ∧
 w.cell? ⟨b, o + j * 5, none⟩ = some (str l[j].name) ∧ w.cell? ⟨b, o + j * 5 + 1, none⟩ = some (.int .u8 l[j].kind) ∧ w.cell? ⟨b, o + j * 5 + 2, none⟩ = some (.bool l[j].par) ∧ w.cell? ⟨b, o + j * 5 + 3, none⟩ = some n ∧ w.cell? ⟨b, o + j * 5 + 4, none⟩ = some q) →
 ∃ ds, FacesC D w ds l ∧ ∀ j u, ds[j]? = some u → w.cell? ⟨b, o + j, none⟩ = some u
 | [], o, _, _ => ⟨[], rfl, by simp⟩
 | x :: l, o, hle, h => by
  obtain ⟨a, s, h1, h2, c0, c1, c2, c3, c4⟩ := h 0 (by simp);obtain ⟨ds, k1, k2⟩ := facesC_of l (o + 5) (fun y hy => hle y (List.mem_cons_of_mem _ hy)) fun j hj => by
   have := h (j + 1) (by simpa using hj);rw [show o + (j + 1) * 5 = o + 5 + j * 5 by omega] at this
   simpa using this
  refine ⟨str x.name :: .int .u8 x.kind :: .bool x.par :: a :: s :: ds, ⟨a, s, ds, rfl, hle x (List.mem_cons_self ..), h1, h2, k1⟩, fun j u hu => ?_⟩
  match j with
  | 0 => simp at hu; subst hu; simpa using c0
  | 1 => simp at hu; subst hu; simpa using c1
  | 2 => simp at hu; subst hu; simpa using c2
  | 3 => simp at hu; subst hu; simpa using c3
  | 4 => simp at hu; subst hu; simpa using c4
  | j + 5 =>
   have := k2 j u (by simpa using hu)
   rwa [show o + 5 + j = o + (j + 5) by omega] at this
theorem FacesM.cells {D : Nat → Prop} {w : World} {p : Option Addr} {n c : Nat} {l : List FaceP} (h : FacesM D w (.slice p n c) l) (hne : l ≠ []) : ∃ b o ds, p = some ⟨b, o, none⟩ ∧ FacesC (fun b => b < w.heap.size) w ds l ∧ ∀ j u, ds[j]? = some u → w.cell? ⟨b, o + j, none⟩ = some u := by
 obtain ⟨p', c', e, _, _, h3, h4⟩ := h
 simp only [Value.slice.injEq] at e
 obtain ⟨rfl, _, _⟩ := e
 rcases h4 with h4 | ⟨b, o, e, h5, _, h6⟩
 · exact absurd h4 hne
 · obtain ⟨ds, k1, k2⟩ := facesC_of (D := fun b => b < w.heap.size) l o h3 fun j hj => by
    obtain ⟨a, s, h7, h8, h9⟩ := h6 j hj;exact ⟨a, s, h7.fresh.mono fun _ h => h.2, h8.fresh.mono fun _ h => h.2, h9⟩
   exact ⟨b, o, ds, e, k1, k2⟩
structure OwnF (B : Nat) (w : World) (g cap : Nat) (l : List FaceP) : Prop where
 row : ∃ cur ds, B ≤ g ∧ w.heap[g]? = some (.cells cur 58 (0, 0)) ∧ l.length ≤ cap ∧ cap ≤ maxLen ∧ cur.size = cap * 5 ∧ cur.toList.take (l.length * 5) = ds ∧ FacesC (fun b => b < B) w ds l
theorem run_append_faces {D : Nat → Prop} (w0 w : World) (base : Nat) (ty : TypeId) (v : Value) (hown : w.ownsRow base 58 5 v 0 []) (y : Value) (L : List FaceP) (hy : FacesM D w0 y L) (h0 : L ≠ []) (hb0 : w0.heap.size ≤ base) (hW : Below w0.heap.size w0 w) (hm : L.length ≤ 100000) (hb : base ≤ w.heap.size) :
 ∃ g cap w', (Builtin.append_ #[22, 22] ty #[v, y]).run Tryz.prog w = .ok (.slice (some ⟨g, 0, none⟩) L.length cap) w' ∧ OwnF w0.heap.size w' g cap L ∧ base ≤ g ∧ w.grownBy w' v.ownBlock := by
 obtain ⟨i0, hi0, hz0, hz1, hz2⟩ := finfo_parts infoFace
 obtain ⟨p, c, rfl, _⟩ := hy.shape
 have hp : 0 < L.length := List.length_pos_iff.2 h0
 obtain ⟨b, o, ds, rfl, hd, hcell⟩ := hy.cells h0
 obtain ⟨v', w', h1, h2, h3, h5⟩ := run_append_own2 (P := Tryz.prog) w base 22 ty 58 i0 _ 5 72 underFaces hi0 hz0 hz1 hz2 rfl (by decide) v 0 [] hown ⟨b, o, none⟩ L.length c ds hd.length (fun j u hu => by
  rw [Go.WideShapes.add_plain];exact Below.keep hW (hcell j u hu)) hd.one_cell hp (by unfold maxLen; omega) (by omega) hb
 rw [Nat.zero_add, List.nil_append] at h2
 rcases h2.2 with ⟨_, h6⟩ | ⟨g, cap, cur, rfl, hg, hh, h6, h7, h8, h9⟩
 · omega
 · refine ⟨g, cap, w', h1, ⟨cur, ds, by omega, hh, h6, h7, h8, h9, ?_⟩, hg, h3⟩
   refine (hd.below hW (nl _)).agree fun k hk hlt => h3.block k hlt fun e => ?_
   have := (hown.lt k e.symm).1;omega
theorem wpList_append_faces {D : Nat → Prop} {ops : Array Oper} {rest : List Oper} {o : Oper} {a : Act} {Q : Exit → Act → World → Prop} (w0 w : World) (hgd : o.guard = none) (s x : Operand)
 (ho : o.op = .call { callee := .builtin .append, args := #[s, x], argTypes := #[22, 22] }) (base : Nat) (v : Value) (hs : a.eval s = v) (hown : w.ownsRow base 58 5 v 0 [])
 (y : Value) (L : List FaceP) (hx : a.eval x = y) (hy : FacesM D w0 y L) (h0 : L ≠ []) (hb0 : w0.heap.size ≤ base) (hW : Below w0.heap.size w0 w) (hm : L.length ≤ 100000) (hb : base ≤ w.heap.size)
 (h : ∀ g cap w', OwnF w0.heap.size w' g cap L → base ≤ g → w.grownBy w' v.ownBlock → wpList Tryz.prog ops Q rest (a.put o.dst (.slice (some ⟨g, 0, none⟩) L.length cap)) w') :
 wpList Tryz.prog ops Q (o :: rest) a w := by
 refine wpList_plain hgd fun K hK => ?_
 obtain ⟨g, cap, w', hr, h2, h3, h4⟩ := run_append_faces w0 w base o.type v hown y L hy h0 hb0 hW hm hb
 unfold Oper.wp execOp
 simp only [ho, resolve, invoke, builtin, Sem.run_bind, Sem.run_pure, Result.andThen_ok, List.map_toArray, List.map_cons, List.map_nil, hs, hx, hr]
 exact hK _ _ (h g cap w' h2 h3 h4)
def set5 (w : World) (b o : Nat) (a0 a1 a2 a3 a4 : Value) : World := ((((w.setCell ⟨b, o, none⟩ a0).setCell ⟨b, o + 1, none⟩ a1).setCell ⟨b, o + 2, none⟩ a2).setCell ⟨b, o + 3, none⟩ a3).setCell ⟨b, o + 4, none⟩ a4
theorem Below.set5 {B : Nat} {a w : World} (h : Below B a w) {b : Nat} (hb : B ≤ b) (o : Nat) (a0 a1 a2 a3 a4 : Value) : Below B a (set5 w b o a0 a1 a2 a3 a4) :=
 ((((h.setCell (p := ⟨b, o, none⟩) hb _).setCell (p := ⟨b, o + 1, none⟩) hb _).setCell (p := ⟨b, o + 2, none⟩) hb _).setCell (p := ⟨b, o + 3, none⟩) hb _).setCell (p := ⟨b, o + 4, none⟩) hb _
theorem set5_heap {w : World} {b o : Nat} {cur : Array Value} {t : TypeId} (h : w.heap[b]? = some (.cells cur t (0, 0))) (a0 a1 a2 a3 a4 : Value) :
 (set5 w b o a0 a1 a2 a3 a4).heap[b]? = some (.cells (((((cur.setIfInBounds o a0).setIfInBounds (o + 1) a1).setIfInBounds (o + 2) a2).setIfInBounds (o + 3) a3).setIfInBounds (o + 4) a4) t (0, 0)) :=
 heap_setCell_same _ _ _ _ _ _ (heap_setCell_same _ _ _ _ _ _ (heap_setCell_same _ _ _ _ _ _ (heap_setCell_same _ _ _ _ _ _ (heap_setCell_same _ _ _ _ _ _ h))))
theorem OwnF.at {B : Nat} {w : World} {g cap : Nat} {l : List FaceP} (h : OwnF B w g cap l) {k : Nat} (hk : k < l.length) : (∃ u0 u1 u2 u3 u4, w.cell? ⟨g, k * 5, none⟩ = some u0 ∧ w.cell? ⟨g, k * 5 + 1, none⟩ = some u1 ∧ w.cell? ⟨g, k * 5 + 2, none⟩ = some u2 ∧ w.cell? ⟨g, k * 5 + 3, none⟩ = some u3 ∧ w.cell? ⟨g, k * 5 + 4, none⟩ = some u4) ∧ ∀ j, w.frozen? ⟨g, j, none⟩ = false := by
 obtain ⟨cur, ds, h1, h2, h3, h4, h5, h6, h7⟩ := h.row
 have hc : ∀ i, i < 5 → ∃ u, w.cell? ⟨g, k * 5 + i, none⟩ = some u := fun i hi => by
  rw [cells_at h2];exact ⟨_, Array.getElem?_eq_getElem (by rw [h5]; omega)⟩
 obtain ⟨u0, c0⟩ := hc 0 (by omega)
 obtain ⟨u1, c1⟩ := hc 1 (by omega)
 obtain ⟨u2, c2⟩ := hc 2 (by omega)
 obtain ⟨u3, c3⟩ := hc 3 (by omega)
 obtain ⟨u4, c4⟩ := hc 4 (by omega)
 exact ⟨⟨u0, u1, u2, u3, u4, c0, c1, c2, c3, c4⟩, fun j => free_at h2 j⟩
theorem OwnF.put {B : Nat} {w : World} {g cap : Nat} {l : List FaceP} (h : OwnF B w g cap l) {k : Nat} (hk : k < l.length) {f : FaceP} {nv ov : Value} (hf : f.name.length ≤ maxLen) (hn : OpsM (fun b => b < B) w nv f.needs) (ho : OpsM (fun b => b < B) w ov f.ops) :
 FacesM Any (set5 w g (k * 5) (str f.name) (.int .u8 f.kind) (.bool f.par) nv ov) (.slice (some ⟨g, 0, none⟩) l.length cap) (l.set k f) := by
 obtain ⟨cur, ds, h1, h2, h3, h4, h5, h6, h7⟩ := h.row
 have hk5 : k * 5 + 5 ≤ cur.size := by rw [h5]; omega
 have hset : ∀ {v : Value} {m : List OpP}, OpsM (fun b => b < B) w v m → OpsM Any (set5 w g (k * 5) (str f.name) (.int .u8 f.kind) (.bool f.par) nv ov) v m := fun hv => by
  have hne : ∀ b, b < B → b ≠ g := fun b hb => by omega
  exact (((((hv.set (a := ⟨g, k * 5, none⟩) hne _).set (a := ⟨g, k * 5 + 1, none⟩) hne _).set (a := ⟨g, k * 5 + 2, none⟩) hne _).set (a := ⟨g, k * 5 + 3, none⟩) hne _).set (a := ⟨g, k * 5 + 4, none⟩) hne _).mono fun _ _ => trivial
 have hh := set5_heap (o := k * 5) h2 (str f.name) (.int .u8 f.kind) (.bool f.par) nv ov
 have hlen : (l.set k f).length = l.length := List.length_set ..
 have hsz : (set5 w g (k * 5) (str f.name) (.int .u8 f.kind) (.bool f.par) nv ov).heap.size = w.heap.size := by unfold set5; simp only [size_set]
 refine ⟨_, cap, by rw [hlen], by omega, by omega, fun x hx => ?_, .inr ⟨g, 0, rfl, trivial, by rw [hsz]; exact heap_lt h2, fun j hj => ?_⟩⟩
 · rcases List.mem_or_eq_of_mem_set hx with hx | rfl
   · exact h7.le x hx
   · exact hf
 · rw [hlen] at hj
   rw [cells_at hh, cells_at hh, cells_at hh, cells_at hh, cells_at hh, Nat.zero_add]
   by_cases hjk : j = k
   · subst hjk
     rw [List.getElem_set_self];refine ⟨nv, ov, hset hn, hset ho, ?_, ?_, ?_, ?_, ?_⟩ <;> simp [Array.getElem?_setIfInBounds] <;> omega
   · rw [List.getElem_set_ne (fun e => hjk e.symm)]
     obtain ⟨a, s, k1, k2, k3⟩ := h7.get j hj;refine ⟨a, s, hset k1, hset k2, ?_⟩;have hcur : ∀ i, i < 5 → cur[j * 5 + i]? = ds[j * 5 + i]? := fun i hi => by
      rw [← h6, List.getElem?_take, if_pos (by omega), Array.getElem?_toList]
     have hs : ∀ i, i < 5 → (((((cur.setIfInBounds (k * 5) (str f.name)).setIfInBounds (k * 5 + 1) (.int .u8 f.kind)).setIfInBounds (k * 5 + 2) (.bool f.par)).setIfInBounds (k * 5 + 3) nv).setIfInBounds (k * 5 + 4) ov)[j * 5 + i]? = ds[j * 5 + i]? := fun i hi => by
      rw [Array.getElem?_setIfInBounds_ne (by omega), Array.getElem?_setIfInBounds_ne (by omega), Array.getElem?_setIfInBounds_ne (by omega), Array.getElem?_setIfInBounds_ne (by omega), Array.getElem?_setIfInBounds_ne (by omega)];exact hcur i hi
     have hs0 := hs 0 (by omega);simp only [Nat.add_zero] at hs0;rw [hs0, hs 1 (by omega), hs 2 (by omega), hs 3 (by omega), hs 4 (by omega)];exact k3
end Go.Proofs.YtakgjcfkdemipaaGreatDoor
