/-
  Contract: of the package face: OpsOf. Condition: the lengths; the variable strings.asciiSpace.
  Contract: of the package face: SigOf. Condition: the lengths; the variable strings.asciiSpace.
-/
import Derived.Test.YtakgjcfkdemipaaGreatDoorYn
import Derived.Test.YtakgjcfkdemipaaGreatDoorY33
import Derived.Test.YtakgjcfkdemipaaGreatDoorY35
namespace Go.Proofs.YtakgjcfkdemipaaGreatDoor
open Go.RowKit
theorem putL_app (a : List UInt8) : ∀ l k : List OpP, (putL a l).2 = 0 → putL a (l ++ k) = if (putL a k).2 = 0 then ((putL a l).1 ++ (putL a k).1, 0) else ([], (putL a k).2)
 | [], k, _ => by
  rw [List.nil_append];split
  · rename_i h; exact Prod.ext rfl h
  · rename_i h
    cases k with
    | nil => exact absurd rfl h
    | cons x k =>
     unfold putL at h ⊢;split at h
     · rename_i h1
       rw [if_pos h1];split at h
       · exact absurd rfl h
       · rename_i h2; rw [if_neg h2]
     · rename_i h1; rw [if_neg h1]
 | x :: l, k, h => by
  have h1 : (putK x.sig a).2 = 0 ∧ (putL a l).2 = 0 := by
   unfold putL at h;split at h
   · rename_i h1
     split at h
     · rename_i h2; exact ⟨h1, h2⟩
     · rename_i h2; exact absurd h h2
   · rename_i h1; exact absurd h h1
  have ih := putL_app a l k h1.2;rw [List.cons_append, putL, if_pos h1.1, ih];rw [show putL a (x :: l) = (⟨x.name, (putK x.sig a).1⟩ :: (putL a l).1, 0) by rw [putL, if_pos h1.1, if_pos h1.2]]
  by_cases hk : (putL a k).2 = 0
  · rw [if_pos hk, if_pos hk]; rfl
  · rw [if_neg hk, if_neg hk, if_neg hk]
theorem putL_one {a : List UInt8} {l : List OpP} {i : Nat} {x : OpP} (h : (putL a (l.take i)).2 = 0) (hx : l[i]? = some x) (hp : (putK x.sig a).2 = 0) : putL a (l.take (i + 1)) = ((putL a (l.take i)).1 ++ [⟨x.name, (putK x.sig a).1⟩], 0) := by
 rw [List.take_add_one, hx, Option.toList_some, putL_app a _ _ h]
 rw [show putL a [x] = ([⟨x.name, (putK x.sig a).1⟩], 0) by rw [putL, if_pos hp]; rfl]
 rfl
theorem putL_bad {a : List UInt8} {l : List OpP} {i : Nat} {x : OpP} (h : (putL a (l.take i)).2 = 0) (hx : l[i]? = some x) (hp : (putK x.sig a).2 ≠ 0) : putL a l = ([], (putK x.sig a).2) := by
 have e : l = l.take i ++ (x :: l.drop (i + 1)) := by
  rw [← fdrop_at hx, List.take_append_drop]
 rw [e, putL_app a _ _ h]
 rw [show putL a (x :: l.drop (i + 1)) = ([], (putK x.sig a).2) by rw [putL, if_neg hp]]
 rw [if_neg hp]
theorem putL_len (a : List UInt8) : ∀ l : List OpP, (putL a l).1.length ≤ l.length ∧ ((putL a l).2 = 0 → (putL a l).1.map (·.name) = l.map (·.name))
 | [] => ⟨nl _, fun _ => rfl⟩
 | x :: l => by
  have ih := putL_len a l;unfold putL;split
  · split
    · rename_i h2
      exact ⟨by simpa using ih.1, fun _ => by simp [ih.2 h2]⟩
    · rename_i h2
      exact ⟨Nat.zero_le _, fun h => absurd h h2⟩
  · rename_i h1
    exact ⟨Nat.zero_le _, fun h => absurd h h1⟩
theorem raw_small (c : ScopeP) (t : List UInt8) (hf : ∀ f ∈ c.faces, faceK f = true) (hn : neededK c.needs = true) (hp : (partsK t).1.length ≤ 100) : (rawK c t).1.length ≤ 1000 := by
 unfold rawK
 simp only
 split
 · simp
 · simp
 · simp
 · simp
 · simp only [List.length_append, List.length_flatMap, List.length_cons, List.length_nil, List.map_const', List.sum_replicate_nat]
   omega
 · simp only [List.length_flatMap, List.length_cons, List.length_nil, List.map_const', List.sum_replicate_nat]
   omega
 · rcases hq : findK c.faces (baseK t).1 with _ | f
   · simp
   · have := (faceK_parts (hf f (List.mem_of_find?_eq_some hq))).2.2.2.2.2.2.1
     simp only [Option.map_some, Option.getD_some];omega
 · exact Nat.le_trans (needed_len hn).1 (by decide)
 · simp
theorem asked_parts {l : List FaceP} {needs : List OpP} (h : askedK l needs = 0) : (∀ f ∈ l, faceK f = true) ∧ neededK needs = true := by
 unfold askedK at h
 split at h
 · rename_i h1; exact absurd h h1
 · rename_i h1
   split at h
   · rename_i h2
     exact ⟨(checkF_ok l 0 none (allK_ok (by simpa using h1)).1).2.1, h2⟩
   · cases h
theorem cells_newAt (w : World) (n : Nat) (hn : n = w.heap.size) (cs : List Value) (t : TypeId) : ∀ j u, cs[j]? = some u → (w.alloc (.cells cs.toArray t)).cell? ((⟨n, 0, none⟩ : Addr).add j) = some u := by
 subst hn
 exact cells_new w cs t
set_option maxRecDepth 8000 in
set_option maxHeartbeats 12800000 in
theorem opsOf_any {D : Nat → Prop} (l : List FaceP) (v : Value) (needs : List OpP) (wv : Value) (t : List UInt8) (w : World) (hT : Tab w) (hv : FacesM D w v l) (hw : OpsM D w wv needs) (hn : ∀ f ∈ l, f.needs.length ≤ 100000) (hnl : needs.length ≤ 100000) (htl : t.length ≤ maxLen) :
 Calls Tryz.prog 21 #[v, wv, str t] w fun e w' => ∃ u, e = .returned (.tuple #[u, .int .i64 (opsOfK l needs t).2]) ∧ OwnO w.heap.size w' u (opsOfK l needs t).1 ∧ Below w.heap.size w w' := by
 have hA := Below.refl w.heap.size w
 have HT := Lib.hid (fun W (hW : Below w.heap.size w W) => hT.below hW (nl _))
 have HC := typed_any l v needs wv t w hT hv hw hn hnl htl
 have hz := fun h => typed_zero (l := l) (needs := needs) (t := t) h
 obtain ⟨p, c, rfl, _⟩ := hv.shape
 obtain ⟨q, cq, rfl, _⟩ := hw.shape
 obtain ⟨i0, hi0, hz0, hz1, hz2⟩ := finfo_parts infoOp
 have hgl : opsOfK l needs t = if typedK l needs t ≠ 0 then ([], typedK l needs t) else opsIn ⟨l, needs, parK needs t⟩ t := rfl
 generalize opsOfK l needs t = RS at *
 generalize typedK l needs t = TK at *
 clear hT hv hw hn hnl
 by_cases h0 : TK = 0
 case neg =>
  obtain ⟨g1, g2⟩ := nat_ne0 h0;rw [if_pos h0] at hgl;subst hgl;clear h0 hz hi0 hz0 hz1 hz2;go_enter Tryz.func21, Tryz.ntmps21;go_wp2_with (go_at_call 62; refine HC.mono ?_; clear HC; rintro e w1 ⟨m1, q1, n1, c1, pb1, rfl, _, hb1⟩; have hB1 := hb1);go_ret2;exact ⟨_, rfl, OwnO.nil _ _, hB1.alloc hB1.size _⟩
 case pos =>
  subst h0;rw [if_neg (by simp)] at hgl;obtain ⟨ha0, hc0⟩ := hz rfl;have hso := asked_scope (par := parK needs t) ha0;obtain ⟨hfp, hnp⟩ := asked_parts ha0;have hR := fun v' W hW hS => raw_any (D := D) ⟨l, needs, parK needs t⟩ v' t W hS (tyOk hc0) (HT.out W hW) hso.1 hso.2.1 (checkK_kinds hc0)
  have hro := hso.2.2.2 t hc0;have hon := raw_once ⟨l, needs, parK needs t⟩ t hfp hnp;have hsm := raw_small ⟨l, needs, parK needs t⟩ t hfp hnp (tyOk hc0).2.2.2.1;unfold RawOk at hro;unfold opsIn at hgl;clear hz hfp hnp hso ha0 hc0;generalize rawK ⟨l, needs, parK needs t⟩ t = RK at *;obtain ⟨RL, RA⟩ := RK;dsimp only at hR hro hon hsm hgl;obtain ⟨hal, hos⟩ := hro;have HX := Lib.hid hgl;have HON := Lib.hid hon;clear hgl hon;go_enter Tryz.func21, Tryz.ntmps21;go_wp2_with (first
   | (go_at_call 63; refine (hR _ _ hB2 hS2).mono ?_; clear hR; rintro e w2 ⟨u2, rfl, hO2, hb2⟩; obtain ⟨pr, cr, rfl, _⟩ := hO2.shape; have hB3 := hB2.trans (below_less hb2 hB2.size))
   | (go_at_call 62; refine HC.mono ?_; clear HC; rintro e w1 ⟨m1, q1, n1, c1, pb1, rfl, hS, hb1⟩; have hS1 := hS (by first | rfl | trivial); clear hS; have hE2 := (Below.refl _ w1).alloc (nl _) (.cells #[.map m1, .slice q1 n1 c1, .bool pb1] 86); have hS2 := hS1.below hE2 (nl _); have hB2 := hb1.alloc hb1.size (.cells #[.map m1, .slice q1 n1 c1, .bool pb1] 86); have hg2 := box3 (heap_alloc_new w1 (.cells #[.map m1, .slice q1 n1 c1, .bool pb1] 86))))
  have hOf := hO2.fresh;clear hO2 hg2 hS1 hS2 hE2 hB2 hb2 hb1;go_loopw [12, 35] (fun a y wx => ∃ i : Nat, i ≤ RL.length ∧ y = .int .i64 i ∧ (putL RA (RL.take i)).2 = 0 ∧ OwnO w2.heap.size wx a (putL RA (RL.take i)).1 ∧ Below w2.heap.size w2 wx ∧ OpsM (fun b => True ∧ b < w2.heap.size) wx (.slice pr RL.length cr) RL) (fun _ y _ => RL.length - (intOf y).toNat)
  case atStart => exact ⟨0, Nat.zero_le _, by go_num, rfl, OwnO.nil _ _, Below.refl _ _, hOf⟩
  case round =>
   clear hOf;obtain ⟨i, hi, rfl, hpz, hown, hB, hN⟩ := hrel;obtain ⟨pv, cv, rfl⟩ := hown.shape
   by_cases hlt : i < RL.length
   case neg =>
    have hie : i = RL.length := by omega
    subst hie;rw [List.take_length] at hown hpz;have HS := fun (ho : OnceO (putL RA RL).1) => sortF_any _ _ _ _ hown ho (by have := (putL_len RA RL).1; omega)
    have hob : ∀ b, (Value.slice pv (putL RA RL).1.length cv).ownBlock = some b → w2.heap.size ≤ b := fun b e => (hown.lt e).1
    have hX2 : RS = (sortO (putL RA RL).1, 0) := by rw [HX.out, if_neg (by rw [hpz]; simp)]
    have hlen : (sortO (putL RA RL).1).length = (putL RA RL).1.length := (sortO_perm _).length_eq;have HS := HS (by have := HON.out; unfold OnceO at this ⊢; rw [(putL_len RA RL).2 hpz]; exact this);have HX2 := Lib.hid hX2;clear hX2 HX HON hpz hlen hos;go_wp2_with (go_at_call 65; refine HS.mono ?_; clear HS; rintro e w5 ⟨rfl, hown5, hg5⟩);go_ret2;rw [HX2.out];exact ⟨_, rfl, hown5.mono hB3.size, hB3.trans (below_less (Below.grown hB hg5 hB.size hob) hB3.size)⟩
   case pos =>
    obtain ⟨x, hx⟩ : ∃ x, RL[i]? = some x := ⟨_, List.getElem?_eq_getElem hlt⟩
    obtain ⟨b1, o1, av, sv, hbe, hDb, ⟨hxn, hxr⟩, hSa, hSs, pc0, pc1, pc2, pc3, pc4⟩ := hN.at hx;subst hbe;obtain ⟨pa, ca, rfl, _⟩ := hSa.shape;obtain ⟨ps, cs, rfl, _⟩ := hSs.shape;have hxm := hos x (List.mem_of_getElem? hx);have HG := Lib.hid (fun hp => putL_one (a := RA) hpz hx hp);have HBd := Lib.hid (fun hp => putL_bad (a := RA) hpz hx hp);have hpl := (putL_len RA (RL.take i)).1;rw [List.length_take] at hpl;generalize (putL RA (RL.take i)).1 = L at *;obtain ⟨cc, hcs, hC⟩ := hown;have hBo := hB.alloc hB.size (.cells #[str x.name, .bool x.sig.iter, .slice pa x.sig.args.length ca, str x.sig.res, .slice ps x.sig.sigs.length cs] 50);have hE1 := (Below.refl _ wr).alloc (nl _) (.cells #[str x.name, .bool x.sig.iter, .slice pa x.sig.args.length ca, str x.sig.res, .slice ps x.sig.sigs.length cs] 50);have hh1 := heap_alloc_new wr (.cells #[str x.name, .bool x.sig.iter, .slice pa x.sig.args.length ca, str x.sig.res, .slice ps x.sig.sigs.length cs] 50);have bo := box5 hh1;have HP := put_any (.agg #[.bool x.sig.iter, .slice pa x.sig.args.length ca, str x.sig.res, .slice ps x.sig.sigs.length cs]) x.sig RA _ (HT.out _ (hB3.trans (below_less hBo hB3.size))) ⟨_, _, rfl, hxr, hSa.below hE1 (nl _), hSs.below hE1 (nl _)⟩ hxm.1 hxm.2 hal;have hNf := hN.below hE1 (nl _);have hcs1 := hcs.alloc (.cells #[str x.name, .bool x.sig.iter, .slice pa x.sig.args.length ca, str x.sig.res, .slice ps x.sig.sigs.length cs] 50);have hC1 := hC.below hE1 (nl _);clear hN hpz hx hC hcs hB hxm hos;rcases hpk : putK x.sig RA with ⟨PS, PE⟩;rw [hpk] at HP HG HBd;dsimp only at HP HG HBd;clear hpk
    by_cases he0 : PE = 0
    case neg =>
     have hX2 := HBd.out he0;have HX2 := Lib.hid (show RS = ([], PE) by rw [HX.out, hX2, if_pos he0]);obtain ⟨g1, g2⟩ := nat_ne0 he0;clear hX2 HX HBd HG he0;go_wp2_with (go_at_call 64; refine HP.mono ?_; clear HP; rintro e w3 ⟨u3, rfl, ⟨a3, q3, rfl, l3, r3, s3⟩, hb3⟩; obtain ⟨p3, c3, rfl, _⟩ := r3.shape; obtain ⟨p4, c4, rfl, _⟩ := s3.shape; have hB4 := hBo.trans (below_less hb3 hBo.size));go_ret2;rw [HX2.out];exact ⟨_, rfl, OwnO.nil _ _, hB3.trans (below_less (hB4.alloc hB4.size _) hB3.size)⟩
    case pos =>
     subst he0;have HG2 := HG.out rfl;clear HG HBd;have hLl : L.length + 1 ≤ 2000 := by omega
     go_wp2_with (first
      | (at_builtin; refine wpList_append_own2 _ rfl _ _ 31 rfl w2.heap.size 50 i0 _ 5 88 underOps hi0 hz0 hz1 hz2 rfl (by decide) _ _ cc rfl (hcs4.alloc _) ⟨w3.heap.size + 1, 0, none⟩ 1 1 [str x.name, .bool PS.iter, .slice p3 PS.args.length c3, str PS.res, .slice p4 PS.sigs.length c4] rfl rfl (cells_newAt _ _ (by simp) _ _) (by intro u hu; simp only [List.mem_cons, List.not_mem_nil, or_false] at hu; rcases hu with rfl | rfl | rfl | rfl | rfl <;> rfl) (by decide) (by unfold maxLen; omega) (by omega) (Nat.le_trans hB5.size (by simp)) ?_; intro v' w5 hown5 hgr hob)
      | (go_at_call 64; refine HP.mono ?_; clear HP; rintro e w3 ⟨u3, rfl, ⟨a3, q3, rfl, l3, r3, s3⟩, hb3⟩; obtain ⟨p3, c3, rfl, _⟩ := r3.shape; obtain ⟨p4, c4, rfl, _⟩ := s3.shape; have hB4 := hBo.trans (below_less hb3 hBo.size); have bo3 := box5 (kept_call hh1 hb3); have hE5 := (Below.refl _ w3).alloc (nl _) (.cells #[.bool PS.iter, .slice p3 PS.args.length c3, str PS.res, .slice p4 PS.sigs.length c4] 36); have bo4 := box5 (heap_up (.cells #[.bool PS.iter, .slice p3 PS.args.length c3, str PS.res, .slice p4 PS.sigs.length c4] 36) (kept_call hh1 hb3)); have bs4 := box4 (heap_alloc_new w3 (.cells #[.bool PS.iter, .slice p3 PS.args.length c3, str PS.res, .slice p4 PS.sigs.length c4] 36)); have hcs4 := (ownsRow_below hcs1 hb3 (nl _)).alloc (.cells #[.bool PS.iter, .slice p3 PS.args.length c3, str PS.res, .slice p4 PS.sigs.length c4] 36); have hB5 := hB4.alloc hB4.size (.cells #[.bool PS.iter, .slice p3 PS.args.length c3, str PS.res, .slice p4 PS.sigs.length c4] 36)))
     have hvl : ∀ b, (wr.alloc (.cells #[str x.name, .bool x.sig.iter, .slice pa x.sig.args.length ca, str x.sig.res, .slice ps x.sig.sigs.length cs] 50)).heap.size ≤ b → (Value.slice pv L.length cv).ownBlock ≠ some b := fun b hb e => by have := ownsRow_lt hcs1 e; omega
     have hC4 := (hC1.below hb3 (nl _)).below hE5 (nl _);have hne : ∀ b, True ∧ b < w2.heap.size → (Value.slice pv L.length cv).ownBlock ≠ some b := fun b hb e => by have := (hcs1.lt _ e).1; omega
     have hN4 := (hNf.below hb3 (nl _)).below hE5 (nl _);generalize w3.alloc (.cells #[.bool PS.iter, .slice p3 PS.args.length c3, str PS.res, .slice p4 PS.sigs.length c4] 36) = W4 at *;have hq1 := (r3.mono hvl).below hE5 (nl _);have hq2 := (s3.mono hvl).below hE5 (nl _);obtain ⟨k1, k2, k3, k4⟩ := own_step (x := ⟨x.name, PS⟩) _ hB5 hcs4 hC4 ⟨_, _, [], rfl, ⟨hxn, l3⟩, hq1, hq2, rfl⟩ hown5 hgr hob;have hN5 := hN4.agree (w' := w5) (fun b hb hlt => k3 b hlt (hne b hb));refine ⟨⟨i + 1, hlt, by go_num, by rw [HG2], by rw [HG2]; exact k1, k2, hN5⟩, by simp only [intOf]; omega⟩
end Go.Proofs.YtakgjcfkdemipaaGreatDoor
namespace Go.Proofs.YtakgjcfkdemipaaGreatDoor
open Go.RowKit
theorem ScopeM.some {D : Nat → Prop} {w : World} {m : Option Nat} {q : Option Addr} {n c : Nat} {pb : Bool} {s : ScopeP} (h : ScopeM D w (.agg #[.map m, .slice q n c, .bool pb]) s) : ∃ k, m = some k ∧ ShelfM D w k s.faces := by
 obtain ⟨k, nv, e, hs, _⟩ := h
 simp at e
 exact ⟨k, e.1, hs⟩
theorem parK_cases (needs : List OpP) (t : List UInt8) : (0 < needs.length ∧ true = parK needs t) ∨ (needs = [] ∧ openK t = parK needs t) := by
 unfold parK
 rcases needs with _ | ⟨x, l⟩
 · right; simp
 · left; simp
theorem fit_same (c : ScopeP) (want : List OpP) (t : List UInt8) : fitN c 7 want t = fitsK c want t := by
 unfold fitN fitsK goodK
 rcases want with _ | ⟨x, l⟩
 · cases h : lacksK c [] t <;> simp
 · cases h : lacksK c (x :: l) t <;> by_cases hg : goodN c 7 t = 0 <;> simp [hg]
set_option maxRecDepth 8000 in
set_option maxHeartbeats 25600000 in
theorem sigOf_any {D : Nat → Prop} (l : List FaceP) (v : Value) (needs : List OpP) (wv : Value) (n t : List UInt8) (w : World) (hT : Tab w) (hv : FacesM D w v l) (hw : OpsM D w wv needs) (hn : ∀ f ∈ l, f.needs.length ≤ 100000) (hnl : needs.length ≤ 100000) (htl : t.length ≤ maxLen) (hnm : n.length ≤ maxLen) :
 Calls Tryz.prog 27 #[v, wv, str n, str t] w fun e w' => ∃ u, e = .returned (.tuple #[u, .int .i64 (sigOfK l needs n t).2]) ∧ SigV (fun b => w.heap.size ≤ b) w' u (sigOfK l needs n t).1 ∧ Below w.heap.size w w' := by
 have hBA := (Below.refl _ w).alloc (nl _) (.cells #[.bool false, .slice none 0 0, .string ⟨#[]⟩, .slice none 0 0] 36)
 have hgA := heap_alloc_new w (.cells #[.bool false, .slice none 0 0, .string ⟨#[]⟩, .slice none 0 0] 36)
 have HT := Lib.hid (fun W (hW : Below w.heap.size w W) => hT.below hW (nl _))
 have HI := isOpen_any t _ htl (HT.out _ hBA)
 have HC := fun par W (hW : Below w.heap.size w W) => opened_any l v needs wv par W (HT.out W hW) (hv.below hW (nl _)) (hw.below hW (nl _)) hn hnl
 have hsc := fun par h => asked_scope (l := l) (needs := needs) (par := par) h
 have hap := fun h => asked_parts (l := l) (needs := needs) h
 have HG := fun par (hso : ScopeOk ⟨l, needs, par⟩) v' W (hW : Below w.heap.size w W) (hS : ScopeM D W v' ⟨l, needs, par⟩) => good_any ⟨l, needs, par⟩ v' t W hS hso htl (HT.out W hW)
 have HFT := fun par (hso : ScopeOk ⟨l, needs, par⟩) (hc0 : (checkK t).1 = 0) want (hwl : ∀ o ∈ want, o.sig.args.length ≤ 100000 ∧ o.sig.sigs.length ≤ 100000) v' xv W (hx : OpsM D W xv want) (hW : Below w.heap.size w W) (hS : ScopeM D W v' ⟨l, needs, par⟩) => fits_any ⟨l, needs, par⟩ 7 (good_all _ hso 7) hso v' want xv t W hS hx hwl hc0 (by have := levelK_le t; omega) (HT.out W hW)
 have HF := fun (ha : Apart l) m W (_ : Below w.heap.size w W) (hs : ShelfM D W m l) => find_any l m n W hs ha hnm
 have HP := fun s (h1 : s.args.length ≤ 100000) (h2 : s.sigs.length ≤ 100000) x W (hW : Below w.heap.size w W) (hx : SigV D W x s) => put_any x s t W (HT.out W hW) hx h1 h2 htl
 obtain ⟨p, c, rfl, _⟩ := hv.shape
 obtain ⟨q, cq, rfl, _⟩ := hw.shape
 have hP := parK_cases needs t
 have hgl : sigOfK l needs n t = if askedK l needs ≠ 0 then (.zero, askedK l needs) else match findK l n with | none => (.zero, 5) | some f => sigIn ⟨l, needs, parK needs t⟩ f t := rfl
 have hfm : ∀ f, findK l n = some f → f ∈ l := fun f h => List.mem_of_find?_eq_some h
 have hgz := fun par h => good_zero (c := ⟨l, needs, par⟩) (t := t) h
 have hfs := fun par want => fit_same ⟨l, needs, par⟩ want t
 generalize sigOfK l needs n t = RS at *
 generalize askedK l needs = AS at *
 generalize findK l n = FK at *
 unfold sigIn at hgl
 generalize hPP : parK needs t = P at *
 clear hT hv hw hn hnl hPP
 by_cases h0 : AS = 0
 case neg =>
  obtain ⟨g1, g2⟩ := nat_ne0 h0;rw [if_pos h0] at hgl;have HX := Lib.hid hgl;clear h0 hsc hap hgl HG HF HP HFT hfm hgz hfs;have hB0 := hBA;have hg0 := hgA;rcases hP with ⟨hn0, rfl⟩ | ⟨rfl, rfl⟩
  all_goals
   try simp only [List.length_nil] at *
   go_enter Tryz.func27, Tryz.ntmps27;go_wp2_with (first
    | (go_at_call 58; refine (HC _ _ hB0).mono ?_; rintro e w1 ⟨m0, q1, n1, c1, pb1, rfl, hS, hb1⟩; have hB1 := hB0.trans (below_less hb1 hB0.size); have hg1 := kept_call hg0 hb1; have hB2 := hB1.alloc hB1.size (.cells #[.map m0, .slice q1 n1 c1, .bool pb1] 86); have hg2 := heap_up (.cells #[.map m0, .slice q1 n1 c1, .bool pb1] 86) hg1; have b4 := box4 hg2)
    | (go_at_call 74; refine HI.mono ?_; rintro e w0 ⟨rfl, hb0⟩; have hB0 := hBA.trans (below_less hb0 (by simp)); have hg0 := kept_call hgA hb0))
   refine bodyPost_ret (v := .tuple #[.agg #[.bool false, .slice none 0 0, str [], .slice none 0 0], .int .i64 AS]) (by simp [results, Tryz.results27, go_sem, b4.1]) rfl ?_;rw [HX.out];exact ⟨_, rfl, SigV.zero _ _, Below.set4 hB2 (b := w.heap.size) (nl _) _ _ _ _⟩
 case pos =>
  subst h0;rw [if_neg (by simp)] at hgl;have hso := hsc P rfl;obtain ⟨hfp, hnp⟩ := hap rfl;have HF := HF hso.1;have HG := HG P hso;have HFT := HFT P hso;clear hsc hap;rcases FK with _ | f
  · have HX := Lib.hid hgl
    clear hgl HG HP HFT hfm hso hfp hnp hgz hfs;have hB0 := hBA;have hg0 := hgA;rcases hP with ⟨hn0, rfl⟩ | ⟨rfl, rfl⟩
    all_goals
     try simp only [List.length_nil] at *
     go_enter Tryz.func27, Tryz.ntmps27;go_wp2_with (first
      | (go_at_call 75; refine (HF _ _ hB2 hsh2).mono ?_; rintro e w3 ⟨fv, rfl, hnone, hsome, hb3⟩; have hB3 := hB2.trans (below_less hb3 hB2.size); obtain rfl := hnone (by first | rfl | trivial); have hB4 := hB3.alloc hB3.size (.cells #[.string ⟨#[]⟩, .int .u8 0, .bool false, .slice none 0 0, .slice none 0 0] 58); have hg4 := heap_up (.cells #[.string ⟨#[]⟩, .int .u8 0, .bool false, .slice none 0 0, .slice none 0 0] 58) (kept_call hg2 hb3); have b4 := box4 hg4)
      | (go_at_call 58; refine (HC _ _ hB0).mono ?_; rintro e w1 ⟨m0, q1, n1, c1, pb1, rfl, hS, hb1⟩; have hB1 := hB0.trans (below_less hb1 hB0.size); have hg1 := kept_call hg0 hb1; have hS1 := hS (by first | rfl | trivial); clear hS; obtain ⟨m1, rfl, hsh1⟩ := hS1.some; have hE2 := (Below.refl _ w1).alloc (nl _) (.cells #[.map (some m1), .slice q1 n1 c1, .bool pb1] 86); have hS2 := hS1.below hE2 (nl _); have hsh2 := hsh1.below hE2 (nl _); have hB2 := hB1.alloc hB1.size (.cells #[.map (some m1), .slice q1 n1 c1, .bool pb1] 86); have hg2 := heap_up (.cells #[.map (some m1), .slice q1 n1 c1, .bool pb1] 86) hg1; have hs2 := heap_alloc_new w1 (.cells #[.map (some m1), .slice q1 n1 c1, .bool pb1] 86); have bs2 := (box3 hs2))
      | (go_at_call 74; refine HI.mono ?_; rintro e w0 ⟨rfl, hb0⟩; have hB0 := hBA.trans (below_less hb0 (by simp)); have hg0 := kept_call hgA hb0))
     refine bodyPost_ret (v := .tuple #[.agg #[.bool false, .slice none 0 0, str [], .slice none 0 0], .int .i64 5]) (by simp [results, Tryz.results27, go_sem, b4.1]) rfl ?_;rw [HX.out];exact ⟨_, rfl, SigV.zero _ _, Below.set4 hB4 (b := w.heap.size) (nl _) _ _ _ _⟩
  · have hfk := faceK_parts (hfp f (hfm f rfl))
    dsimp only at hgl;obtain ⟨o, os, hop⟩ : ∃ o os, f.ops = o :: os := by
     rcases hq : f.ops with _ | ⟨o, os⟩
     · have := hfk.2.2.2.2.2.1; rw [hq] at this; simp at this
     · exact ⟨o, os, rfl⟩
    have hol := saidK_parts (hfk.2.2.2.2.2.2.2.1 o (by rw [hop]; simp)).2;have hnd := needed_len hfk.2.2.2.1;have HP := HP o.sig (by have := hol.1; omega) (by have := hol.2.1; omega);have hkl := hfk.2.2.1;have HOP := Lib.hid hop;rw [hop] at hgl;clear hfm hfp hnp hfk hol hso
    by_cases hk : f.kind = 3
    · rw [if_pos (.inl hk)] at hgl
      have HX := Lib.hid hgl;have gk : ((f.kind : Int) == 3) = true := by rw [hk]; rfl
      clear hgl HG HP HFT hgz hfs hop hk hnd;have hB0 := hBA;have hg0 := hgA;rcases hP with ⟨hn0, rfl⟩ | ⟨rfl, rfl⟩
      all_goals
       try simp only [List.length_nil] at *
       go_enter Tryz.func27, Tryz.ntmps27;go_wp2_with (first
        | (go_at_call 75; refine (HF _ _ hB2 hsh2).mono ?_; rintro e w3 ⟨fv, rfl, hnone, hsome, hb3⟩; have hB3 := hB2.trans (below_less hb3 hB2.size); obtain ⟨nv, ov, rfl, hfl, hNn, hOo⟩ := hsome f (by first | rfl | trivial); obtain ⟨pn, cn, rfl, _⟩ := hNn.shape; obtain ⟨po, co, rfl, _⟩ := hOo.shape; have hE4 := (Below.refl _ w3).alloc (nl _) (.cells #[str f.name, .int .u8 f.kind, .bool f.par, .slice pn f.needs.length cn, .slice po f.ops.length co] 58); have hS4 := (hS2.below hb3 (nl _)).below hE4 (nl _); have hN4 := hNn.below hE4 (nl _); have hO4 := hOo.below hE4 (nl _); have hB4 := hB3.alloc hB3.size (.cells #[str f.name, .int .u8 f.kind, .bool f.par, .slice pn f.needs.length cn, .slice po f.ops.length co] 58); have hg4 := heap_up (.cells #[str f.name, .int .u8 f.kind, .bool f.par, .slice pn f.needs.length cn, .slice po f.ops.length co] 58) (kept_call hg2 hb3); have b4 := box4 hg4; have hs4 := heap_up (.cells #[str f.name, .int .u8 f.kind, .bool f.par, .slice pn f.needs.length cn, .slice po f.ops.length co] 58) (kept_call hs2 hb3); have bs4 := box3 hs4; have hf4 := heap_alloc_new w3 (.cells #[str f.name, .int .u8 f.kind, .bool f.par, .slice pn f.needs.length cn, .slice po f.ops.length co] 58); have bf4 := (box5 hf4))
        | (go_at_call 58; refine (HC _ _ hB0).mono ?_; rintro e w1 ⟨m0, q1, n1, c1, pb1, rfl, hS, hb1⟩; have hB1 := hB0.trans (below_less hb1 hB0.size); have hg1 := kept_call hg0 hb1; have hS1 := hS (by first | rfl | trivial); clear hS; obtain ⟨m1, rfl, hsh1⟩ := hS1.some; have hE2 := (Below.refl _ w1).alloc (nl _) (.cells #[.map (some m1), .slice q1 n1 c1, .bool pb1] 86); have hS2 := hS1.below hE2 (nl _); have hsh2 := hsh1.below hE2 (nl _); have hB2 := hB1.alloc hB1.size (.cells #[.map (some m1), .slice q1 n1 c1, .bool pb1] 86); have hg2 := heap_up (.cells #[.map (some m1), .slice q1 n1 c1, .bool pb1] 86) hg1; have hs2 := heap_alloc_new w1 (.cells #[.map (some m1), .slice q1 n1 c1, .bool pb1] 86); have bs2 := (box3 hs2))
        | (go_at_call 74; refine HI.mono ?_; rintro e w0 ⟨rfl, hb0⟩; have hB0 := hBA.trans (below_less hb0 (by simp)); have hg0 := kept_call hgA hb0))
       refine bodyPost_ret (v := .tuple #[.agg #[.bool false, .slice none 0 0, str [], .slice none 0 0], .int .i64 5]) (by simp [results, Tryz.results27, go_sem, b4.1]) rfl ?_;rw [HX.out];exact ⟨_, rfl, SigV.zero _ _, Below.set4 hB4 (b := w.heap.size) (nl _) _ _ _ _⟩
    · have gk : ((f.kind : Int) == 3) = false := by rw [beq_eq_false_iff_ne]; omega
      by_cases ht0 : t = []
      · subst ht0
        rcases hfpar : f.par with _ | _
        · rw [if_neg (by simp [hk, hfpar]), if_neg (by simp [hfpar]), if_neg (by simp [hfpar])] at hgl
          have hgl : RS = putK o.sig [] := hgl;generalize putK o.sig [] = PK at *;have HX := Lib.hid hgl;have hol2 : 0 < f.ops.length := by rw [hop]; simp
          clear hop;clear hgl HG HFT hgz hfs hk hnd;have hB0 := hBA;have hg0 := hgA;rcases hP with ⟨hn0, rfl⟩ | ⟨rfl, rfl⟩
          all_goals
           try simp only [List.length_nil] at *
           go_enter Tryz.func27, Tryz.ntmps27;go_wp2_with (first
            | (go_at_call 64; refine (HP _ _ hB4 ⟨_, _, rfl, hxr, hSa, hSs⟩).mono ?_; rintro e w7 ⟨u7, rfl, ⟨a7, q7, rfl, l7, r7, s7⟩, hb7⟩; obtain ⟨pzz, cz, rfl, _⟩ := r7.shape; obtain ⟨py, cy, rfl, _⟩ := s7.shape; have hB7 := hB4.trans (below_less hb7 hB4.size); have hg7 := kept_call hg4 hb7; have b7 := box4 hg7)
            | (go_at_call 75; refine (HF _ _ hB2 hsh2).mono ?_; rintro e w3 ⟨fv, rfl, hnone, hsome, hb3⟩; have hB3 := hB2.trans (below_less hb3 hB2.size); obtain ⟨nv, ov, rfl, hfl, hNn, hOo⟩ := hsome f (by first | rfl | trivial); obtain ⟨pn, cn, rfl, _⟩ := hNn.shape; obtain ⟨po, co, rfl, _⟩ := hOo.shape; have hE4 := (Below.refl _ w3).alloc (nl _) (.cells #[str f.name, .int .u8 f.kind, .bool false, .slice pn f.needs.length cn, .slice po f.ops.length co] 58); have hS4 := (hS2.below hb3 (nl _)).below hE4 (nl _); have hN4 := hNn.below hE4 (nl _); have hO4 := hOo.below hE4 (nl _); have hB4 := hB3.alloc hB3.size (.cells #[str f.name, .int .u8 f.kind, .bool false, .slice pn f.needs.length cn, .slice po f.ops.length co] 58); have hg4 := heap_up (.cells #[str f.name, .int .u8 f.kind, .bool false, .slice pn f.needs.length cn, .slice po f.ops.length co] 58) (kept_call hg2 hb3); have b4 := box4 hg4; have hs4 := heap_up (.cells #[str f.name, .int .u8 f.kind, .bool false, .slice pn f.needs.length cn, .slice po f.ops.length co] 58) (kept_call hs2 hb3); have bs4 := box3 hs4; have hf4 := heap_alloc_new w3 (.cells #[str f.name, .int .u8 f.kind, .bool false, .slice pn f.needs.length cn, .slice po f.ops.length co] 58); have bf4 := (box5 hf4); obtain ⟨b1, o1, av, sv, rfl, _, ⟨_, hxr⟩, hSa, hSs, pc0, pc1, pc2, pc3, pc4⟩ := hO4.at (k := 0) (x := o) (by rw [HOP.out]; rfl); obtain ⟨pa, ca, rfl, _⟩ := hSa.shape; obtain ⟨ps, cs, rfl, _⟩ := hSs.shape; rw [Nat.zero_mul, Nat.add_zero] at pc0 pc1 pc2 pc3 pc4)
            | (go_at_call 58; refine (HC _ _ hB0).mono ?_; rintro e w1 ⟨m0, q1, n1, c1, pb1, rfl, hS, hb1⟩; have hB1 := hB0.trans (below_less hb1 hB0.size); have hg1 := kept_call hg0 hb1; have hS1 := hS (by first | rfl | trivial); clear hS; obtain ⟨m1, rfl, hsh1⟩ := hS1.some; have hE2 := (Below.refl _ w1).alloc (nl _) (.cells #[.map (some m1), .slice q1 n1 c1, .bool pb1] 86); have hS2 := hS1.below hE2 (nl _); have hsh2 := hsh1.below hE2 (nl _); have hB2 := hB1.alloc hB1.size (.cells #[.map (some m1), .slice q1 n1 c1, .bool pb1] 86); have hg2 := heap_up (.cells #[.map (some m1), .slice q1 n1 c1, .bool pb1] 86) hg1; have hs2 := heap_alloc_new w1 (.cells #[.map (some m1), .slice q1 n1 c1, .bool pb1] 86); have bs2 := (box3 hs2))
            | (go_at_call 74; refine HI.mono ?_; rintro e w0 ⟨rfl, hb0⟩; have hB0 := hBA.trans (below_less hb0 (by simp)); have hg0 := kept_call hgA hb0))
           refine bodyPost_ret (v := .tuple #[.agg #[.bool PK.1.iter, .slice pzz PK.1.args.length cz, str PK.1.res, .slice py PK.1.sigs.length cy], .int .i64 PK.2]) (by simp [results, Tryz.results27, go_sem, b7.1]) rfl ?_;rw [HX.out];have hlt7 := heap_lt hg7;refine ⟨_, rfl, ⟨_, _, rfl, l7, ?_, ?_⟩, Below.set4 hB7 (b := w.heap.size) (nl _) _ _ _ _⟩
           · exact (SS.set4 r7 (b := w.heap.size) (by intro b hb; have := heap_lt hg4; omega) _ _ _ _).mono (by intro b hb; have := heap_lt hg4; omega)
           · exact (SS.set4 s7 (b := w.heap.size) (by intro b hb; have := heap_lt hg4; omega) _ _ _ _).mono (by intro b hb; have := heap_lt hg4; omega)
        · rw [if_pos (.inr (by simp [hfpar]))] at hgl
          have HX := Lib.hid hgl;clear hgl HG HP HFT hgz hfs hop hk hnd;have hB0 := hBA;have hg0 := hgA;rcases hP with ⟨hn0, rfl⟩ | ⟨rfl, rfl⟩
          all_goals
           try simp only [List.length_nil] at *
           go_enter Tryz.func27, Tryz.ntmps27;go_wp2_with (first
            | (go_at_call 75; refine (HF _ _ hB2 hsh2).mono ?_; rintro e w3 ⟨fv, rfl, hnone, hsome, hb3⟩; have hB3 := hB2.trans (below_less hb3 hB2.size); obtain ⟨nv, ov, rfl, hfl, hNn, hOo⟩ := hsome f (by first | rfl | trivial); obtain ⟨pn, cn, rfl, _⟩ := hNn.shape; obtain ⟨po, co, rfl, _⟩ := hOo.shape; have hE4 := (Below.refl _ w3).alloc (nl _) (.cells #[str f.name, .int .u8 f.kind, .bool true, .slice pn f.needs.length cn, .slice po f.ops.length co] 58); have hS4 := (hS2.below hb3 (nl _)).below hE4 (nl _); have hN4 := hNn.below hE4 (nl _); have hO4 := hOo.below hE4 (nl _); have hB4 := hB3.alloc hB3.size (.cells #[str f.name, .int .u8 f.kind, .bool true, .slice pn f.needs.length cn, .slice po f.ops.length co] 58); have hg4 := heap_up (.cells #[str f.name, .int .u8 f.kind, .bool true, .slice pn f.needs.length cn, .slice po f.ops.length co] 58) (kept_call hg2 hb3); have b4 := box4 hg4; have hs4 := heap_up (.cells #[str f.name, .int .u8 f.kind, .bool true, .slice pn f.needs.length cn, .slice po f.ops.length co] 58) (kept_call hs2 hb3); have bs4 := box3 hs4; have hf4 := heap_alloc_new w3 (.cells #[str f.name, .int .u8 f.kind, .bool true, .slice pn f.needs.length cn, .slice po f.ops.length co] 58); have bf4 := (box5 hf4))
            | (go_at_call 58; refine (HC _ _ hB0).mono ?_; rintro e w1 ⟨m0, q1, n1, c1, pb1, rfl, hS, hb1⟩; have hB1 := hB0.trans (below_less hb1 hB0.size); have hg1 := kept_call hg0 hb1; have hS1 := hS (by first | rfl | trivial); clear hS; obtain ⟨m1, rfl, hsh1⟩ := hS1.some; have hE2 := (Below.refl _ w1).alloc (nl _) (.cells #[.map (some m1), .slice q1 n1 c1, .bool pb1] 86); have hS2 := hS1.below hE2 (nl _); have hsh2 := hsh1.below hE2 (nl _); have hB2 := hB1.alloc hB1.size (.cells #[.map (some m1), .slice q1 n1 c1, .bool pb1] 86); have hg2 := heap_up (.cells #[.map (some m1), .slice q1 n1 c1, .bool pb1] 86) hg1; have hs2 := heap_alloc_new w1 (.cells #[.map (some m1), .slice q1 n1 c1, .bool pb1] 86); have bs2 := (box3 hs2))
            | (go_at_call 74; refine HI.mono ?_; rintro e w0 ⟨rfl, hb0⟩; have hB0 := hBA.trans (below_less hb0 (by simp)); have hg0 := kept_call hgA hb0))
           refine bodyPost_ret (v := .tuple #[.agg #[.bool false, .slice none 0 0, str [], .slice none 0 0], .int .i64 5]) (by simp [results, Tryz.results27, go_sem, b4.1]) rfl ?_;rw [HX.out];exact ⟨_, rfl, SigV.zero _ _, Below.set4 hB4 (b := w.heap.size) (nl _) _ _ _ _⟩
      · have gt : t.isEmpty = false := by cases t with | nil => exact absurd rfl ht0 | cons => rfl
        rcases hfpar : f.par with _ | _
        · rw [if_pos (.inr (by simp [hfpar, ht0]))] at hgl
          have HX := Lib.hid hgl;clear hgl HG HP HFT hgz hfs hop hk hnd;have hB0 := hBA;have hg0 := hgA;rcases hP with ⟨hn0, rfl⟩ | ⟨rfl, rfl⟩
          all_goals
           try simp only [List.length_nil] at *
           go_enter Tryz.func27, Tryz.ntmps27;go_wp2_with (first
            | (go_at_call 75; refine (HF _ _ hB2 hsh2).mono ?_; rintro e w3 ⟨fv, rfl, hnone, hsome, hb3⟩; have hB3 := hB2.trans (below_less hb3 hB2.size); obtain ⟨nv, ov, rfl, hfl, hNn, hOo⟩ := hsome f (by first | rfl | trivial); obtain ⟨pn, cn, rfl, _⟩ := hNn.shape; obtain ⟨po, co, rfl, _⟩ := hOo.shape; have hE4 := (Below.refl _ w3).alloc (nl _) (.cells #[str f.name, .int .u8 f.kind, .bool false, .slice pn f.needs.length cn, .slice po f.ops.length co] 58); have hS4 := (hS2.below hb3 (nl _)).below hE4 (nl _); have hN4 := hNn.below hE4 (nl _); have hO4 := hOo.below hE4 (nl _); have hB4 := hB3.alloc hB3.size (.cells #[str f.name, .int .u8 f.kind, .bool false, .slice pn f.needs.length cn, .slice po f.ops.length co] 58); have hg4 := heap_up (.cells #[str f.name, .int .u8 f.kind, .bool false, .slice pn f.needs.length cn, .slice po f.ops.length co] 58) (kept_call hg2 hb3); have b4 := box4 hg4; have hs4 := heap_up (.cells #[str f.name, .int .u8 f.kind, .bool false, .slice pn f.needs.length cn, .slice po f.ops.length co] 58) (kept_call hs2 hb3); have bs4 := box3 hs4; have hf4 := heap_alloc_new w3 (.cells #[str f.name, .int .u8 f.kind, .bool false, .slice pn f.needs.length cn, .slice po f.ops.length co] 58); have bf4 := (box5 hf4))
            | (go_at_call 58; refine (HC _ _ hB0).mono ?_; rintro e w1 ⟨m0, q1, n1, c1, pb1, rfl, hS, hb1⟩; have hB1 := hB0.trans (below_less hb1 hB0.size); have hg1 := kept_call hg0 hb1; have hS1 := hS (by first | rfl | trivial); clear hS; obtain ⟨m1, rfl, hsh1⟩ := hS1.some; have hE2 := (Below.refl _ w1).alloc (nl _) (.cells #[.map (some m1), .slice q1 n1 c1, .bool pb1] 86); have hS2 := hS1.below hE2 (nl _); have hsh2 := hsh1.below hE2 (nl _); have hB2 := hB1.alloc hB1.size (.cells #[.map (some m1), .slice q1 n1 c1, .bool pb1] 86); have hg2 := heap_up (.cells #[.map (some m1), .slice q1 n1 c1, .bool pb1] 86) hg1; have hs2 := heap_alloc_new w1 (.cells #[.map (some m1), .slice q1 n1 c1, .bool pb1] 86); have bs2 := (box3 hs2))
            | (go_at_call 74; refine HI.mono ?_; rintro e w0 ⟨rfl, hb0⟩; have hB0 := hBA.trans (below_less hb0 (by simp)); have hg0 := kept_call hgA hb0))
           refine bodyPost_ret (v := .tuple #[.agg #[.bool false, .slice none 0 0, str [], .slice none 0 0], .int .i64 5]) (by simp [results, Tryz.results27, go_sem, b4.1]) rfl ?_;rw [HX.out];exact ⟨_, rfl, SigV.zero _ _, Below.set4 hB4 (b := w.heap.size) (nl _) _ _ _ _⟩
        · rw [if_neg (by simp [hk, hfpar, ht0])] at hgl
          have hgz := hgz P;generalize goodK ⟨l, needs, P⟩ t = GK at *
          by_cases hg0 : GK = 0
          case neg =>
           obtain ⟨g1, g2⟩ := nat_ne0 hg0;rw [if_pos ⟨hfpar, hg0⟩] at hgl;have HX := Lib.hid hgl;clear hgl HP HFT hgz hfs hop hk hnd hg0;have hB0 := hBA;have hg0 := hgA;rcases hP with ⟨hn0, rfl⟩ | ⟨rfl, rfl⟩
           all_goals
            try simp only [List.length_nil] at *
            go_enter Tryz.func27, Tryz.ntmps27;go_wp2_with (first
             | (go_at_call 59; refine (HG _ _ hB4 hS4).mono ?_; rintro e w5 ⟨rfl, hb5⟩; have hB5 := hB4.trans (below_less hb5 hB4.size); have hg5 := kept_call hg4 hb5; have b5 := box4 hg5; have hs5 := kept_call hs4 hb5; have bs5 := box3 hs5; have hf5 := kept_call hf4 hb5; have bf5 := (box5 hf5); have hS5 := hS4.below hb5 (nl _); have hN5 := hN4.below hb5 (nl _))
             | (go_at_call 75; refine (HF _ _ hB2 hsh2).mono ?_; rintro e w3 ⟨fv, rfl, hnone, hsome, hb3⟩; have hB3 := hB2.trans (below_less hb3 hB2.size); obtain ⟨nv, ov, rfl, hfl, hNn, hOo⟩ := hsome f (by first | rfl | trivial); obtain ⟨pn, cn, rfl, _⟩ := hNn.shape; obtain ⟨po, co, rfl, _⟩ := hOo.shape; have hE4 := (Below.refl _ w3).alloc (nl _) (.cells #[str f.name, .int .u8 f.kind, .bool true, .slice pn f.needs.length cn, .slice po f.ops.length co] 58); have hS4 := (hS2.below hb3 (nl _)).below hE4 (nl _); have hN4 := hNn.below hE4 (nl _); have hO4 := hOo.below hE4 (nl _); have hB4 := hB3.alloc hB3.size (.cells #[str f.name, .int .u8 f.kind, .bool true, .slice pn f.needs.length cn, .slice po f.ops.length co] 58); have hg4 := heap_up (.cells #[str f.name, .int .u8 f.kind, .bool true, .slice pn f.needs.length cn, .slice po f.ops.length co] 58) (kept_call hg2 hb3); have b4 := box4 hg4; have hs4 := heap_up (.cells #[str f.name, .int .u8 f.kind, .bool true, .slice pn f.needs.length cn, .slice po f.ops.length co] 58) (kept_call hs2 hb3); have bs4 := box3 hs4; have hf4 := heap_alloc_new w3 (.cells #[str f.name, .int .u8 f.kind, .bool true, .slice pn f.needs.length cn, .slice po f.ops.length co] 58); have bf4 := (box5 hf4))
             | (go_at_call 58; refine (HC _ _ hB0).mono ?_; rintro e w1 ⟨m0, q1, n1, c1, pb1, rfl, hS, hb1⟩; have hB1 := hB0.trans (below_less hb1 hB0.size); have hg1 := kept_call hg0 hb1; have hS1 := hS (by first | rfl | trivial); clear hS; obtain ⟨m1, rfl, hsh1⟩ := hS1.some; have hE2 := (Below.refl _ w1).alloc (nl _) (.cells #[.map (some m1), .slice q1 n1 c1, .bool pb1] 86); have hS2 := hS1.below hE2 (nl _); have hsh2 := hsh1.below hE2 (nl _); have hB2 := hB1.alloc hB1.size (.cells #[.map (some m1), .slice q1 n1 c1, .bool pb1] 86); have hg2 := heap_up (.cells #[.map (some m1), .slice q1 n1 c1, .bool pb1] 86) hg1; have hs2 := heap_alloc_new w1 (.cells #[.map (some m1), .slice q1 n1 c1, .bool pb1] 86); have bs2 := (box3 hs2))
             | (go_at_call 74; refine HI.mono ?_; rintro e w0 ⟨rfl, hb0⟩; have hB0 := hBA.trans (below_less hb0 (by simp)); have hg0 := kept_call hgA hb0))
            refine bodyPost_ret (v := .tuple #[.agg #[.bool false, .slice none 0 0, str [], .slice none 0 0], .int .i64 GK]) (by simp [results, Tryz.results27, go_sem, b5.1]) rfl ?_;rw [HX.out];exact ⟨_, rfl, SigV.zero _ _, Below.set4 hB5 (b := w.heap.size) (nl _) _ _ _ _⟩
          case pos =>
           subst hg0;rw [if_neg (by simp)] at hgl;have HFT := HFT (hgz rfl) f.needs (fun o ho => ⟨Nat.le_trans (hnd.2 o ho).1 (by decide), Nat.le_trans (hnd.2 o ho).2 (by decide)⟩);have hfs := hfs P f.needs;rw [hfs] at HFT;clear hgz hfs;rcases hfk : fitsK ⟨l, needs, P⟩ f.needs t with _ | _
           · rw [if_pos ⟨hfpar, hfk⟩] at hgl
             rw [hfk] at HFT;have HX := Lib.hid hgl;clear hgl HP hop hk hnd hfk;have hB0 := hBA;have hg0 := hgA;rcases hP with ⟨hn0, rfl⟩ | ⟨rfl, rfl⟩
             all_goals
              try simp only [List.length_nil] at *
              go_enter Tryz.func27, Tryz.ntmps27;go_wp2_with (first
               | (go_at_call 76; refine (HFT _ _ _ hN5 hB5 hS5).mono ?_; rintro e w6 ⟨rfl, hb6⟩; have hB6 := hB5.trans (below_less hb6 hB5.size); have hg6 := kept_call hg5 hb6; have b6 := box4 hg6; have bf6 := (box5 (kept_call hf5 hb6)))
               | (go_at_call 59; refine (HG _ _ hB4 hS4).mono ?_; rintro e w5 ⟨rfl, hb5⟩; have hB5 := hB4.trans (below_less hb5 hB4.size); have hg5 := kept_call hg4 hb5; have b5 := box4 hg5; have hs5 := kept_call hs4 hb5; have bs5 := box3 hs5; have hf5 := kept_call hf4 hb5; have bf5 := (box5 hf5); have hS5 := hS4.below hb5 (nl _); have hN5 := hN4.below hb5 (nl _))
               | (go_at_call 75; refine (HF _ _ hB2 hsh2).mono ?_; rintro e w3 ⟨fv, rfl, hnone, hsome, hb3⟩; have hB3 := hB2.trans (below_less hb3 hB2.size); obtain ⟨nv, ov, rfl, hfl, hNn, hOo⟩ := hsome f (by first | rfl | trivial); obtain ⟨pn, cn, rfl, _⟩ := hNn.shape; obtain ⟨po, co, rfl, _⟩ := hOo.shape; have hE4 := (Below.refl _ w3).alloc (nl _) (.cells #[str f.name, .int .u8 f.kind, .bool true, .slice pn f.needs.length cn, .slice po f.ops.length co] 58); have hS4 := (hS2.below hb3 (nl _)).below hE4 (nl _); have hN4 := hNn.below hE4 (nl _); have hO4 := hOo.below hE4 (nl _); have hB4 := hB3.alloc hB3.size (.cells #[str f.name, .int .u8 f.kind, .bool true, .slice pn f.needs.length cn, .slice po f.ops.length co] 58); have hg4 := heap_up (.cells #[str f.name, .int .u8 f.kind, .bool true, .slice pn f.needs.length cn, .slice po f.ops.length co] 58) (kept_call hg2 hb3); have b4 := box4 hg4; have hs4 := heap_up (.cells #[str f.name, .int .u8 f.kind, .bool true, .slice pn f.needs.length cn, .slice po f.ops.length co] 58) (kept_call hs2 hb3); have bs4 := box3 hs4; have hf4 := heap_alloc_new w3 (.cells #[str f.name, .int .u8 f.kind, .bool true, .slice pn f.needs.length cn, .slice po f.ops.length co] 58); have bf4 := (box5 hf4))
               | (go_at_call 58; refine (HC _ _ hB0).mono ?_; rintro e w1 ⟨m0, q1, n1, c1, pb1, rfl, hS, hb1⟩; have hB1 := hB0.trans (below_less hb1 hB0.size); have hg1 := kept_call hg0 hb1; have hS1 := hS (by first | rfl | trivial); clear hS; obtain ⟨m1, rfl, hsh1⟩ := hS1.some; have hE2 := (Below.refl _ w1).alloc (nl _) (.cells #[.map (some m1), .slice q1 n1 c1, .bool pb1] 86); have hS2 := hS1.below hE2 (nl _); have hsh2 := hsh1.below hE2 (nl _); have hB2 := hB1.alloc hB1.size (.cells #[.map (some m1), .slice q1 n1 c1, .bool pb1] 86); have hg2 := heap_up (.cells #[.map (some m1), .slice q1 n1 c1, .bool pb1] 86) hg1; have hs2 := heap_alloc_new w1 (.cells #[.map (some m1), .slice q1 n1 c1, .bool pb1] 86); have bs2 := (box3 hs2))
               | (go_at_call 74; refine HI.mono ?_; rintro e w0 ⟨rfl, hb0⟩; have hB0 := hBA.trans (below_less hb0 (by simp)); have hg0 := kept_call hgA hb0))
              refine bodyPost_ret (v := .tuple #[.agg #[.bool false, .slice none 0 0, str [], .slice none 0 0], .int .i64 41]) (by simp [results, Tryz.results27, go_sem, b6.1]) rfl ?_;rw [HX.out];exact ⟨_, rfl, SigV.zero _ _, Below.set4 hB6 (b := w.heap.size) (nl _) _ _ _ _⟩
           · rw [if_neg (by simp [hfk])] at hgl
             rw [hfk] at HFT;have hgl : RS = putK o.sig t := hgl;generalize putK o.sig t = PK at *;have HX := Lib.hid hgl;have hol2 : 0 < f.ops.length := by rw [hop]; simp
             clear hop;clear hgl hk hnd hfk;have hB0 := hBA;have hg0 := hgA;rcases hP with ⟨hn0, rfl⟩ | ⟨rfl, rfl⟩
             all_goals
              try simp only [List.length_nil] at *
              go_enter Tryz.func27, Tryz.ntmps27;go_wp2_with (first
               | (go_at_call 64; refine (HP _ _ hB6 ⟨_, _, rfl, hxr, (hSa.below hb5 (nl _)).below hb6 (nl _), (hSs.below hb5 (nl _)).below hb6 (nl _)⟩).mono ?_; rintro e w7 ⟨u7, rfl, ⟨a7, q7, rfl, l7, r7, s7⟩, hb7⟩; obtain ⟨pzz, cz, rfl, _⟩ := r7.shape; obtain ⟨py, cy, rfl, _⟩ := s7.shape; have hB7 := hB6.trans (below_less hb7 hB6.size); have hg7 := kept_call hg6 hb7; have b7 := box4 hg7)
               | (go_at_call 76; refine (HFT _ _ _ hN5 hB5 hS5).mono ?_; rintro e w6 ⟨rfl, hb6⟩; have hB6 := hB5.trans (below_less hb6 hB5.size); have hg6 := kept_call hg5 hb6; have b6 := box4 hg6; have bf6 := (box5 (kept_call hf5 hb6)); have HB56 := hb5.trans (below_less hb6 hb5.size); have ka6 := Below.keep HB56 pc0; have kb6 := Below.keep HB56 pc1; have kc6 := Below.keep HB56 pc2; have kd6 := Below.keep HB56 pc3; have ke6 := Below.keep HB56 pc4)
               | (go_at_call 59; refine (HG _ _ hB4 hS4).mono ?_; rintro e w5 ⟨rfl, hb5⟩; have hB5 := hB4.trans (below_less hb5 hB4.size); have hg5 := kept_call hg4 hb5; have b5 := box4 hg5; have hs5 := kept_call hs4 hb5; have bs5 := box3 hs5; have hf5 := kept_call hf4 hb5; have bf5 := (box5 hf5); have hS5 := hS4.below hb5 (nl _); have hN5 := hN4.below hb5 (nl _))
               | (go_at_call 75; refine (HF _ _ hB2 hsh2).mono ?_; rintro e w3 ⟨fv, rfl, hnone, hsome, hb3⟩; have hB3 := hB2.trans (below_less hb3 hB2.size); obtain ⟨nv, ov, rfl, hfl, hNn, hOo⟩ := hsome f (by first | rfl | trivial); obtain ⟨pn, cn, rfl, _⟩ := hNn.shape; obtain ⟨po, co, rfl, _⟩ := hOo.shape; have hE4 := (Below.refl _ w3).alloc (nl _) (.cells #[str f.name, .int .u8 f.kind, .bool true, .slice pn f.needs.length cn, .slice po f.ops.length co] 58); have hS4 := (hS2.below hb3 (nl _)).below hE4 (nl _); have hN4 := hNn.below hE4 (nl _); have hO4 := hOo.below hE4 (nl _); have hB4 := hB3.alloc hB3.size (.cells #[str f.name, .int .u8 f.kind, .bool true, .slice pn f.needs.length cn, .slice po f.ops.length co] 58); have hg4 := heap_up (.cells #[str f.name, .int .u8 f.kind, .bool true, .slice pn f.needs.length cn, .slice po f.ops.length co] 58) (kept_call hg2 hb3); have b4 := box4 hg4; have hs4 := heap_up (.cells #[str f.name, .int .u8 f.kind, .bool true, .slice pn f.needs.length cn, .slice po f.ops.length co] 58) (kept_call hs2 hb3); have bs4 := box3 hs4; have hf4 := heap_alloc_new w3 (.cells #[str f.name, .int .u8 f.kind, .bool true, .slice pn f.needs.length cn, .slice po f.ops.length co] 58); have bf4 := (box5 hf4); obtain ⟨b1, o1, av, sv, rfl, _, ⟨_, hxr⟩, hSa, hSs, pc0, pc1, pc2, pc3, pc4⟩ := hO4.at (k := 0) (x := o) (by rw [HOP.out]; rfl); obtain ⟨pa, ca, rfl, _⟩ := hSa.shape; obtain ⟨ps, cs, rfl, _⟩ := hSs.shape; rw [Nat.zero_mul, Nat.add_zero] at pc0 pc1 pc2 pc3 pc4)
               | (go_at_call 58; refine (HC _ _ hB0).mono ?_; rintro e w1 ⟨m0, q1, n1, c1, pb1, rfl, hS, hb1⟩; have hB1 := hB0.trans (below_less hb1 hB0.size); have hg1 := kept_call hg0 hb1; have hS1 := hS (by first | rfl | trivial); clear hS; obtain ⟨m1, rfl, hsh1⟩ := hS1.some; have hE2 := (Below.refl _ w1).alloc (nl _) (.cells #[.map (some m1), .slice q1 n1 c1, .bool pb1] 86); have hS2 := hS1.below hE2 (nl _); have hsh2 := hsh1.below hE2 (nl _); have hB2 := hB1.alloc hB1.size (.cells #[.map (some m1), .slice q1 n1 c1, .bool pb1] 86); have hg2 := heap_up (.cells #[.map (some m1), .slice q1 n1 c1, .bool pb1] 86) hg1; have hs2 := heap_alloc_new w1 (.cells #[.map (some m1), .slice q1 n1 c1, .bool pb1] 86); have bs2 := (box3 hs2))
               | (go_at_call 74; refine HI.mono ?_; rintro e w0 ⟨rfl, hb0⟩; have hB0 := hBA.trans (below_less hb0 (by simp)); have hg0 := kept_call hgA hb0))
              refine bodyPost_ret (v := .tuple #[.agg #[.bool PK.1.iter, .slice pzz PK.1.args.length cz, str PK.1.res, .slice py PK.1.sigs.length cy], .int .i64 PK.2]) (by simp [results, Tryz.results27, go_sem, b7.1]) rfl ?_;rw [HX.out];have hlt7 := heap_lt hg7;refine ⟨_, rfl, ⟨_, _, rfl, l7, ?_, ?_⟩, Below.set4 hB7 (b := w.heap.size) (nl _) _ _ _ _⟩
              · exact (SS.set4 r7 (b := w.heap.size) (by intro b hb; have := heap_lt hg6; omega) _ _ _ _).mono (by intro b hb; have := heap_lt hg6; omega)
              · exact (SS.set4 s7 (b := w.heap.size) (by intro b hb; have := heap_lt hg6; omega) _ _ _ _).mono (by intro b hb; have := heap_lt hg6; omega)
end Go.Proofs.YtakgjcfkdemipaaGreatDoor
