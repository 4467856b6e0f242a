/-
  Contract: of the package face: Write. Condition: the number of needs; the variable strings.asciiSpace.
  Contracts: of the package face: sameNeed, sameOp, has; slices.ContainsFunc and slices.IndexFunc over needs and operations. No condition.
  Contract: of the package face: Extends. Condition: the numbers of needs; the variable strings.asciiSpace.
  Laws of Extends (plain): it is a preorder; faces that extend each other have the same needs and the same operations but for their order. No condition.
-/
import Derived.Test.YtakgjcfkdemipaaGreatDoorYn
import Derived.Test.YtakgjcfkdemipaaGreatDoorY2
import Derived.Test.YtakgjcfkdemipaaGreatDoorY5
import Derived.Test.YtakgjcfkdemipaaGreatDoorY30
import Derived.Test.YtakgjcfkdemipaaGreatDoorY31
import Derived.Test.YtakgjcfkdemipaaGreatDoorY37
namespace Go.Proofs.YtakgjcfkdemipaaGreatDoor
open Go Go.RowKit
section
variable {D : Nat → Prop} {ops : Array Oper} {h : Nat} {V : List VS} {E : List (Nat × VS)} {S : World → Prop} {k : Nat} {o : Oper}
theorem stCall0 {f : FuncId} {tys : Array TypeId} {s : VS} (ho : o.op = .call { callee := .value (.func f), args := #[], argTypes := tys }) (en : ∀ args w, (callFunc f args).run Tryz.prog w = .ok (.enter f args) w)
 (hw : wantV ops h V o = some true) (hk : V[k]? = some s) (hc : ∀ (w : World), S w → Calls Tryz.prog f #[] w fun e w' => ∃ u, e = .returned u ∧ s.holds D w' u ∧ Below w.heap.size w w') : StepAt D Tryz.prog S ops h V E k o :=
 stOf [] hw hk rfl fun a w Q hS _ next hn => by
  have hrun : (execOp a.eval o).run Tryz.prog w = .ok (.enter f #[]) w := by
   simp [execOp, ho, resolve, Deferred.ofValue, invoke, Act.eval, en]
  unfold Oper.wp;rw [hrun, Oper.upon_enter];refine (hc w hS).mono ?_;rintro e w' ⟨u, rfl, hu, hb⟩;exact hn u w' hu hb
theorem stSS3 {t : TypeId} {x y z : Operand} {s u q : List UInt8} (ho : o.op = .buildSlice t 3 #[(0, x), (1, y), (2, z)]) (ht : t = 34) (hw : wantV ops h V o = some true) (hk : V[k]? = some (.ss [s, u, q])) (hx : specOf ops h V E o x = some (.eq (str s))) (hy : specOf ops h V E o y = some (.eq (str u))) (hz : specOf ops h V E o z = some (.eq (str q)))
 (hl : s.length ≤ maxLen) (hl2 : u.length ≤ maxLen) (hl3 : q.length ≤ maxLen) (hD : ∀ w, S w → D w.heap.size) : StepAt D Tryz.prog S ops h V E k o :=
 stOf [(x, .eq (str s)), (y, .eq (str u)), (z, .eq (str q))] hw hk (by simp [hx, hy, hz]) fun a w Q hS hi next hn => by
  have h1 : a.eval x = str s := hi (x, .eq (str s)) (by simp);have h2 : a.eval y = str u := hi (y, .eq (str u)) (by simp);have h3 : a.eval z = str q := hi (z, .eq (str q)) (by simp);subst ht;unfold Oper.wp;have hrun : ∀ ev : Operand → Value, ev x = str s → ev y = str u → ev z = str q → (execOp ev o).run Tryz.prog w = .ok (.value (.slice (some ⟨w.heap.size, 0, none⟩) 3 3)) (w.alloc (.cells #[str s, str u, str q] 9)) := fun ev h1 h2 h3 => by
   unfold execOp;simp [ho, h1, h2, h3, go_sem]
  rw [hrun _ h1 h2 h3];exact hn _ _ (SS.new D w (hD w hS) [s, u, q] 9 (0, 0) (by unfold maxLen; simp) (by
   intro g hg;simp only [List.mem_cons, List.not_mem_nil, or_false] at hg;rcases hg with rfl | rfl | rfl <;> assumption)) ((Below.refl _ w).alloc (nl _) _)
end
def kwK (k : Nat) : List UInt8 := if k = 1 then [112, 114, 111, 99] else if k = 2 then [105, 116, 101, 114] else [99, 108, 117, 115, 116, 101, 114]
theorem kwK_len (k : Nat) : (kwK k).length ≤ 7 := by unfold kwK; split; simp; split <;> simp
theorem kind_row (w : World) : (Instr.index 127 (.agg #[str [], str [112, 114, 111, 99], str [105, 116, 101, 114], str [99, 108, 117, 115, 116, 101, 114]]) (.int .u8 1)).run Tryz.prog w = .ok (str [112, 114, 111, 99]) w ∧ (Instr.index 127 (.agg #[str [], str [112, 114, 111, 99], str [105, 116, 101, 114], str [99, 108, 117, 115, 116, 101, 114]]) (.int .u8 2)).run Tryz.prog w = .ok (str [105, 116, 101, 114]) w ∧ (Instr.index 127 (.agg #[str [], str [112, 114, 111, 99], str [105, 116, 101, 114], str [99, 108, 117, 115, 116, 101, 114]]) (.int .u8 3)).run Tryz.prog w = .ok (str [99, 108, 117, 115, 116, 101, 114]) w := ⟨by kernel_rfl, by kernel_rfl, by kernel_rfl⟩
theorem kind_at {o : Oper} {t : TypeId} {x y : Operand} {k : Nat} (h1 : 1 ≤ k) (h3 : k ≤ 3) (ho : o.op = .index t x y := by rfl) (ht : t = 127 := by rfl) (ev : Operand → Value) (w : World) (e1 : ev x = .agg #[str [], str [112, 114, 111, 99], str [105, 116, 101, 114], str [99, 108, 117, 115, 116, 101, 114]]) (e2 : ev y = .int .u8 k) : (execOp ev o).run Tryz.prog w = .ok (.value (str (kwK k))) w := by
 subst ht
 have : k = 1 ∨ k = 2 ∨ k = 3 := by omega
 obtain ⟨q1, q2, q3⟩ := kind_row w
 rcases this with rfl | rfl | rfl <;> simp [execOp, ho, e1, e2, go_sem, kwK, q1, q2, q3]
theorem face_texts {f : FaceP} (hf : faceK f = true) : f.name.length ≤ 12 ∧ (∀ o ∈ f.needs, o.name.length ≤ 12 ∧ SigLe o.sig) ∧ ∀ o ∈ f.ops, o.name.length ≤ 12 ∧ SigLe o.sig := by
 have hp := faceK_parts hf
 have hn := hp.2.2.2.1
 refine ⟨isName_len hp.1, fun o ho => ?_, fun o ho => ?_⟩
 · unfold neededK at hn
   simp only [Bool.and_eq_true, List.all_eq_true, decide_eq_true_eq] at hn;exact ⟨isName_len (asc_names hn.2 _ (List.mem_map_of_mem ho)), said_le (hn.1.1 o ho)⟩
 · have := hp.2.2.2.2.2.2.2.1 o ho
   exact ⟨isName_len this.1, said_le this.2⟩
set_option maxRecDepth 8000 in
set_option maxHeartbeats 12800000 in
theorem write_any {D : Nat → Prop} (v : Value) (f : FaceP) (w : World) (ht : Tab w) (hv : FaceV D w v f) (hn : f.needs.length ≤ 100000) :
 Calls Tryz.prog 51 #[v] w fun e w' => e = .returned (.tuple #[str (writeK f).1, .int .i64 (writeK f).2]) ∧ Below w.heap.size w w' := by
 obtain ⟨nv, ov, rfl, hnl, hN, hO⟩ := hv
 have hA := (Below.refl _ w).alloc (nl _) (.cells #[str f.name, .int .u8 f.kind, .bool f.par, nv, ov] 58)
 have hbox := heap_alloc_new w (.cells #[str f.name, .int .u8 f.kind, .bool f.par, nv, ov] 58)
 have hNA := hN.below hA (nl _)
 have hOA := hO.below hA (nl _)
 have HC := fcheck_any _ f (w.alloc (.cells #[str f.name, .int .u8 f.kind, .bool f.par, nv, ov] 58)) (ht.below hA (nl _)) ⟨nv, ov, rfl, hnl, hNA, hOA⟩ hn
 have HW : writeK f = if faceK f = true then (faceT f, 0) else ([], 42) := rfl
 have HE : faceE f = if faceK f = true then 0 else 42 := rfl
 obtain ⟨p1, c1, rfl, _⟩ := hN.shape
 obtain ⟨p2, c2, rfl, _⟩ := hO.shape
 generalize writeK f = WR at *
 rcases hf : faceK f with _ | _
 · rw [HE, hf] at HC
   rw [hf] at HW;have HX := Lib.hid HW;clear HW HE hN hO hNA hOA hf;go_enter Tryz.func51, Tryz.ntmps51;go_wp2_with (go_at_call 38; refine HC.mono ?_; clear HC; rintro e w2 ⟨rfl, hb2⟩);go_ret2;rw [HX.out];exact ⟨rfl, hA.trans (below_less hb2 (by simp))⟩
 · rw [HE, hf] at HC
   rw [hf] at HW;have hp := faceK_parts hf;obtain ⟨hnm, hns, hos⟩ := face_texts hf;have hk1 := hp.2.1;have hk3 := hp.2.2.1;have hln := (needed_len hp.2.2.2.1).1;have hlo := hp.2.2.2.2.2.2.1;have hkl : (kwK f.kind).length ≤ maxLen := by have := kwK_len f.kind; unfold maxLen; omega
   have hkl7 := kwK_len f.kind;obtain ⟨J, hJ⟩ : ∃ J, [kwK f.kind, [32], f.name].flatten = J := ⟨_, rfl⟩
   have hJl : J.length ≤ 30 := by rw [← hJ]; simp; omega
   obtain ⟨X, hX⟩ : ∃ X, (J ++ (if f.par = true then [91, 116, 93] else [])) ++ [10] = X := ⟨_, rfl⟩
   have hXl : X.length ≤ 40 := by rw [← hX]; cases f.par <;> simp <;> omega
   have hft : faceT f = X ++ f.needs.flatMap (lineT [104, 97, 115]) ++ f.ops.flatMap (lineT [111, 112]) := by
    unfold faceT;rw [← hX, ← hJ];unfold kwK;cases f.par <;> simp
   have HX := Lib.hid (show WR = (X ++ f.needs.flatMap (lineT [104, 97, 115]) ++ f.ops.flatMap (lineT [111, 112]), 0) by rw [HW, hft]; rfl);have hNl := lines_le (wd := [104, 97, 115]) (by simp) f.needs hns;have hOl := lines_le (wd := [111, 112]) (by simp) f.ops hos;clear HW HE hft hN hO hf hp;obtain ⟨W0, hW0⟩ : ∃ W0, w.alloc (.cells #[str f.name, .int .u8 f.kind, .bool f.par, .slice p1 f.needs.length c1, .slice p2 f.ops.length c2] 58) = W0 := ⟨_, rfl⟩
   have HC : Calls Tryz.prog 38 #[.agg #[str f.name, .int .u8 f.kind, .bool f.par, .slice p1 f.needs.length c1, .slice p2 f.ops.length c2]] (w.alloc (.cells #[str f.name, .int .u8 f.kind, .bool f.par, .slice p1 f.needs.length c1, .slice p2 f.ops.length c2] 58)) fun e w' => e = .returned (.int .i64 0) ∧ Below W0.heap.size W0 w' := by rw [← hW0]; exact HC
   have hsz0 : w.heap.size ≤ W0.heap.size := by rw [← hW0]; simp
   rw [hW0] at hA hbox hNA hOA;clear hW0;have bx := box5 hbox;rcases hpar : f.par with _ | _
   all_goals
    rw [hpar] at hX HC;simp only [Bool.false_eq_true, if_false, if_true, List.append_nil] at hX;go_enter Tryz.func51, Tryz.ntmps51;go_upto_region 4 with (go_at_call 38; refine HC.mono ?_; clear HC; rintro e w2 ⟨rfl, hb2⟩);have hbx2 := kept_call hbox hb2;have bx2 := box5 hbx2;have k0 := Below.keep (Below.refl _ w2).drew bx2.1.1;have k1 := Below.keep (Below.refl _ w2).drew bx2.1.2.1;clear bx2 bx hbx2;refine wp_region_spec (D := Any) 8 [(1, .eq (.pointer (some ⟨w.heap.size, 0, none⟩)))] [(.eq (.agg #[str [], str [112, 114, 111, 99], str [105, 116, 101, 114], str [99, 108, 117, 115, 116, 101, 114]])), (.eq (.pointer (some ⟨w.heap.size, 1, none⟩))), (.eq (.int .u8 f.kind)), (.eq (str (kwK f.kind))), (.eq (.pointer (some ⟨w.heap.size, 0, none⟩))), (.eq (str f.name)), (.ss [kwK f.kind, [32], f.name]), (.eq (str J)), (.eq (str J))] (CellsAt [(⟨w.heap.size, 1, none⟩, .int .u8 f.kind), (⟨w.heap.size, 0, none⟩, str f.name)]) (by kernel_rfl) (by kernel_rfl) (by kernel_rfl) (by kernel_rfl) (by kernel_rfl) (fun _ _ h hb => h.below hb) (fun p hp => by simp only [List.mem_cons, List.not_mem_nil, or_false] at hp; rcases hp with rfl | rfl <;> assumption) ?_ ?_ ?_
    · intro p hp
      simp only [List.mem_cons, List.not_mem_nil, or_false] at hp;rcases hp with rfl
      · exact rfl
    · iterate 9
       refine And.intro ?_ ?_
       · first
         | exact stSkip (by kernel_rfl) rfl
         | exact stA (.inl rfl) (by kernel_rfl) rfl (by kernel_rfl)
         | exact stA (.inr rfl) (by kernel_rfl) rfl (by kernel_rfl)
         | exact stPick rfl (by kernel_rfl) rfl rfl (by kernel_rfl)
         | exact stNot rfl (by kernel_rfl) rfl rfl rfl
         | exact stLen rfl (by kernel_rfl) (by kernel_rfl) rfl rfl
         | exact stFA rfl (by kernel_rfl) rfl rfl (fun w => by simp [go_sem])
         | exact stIA rfl (by kernel_rfl) rfl rfl rfl (fun w => by simp [go_sem])
         | exact stLd rfl (by kernel_rfl) rfl rfl (fun w hS => by simp [go_sem, (hS.get 0 rfl), (hS.get 1 rfl)])
         | exact stCall0 rfl (enters_of Tryz.func106 (by kernel_rfl) rfl) (by kernel_rfl) rfl (fun wx _ => (kinds_any wx).mono (by rintro e w' ⟨rfl, hb⟩; exact ⟨_, rfl, rfl, hb⟩))
         | exact stP2 (u := .agg #[str [], str [112, 114, 111, 99], str [105, 116, 101, 114], str [99, 108, 117, 115, 116, 101, 114]]) (v := .int .u8 f.kind) (.tmp 15) (.tmp 17) (by kernel_rfl) rfl rfl (by kernel_rfl) (fun ev wx _ h1 h2 => kind_at hk1 hk3 rfl rfl ev wx h1 h2)
         | exact stSS3 rfl rfl (by kernel_rfl) rfl rfl rfl (by kernel_rfl) hkl (by simp [maxLen]) hnl (fun _ _ => trivial)
         | exact stCall1 (s1 := .ss [kwK f.kind, [32], f.name]) rfl (enters_of Tryz.func105 (by kernel_rfl) rfl) (by kernel_rfl) rfl rfl (fun v wx _ h1 => (joined_any (D := Any) hJ v wx h1 (by omega) (by simp)).mono (by rintro e w' ⟨rfl, hb⟩; exact ⟨_, rfl, rfl, hb⟩))
         | exact stBin rfl (by kernel_rfl) rfl rfl rfl (fun w => by simp [go_sem])
      exact trivial
    · intro aE vE wE hSE hbE haE _ hvE
      obtain rfl : vE = str J := hvE _ rfl;rw [haE];clear haE;simp only [List.take_succ_cons, List.take_zero, putsOf, pz, pw];have hBE : Below W0.heap.size W0 wE := hb2.trans (below_less hbE hb2.size);have bxE := box5 (kept_call hbox hBE);have gJ1 : ¬ 9223372036854775807 < J.length + 3 := by omega
      have gJ2 : ¬ 9223372036854775807 < J.length + 1 := by omega
      have gJ3 : ¬ 9223372036854775807 < J.length + 3 + 1 := by omega
      skip;go_wp2_with fail;have hs : True := trivial;go_loopw [5, 32] (fun a y wx => ∃ i : Nat, i ≤ f.needs.length ∧ y = .int .i64 i ∧ a = str (X ++ (f.needs.take i).flatMap (lineT [104, 97, 115])) ∧ Below W0.heap.size W0 wx) (fun _ y _ => f.needs.length - (intOf y).toNat)
      case atStart => exact ⟨0, Nat.zero_le _, by go_num, by simp [← hX], hBE⟩
      case round =>
       clear hs;obtain ⟨i, hi, rfl, rfl, hB⟩ := hrel;have hNr := hNA.below hB (nl _)
       by_cases hlt : i < f.needs.length
       case neg =>
        have hie : i = f.needs.length := by omega
        subst hie;rw [List.take_length];obtain ⟨Y, HY⟩ : ∃ Y, Hid (X ++ f.needs.flatMap (lineT [104, 97, 115]) = Y) := ⟨_, Lib.hid rfl⟩
        have hYl : Y.length ≤ 10000 := by rw [← HY.out, List.length_append]; have := Nat.mul_le_mul_right 2000 hln; omega
        rw [HY.out];have bxr := box5 (kept_call hbox hB);have hBk := hB;go_wp2_with fail;clear hB;have hs : True := trivial;go_loopw [5, 47] (fun a y wx => ∃ i : Nat, i ≤ f.ops.length ∧ y = .int .i64 i ∧ a = str (Y ++ (f.ops.take i).flatMap (lineT [111, 112])) ∧ Below W0.heap.size W0 wx) (fun _ y _ => f.ops.length - (intOf y).toNat)
        case atStart => exact ⟨0, Nat.zero_le _, by go_num, by simp, hBk⟩
        case round =>
         clear hBk bxr hi;clear hs;obtain ⟨i, hi, rfl, rfl, hB⟩ := hrel;have hNr := hOA.below hB (nl _)
         by_cases hlt : i < f.ops.length
         case neg =>
          have hie : i = f.ops.length := by omega
          subst hie;rw [List.take_length];have HX2 := Lib.hid (HY.out ▸ HX.out);go_wp2_with fail;go_ret2;rw [HX2.out];exact ⟨rfl, hA.trans (below_less hB hsz0)⟩
         case pos =>
          obtain ⟨x, hx⟩ : ∃ x, f.ops[i]? = some x := ⟨_, List.getElem?_eq_getElem hlt⟩
          have hxm := List.mem_of_getElem? hx;obtain ⟨b1, o1, av, sv, hbe, hDb, ⟨hxn, hxr⟩, hSa, hSs, pc0, pc1, pc2, pc3, pc4⟩ := hNr.at hx;subst hbe;obtain ⟨pa, ca, rfl, _⟩ := hSa.shape;obtain ⟨ps, cs, rfl, _⟩ := hSs.shape;have hE1 := (Below.refl _ wr).alloc (nl _) (.cells #[str x.name, .bool x.sig.iter, .slice pa x.sig.args.length ca, str x.sig.res, .slice ps x.sig.sigs.length cs] 50);have hB1 := hB.alloc hB.size (.cells #[str x.name, .bool x.sig.iter, .slice pa x.sig.args.length ca, str x.sig.res, .slice ps x.sig.sigs.length cs] 50);have bx1 := box5 (heap_alloc_new wr (.cells #[str x.name, .bool x.sig.iter, .slice pa x.sig.args.length ca, str x.sig.res, .slice ps x.sig.sigs.length cs] 50));have HL := line_any [111, 112] x.name _ x.sig _ ⟨_, _, rfl, hxr, hSa.below hE1 (nl _), hSs.below hE1 (nl _)⟩ (by simp) (hos x hxm).1 (hos x hxm).2;have hLl := line_le (wd := [111, 112]) (by simp) (hos x hxm).1 (hos x hxm).2;have HAB := Lib.hid (show (Y ++ (f.ops.take i).flatMap (lineT [111, 112])) ++ lineT [111, 112] ⟨x.name, x.sig⟩ = Y ++ (f.ops.take (i + 1)).flatMap (lineT [111, 112]) by rw [List.take_add_one, hx, Option.toList_some, List.flatMap_append, List.append_assoc]; simp);have hTl : (Y ++ (f.ops.take i).flatMap (lineT [111, 112])).length ≤ 100000 := by
           have h2 := lines_le (wd := [111, 112]) (by simp) (f.ops.take i) (fun o ho => hos o (List.mem_of_mem_take ho));rw [List.length_take] at h2;rw [List.length_append];have h3 := Nat.mul_le_mul_right 2000 (show min i f.ops.length ≤ 20 by omega);omega
          generalize (Y ++ (f.ops.take i).flatMap (lineT [111, 112])) = A at *;have hLl : (lineT [111, 112] ⟨x.name, x.sig⟩).length ≤ 2000 := hLl;generalize lineT [111, 112] ⟨x.name, x.sig⟩ = B at *;have gAB : ¬ 9223372036854775807 < A.length + B.length := by omega
          clear hx hNr hE1;go_wp2_with (go_at_call 107; refine HL.mono ?_; clear HL; rintro e w3 ⟨rfl, hb3⟩);exact ⟨⟨i + 1, hlt, by go_num, by rw [← HAB.out], hB1.trans (below_less hb3 hB1.size)⟩, by simp only [intOf]; omega⟩
       case pos =>
        obtain ⟨x, hx⟩ : ∃ x, f.needs[i]? = some x := ⟨_, List.getElem?_eq_getElem hlt⟩
        have hxm := List.mem_of_getElem? hx;obtain ⟨b1, o1, av, sv, hbe, hDb, ⟨hxn, hxr⟩, hSa, hSs, pc0, pc1, pc2, pc3, pc4⟩ := hNr.at hx;subst hbe;obtain ⟨pa, ca, rfl, _⟩ := hSa.shape;obtain ⟨ps, cs, rfl, _⟩ := hSs.shape;have hE1 := (Below.refl _ wr).alloc (nl _) (.cells #[str x.name, .bool x.sig.iter, .slice pa x.sig.args.length ca, str x.sig.res, .slice ps x.sig.sigs.length cs] 79);have hB1 := hB.alloc hB.size (.cells #[str x.name, .bool x.sig.iter, .slice pa x.sig.args.length ca, str x.sig.res, .slice ps x.sig.sigs.length cs] 79);have bx1 := box5 (heap_alloc_new wr (.cells #[str x.name, .bool x.sig.iter, .slice pa x.sig.args.length ca, str x.sig.res, .slice ps x.sig.sigs.length cs] 79));have HL := line_any [104, 97, 115] x.name _ x.sig _ ⟨_, _, rfl, hxr, hSa.below hE1 (nl _), hSs.below hE1 (nl _)⟩ (by simp) (hns x hxm).1 (hns x hxm).2;have hLl := line_le (wd := [104, 97, 115]) (by simp) (hns x hxm).1 (hns x hxm).2;have HAB := Lib.hid (show (X ++ (f.needs.take i).flatMap (lineT [104, 97, 115])) ++ lineT [104, 97, 115] ⟨x.name, x.sig⟩ = X ++ (f.needs.take (i + 1)).flatMap (lineT [104, 97, 115]) by rw [List.take_add_one, hx, Option.toList_some, List.flatMap_append, List.append_assoc]; simp);have hTl : (X ++ (f.needs.take i).flatMap (lineT [104, 97, 115])).length ≤ 100000 := by
         have h2 := lines_le (wd := [104, 97, 115]) (by simp) (f.needs.take i) (fun o ho => hns o (List.mem_of_mem_take ho));rw [List.length_take] at h2;rw [List.length_append];have h3 := Nat.mul_le_mul_right 2000 (show min i f.needs.length ≤ 20 by omega);omega
        generalize (X ++ (f.needs.take i).flatMap (lineT [104, 97, 115])) = A at *;have hLl : (lineT [104, 97, 115] ⟨x.name, x.sig⟩).length ≤ 2000 := hLl;generalize lineT [104, 97, 115] ⟨x.name, x.sig⟩ = B at *;have gAB : ¬ 9223372036854775807 < A.length + B.length := by omega
        clear hx hNr hE1;go_wp2_with (go_at_call 107; refine HL.mono ?_; clear HL; rintro e w3 ⟨rfl, hb3⟩);exact ⟨⟨i + 1, hlt, by go_num, by rw [← HAB.out], hB1.trans (below_less hb3 hB1.size)⟩, by simp only [intOf]; omega⟩
end Go.Proofs.YtakgjcfkdemipaaGreatDoor
namespace Go.Proofs.YtakgjcfkdemipaaGreatDoor
open Go.RowKit
def likeK (a b : OpP) : Bool := decide (a.name = b.name) && sameK a.sig b.sig
theorem ixP_any {α : Type} (p : α → Bool) (l : List α) : decide (0 ≤ ixP p l 0) = l.any p := by
 rcases ixP_find p l 0 with ⟨h1, h2⟩ | ⟨i, x, h1, h2, h3⟩
 · rw [h1]
   have : l.any p = false := by
    rw [List.any_eq_false];intro x hx;have := List.find?_eq_none.1 h2 x hx
    simpa using this
   rw [this]; rfl
 · rw [h1]
   have : l.any p = true := List.any_eq_true.2 ⟨x, List.mem_of_getElem? h3, List.find?_some h2⟩;rw [this, decide_eq_true]; omega
set_option maxRecDepth 4000 in
set_option maxHeartbeats 3200000 in
theorem same_Need {D E : Nat → Prop} (x y : OpP) (v u : Value) (w : World) (hv : OpV D w v x) (hu : OpV E w u y) :
 Calls Tryz.prog 97 #[v, u] w fun e w' => e = .returned (.bool (likeK x y)) ∧ Below w.heap.size w w' := by
 obtain ⟨a, s, rfl, l1, h2, h3⟩ := hv
 obtain ⟨b, q, rfl, l2, k2, k3⟩ := hu
 obtain ⟨pa, ca, rfl, _⟩ := h2.shape
 obtain ⟨ps, cs, rfl, _⟩ := h3.shape
 obtain ⟨pb, cb, rfl, _⟩ := k2.shape
 obtain ⟨pq, cq, rfl, _⟩ := k3.shape
 have hA := (Below.refl _ w).alloc (nl _) (.cells #[str x.name, .bool x.sig.iter, .slice pa x.sig.args.length ca, str x.sig.res, .slice ps x.sig.sigs.length cs] 79)
 have hB := hA.alloc hA.size (.cells #[str y.name, .bool y.sig.iter, .slice pb y.sig.args.length cb, str y.sig.res, .slice pq y.sig.sigs.length cq] 79)
 have bx := box5 (heap_up (.cells #[str y.name, .bool y.sig.iter, .slice pb y.sig.args.length cb, str y.sig.res, .slice pq y.sig.sigs.length cq] 79) (heap_alloc_new w (.cells #[str x.name, .bool x.sig.iter, .slice pa x.sig.args.length ca, str x.sig.res, .slice ps x.sig.sigs.length cs] 79)))
 have bz := box5 (heap_to (w := w.alloc (.cells #[str x.name, .bool x.sig.iter, .slice pa x.sig.args.length ca, str x.sig.res, .slice ps x.sig.sigs.length cs] 79)) (n := w.heap.size + 1) (by simp) #[str y.name, .bool y.sig.iter, .slice pb y.sig.args.length cb, str y.sig.res, .slice pq y.sig.sigs.length cq] 79)
 have HS := fsame_any x.sig y.sig _ _ _ ⟨_, _, rfl, l1.2, h2.below hB (nl _), h3.below hB (nl _)⟩ ⟨_, _, rfl, l2.2, k2.below hB (nl _), k3.below hB (nl _)⟩
 have HL := Lib.hid (show likeK x y = (decide (x.name = y.name) && sameK x.sig y.sig) from rfl)
 generalize likeK x y = LK at *
 generalize sameK x.sig y.sig = SK at *
 clear h2 h3 k2 k3
 by_cases hn : x.name = y.name
 · have g1 : (x.name == y.name) = true := by simpa using hn
   have HX := Lib.hid (show LK = SK by rw [HL.out, decide_eq_true hn, Bool.true_and]);clear HL hn;cases SK
   all_goals
    go_enter Tryz.func97, Tryz.ntmps97;go_wp2_with (go_at_call 139; refine HS.mono ?_; clear HS; rintro e w3 ⟨rfl, hb3⟩);go_ret;exact ⟨by rw [HX.out]; first | done | rfl, hB.trans (below_less hb3 hB.size)⟩
 · have g1 : (x.name == y.name) = false := by simpa using hn
   have HX := Lib.hid (show LK = false by rw [HL.out, decide_eq_false hn, Bool.false_and]);clear HL hn HS;go_enter Tryz.func97, Tryz.ntmps97;go_wp2_with fail;go_ret;exact ⟨by rw [HX.out]; first | done | rfl, hB⟩
set_option maxRecDepth 4000 in
set_option maxHeartbeats 3200000 in
theorem has1_Need {D E : Nat → Prop} (y x : OpP) (v : Value) (fb xb : Nat) (w : World) (hv : OpV D w v y) {xv : Value} (hx : OpV E w xv x) (hf : w.heap[fb]? = some (.cells #[.func (.func 97) #[] #[]] 120 (0, 0))) (hxb : ∃ cs : Array Value, xv = .agg cs ∧ w.heap[xb]? = some (.cells cs 79 (0, 0))) :
 Calls Tryz.prog 154 #[v, .pointer (some ⟨fb, 0, none⟩), .pointer (some ⟨xb, 0, none⟩)] w fun e w' => e = .returned (.bool (likeK y x)) ∧ Below w.heap.size w w' := by
 obtain ⟨a, s, rfl, l1, h2, h3⟩ := hv
 obtain ⟨b, q, rfl, l2, k2, k3⟩ := hx
 obtain ⟨cs0, hcs, hxb⟩ := hxb
 injection hcs with hcs
 subst hcs
 obtain ⟨pa, ca, rfl, _⟩ := h2.shape
 obtain ⟨ps, cs, rfl, _⟩ := h3.shape
 obtain ⟨pb, cb, rfl, _⟩ := k2.shape
 obtain ⟨pq, cq, rfl, _⟩ := k3.shape
 have hA := (Below.refl _ w).alloc (nl _) (.cells #[str y.name, .bool y.sig.iter, .slice pa y.sig.args.length ca, str y.sig.res, .slice ps y.sig.sigs.length cs] 79)
 have bx := box5 (heap_alloc_new w (.cells #[str y.name, .bool y.sig.iter, .slice pa y.sig.args.length ca, str y.sig.res, .slice ps y.sig.sigs.length cs] 79))
 have bz := box5 (heap_up (.cells #[str y.name, .bool y.sig.iter, .slice pa y.sig.args.length ca, str y.sig.res, .slice ps y.sig.sigs.length cs] 79) hxb)
 have bf := (cells_at (heap_up (.cells #[str y.name, .bool y.sig.iter, .slice pa y.sig.args.length ca, str y.sig.res, .slice ps y.sig.sigs.length cs] 79) hf) 0).trans rfl
 have HS := same_Need y x _ _ _ ⟨_, _, rfl, l1, h2.below hA (nl _), h3.below hA (nl _)⟩ ⟨_, _, rfl, l2, k2.below hA (nl _), k3.below hA (nl _)⟩
 generalize likeK y x = LK at *
 clear h2 h3 k2 k3 hxb hf
 cases LK
 all_goals
  go_enter Tryz.func154, Tryz.ntmps154;go_wp2_with (go_at_call 97; refine HS.mono ?_; clear HS; rintro e w3 ⟨rfl, hb3⟩);go_ret;exact ⟨rfl, hA.trans (below_less hb3 hA.size)⟩
set_option maxRecDepth 4000 in
set_option maxHeartbeats 3200000 in
theorem index_Need {D E : Nat → Prop} (l : List OpP) (x : OpP) (v xv : Value) (fb xb : Nat) (w : World) (hv : OpsM D w v l) (hx : OpV E w xv x) (hf : w.heap[fb]? = some (.cells #[.func (.func 97) #[] #[]] 120 (0, 0))) (hxb : ∃ cs : Array Value, xv = .agg cs ∧ w.heap[xb]? = some (.cells cs 79 (0, 0))) :
 Calls Tryz.prog 210 #[v, .func (.func 154) #[] #[.pointer (some ⟨fb, 0, none⟩), .pointer (some ⟨xb, 0, none⟩)]] w fun e w' => e = .returned (.int .i64 (ixP (fun y => likeK y x) l 0)) ∧ Below w.heap.size w w' := by
 obtain ⟨p, c, rfl, _, hm, hle⟩ := hv.shape
 unfold maxLen at hm
 clear hle
 have HN0 := fun y yv W (hW : Below w.heap.size w W) (hy : OpV D W yv y) => has1_Need y x yv fb xb W hy (hx.below hW (nl _)) (kept_call hf hW) (by obtain ⟨cs, h1, h2⟩ := hxb; exact ⟨cs, h1, kept_call h2 hW⟩)
 clear hx hf hxb
 generalize hP : (fun y => likeK y x) = P
 have HP := Lib.hid hP
 clear hP
 go_enter Tryz.func210, Tryz.ntmps210
 go_wp2_with fail
 go_loopw [8] (fun a wr => ∃ i : Nat, i ≤ l.length ∧ a = .int .i64 i ∧ Below w.heap.size w wr ∧ Hid (ixP P l 0 = ixP P (l.drop i) i)) (fun a _ => l.length - (intOf a).toNat)
 case atStart => exact ⟨0, Nat.zero_le _, rfl, Below.refl _ _, rfl⟩
 case round =>
  obtain ⟨i, hi, rfl, hb, hA⟩ := hrel
  by_cases hlt : i < l.length
  case neg =>
   have HX := Lib.hid (show ixP P l 0 = -1 by rw [hA.out, List.drop_eq_nil_of_le (by omega)]; rfl);clear hA;go_wp2_with fail;go_ret;exact ⟨by rw [HX.out]; rfl, hb⟩
  case pos =>
   obtain ⟨y, hkx⟩ : ∃ y, l[i]? = some y := ⟨_, List.getElem?_eq_getElem hlt⟩
   obtain ⟨b1, o1, av, sv, rfl, _, hle, hSa, hSs, pc0, pc1, pc2, pc3, pc4⟩ := (hv.below hb (nl _)).at hkx;have HN := HN0 y _ wr hb ⟨av, sv, rfl, hle, hSa, hSs⟩;obtain ⟨pa, ca, rfl, _⟩ := hSa.shape;obtain ⟨ps, cs, rfl, _⟩ := hSs.shape;have hd := hA.out;rw [fdrop_at hkx, ixP] at hd;have hPy : P y = likeK y x := by rw [← HP.out]
   rw [← hPy] at HN;clear hA hkx hSa hSs hPy HN0;rcases hn : P y with _ | _
   · rw [hn] at HN hd
     have HX := Lib.hid (hd.trans (if_neg (by simp)));clear hd hn;go_wp2_with (go_at_call 154; refine HN.mono ?_; clear HN; rintro e w1 ⟨rfl, hb1⟩);exact ⟨⟨i + 1, by omega, by go_num, hb.trans (below_less hb1 hb.size), HX⟩, by simp only [intOf]; omega⟩
   · rw [hn] at HN hd
     have HX := Lib.hid (hd.trans (if_pos rfl));clear hd hn;go_wp2_with (go_at_call 154; refine HN.mono ?_; clear HN; rintro e w1 ⟨rfl, hb1⟩);go_ret;exact ⟨by rw [HX.out]; rfl, hb.trans (below_less hb1 hb.size)⟩
set_option maxRecDepth 4000 in
set_option maxHeartbeats 3200000 in
theorem has_Need {D E : Nat → Prop} (l : List OpP) (x : OpP) (v xv : Value) (w : World) (hv : OpsM D w v l) (hx : OpV E w xv x) :
 Calls Tryz.prog 96 #[v, xv, .func (.func 97) #[] #[]] w fun e w' => e = .returned (.bool (l.any fun y => likeK y x)) ∧ Below w.heap.size w w' := by
 have hx0 := hx
 obtain ⟨a, s, rfl, l1, h2, h3⟩ := hx
 obtain ⟨pa, ca, rfl, _⟩ := h2.shape
 obtain ⟨ps, cs, rfl, _⟩ := h3.shape
 clear h2 h3
 have hA := (Below.refl _ w).alloc (nl _) (.cells #[str x.name, .bool x.sig.iter, .slice pa x.sig.args.length ca, str x.sig.res, .slice ps x.sig.sigs.length cs] 79)
 have hB := hA.alloc hA.size (.cells #[.func (.func 97) #[] #[]] 120)
 have h1 := heap_up (.cells #[.func (.func 97) #[] #[]] 120) (heap_alloc_new w (.cells #[str x.name, .bool x.sig.iter, .slice pa x.sig.args.length ca, str x.sig.res, .slice ps x.sig.sigs.length cs] 79))
 have hf := heap_to (w := w.alloc (.cells #[str x.name, .bool x.sig.iter, .slice pa x.sig.args.length ca, str x.sig.res, .slice ps x.sig.sigs.length cs] 79)) (n := w.heap.size + 1) (by simp) #[.func (.func 97) #[] #[]] 120
 have HI := index_Need l x v _ _ _ _ (hv.below hB (nl _)) (hx0.below hB (nl _)) hf ⟨_, rfl, h1⟩
 have HC : Calls Tryz.prog 153 #[v, .func (.func 154) #[] #[.pointer (some ⟨w.heap.size + 1, 0, none⟩), .pointer (some ⟨w.heap.size, 0, none⟩)]] ((w.alloc (.cells #[str x.name, .bool x.sig.iter, .slice pa x.sig.args.length ca, str x.sig.res, .slice ps x.sig.sigs.length cs] 79)).alloc (.cells #[.func (.func 97) #[] #[]] 120)) (fun e w' => e = .returned (.bool (l.any fun y => likeK y x)) ∧ Below (w.heap.size + 1 + 1) ((w.alloc (.cells #[str x.name, .bool x.sig.iter, .slice pa x.sig.args.length ca, str x.sig.res, .slice ps x.sig.sigs.length cs] 79)).alloc (.cells #[.func (.func 97) #[] #[]] 120)) w') := by
  rw [← ixP_any];rw [World.size_alloc, World.size_alloc] at HI;generalize (w.alloc (.cells #[str x.name, .bool x.sig.iter, .slice pa x.sig.args.length ca, str x.sig.res, .slice ps x.sig.sigs.length cs] 79)).alloc (.cells #[.func (.func 97) #[] #[]] 120) = W at *;generalize ixP (fun y => likeK y x) l 0 = I at *;clear hx0 hA h1 hf hB;obtain ⟨p, c, rfl, _⟩ := hv.shape
  by_cases hI : 0 ≤ I
  · have HX := Lib.hid (decide_eq_true hI)
    have g : ¬ I < 0 := by omega
    go_enter Tryz.func153, Tryz.ntmps153;go_wp2_with (go_at_call 210; refine HI.mono ?_; rintro e w1 ⟨rfl, hb1⟩);go_ret;exact ⟨by rw [HX.out]; first | done | rfl, hb1⟩
  · have HX := Lib.hid (decide_eq_false hI)
    go_enter Tryz.func153, Tryz.ntmps153;go_wp2_with (go_at_call 210; refine HI.mono ?_; rintro e w1 ⟨rfl, hb1⟩);go_ret;exact ⟨by rw [HX.out]; first | done | rfl, hb1⟩
 generalize (l.any fun y => likeK y x) = R at *
 clear HI hf h1 hx0 hA
 obtain ⟨p, c, rfl, _⟩ := hv.shape
 clear hv
 cases R
 all_goals
  go_enter Tryz.func96, Tryz.ntmps96;go_wp2_with (go_at_call 153; refine HC.mono ?_; clear HC; rintro e w1 ⟨rfl, hb1⟩);go_ret;exact ⟨rfl, hB.trans (below_less hb1 (by omega))⟩
set_option maxRecDepth 4000 in
set_option maxHeartbeats 3200000 in
theorem same_Op {D E : Nat → Prop} (x y : OpP) (v u : Value) (w : World) (hv : OpV D w v x) (hu : OpV E w u y) :
 Calls Tryz.prog 99 #[v, u] w fun e w' => e = .returned (.bool (likeK x y)) ∧ Below w.heap.size w w' := by
 obtain ⟨a, s, rfl, l1, h2, h3⟩ := hv
 obtain ⟨b, q, rfl, l2, k2, k3⟩ := hu
 obtain ⟨pa, ca, rfl, _⟩ := h2.shape
 obtain ⟨ps, cs, rfl, _⟩ := h3.shape
 obtain ⟨pb, cb, rfl, _⟩ := k2.shape
 obtain ⟨pq, cq, rfl, _⟩ := k3.shape
 have hA := (Below.refl _ w).alloc (nl _) (.cells #[str x.name, .bool x.sig.iter, .slice pa x.sig.args.length ca, str x.sig.res, .slice ps x.sig.sigs.length cs] 50)
 have hB := hA.alloc hA.size (.cells #[str y.name, .bool y.sig.iter, .slice pb y.sig.args.length cb, str y.sig.res, .slice pq y.sig.sigs.length cq] 50)
 have bx := box5 (heap_up (.cells #[str y.name, .bool y.sig.iter, .slice pb y.sig.args.length cb, str y.sig.res, .slice pq y.sig.sigs.length cq] 50) (heap_alloc_new w (.cells #[str x.name, .bool x.sig.iter, .slice pa x.sig.args.length ca, str x.sig.res, .slice ps x.sig.sigs.length cs] 50)))
 have bz := box5 (heap_to (w := w.alloc (.cells #[str x.name, .bool x.sig.iter, .slice pa x.sig.args.length ca, str x.sig.res, .slice ps x.sig.sigs.length cs] 50)) (n := w.heap.size + 1) (by simp) #[str y.name, .bool y.sig.iter, .slice pb y.sig.args.length cb, str y.sig.res, .slice pq y.sig.sigs.length cq] 50)
 have HS := fsame_any x.sig y.sig _ _ _ ⟨_, _, rfl, l1.2, h2.below hB (nl _), h3.below hB (nl _)⟩ ⟨_, _, rfl, l2.2, k2.below hB (nl _), k3.below hB (nl _)⟩
 have HL := Lib.hid (show likeK x y = (decide (x.name = y.name) && sameK x.sig y.sig) from rfl)
 generalize likeK x y = LK at *
 generalize sameK x.sig y.sig = SK at *
 clear h2 h3 k2 k3
 by_cases hn : x.name = y.name
 · have g1 : (x.name == y.name) = true := by simpa using hn
   have HX := Lib.hid (show LK = SK by rw [HL.out, decide_eq_true hn, Bool.true_and]);clear HL hn;cases SK
   all_goals
    go_enter Tryz.func99, Tryz.ntmps99;go_wp2_with (go_at_call 139; refine HS.mono ?_; clear HS; rintro e w3 ⟨rfl, hb3⟩);go_ret;exact ⟨by rw [HX.out]; first | done | rfl, hB.trans (below_less hb3 hB.size)⟩
 · have g1 : (x.name == y.name) = false := by simpa using hn
   have HX := Lib.hid (show LK = false by rw [HL.out, decide_eq_false hn, Bool.false_and]);clear HL hn HS;go_enter Tryz.func99, Tryz.ntmps99;go_wp2_with fail;go_ret;exact ⟨by rw [HX.out]; first | done | rfl, hB⟩
set_option maxRecDepth 4000 in
set_option maxHeartbeats 3200000 in
theorem has1_Op {D E : Nat → Prop} (y x : OpP) (v : Value) (fb xb : Nat) (w : World) (hv : OpV D w v y) {xv : Value} (hx : OpV E w xv x) (hf : w.heap[fb]? = some (.cells #[.func (.func 99) #[] #[]] 122 (0, 0))) (hxb : ∃ cs : Array Value, xv = .agg cs ∧ w.heap[xb]? = some (.cells cs 50 (0, 0))) :
 Calls Tryz.prog 156 #[v, .pointer (some ⟨fb, 0, none⟩), .pointer (some ⟨xb, 0, none⟩)] w fun e w' => e = .returned (.bool (likeK y x)) ∧ Below w.heap.size w w' := by
 obtain ⟨a, s, rfl, l1, h2, h3⟩ := hv
 obtain ⟨b, q, rfl, l2, k2, k3⟩ := hx
 obtain ⟨cs0, hcs, hxb⟩ := hxb
 injection hcs with hcs
 subst hcs
 obtain ⟨pa, ca, rfl, _⟩ := h2.shape
 obtain ⟨ps, cs, rfl, _⟩ := h3.shape
 obtain ⟨pb, cb, rfl, _⟩ := k2.shape
 obtain ⟨pq, cq, rfl, _⟩ := k3.shape
 have hA := (Below.refl _ w).alloc (nl _) (.cells #[str y.name, .bool y.sig.iter, .slice pa y.sig.args.length ca, str y.sig.res, .slice ps y.sig.sigs.length cs] 50)
 have bx := box5 (heap_alloc_new w (.cells #[str y.name, .bool y.sig.iter, .slice pa y.sig.args.length ca, str y.sig.res, .slice ps y.sig.sigs.length cs] 50))
 have bz := box5 (heap_up (.cells #[str y.name, .bool y.sig.iter, .slice pa y.sig.args.length ca, str y.sig.res, .slice ps y.sig.sigs.length cs] 50) hxb)
 have bf := (cells_at (heap_up (.cells #[str y.name, .bool y.sig.iter, .slice pa y.sig.args.length ca, str y.sig.res, .slice ps y.sig.sigs.length cs] 50) hf) 0).trans rfl
 have HS := same_Op y x _ _ _ ⟨_, _, rfl, l1, h2.below hA (nl _), h3.below hA (nl _)⟩ ⟨_, _, rfl, l2, k2.below hA (nl _), k3.below hA (nl _)⟩
 generalize likeK y x = LK at *
 clear h2 h3 k2 k3 hxb hf
 cases LK
 all_goals
  go_enter Tryz.func156, Tryz.ntmps156;go_wp2_with (go_at_call 99; refine HS.mono ?_; clear HS; rintro e w3 ⟨rfl, hb3⟩);go_ret;exact ⟨rfl, hA.trans (below_less hb3 hA.size)⟩
set_option maxRecDepth 4000 in
set_option maxHeartbeats 3200000 in
theorem index_Op {D E : Nat → Prop} (l : List OpP) (x : OpP) (v xv : Value) (fb xb : Nat) (w : World) (hv : OpsM D w v l) (hx : OpV E w xv x) (hf : w.heap[fb]? = some (.cells #[.func (.func 99) #[] #[]] 122 (0, 0))) (hxb : ∃ cs : Array Value, xv = .agg cs ∧ w.heap[xb]? = some (.cells cs 50 (0, 0))) :
 Calls Tryz.prog 136 #[v, .func (.func 156) #[] #[.pointer (some ⟨fb, 0, none⟩), .pointer (some ⟨xb, 0, none⟩)]] w fun e w' => e = .returned (.int .i64 (ixP (fun y => likeK y x) l 0)) ∧ Below w.heap.size w w' := by
 obtain ⟨p, c, rfl, _, hm, hle⟩ := hv.shape
 unfold maxLen at hm
 clear hle
 have HN0 := fun y yv W (hW : Below w.heap.size w W) (hy : OpV D W yv y) => has1_Op y x yv fb xb W hy (hx.below hW (nl _)) (kept_call hf hW) (by obtain ⟨cs, h1, h2⟩ := hxb; exact ⟨cs, h1, kept_call h2 hW⟩)
 clear hx hf hxb
 generalize hP : (fun y => likeK y x) = P
 have HP := Lib.hid hP
 clear hP
 go_enter Tryz.func136, Tryz.ntmps136
 go_wp2_with fail
 go_loopw [8] (fun a wr => ∃ i : Nat, i ≤ l.length ∧ a = .int .i64 i ∧ Below w.heap.size w wr ∧ Hid (ixP P l 0 = ixP P (l.drop i) i)) (fun a _ => l.length - (intOf a).toNat)
 case atStart => exact ⟨0, Nat.zero_le _, rfl, Below.refl _ _, rfl⟩
 case round =>
  obtain ⟨i, hi, rfl, hb, hA⟩ := hrel
  by_cases hlt : i < l.length
  case neg =>
   have HX := Lib.hid (show ixP P l 0 = -1 by rw [hA.out, List.drop_eq_nil_of_le (by omega)]; rfl);clear hA;go_wp2_with fail;go_ret;exact ⟨by rw [HX.out]; rfl, hb⟩
  case pos =>
   obtain ⟨y, hkx⟩ : ∃ y, l[i]? = some y := ⟨_, List.getElem?_eq_getElem hlt⟩
   obtain ⟨b1, o1, av, sv, rfl, _, hle, hSa, hSs, pc0, pc1, pc2, pc3, pc4⟩ := (hv.below hb (nl _)).at hkx;have HN := HN0 y _ wr hb ⟨av, sv, rfl, hle, hSa, hSs⟩;obtain ⟨pa, ca, rfl, _⟩ := hSa.shape;obtain ⟨ps, cs, rfl, _⟩ := hSs.shape;have hd := hA.out;rw [fdrop_at hkx, ixP] at hd;have hPy : P y = likeK y x := by rw [← HP.out]
   rw [← hPy] at HN;clear hA hkx hSa hSs hPy HN0;rcases hn : P y with _ | _
   · rw [hn] at HN hd
     have HX := Lib.hid (hd.trans (if_neg (by simp)));clear hd hn;go_wp2_with (go_at_call 156; refine HN.mono ?_; clear HN; rintro e w1 ⟨rfl, hb1⟩);exact ⟨⟨i + 1, by omega, by go_num, hb.trans (below_less hb1 hb.size), HX⟩, by simp only [intOf]; omega⟩
   · rw [hn] at HN hd
     have HX := Lib.hid (hd.trans (if_pos rfl));clear hd hn;go_wp2_with (go_at_call 156; refine HN.mono ?_; clear HN; rintro e w1 ⟨rfl, hb1⟩);go_ret;exact ⟨by rw [HX.out]; rfl, hb.trans (below_less hb1 hb.size)⟩
set_option maxRecDepth 4000 in
set_option maxHeartbeats 3200000 in
theorem has_Op {D E : Nat → Prop} (l : List OpP) (x : OpP) (v xv : Value) (w : World) (hv : OpsM D w v l) (hx : OpV E w xv x) :
 Calls Tryz.prog 98 #[v, xv, .func (.func 99) #[] #[]] w fun e w' => e = .returned (.bool (l.any fun y => likeK y x)) ∧ Below w.heap.size w w' := by
 have hx0 := hx
 obtain ⟨a, s, rfl, l1, h2, h3⟩ := hx
 obtain ⟨pa, ca, rfl, _⟩ := h2.shape
 obtain ⟨ps, cs, rfl, _⟩ := h3.shape
 clear h2 h3
 have hA := (Below.refl _ w).alloc (nl _) (.cells #[str x.name, .bool x.sig.iter, .slice pa x.sig.args.length ca, str x.sig.res, .slice ps x.sig.sigs.length cs] 50)
 have hB := hA.alloc hA.size (.cells #[.func (.func 99) #[] #[]] 122)
 have h1 := heap_up (.cells #[.func (.func 99) #[] #[]] 122) (heap_alloc_new w (.cells #[str x.name, .bool x.sig.iter, .slice pa x.sig.args.length ca, str x.sig.res, .slice ps x.sig.sigs.length cs] 50))
 have hf := heap_to (w := w.alloc (.cells #[str x.name, .bool x.sig.iter, .slice pa x.sig.args.length ca, str x.sig.res, .slice ps x.sig.sigs.length cs] 50)) (n := w.heap.size + 1) (by simp) #[.func (.func 99) #[] #[]] 122
 have HI := index_Op l x v _ _ _ _ (hv.below hB (nl _)) (hx0.below hB (nl _)) hf ⟨_, rfl, h1⟩
 have HC : Calls Tryz.prog 155 #[v, .func (.func 156) #[] #[.pointer (some ⟨w.heap.size + 1, 0, none⟩), .pointer (some ⟨w.heap.size, 0, none⟩)]] ((w.alloc (.cells #[str x.name, .bool x.sig.iter, .slice pa x.sig.args.length ca, str x.sig.res, .slice ps x.sig.sigs.length cs] 50)).alloc (.cells #[.func (.func 99) #[] #[]] 122)) (fun e w' => e = .returned (.bool (l.any fun y => likeK y x)) ∧ Below (w.heap.size + 1 + 1) ((w.alloc (.cells #[str x.name, .bool x.sig.iter, .slice pa x.sig.args.length ca, str x.sig.res, .slice ps x.sig.sigs.length cs] 50)).alloc (.cells #[.func (.func 99) #[] #[]] 122)) w') := by
  rw [← ixP_any];rw [World.size_alloc, World.size_alloc] at HI;generalize (w.alloc (.cells #[str x.name, .bool x.sig.iter, .slice pa x.sig.args.length ca, str x.sig.res, .slice ps x.sig.sigs.length cs] 50)).alloc (.cells #[.func (.func 99) #[] #[]] 122) = W at *;generalize ixP (fun y => likeK y x) l 0 = I at *;clear hx0 hA h1 hf hB;obtain ⟨p, c, rfl, _⟩ := hv.shape
  by_cases hI : 0 ≤ I
  · have HX := Lib.hid (decide_eq_true hI)
    have g : ¬ I < 0 := by omega
    go_enter Tryz.func155, Tryz.ntmps155;go_wp2_with (go_at_call 136; refine HI.mono ?_; rintro e w1 ⟨rfl, hb1⟩);go_ret;exact ⟨by rw [HX.out]; first | done | rfl, hb1⟩
  · have HX := Lib.hid (decide_eq_false hI)
    go_enter Tryz.func155, Tryz.ntmps155;go_wp2_with (go_at_call 136; refine HI.mono ?_; rintro e w1 ⟨rfl, hb1⟩);go_ret;exact ⟨by rw [HX.out]; first | done | rfl, hb1⟩
 generalize (l.any fun y => likeK y x) = R at *
 clear HI hf h1 hx0 hA
 obtain ⟨p, c, rfl, _⟩ := hv.shape
 clear hv
 cases R
 all_goals
  go_enter Tryz.func98, Tryz.ntmps98;go_wp2_with (go_at_call 155; refine HC.mono ?_; clear HC; rintro e w1 ⟨rfl, hb1⟩);go_ret;exact ⟨rfl, hB.trans (below_less hb1 (by omega))⟩
end Go.Proofs.YtakgjcfkdemipaaGreatDoor
namespace Go.Proofs.YtakgjcfkdemipaaGreatDoor
open Go.RowKit
def extB (f g : FaceP) : Bool :=
 decide (f.name = g.name) && decide (f.kind = g.kind) && decide (f.par = g.par) && g.needs.all (fun n => f.needs.any fun y => likeK y n) && f.ops.all (fun o => g.ops.any fun y => likeK y o)
def extK (f g : FaceP) : Bool × Nat := if (faceK f && faceK g) = true then (extB f g, 0) else (false, 42)
set_option maxRecDepth 8000 in
set_option maxHeartbeats 25600000 in
theorem extends_any {D E : Nat → Prop} (f g : FaceP) (v u : Value) (w : World) (ht : Tab w) (hv : FaceV D w v f) (hu : FaceV E w u g) (hf : f.needs.length ≤ 100000) (hg : g.needs.length ≤ 100000) :
 Calls Tryz.prog 45 #[v, u] w fun e w' => e = .returned (.tuple #[.bool (extK f g).1, .int .i64 (extK f g).2]) ∧ Below w.heap.size w w' := by
 obtain ⟨fn, fk, fp, fN, fO⟩ := f
 obtain ⟨gn, gk, gp, gN, gO⟩ := g
 obtain ⟨nv, ov, rfl, hnl, hN, hO⟩ := hv
 obtain ⟨mv, qv, rfl, hml, hM, hQ⟩ := hu
 dsimp only at hnl hN hO hml hM hQ hf hg
 have hA := (Below.refl _ w).alloc (nl _) (.cells #[str fn, .int .u8 fk, .bool fp, nv, ov] 58)
 have hB := hA.alloc hA.size (.cells #[str gn, .int .u8 gk, .bool gp, mv, qv] 58)
 have h1 := heap_up (.cells #[str gn, .int .u8 gk, .bool gp, mv, qv] 58) (heap_alloc_new w (.cells #[str fn, .int .u8 fk, .bool fp, nv, ov] 58))
 have h2 := heap_to (w := w.alloc (.cells #[str fn, .int .u8 fk, .bool fp, nv, ov] 58)) (n := w.heap.size + 1) (by simp) #[str gn, .int .u8 gk, .bool gp, mv, qv] 58
 have C1 := fcheck_any _ ⟨fn, fk, fp, fN, fO⟩ _ (ht.below hB (nl _)) ⟨nv, ov, rfl, hnl, hN.below hB (nl _), hO.below hB (nl _)⟩ hf
 have C2 := fun W (hW : Below (w.heap.size + 1 + 1) ((w.alloc (.cells #[str fn, .int .u8 fk, .bool fp, nv, ov] 58)).alloc (.cells #[str gn, .int .u8 gk, .bool gp, mv, qv] 58)) W) => fcheck_any _ ⟨gn, gk, gp, gN, gO⟩ W ((ht.below hB (nl _)).below hW (by simp)) ⟨mv, qv, rfl, hml, (hM.below hB (nl _)).below hW (by simp), (hQ.below hB (nl _)).below hW (by simp)⟩ hg
 have HE1 : faceE ⟨fn, fk, fp, fN, fO⟩ = if faceK ⟨fn, fk, fp, fN, fO⟩ = true then 0 else 42 := rfl
 have HE2 : faceE ⟨gn, gk, gp, gN, gO⟩ = if faceK ⟨gn, gk, gp, gN, gO⟩ = true then 0 else 42 := rfl
 have HX : extK ⟨fn, fk, fp, fN, fO⟩ ⟨gn, gk, gp, gN, gO⟩ = if (faceK ⟨fn, fk, fp, fN, fO⟩ && faceK ⟨gn, gk, gp, gN, gO⟩) = true then (extB ⟨fn, fk, fp, fN, fO⟩ ⟨gn, gk, gp, gN, gO⟩, 0) else (false, 42) := rfl
 have HXB : extB ⟨fn, fk, fp, fN, fO⟩ ⟨gn, gk, gp, gN, gO⟩ = (decide (fn = gn) && decide (fk = gk) && decide (fp = gp) && gN.all (fun n => fN.any fun y => likeK y n) && fO.all (fun o => gO.any fun y => likeK y o)) := rfl
 obtain ⟨p1, c1, rfl, _⟩ := hN.shape
 obtain ⟨p2, c2, rfl, _, hm2, _⟩ := hO.shape
 unfold maxLen at hm2
 obtain ⟨p3, c3, rfl, _⟩ := hM.shape
 obtain ⟨p4, c4, rfl, _⟩ := hQ.shape
 generalize extK ⟨fn, fk, fp, fN, fO⟩ ⟨gn, gk, gp, gN, gO⟩ = XR at *
 generalize extB ⟨fn, fk, fp, fN, fO⟩ ⟨gn, gk, gp, gN, gO⟩ = XB at *
 rw [HE1] at C1
 rw [HE2] at C2
 clear HE1 HE2
 rcases q1 : faceK ⟨fn, fk, fp, fN, fO⟩ with _ | _
 · rw [q1] at C1 HX
   have HX := Lib.hid (show XR = (false, 42) by rw [HX]; rfl);clear C2 HXB q1 hN hO hM hQ;have bx := box5 h1;go_enter Tryz.func45, Tryz.ntmps45;go_wp2_with (go_at_call 38; refine C1.mono ?_; clear C1; rintro e w3 ⟨rfl, hb3⟩);go_ret2;rw [HX.out];exact ⟨rfl, hB.trans (below_less hb3 hB.size)⟩
 rw [q1] at C1 HX
 rcases q2 : faceK ⟨gn, gk, gp, gN, gO⟩ with _ | _
 · rw [q2] at C2 HX
   have HX := Lib.hid (show XR = (false, 42) by rw [HX]; rfl);clear HXB q1 q2 hN hO hM hQ;have bx := box5 h1;have by' := box5 h2
   go_enter Tryz.func45, Tryz.ntmps45;go_wp2_with (first
    | (go_at_call 38; refine (C2 w3 hb3').mono ?_; clear C2; rintro e w4 ⟨rfl, hb4⟩)
    | (go_at_call 38; refine C1.mono ?_; clear C1; rintro e w3 ⟨rfl, hb3⟩; have hb3' : Below (w.heap.size + 1 + 1) _ w3 := below_less hb3 (by simp); have bx3 := box5 (kept_call h2 hb3)))
   go_ret2;rw [HX.out];have hB3 := hB.trans (below_less hb3 hB.size);exact ⟨rfl, hB3.trans (below_less hb4 hB3.size)⟩
 rw [q2] at C2 HX
 have HX : XR = (XB, 0) := by rw [HX]; rfl
 have bx := box5 h1
 by_cases e1 : fn = gn
 case neg =>
  as_aux_lemma =>
   have g1 : (fn == gn) = false := by simpa using e1
   have HZ := Lib.hid (show XR = (false, 0) by rw [HX, HXB]; simp [e1]);clear HX HXB hN hO hM hQ q1 q2;go_enter Tryz.func45, Tryz.ntmps45;go_wp2_with (first
    | (go_at_call 38; refine (C2 w3 hb3').mono ?_; clear C2; rintro e w4 ⟨rfl, hb4⟩; have B4 := B3.trans (below_less hb4 B3.size); have bx4 := box5 (kept_call (kept_call h1 hb3) hb4); have by4 := box5 (kept_call (kept_call h2 hb3) hb4))
    | (go_at_call 38; refine C1.mono ?_; clear C1; rintro e w3 ⟨rfl, hb3⟩; have hb3' : Below (w.heap.size + 1 + 1) _ w3 := below_less hb3 (by simp); have bx3 := box5 (kept_call h2 hb3); have B3 := hB.trans (below_less hb3 hB.size)))
   go_ret2;rw [HZ.out];exact ⟨rfl, B4⟩
 subst e1
 by_cases e2 : fk = gk
 case neg =>
  as_aux_lemma =>
   have g1 : ((fk : Int) == (gk : Int)) = false := by rw [beq_eq_false_iff_ne]; omega
   have g2 : ((fk : Int) != (gk : Int)) = true := by rw [bne_iff_ne]; omega
   have HZ := Lib.hid (show XR = (false, 0) by rw [HX, HXB]; simp [e2]);clear HX HXB hN hO hM hQ q1 q2;go_enter Tryz.func45, Tryz.ntmps45;go_wp2_with (first
    | (go_at_call 38; refine (C2 w3 hb3').mono ?_; clear C2; rintro e w4 ⟨rfl, hb4⟩; have B4 := B3.trans (below_less hb4 B3.size); have bx4 := box5 (kept_call (kept_call h1 hb3) hb4); have by4 := box5 (kept_call (kept_call h2 hb3) hb4))
    | (go_at_call 38; refine C1.mono ?_; clear C1; rintro e w3 ⟨rfl, hb3⟩; have hb3' : Below (w.heap.size + 1 + 1) _ w3 := below_less hb3 (by simp); have bx3 := box5 (kept_call h2 hb3); have B3 := hB.trans (below_less hb3 hB.size)))
   go_ret2;rw [HZ.out];exact ⟨rfl, B4⟩
 subst e2
 by_cases e3 : fp = gp
 case neg =>
  as_aux_lemma =>
   have e4 : (fp = true ∧ gp = false) ∨ (fp = false ∧ gp = true) := by revert e3; cases fp <;> cases gp <;> simp
   clear e3;rcases e4 with ⟨rfl, rfl⟩ | ⟨rfl, rfl⟩
   all_goals
    have HZ := Lib.hid (show XR = (false, 0) by rw [HX, HXB]; simp []);clear HX HXB hN hO hM hQ q1 q2;go_enter Tryz.func45, Tryz.ntmps45;go_wp2_with (first
     | (go_at_call 38; refine (C2 w3 hb3').mono ?_; clear C2; rintro e w4 ⟨rfl, hb4⟩; have B4 := B3.trans (below_less hb4 B3.size); have bx4 := box5 (kept_call (kept_call h1 hb3) hb4); have by4 := box5 (kept_call (kept_call h2 hb3) hb4))
     | (go_at_call 38; refine C1.mono ?_; clear C1; rintro e w3 ⟨rfl, hb3⟩; have hb3' : Below (w.heap.size + 1 + 1) _ w3 := below_less hb3 (by simp); have bx3 := box5 (kept_call h2 hb3); have B3 := hB.trans (below_less hb3 hB.size)))
    go_ret2;rw [HZ.out];exact ⟨rfl, B4⟩
 subst e3
 have HXB : XB = (gN.all (fun n => fN.any fun y => likeK y n) && fO.all (fun o => gO.any fun y => likeK y o)) := by rw [HXB]; simp
 have HXR := Lib.hid HX
 have HS := Lib.hid HXB
 have hNW := hN.below hB (nl _)
 have hOW := hO.below hB (nl _)
 have hMW := hM.below hB (nl _)
 have hQW := hQ.below hB (nl _)
 clear HX HXB hN hO hM hQ q1 q2
 as_aux_lemma =>
  go_enter Tryz.func45, Tryz.ntmps45;go_wp2_with (first
   | (go_at_call 38; refine (C2 w3 hb3').mono ?_; clear C2; rintro e w4 ⟨rfl, hb4⟩; have B4 := B3.trans (below_less hb4 B3.size); have bx4 := box5 (kept_call (kept_call h1 hb3) hb4); have by4 := box5 (kept_call (kept_call h2 hb3) hb4))
   | (go_at_call 38; refine C1.mono ?_; clear C1; rintro e w3 ⟨rfl, hb3⟩; have hb3' : Below (w.heap.size + 1 + 1) _ w3 := below_less hb3 (by simp); have bx3 := box5 (kept_call h2 hb3); have B3 := hB.trans (below_less hb3 hB.size)))
  have F4 := kept_call (kept_call h1 hb3) hb4;have G4 := kept_call (kept_call h2 hb3) hb4;have hN4 := (hNW.below hb3 (nl _)).below hb4 (nl _);have hO4 := (hOW.below hb3 (nl _)).below hb4 (nl _);have hM4 := (hMW.below hb3 (nl _)).below hb4 (nl _);have hQ4 := (hQW.below hb3 (nl _)).below hb4 (nl _);clear bx bx3 bx4 by4 hNW hOW hMW hQW h1 h2 hb3 hb3' hb4 B3 hA hB;go_loopw [40] (fun y wx => ∃ i : Nat, i ≤ gN.length ∧ y = .int .i64 i ∧ Below w4.heap.size w4 wx ∧ Hid (XB = ((gN.drop i).all (fun n => fN.any fun y => likeK y n) && fO.all (fun o => gO.any fun y => likeK y o)))) (fun y _ => gN.length - (intOf y).toNat)
  case atStart => exact ⟨0, Nat.zero_le _, by go_num, Below.refl _ _, HS⟩
  case round =>
   obtain ⟨i, hi, rfl, hr, hA⟩ := hrel;have kx := box5 (kept_call F4 hr);have ky := box5 (kept_call G4 hr)
   by_cases hlt : i < gN.length
   case neg =>
    have hie : gN.drop i = [] := List.drop_eq_nil_of_le (by omega);have HS := Lib.hid (show XB = fO.all (fun o => gO.any fun y => likeK y o) by rw [hA.out, hie]; rfl);clear hA hie;have F6 := kept_call F4 hr;have G6 := kept_call G4 hr;have hO6 := hO4.below hr (nl _);have hQ6 := hQ4.below hr (nl _);have B6 := B4.trans (below_less hr B4.size);go_wp2_with fail;clear kx ky F4 G4 hN4 hM4 hO4 hQ4 hr B4;generalize wr = w6 at *;go_loopw [53] (fun y wx => ∃ i : Nat, i ≤ fO.length ∧ y = .int .i64 i ∧ Below w6.heap.size w6 wx ∧ Hid (XB = ((fO.drop i).all (fun o => gO.any fun y => likeK y o)))) (fun y _ => fO.length - (intOf y).toNat)
    case atStart => exact ⟨0, Nat.zero_le _, by go_num, Below.refl _ _, HS⟩
    case round =>
     obtain ⟨i, hi, rfl, hr, hA⟩ := hrel;have kx := box5 (kept_call F6 hr);have ky := box5 (kept_call G6 hr)
     by_cases hlt : i < fO.length
     case neg =>
      have hie : fO.drop i = [] := List.drop_eq_nil_of_le (by omega);have HZ := Lib.hid (show XR = (true, 0) by rw [HXR.out, hA.out, hie]; rfl);clear hA hie;go_wp2_with fail;go_ret2;rw [HZ.out];exact ⟨rfl, B6.trans (below_less hr B6.size)⟩
     case pos =>
      obtain ⟨x, hx⟩ : ∃ x, fO[i]? = some x := ⟨_, List.getElem?_eq_getElem hlt⟩
      obtain ⟨b1, o1, av, sv, hbe, _, hxl, hSa, hSs, pc0, pc1, pc2, pc3, pc4⟩ := (hO6.below hr (nl _)).at hx;subst hbe;obtain ⟨pa, ca, rfl, _⟩ := hSa.shape;obtain ⟨ps, cs, rfl, _⟩ := hSs.shape;have hE := (Below.refl _ wr).alloc (nl _) (.cells #[str x.name, .bool x.sig.iter, .slice pa x.sig.args.length ca, str x.sig.res, .slice ps x.sig.sigs.length cs] 50);have hr2 := hr.trans (below_less hE hr.size);have kx2 := box5 (kept_call F6 hr2);have ky2 := box5 (kept_call G6 hr2);have bz := box5 (heap_alloc_new wr (.cells #[str x.name, .bool x.sig.iter, .slice pa x.sig.args.length ca, str x.sig.res, .slice ps x.sig.sigs.length cs] 50));have HH := has_Op gO x _ _ _ (hQ6.below hr2 (nl _)) ⟨_, _, rfl, hxl, hSa.below hE (nl _), hSs.below hE (nl _)⟩;have hA0 := Lib.hid hA.out;clear hA hSa hSs;rcases hh : gO.any (fun y => likeK y x) with _ | _
      · rw [hh] at HH
        have HZ := Lib.hid (show XR = (false, 0) by rw [HXR.out, hA0.out, all_drop_no hx hh]; first | done | rfl);clear hA0 hx hh;go_wp2_with (go_at_call 98; refine HH.mono ?_; clear HH; rintro e w5 ⟨rfl, hb5⟩);go_ret2;rw [HZ.out];exact ⟨rfl, B6.trans (below_less (hr2.trans (below_less hb5 hr2.size)) B6.size)⟩
      · rw [hh] at HH
        have HZ := Lib.hid (hA0.out.trans (by rw [all_drop_yes (p := fun o => gO.any fun y => likeK y o) hx hh]));clear hA0 hx hh;go_wp2_with (go_at_call 98; refine HH.mono ?_; clear HH; rintro e w5 ⟨rfl, hb5⟩);exact ⟨⟨i + 1, hlt, by go_num, hr2.trans (below_less hb5 hr2.size), HZ⟩, by simp only [intOf]; omega⟩
   case pos =>
    obtain ⟨x, hx⟩ : ∃ x, gN[i]? = some x := ⟨_, List.getElem?_eq_getElem hlt⟩
    obtain ⟨b1, o1, av, sv, hbe, _, hxl, hSa, hSs, pc0, pc1, pc2, pc3, pc4⟩ := (hM4.below hr (nl _)).at hx;subst hbe;obtain ⟨pa, ca, rfl, _⟩ := hSa.shape;obtain ⟨ps, cs, rfl, _⟩ := hSs.shape;have hE := (Below.refl _ wr).alloc (nl _) (.cells #[str x.name, .bool x.sig.iter, .slice pa x.sig.args.length ca, str x.sig.res, .slice ps x.sig.sigs.length cs] 79);have hr2 := hr.trans (below_less hE hr.size);have kx2 := box5 (kept_call F4 hr2);have ky2 := box5 (kept_call G4 hr2);have bz := box5 (heap_alloc_new wr (.cells #[str x.name, .bool x.sig.iter, .slice pa x.sig.args.length ca, str x.sig.res, .slice ps x.sig.sigs.length cs] 79));have HH := has_Need fN x _ _ _ (hN4.below hr2 (nl _)) ⟨_, _, rfl, hxl, hSa.below hE (nl _), hSs.below hE (nl _)⟩;have hA0 := Lib.hid hA.out;clear hA hSa hSs;rcases hh : fN.any (fun y => likeK y x) with _ | _
    · rw [hh] at HH
      have HZ := Lib.hid (show XR = (false, 0) by rw [HXR.out, hA0.out, all_drop_no hx hh]; first | done | rfl);clear hA0 hx hh;go_wp2_with (go_at_call 96; refine HH.mono ?_; clear HH; rintro e w5 ⟨rfl, hb5⟩);go_ret2;rw [HZ.out];exact ⟨rfl, B4.trans (below_less (hr2.trans (below_less hb5 hr2.size)) B4.size)⟩
    · rw [hh] at HH
      have HZ := Lib.hid (hA0.out.trans (by rw [all_drop_yes (p := fun n => fN.any fun y => likeK y n) hx hh]));clear hA0 hx hh;go_wp2_with (go_at_call 96; refine HH.mono ?_; clear HH; rintro e w5 ⟨rfl, hb5⟩);exact ⟨⟨i + 1, hlt, by go_num, hr2.trans (below_less hb5 hr2.size), HZ⟩, by simp only [intOf]; omega⟩
end Go.Proofs.YtakgjcfkdemipaaGreatDoor
namespace Go.Proofs.YtakgjcfkdemipaaGreatDoor
theorem like_iff {a b : OpP} : likeK a b = true ↔ a = b := by
 obtain ⟨a1, a2⟩ := a
 obtain ⟨b1, b2⟩ := b
 simp only [likeK, Bool.and_eq_true, decide_eq_true_eq, sameK_iff, OpP.mk.injEq]
theorem any_like {l : List OpP} {x : OpP} : (l.any fun y => likeK y x) = true ↔ x ∈ l := by
 rw [List.any_eq_true]
 constructor
 · rintro ⟨y, hy, h⟩; rw [like_iff] at h; exact h ▸ hy
 · exact fun h => ⟨x, h, like_iff.2 rfl⟩
theorem ext_iff {f g : FaceP} : extB f g = true ↔ f.name = g.name ∧ f.kind = g.kind ∧ f.par = g.par ∧ (∀ n ∈ g.needs, n ∈ f.needs) ∧ ∀ o ∈ f.ops, o ∈ g.ops := by
 simp only [extB, Bool.and_eq_true, decide_eq_true_eq, List.all_eq_true, any_like, and_assoc]
theorem ext_self (f : FaceP) : extB f f = true := ext_iff.2 ⟨rfl, rfl, rfl, fun _ h => h, fun _ h => h⟩
end Go.Proofs.YtakgjcfkdemipaaGreatDoor
