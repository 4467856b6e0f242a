/-
  Contract: of the package face: Write. Condition: the number of needs; the variable strings.asciiSpace.
-/
import Derived.Test.YtakgjcfkdemipaaGreatDoorZn
import Derived.Test.YtakgjcfkdemipaaGreatDoorZ24
import Derived.Test.YtakgjcfkdemipaaGreatDoorZ37
import Derived.Test.YtakgjcfkdemipaaGreatDoorZ38
import Derived.Test.YtakgjcfkdemipaaGreatDoorZ44
namespace Go.Proofs.YtakgjcfkdemipaaGreatDoor
open Go Go.RowKit
section
variable {D : Nat → Prop} {ops : Array Oper} {h : Nat} {V : List VS} {E : List (Nat × VS)} {S : World → Prop} {k : Nat} {o : Oper}
theorem stCall0 {f : FuncId} {tys : Array TypeId} {s : VS} (ho : o.op = .call { callee := .value (.func f), args := #[], argTypes := tys }) (en : ∀ args w, (callFunc f args).run Tryz.prog w = .ok (.enter f args) w)
 (hw : wantV ops h V o = some true) (hk : V[k]? = some s) (hc : ∀ (w : World), S w → Calls Tryz.prog f #[] w fun e w' => ∃ u, e = .returned u ∧ s.holds D w' u ∧ Below w.heap.size w w') : StepAt D Tryz.prog S ops h V E k o :=
 stOf [] hw hk rfl fun a w Q hS _ next hn => by
  have hrun : (execOp a.eval o).run Tryz.prog w = .ok (.enter f #[]) w := by
   simp [execOp, ho, resolve, Deferred.ofValue, invoke, Act.eval, en]
  unfold Oper.wp;rw [hrun, Oper.upon_enter];refine (hc w hS).mono ?_;rintro e w' ⟨u, rfl, hu, hb⟩;exact hn u w' hu hb
theorem stSS3 {t : TypeId} {x y z : Operand} {s u q : List UInt8} (ho : o.op = .buildSlice t 3 #[(0, x), (1, y), (2, z)]) (ht : t = 34) (hw : wantV ops h V o = some true) (hk : V[k]? = some (.ss [s, u, q])) (hx : specOf ops h V E o x = some (.eq (str s))) (hy : specOf ops h V E o y = some (.eq (str u))) (hz : specOf ops h V E o z = some (.eq (str q)))
 (hl : s.length ≤ maxLen) (hl2 : u.length ≤ maxLen) (hl3 : q.length ≤ maxLen) (hD : ∀ w, S w → D w.heap.size) : StepAt D Tryz.prog S ops h V E k o :=
 stOf [(x, .eq (str s)), (y, .eq (str u)), (z, .eq (str q))] hw hk (by simp [hx, hy, hz]) fun a w Q hS hi next hn => by
  have h1 : a.eval x = str s := hi (x, .eq (str s)) (by simp);have h2 : a.eval y = str u := hi (y, .eq (str u)) (by simp);have h3 : a.eval z = str q := hi (z, .eq (str q)) (by simp);subst ht;unfold Oper.wp;have hrun : ∀ ev : Operand → Value, ev x = str s → ev y = str u → ev z = str q → (execOp ev o).run Tryz.prog w = .ok (.value (.slice (some ⟨w.heap.size, 0, none⟩) 3 3)) (w.alloc (.cells #[str s, str u, str q] 9)) := fun ev h1 h2 h3 => by
   unfold execOp;simp [ho, h1, h2, h3, go_sem]
  rw [hrun _ h1 h2 h3];exact hn _ _ (SS.new D w (hD w hS) [s, u, q] 9 (0, 0) (by unfold maxLen; simp) (by
   intro g hg;simp only [List.mem_cons, List.not_mem_nil, or_false] at hg;rcases hg with rfl | rfl | rfl <;> assumption)) ((Below.refl _ w).alloc (nl _) _)
end
def kwK (k : Nat) : List UInt8 := if k = 1 then [112, 114, 111, 99] else if k = 2 then [105, 116, 101, 114] else [99, 108, 117, 115, 116, 101, 114]
theorem kwK_len (k : Nat) : (kwK k).length ≤ 7 := by unfold kwK; split; simp; split <;> simp
theorem kind_row (w : World) : (Instr.index 127 (.agg #[str [], str [112, 114, 111, 99], str [105, 116, 101, 114], str [99, 108, 117, 115, 116, 101, 114]]) (.int .u8 1)).run Tryz.prog w = .ok (str [112, 114, 111, 99]) w ∧ (Instr.index 127 (.agg #[str [], str [112, 114, 111, 99], str [105, 116, 101, 114], str [99, 108, 117, 115, 116, 101, 114]]) (.int .u8 2)).run Tryz.prog w = .ok (str [105, 116, 101, 114]) w ∧ (Instr.index 127 (.agg #[str [], str [112, 114, 111, 99], str [105, 116, 101, 114], str [99, 108, 117, 115, 116, 101, 114]]) (.int .u8 3)).run Tryz.prog w = .ok (str [99, 108, 117, 115, 116, 101, 114]) w := ⟨by kernel_rfl, by kernel_rfl, by kernel_rfl⟩
theorem kind_at {o : Oper} {t : TypeId} {x y : Operand} {k : Nat} (h1 : 1 ≤ k) (h3 : k ≤ 3) (ho : o.op = .index t x y := by rfl) (ht : t = 127 := by rfl) (ev : Operand → Value) (w : World) (e1 : ev x = .agg #[str [], str [112, 114, 111, 99], str [105, 116, 101, 114], str [99, 108, 117, 115, 116, 101, 114]]) (e2 : ev y = .int .u8 k) : (execOp ev o).run Tryz.prog w = .ok (.value (str (kwK k))) w := by
 subst ht
 have : k = 1 ∨ k = 2 ∨ k = 3 := by omega
 obtain ⟨q1, q2, q3⟩ := kind_row w
 rcases this with rfl | rfl | rfl <;> simp [execOp, ho, e1, e2, go_sem, kwK, q1, q2, q3]
theorem face_texts {f : FaceP} (hf : faceK f = true) : f.name.length ≤ 12 ∧ (∀ o ∈ f.needs, o.name.length ≤ 12 ∧ SigLe o.sig) ∧ ∀ o ∈ f.ops, o.name.length ≤ 12 ∧ SigLe o.sig := by
 have hp := faceK_parts hf
 have hn := hp.2.2.2.1
 refine ⟨isName_len hp.1, fun o ho => ?_, fun o ho => ?_⟩
 · unfold neededK at hn
   simp only [Bool.and_eq_true, List.all_eq_true, decide_eq_true_eq] at hn;exact ⟨isName_len (asc_names hn.2 _ (List.mem_map_of_mem ho)), said_le (hn.1.1 o ho)⟩
 · have := hp.2.2.2.2.2.2.2.1 o ho
   exact ⟨isName_len this.1, said_le this.2⟩
set_option maxRecDepth 8000 in
set_option maxHeartbeats 12800000 in
theorem write_any {D : Nat → Prop} (v : Value) (f : FaceP) (w : World) (ht : Tab w) (hv : FaceV D w v f) (hn : f.needs.length ≤ 100000) :
 Calls Tryz.prog 51 #[v] w fun e w' => e = .returned (.tuple #[str (writeK f).1, .int .i64 (writeK f).2]) ∧ Below w.heap.size w w' := by
 obtain ⟨nv, ov, rfl, hnl, hN, hO⟩ := hv
 have hA := (Below.refl _ w).alloc (nl _) (.cells #[str f.name, .int .u8 f.kind, .bool f.par, nv, ov] 58)
 have hbox := heap_alloc_new w (.cells #[str f.name, .int .u8 f.kind, .bool f.par, nv, ov] 58)
 have hNA := hN.below hA (nl _)
 have hOA := hO.below hA (nl _)
 have HC := fcheck_any _ f (w.alloc (.cells #[str f.name, .int .u8 f.kind, .bool f.par, nv, ov] 58)) (ht.below hA (nl _)) ⟨nv, ov, rfl, hnl, hNA, hOA⟩ hn
 have HW : writeK f = if faceK f = true then (faceT f, 0) else ([], 42) := rfl
 have HE : faceE f = if faceK f = true then 0 else 42 := rfl
 obtain ⟨p1, c1, rfl, _⟩ := hN.shape
 obtain ⟨p2, c2, rfl, _⟩ := hO.shape
 generalize writeK f = WR at *
 rcases hf : faceK f with _ | _
 · rw [HE, hf] at HC
   rw [hf] at HW;have HX := Lib.hid HW;clear HW HE hN hO hNA hOA hf;go_enter Tryz.func51, Tryz.ntmps51;go_wp2_with (go_at_call 38; refine HC.mono ?_; clear HC; rintro e w2 ⟨rfl, hb2⟩);go_ret2;rw [HX.out];exact ⟨rfl, hA.trans (below_less hb2 (by simp))⟩
 · rw [HE, hf] at HC
   rw [hf] at HW;have hp := faceK_parts hf;obtain ⟨hnm, hns, hos⟩ := face_texts hf;have hk1 := hp.2.1;have hk3 := hp.2.2.1;have hln := (needed_len hp.2.2.2.1).1;have hlo := hp.2.2.2.2.2.2.1;have hkl : (kwK f.kind).length ≤ maxLen := by have := kwK_len f.kind; unfold maxLen; omega
   have hkl7 := kwK_len f.kind;obtain ⟨J, hJ⟩ : ∃ J, [kwK f.kind, [32], f.name].flatten = J := ⟨_, rfl⟩
   have hJl : J.length ≤ 30 := by rw [← hJ]; simp; omega
   obtain ⟨X, hX⟩ : ∃ X, (J ++ (if f.par = true then [91, 116, 93] else [])) ++ [10] = X := ⟨_, rfl⟩
   have hXl : X.length ≤ 40 := by rw [← hX]; cases f.par <;> simp <;> omega
   have hft : faceT f = X ++ f.needs.flatMap (lineT [104, 97, 115]) ++ f.ops.flatMap (lineT [111, 112]) := by
    unfold faceT;rw [← hX, ← hJ];unfold kwK;cases f.par <;> simp
   have HX := Lib.hid (show WR = (X ++ f.needs.flatMap (lineT [104, 97, 115]) ++ f.ops.flatMap (lineT [111, 112]), 0) by rw [HW, hft]; rfl);have hNl := lines_le (wd := [104, 97, 115]) (by simp) f.needs hns;have hOl := lines_le (wd := [111, 112]) (by simp) f.ops hos;clear HW HE hft hN hO hf hp;obtain ⟨W0, hW0⟩ : ∃ W0, w.alloc (.cells #[str f.name, .int .u8 f.kind, .bool f.par, .slice p1 f.needs.length c1, .slice p2 f.ops.length c2] 58) = W0 := ⟨_, rfl⟩
   have HC : Calls Tryz.prog 38 #[.agg #[str f.name, .int .u8 f.kind, .bool f.par, .slice p1 f.needs.length c1, .slice p2 f.ops.length c2]] (w.alloc (.cells #[str f.name, .int .u8 f.kind, .bool f.par, .slice p1 f.needs.length c1, .slice p2 f.ops.length c2] 58)) fun e w' => e = .returned (.int .i64 0) ∧ Below W0.heap.size W0 w' := by rw [← hW0]; exact HC
   have hsz0 : w.heap.size ≤ W0.heap.size := by rw [← hW0]; simp
   rw [hW0] at hA hbox hNA hOA;clear hW0;have bx := box5 hbox;rcases hpar : f.par with _ | _
   all_goals
    rw [hpar] at hX HC;simp only [Bool.false_eq_true, if_false, if_true, List.append_nil] at hX;go_enter Tryz.func51, Tryz.ntmps51;go_upto_region 4 with (go_at_call 38; refine HC.mono ?_; clear HC; rintro e w2 ⟨rfl, hb2⟩);have hbx2 := kept_call hbox hb2;have bx2 := box5 hbx2;have k0 := Below.keep (Below.refl _ w2).drew bx2.1.1;have k1 := Below.keep (Below.refl _ w2).drew bx2.1.2.1;clear bx2 bx hbx2;refine wp_region_spec (D := Any) 8 [(1, .eq (.pointer (some ⟨w.heap.size, 0, none⟩)))] [(.eq (.agg #[str [], str [112, 114, 111, 99], str [105, 116, 101, 114], str [99, 108, 117, 115, 116, 101, 114]])), (.eq (.pointer (some ⟨w.heap.size, 1, none⟩))), (.eq (.int .u8 f.kind)), (.eq (str (kwK f.kind))), (.eq (.pointer (some ⟨w.heap.size, 0, none⟩))), (.eq (str f.name)), (.ss [kwK f.kind, [32], f.name]), (.eq (str J)), (.eq (str J))] (CellsAt [(⟨w.heap.size, 1, none⟩, .int .u8 f.kind), (⟨w.heap.size, 0, none⟩, str f.name)]) (by kernel_rfl) (by kernel_rfl) (by kernel_rfl) (by kernel_rfl) (by kernel_rfl) (fun _ _ h hb => h.below hb) (fun p hp => by simp only [List.mem_cons, List.not_mem_nil, or_false] at hp; rcases hp with rfl | rfl <;> assumption) ?_ ?_ ?_
    · intro p hp
      simp only [List.mem_cons, List.not_mem_nil, or_false] at hp;rcases hp with rfl
      · exact rfl
    · iterate 9
       refine And.intro ?_ ?_
       · first
         | exact stSkip (by kernel_rfl) rfl
         | exact stA (.inl rfl) (by kernel_rfl) rfl (by kernel_rfl)
         | exact stA (.inr rfl) (by kernel_rfl) rfl (by kernel_rfl)
         | exact stPick rfl (by kernel_rfl) rfl rfl (by kernel_rfl)
         | exact stNot rfl (by kernel_rfl) rfl rfl rfl
         | exact stLen rfl (by kernel_rfl) (by kernel_rfl) rfl rfl
         | exact stFA rfl (by kernel_rfl) rfl rfl (fun w => by simp [go_sem])
         | exact stIA rfl (by kernel_rfl) rfl rfl rfl (fun w => by simp [go_sem])
         | exact stLd rfl (by kernel_rfl) rfl rfl (fun w hS => by simp [go_sem, (hS.get 0 rfl), (hS.get 1 rfl)])
         | exact stCall0 rfl (enters_of Tryz.func106 (by kernel_rfl) rfl) (by kernel_rfl) rfl (fun wx _ => (kinds_any wx).mono (by rintro e w' ⟨rfl, hb⟩; exact ⟨_, rfl, rfl, hb⟩))
         | exact stP2 (u := .agg #[str [], str [112, 114, 111, 99], str [105, 116, 101, 114], str [99, 108, 117, 115, 116, 101, 114]]) (v := .int .u8 f.kind) (.tmp 15) (.tmp 17) (by kernel_rfl) rfl rfl (by kernel_rfl) (fun ev wx _ h1 h2 => kind_at hk1 hk3 rfl rfl ev wx h1 h2)
         | exact stSS3 rfl rfl (by kernel_rfl) rfl rfl rfl (by kernel_rfl) hkl (by simp [maxLen]) hnl (fun _ _ => trivial)
         | exact stCall1 (s1 := .ss [kwK f.kind, [32], f.name]) rfl (enters_of Tryz.func105 (by kernel_rfl) rfl) (by kernel_rfl) rfl rfl (fun v wx _ h1 => (joined_any (D := Any) hJ v wx h1 (by omega) (by simp)).mono (by rintro e w' ⟨rfl, hb⟩; exact ⟨_, rfl, rfl, hb⟩))
         | exact stBin rfl (by kernel_rfl) rfl rfl rfl (fun w => by simp [go_sem])
      exact trivial
    · intro aE vE wE hSE hbE haE _ hvE
      obtain rfl : vE = str J := hvE _ rfl;rw [haE];clear haE;simp only [List.take_succ_cons, List.take_zero, putsOf, pz, pw];have hBE : Below W0.heap.size W0 wE := hb2.trans (below_less hbE hb2.size);have bxE := box5 (kept_call hbox hBE);have gJ1 : ¬ 9223372036854775807 < J.length + 3 := by omega
      have gJ2 : ¬ 9223372036854775807 < J.length + 1 := by omega
      have gJ3 : ¬ 9223372036854775807 < J.length + 3 + 1 := by omega
      skip;go_wp2_with fail;have hs : True := trivial;go_loopw [5, 32] (fun a y wx => ∃ i : Nat, i ≤ f.needs.length ∧ y = .int .i64 i ∧ a = str (X ++ (f.needs.take i).flatMap (lineT [104, 97, 115])) ∧ Below W0.heap.size W0 wx) (fun _ y _ => f.needs.length - (intOf y).toNat)
      case atStart => exact ⟨0, Nat.zero_le _, by go_num, by simp [← hX], hBE⟩
      case round =>
       clear hs;obtain ⟨i, hi, rfl, rfl, hB⟩ := hrel;have hNr := hNA.below hB (nl _)
       by_cases hlt : i < f.needs.length
       case neg =>
        have hie : i = f.needs.length := by omega
        subst hie;rw [List.take_length];obtain ⟨Y, HY⟩ : ∃ Y, Hid (X ++ f.needs.flatMap (lineT [104, 97, 115]) = Y) := ⟨_, Lib.hid rfl⟩
        have hYl : Y.length ≤ 10000 := by rw [← HY.out, List.length_append]; have := Nat.mul_le_mul_right 2000 hln; omega
        rw [HY.out];have bxr := box5 (kept_call hbox hB);have hBk := hB;go_wp2_with fail;clear hB;have hs : True := trivial;go_loopw [5, 47] (fun a y wx => ∃ i : Nat, i ≤ f.ops.length ∧ y = .int .i64 i ∧ a = str (Y ++ (f.ops.take i).flatMap (lineT [111, 112])) ∧ Below W0.heap.size W0 wx) (fun _ y _ => f.ops.length - (intOf y).toNat)
        case atStart => exact ⟨0, Nat.zero_le _, by go_num, by simp, hBk⟩
        case round =>
         clear hBk bxr hi;clear hs;obtain ⟨i, hi, rfl, rfl, hB⟩ := hrel;have hNr := hOA.below hB (nl _)
         by_cases hlt : i < f.ops.length
         case neg =>
          have hie : i = f.ops.length := by omega
          subst hie;rw [List.take_length];have HX2 := Lib.hid (HY.out ▸ HX.out);go_wp2_with fail;go_ret2;rw [HX2.out];exact ⟨rfl, hA.trans (below_less hB hsz0)⟩
         case pos =>
          obtain ⟨x, hx⟩ : ∃ x, f.ops[i]? = some x := ⟨_, List.getElem?_eq_getElem hlt⟩
          have hxm := List.mem_of_getElem? hx;obtain ⟨b1, o1, av, sv, hbe, hDb, ⟨hxn, hxr⟩, hSa, hSs, pc0, pc1, pc2, pc3, pc4⟩ := hNr.at hx;subst hbe;obtain ⟨pa, ca, rfl, _⟩ := hSa.shape;obtain ⟨ps, cs, rfl, _⟩ := hSs.shape;have hE1 := (Below.refl _ wr).alloc (nl _) (.cells #[str x.name, .bool x.sig.iter, .slice pa x.sig.args.length ca, str x.sig.res, .slice ps x.sig.sigs.length cs] 50);have hB1 := hB.alloc hB.size (.cells #[str x.name, .bool x.sig.iter, .slice pa x.sig.args.length ca, str x.sig.res, .slice ps x.sig.sigs.length cs] 50);have bx1 := box5 (heap_alloc_new wr (.cells #[str x.name, .bool x.sig.iter, .slice pa x.sig.args.length ca, str x.sig.res, .slice ps x.sig.sigs.length cs] 50));have HL := line_any [111, 112] x.name _ x.sig _ ⟨_, _, rfl, hxr, hSa.below hE1 (nl _), hSs.below hE1 (nl _)⟩ (by simp) (hos x hxm).1 (hos x hxm).2;have hLl := line_le (wd := [111, 112]) (by simp) (hos x hxm).1 (hos x hxm).2;have HAB := Lib.hid (show (Y ++ (f.ops.take i).flatMap (lineT [111, 112])) ++ lineT [111, 112] ⟨x.name, x.sig⟩ = Y ++ (f.ops.take (i + 1)).flatMap (lineT [111, 112]) by rw [List.take_add_one, hx, Option.toList_some, List.flatMap_append, List.append_assoc]; simp);have hTl : (Y ++ (f.ops.take i).flatMap (lineT [111, 112])).length ≤ 100000 := by
           have h2 := lines_le (wd := [111, 112]) (by simp) (f.ops.take i) (fun o ho => hos o (List.mem_of_mem_take ho));rw [List.length_take] at h2;rw [List.length_append];have h3 := Nat.mul_le_mul_right 2000 (show min i f.ops.length ≤ 20 by omega);omega
          generalize (Y ++ (f.ops.take i).flatMap (lineT [111, 112])) = A at *;have hLl : (lineT [111, 112] ⟨x.name, x.sig⟩).length ≤ 2000 := hLl;generalize lineT [111, 112] ⟨x.name, x.sig⟩ = B at *;have gAB : ¬ 9223372036854775807 < A.length + B.length := by omega
          clear hx hNr hE1;go_wp2_with (go_at_call 107; refine HL.mono ?_; clear HL; rintro e w3 ⟨rfl, hb3⟩);exact ⟨⟨i + 1, hlt, by go_num, by rw [← HAB.out], hB1.trans (below_less hb3 hB1.size)⟩, by simp only [intOf]; omega⟩
       case pos =>
        obtain ⟨x, hx⟩ : ∃ x, f.needs[i]? = some x := ⟨_, List.getElem?_eq_getElem hlt⟩
        have hxm := List.mem_of_getElem? hx;obtain ⟨b1, o1, av, sv, hbe, hDb, ⟨hxn, hxr⟩, hSa, hSs, pc0, pc1, pc2, pc3, pc4⟩ := hNr.at hx;subst hbe;obtain ⟨pa, ca, rfl, _⟩ := hSa.shape;obtain ⟨ps, cs, rfl, _⟩ := hSs.shape;have hE1 := (Below.refl _ wr).alloc (nl _) (.cells #[str x.name, .bool x.sig.iter, .slice pa x.sig.args.length ca, str x.sig.res, .slice ps x.sig.sigs.length cs] 79);have hB1 := hB.alloc hB.size (.cells #[str x.name, .bool x.sig.iter, .slice pa x.sig.args.length ca, str x.sig.res, .slice ps x.sig.sigs.length cs] 79);have bx1 := box5 (heap_alloc_new wr (.cells #[str x.name, .bool x.sig.iter, .slice pa x.sig.args.length ca, str x.sig.res, .slice ps x.sig.sigs.length cs] 79));have HL := line_any [104, 97, 115] x.name _ x.sig _ ⟨_, _, rfl, hxr, hSa.below hE1 (nl _), hSs.below hE1 (nl _)⟩ (by simp) (hns x hxm).1 (hns x hxm).2;have hLl := line_le (wd := [104, 97, 115]) (by simp) (hns x hxm).1 (hns x hxm).2;have HAB := Lib.hid (show (X ++ (f.needs.take i).flatMap (lineT [104, 97, 115])) ++ lineT [104, 97, 115] ⟨x.name, x.sig⟩ = X ++ (f.needs.take (i + 1)).flatMap (lineT [104, 97, 115]) by rw [List.take_add_one, hx, Option.toList_some, List.flatMap_append, List.append_assoc]; simp);have hTl : (X ++ (f.needs.take i).flatMap (lineT [104, 97, 115])).length ≤ 100000 := by
         have h2 := lines_le (wd := [104, 97, 115]) (by simp) (f.needs.take i) (fun o ho => hns o (List.mem_of_mem_take ho));rw [List.length_take] at h2;rw [List.length_append];have h3 := Nat.mul_le_mul_right 2000 (show min i f.needs.length ≤ 20 by omega);omega
        generalize (X ++ (f.needs.take i).flatMap (lineT [104, 97, 115])) = A at *;have hLl : (lineT [104, 97, 115] ⟨x.name, x.sig⟩).length ≤ 2000 := hLl;generalize lineT [104, 97, 115] ⟨x.name, x.sig⟩ = B at *;have gAB : ¬ 9223372036854775807 < A.length + B.length := by omega
        clear hx hNr hE1;go_wp2_with (go_at_call 107; refine HL.mono ?_; clear HL; rintro e w3 ⟨rfl, hb3⟩);exact ⟨⟨i + 1, hlt, by go_num, by rw [← HAB.out], hB1.trans (below_less hb3 hB1.size)⟩, by simp only [intOf]; omega⟩
end Go.Proofs.YtakgjcfkdemipaaGreatDoor
