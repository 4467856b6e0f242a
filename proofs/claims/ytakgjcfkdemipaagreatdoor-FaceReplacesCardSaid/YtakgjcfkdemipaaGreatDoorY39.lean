/-
  Contract: of the law: shown: the chapter's examples hold. Condition: the variable strings.asciiSpace.
  A library with one face replaced by one that extends it (plain): what was good is good, and has at least the operations that it had. No condition.
  The law FaceFits answers true. Condition: the variable strings.asciiSpace.
  The law FaceReplaces answers true. Condition: the variable strings.asciiSpace.
-/
import Derived.Deep.CutRange
import Derived.Test.YtakgjcfkdemipaaGreatDoorYn
import Derived.Test.YtakgjcfkdemipaaGreatDoorY0
import Derived.Test.YtakgjcfkdemipaaGreatDoorY1
import Derived.Test.YtakgjcfkdemipaaGreatDoorY2
import Derived.Test.YtakgjcfkdemipaaGreatDoorY5
import Derived.Test.YtakgjcfkdemipaaGreatDoorY7
import Derived.Test.YtakgjcfkdemipaaGreatDoorY16
import Derived.Test.YtakgjcfkdemipaaGreatDoorY18
import Derived.Test.YtakgjcfkdemipaaGreatDoorY21
import Derived.Test.YtakgjcfkdemipaaGreatDoorY22
import Derived.Test.YtakgjcfkdemipaaGreatDoorY33
import Derived.Test.YtakgjcfkdemipaaGreatDoorY36
import Derived.Test.YtakgjcfkdemipaaGreatDoorY37
import Derived.Test.YtakgjcfkdemipaaGreatDoorY38
namespace Go.Proofs.YtakgjcfkdemipaaGreatDoor
open Go Go.RowKit
section
variable {D : Nat → Prop} {ops : Array Oper} {h : Nat} {V : List VS} {E : List (Nat × VS)} {S : World → Prop} {k : Nat} {o : Oper}
theorem stFS2 {t : TypeId} {x y : Operand} {u v : Value} {f g : FaceP} (ho : o.op = .buildSlice t 2 #[(0, x), (1, y)]) (ht : t = 22) (hw : wantV ops h V o = some true) (hk : V[k]? = some (.faces [f, g])) (hx : specOf ops h V E o x = some (.eq u)) (hy : specOf ops h V E o y = some (.eq v))
 (hu : ∀ w, S w → ∃ n q, u = .agg #[str f.name, .int .u8 f.kind, .bool f.par, n, q] ∧ OpsM Any w n f.needs ∧ OpsM Any w q f.ops) (hv : ∀ w, S w → ∃ n q, v = .agg #[str g.name, .int .u8 g.kind, .bool g.par, n, q] ∧ OpsM Any w n g.needs ∧ OpsM Any w q g.ops) (hl : f.name.length ≤ maxLen) (hl2 : g.name.length ≤ maxLen) : StepAt Any Tryz.prog S ops h V E k o :=
 stOf [(x, .eq u), (y, .eq v)] hw hk (by simp [hx, hy]) fun a w Q hS hi next hn => by
  have h1 : a.eval x = u := hi (x, .eq u) (by simp);have h2 : a.eval y = v := hi (y, .eq v) (by simp);obtain ⟨n, q, rfl, hn1, hn2⟩ := hu w hS;obtain ⟨n2, q2, rfl, hn3, hn4⟩ := hv w hS;subst ht;unfold Oper.wp;have hrun : ∀ ev : Operand → Value, ev x = .agg #[str f.name, .int .u8 f.kind, .bool f.par, n, q] → ev y = .agg #[str g.name, .int .u8 g.kind, .bool g.par, n2, q2] → (execOp ev o).run Tryz.prog w = .ok (.value (.slice (some ⟨w.heap.size, 0, none⟩) 2 2)) (w.alloc (.cells #[str f.name, .int .u8 f.kind, .bool f.par, n, q, str g.name, .int .u8 g.kind, .bool g.par, n2, q2] 58)) := fun ev h1 h2 => by
   unfold execOp;simp [ho, h1, h2, go_sem]
  rw [hrun _ h1 h2];exact hn _ _ (faces_at (D := Any) w _ rfl trivial (l := [f, g]) 58 (by simp [maxLen]) ⟨_, _, _, rfl, hl, hn1, hn2, _, _, [], rfl, hl2, hn3, hn4, rfl⟩) ((Below.refl _ w).alloc (nl _) _)
theorem stExt {x : Operand} {cs : Array Value} {r : Value} {i : Nat} (ho : o.op = .extract x i) (hw : wantV ops h V o = some true) (hk : V[k]? = some (.eq r)) (hx : specOf ops h V E o x = some (.eq (.tuple cs))) (hr : cs[i]? = some r := by rfl) : StepAt D Tryz.prog S ops h V E k o :=
 stP1 x hw hk hx fun ev w hS h1 => by unfold execOp; simp [ho, h1, hr, go_sem]
end
theorem FacesM.any {D : Nat → Prop} {w : World} {v : Value} {l : List FaceP} (h : FacesM D w v l) : FacesM Any w v l := by
 obtain ⟨p, c, h1, h2, h3, hl, h4⟩ := h
 refine ⟨p, c, h1, h2, h3, hl, ?_⟩
 rcases h4 with h4 | ⟨b, o, e1, h5, h6, h7⟩
 · exact .inl h4
 · refine .inr ⟨b, o, e1, trivial, h6, fun j hj => ?_⟩
   obtain ⟨a, s, k1, k2, k3⟩ := h7 j hj;exact ⟨a, s, k1.mono (fun _ _ => trivial), k2.mono (fun _ _ => trivial), k3⟩
set_option maxRecDepth 8000 in
set_option maxHeartbeats 25600000 in
theorem shown_any (w : World) (ht : Tab w) : Calls Tryz.prog 18 #[] w fun e w' => e = .returned (.bool true) ∧ Below w.heap.size w w' := by
 go_enter Tryz.func18, Tryz.ntmps18
 go_upto_region 2 with (go_at_call 56; refine (library_any _).mono ?_; rintro e w1 ⟨g, rfl, hL, hb1⟩)
 have hL := hL.any
 have hn : ∀ f ∈ libK, f.needs.length ≤ 100000 := by simp [libK, setF, sortF]
 have HT := Lib.hid (fun W (hW : Below w1.heap.size w1 W) => (ht.below hb1 (nl _)).below hW (nl _))
 have HL := Lib.hid (fun W (hW : Below w1.heap.size w1 W) => hL.below hW (nl _))
 obtain ⟨b0, o0, nv0, ov0, e0, _, _, hN0, hO0, c0, c1, c2, c3, c4⟩ := hL.at (k := 0) (x := setF) rfl
 obtain ⟨b1, o1, nv1, ov1, e1, _, _, hN1, hO1, c5, c6, c7, c8, c9⟩ := hL.at (k := 1) (x := sortF) rfl
 simp only [Option.some.injEq, Addr.mk.injEq, and_true] at e0 e1
 obtain ⟨rfl, rfl⟩ := e0
 obtain ⟨rfl, rfl⟩ := e1
 simp only [Nat.zero_mul, Nat.one_mul, Nat.zero_add, Nat.reduceAdd] at c0 c1 c2 c3 c4 c5 c6 c7 c8 c9
 have HK := Lib.hid (fun W (hW : Below w1.heap.size w1 W) => (⟨Below.keep hW c0, Below.keep hW c1, Below.keep hW c2, Below.keep hW c3, Below.keep hW c4, Below.keep hW c5, Below.keep hW c6, Below.keep hW c7, Below.keep hW c8, Below.keep hW c9⟩ : W.cell? ⟨g, 0, none⟩ = some (str setF.name) ∧ W.cell? ⟨g, 1, none⟩ = some (.int .u8 3) ∧ W.cell? ⟨g, 2, none⟩ = some (.bool true) ∧ W.cell? ⟨g, 3, none⟩ = some nv0 ∧ W.cell? ⟨g, 4, none⟩ = some ov0 ∧ W.cell? ⟨g, 5, none⟩ = some (str sortF.name) ∧ W.cell? ⟨g, 6, none⟩ = some (.int .u8 1) ∧ W.cell? ⟨g, 7, none⟩ = some (.bool true) ∧ W.cell? ⟨g, 8, none⟩ = some nv1 ∧ W.cell? ⟨g, 9, none⟩ = some ov1))
 have HN := Lib.hid (fun W (hW : Below w1.heap.size w1 W) => (⟨(hN0.mono (fun _ _ => trivial)).below hW (nl _), (hO0.mono (fun _ _ => trivial)).below hW (nl _), (hN1.mono (fun _ _ => trivial)).below hW (nl _), (hO1.mono (fun _ _ => trivial)).below hW (nl _)⟩ : OpsM Any W nv0 setF.needs ∧ OpsM Any W ov0 setF.ops ∧ OpsM Any W nv1 sortF.needs ∧ OpsM Any W ov1 sortF.ops))
 have HA := fun W (hW : Below w1.heap.size w1 W) => all_any libK _ W (HT.out W hW) (HL.out W hW) hn
 rw [sh_all] at HA
 have HA2 := fun v W (hT : Tab W) (hv : FacesM Any W v [sortF, setF]) => all_any [sortF, setF] v W hT hv (by simp [setF, sortF])
 rw [sh_back] at HA2
 have HO1 := fun W (hW : Below w1.heap.size w1 W) => opOf_any libK _ [] (.slice none 0 0) [115, 101, 116, 91, 105, 110, 116, 93] [104, 111, 108, 100, 115] W (HT.out W hW) (HL.out W hW) (OpsM.nil Any _ none 0) hn (by simp) (by simp [maxLen])
 rw [sh_holds] at HO1
 have HO2 := fun W (hW : Below w1.heap.size w1 W) => opOf_any libK _ [] (.slice none 0 0) [115, 101, 116, 91, 105, 110, 116, 93] [97, 100, 100] W (HT.out W hW) (HL.out W hW) (OpsM.nil Any _ none 0) hn (by simp) (by simp [maxLen])
 rw [sh_add] at HO2
 have HO3 := fun W (hW : Below w1.heap.size w1 W) => opsOf_any libK _ [] (.slice none 0 0) [97, 114, 114, 97, 121, 91, 105, 110, 116, 93] W (HT.out W hW) (HL.out W hW) (OpsM.nil Any _ none 0) hn (by simp) (by simp [maxLen])
 obtain ⟨p1, p2, p3⟩ := sh_ops
 rw [p1] at HO3
 have HS1 := fun W (hW : Below w1.heap.size w1 W) => sigOf_any libK _ [] (.slice none 0 0) [115, 111, 114, 116] [98, 111, 111, 108] W (HT.out W hW) (HL.out W hW) (OpsM.nil Any _ none 0) hn (by simp) (by simp [maxLen]) (by simp [maxLen])
 rw [sh_sig] at HS1
 have HF := fun W (hW : Below w1.heap.size w1 W) => fitsL_any libK _ [] (.slice none 0 0) sortF.needs nv1 [98, 111, 111, 108] W (HT.out W hW) (HL.out W hW) (OpsM.nil Any _ none 0) (HN.out W hW).2.2.1 hn (by simp) (by simp [sortF]) (by simp [maxLen])
 rw [sh_fits] at HF
 have HU := fun W (hW : Below w1.heap.size w1 W) => uses_any _ setF W (HT.out W hW) ⟨nv0, ov0, rfl, by simp [setF, maxLen], (HN.out W hW).1, (HN.out W hW).2.1⟩ (by simp [setF])
 rw [sh_uses] at HU
 have HW := fun W (hW : Below w1.heap.size w1 W) => write_any _ sortF W (HT.out W hW) ⟨nv1, ov1, rfl, by simp [sortF, maxLen], (HN.out W hW).2.2.1, (HN.out W hW).2.2.2⟩ (by simp [sortF])
 rw [sh_text] at HW
 have HG1 := fun W (hW : Below w1.heap.size w1 W) => goodL_any libK _ [] (.slice none 0 0) false [115, 101, 116, 91, 115, 101, 116, 91, 105, 110, 116, 93, 93] W (HT.out W hW) (HL.out W hW) (OpsM.nil Any _ none 0) hn (by simp) (by simp [maxLen])
 rw [sh_bad] at HG1
 have HG2 := fun W (hW : Below w1.heap.size w1 W) => goodL_any libK _ setF.needs nv0 true tS W (HT.out W hW) (HL.out W hW) (HN.out W hW).1 hn (by simp [setF]) (by simp [tS, maxLen])
 rw [sh_good] at HG2
 generalize (opOfK libK [] [115, 101, 116, 91, 105, 110, 116, 93] [97, 100, 100]).1 = X2 at *
 generalize (opsOfK libK [] [97, 114, 114, 97, 121, 91, 105, 110, 116, 93]).1 = OL at *
 generalize (sigOfK libK [] [115, 111, 114, 116] [98, 111, 111, 108]).1 = X3 at *
 obtain ⟨x2, hx2, hx2n⟩ : ∃ x, OL[2]? = some x ∧ x.name = [102, 101, 116, 99, 104] := by simpa [Option.map_eq_some_iff] using p3
 have hp2 := Lib.hid p2
 have hb0 := hb1
 clear hL hN0 hO0 hN1 hO1 c0 c1 c2 c3 c4 c5 c6 c7 c8 c9 p1 p2 p3 hn ht
 have B1 : Below w1.heap.size w1 w1 := Below.refl _ _
 go_upto_region 3 with (go_at_call 40; refine (HA _ B1).mono ?_; clear HA; rintro e w2 ⟨rfl, hb2⟩)
 have B2 := B1.trans (below_less hb2 (nl _))
 obtain ⟨k0, k1, k2, k3, k4, k5, k6, k7, k8, k9⟩ := HK.out w2.drew B2.drew
 obtain ⟨hm0, hm1, hm2, hm3⟩ := HN.out w2.drew B2.drew
 have hmt := HT.out w2.drew B2.drew
 refine wp_region_spec (D := Any) (w := w2) 12 [(1, .eq (.slice (some ⟨g, 0, none⟩) 2 2))] [(.eq (.slice (some ⟨g, 0, none⟩) 2 2)), (.eq (.pointer (some ⟨g, 1 * 5, none⟩))), (.eq (.agg #[str sortF.name, .int .u8 1, .bool true, nv1, ov1])), (.eq (.slice (some ⟨g, 0, none⟩) 2 2)), (.eq (.pointer (some ⟨g, 0, none⟩))), (.eq (.agg #[str setF.name, .int .u8 3, .bool true, nv0, ov0])), (.faces [sortF, setF]), (.eq (.tuple #[.int .i64 1, .int .i64 6])), (.eq (.tuple #[.int .i64 1, .int .i64 6])), (.eq (.int .i64 1)), (.eq (.int .i64 6)), (.eq (.int .i64 1)), (.eq (.int .i64 6))] (fun w' => CellsAt [(⟨g, 0, none⟩, str setF.name), (⟨g, 1, none⟩, .int .u8 3), (⟨g, 2, none⟩, .bool true), (⟨g, 3, none⟩, nv0), (⟨g, 4, none⟩, ov0), (⟨g, 5, none⟩, str sortF.name), (⟨g, 6, none⟩, .int .u8 1), (⟨g, 7, none⟩, .bool true), (⟨g, 8, none⟩, nv1), (⟨g, 9, none⟩, ov1)] w' ∧ OpsM Any w' nv0 setF.needs ∧ OpsM Any w' ov0 setF.ops ∧ OpsM Any w' nv1 sortF.needs ∧ OpsM Any w' ov1 sortF.ops ∧ Tab w') (by kernel_rfl) (by kernel_rfl) (by kernel_rfl) (by kernel_rfl) (by kernel_rfl) (fun _ _ h hb => ⟨h.1.below hb, ⟨h.2.1.below hb (nl _), h.2.2.1.below hb (nl _), h.2.2.2.1.below hb (nl _), h.2.2.2.2.1.below hb (nl _), h.2.2.2.2.2.below hb (nl _)⟩⟩) ⟨(fun p hp => by simp only [List.mem_cons, List.not_mem_nil, or_false] at hp; rcases hp with rfl | rfl | rfl | rfl | rfl | rfl | rfl | rfl | rfl | rfl <;> assumption), hm0, hm1, hm2, hm3, hmt⟩ ?_ ?_ ?_
 · intro p hp
   simp only [List.mem_cons, List.not_mem_nil, or_false] at hp;rcases hp with rfl
   · exact rfl
 · iterate 13
    refine And.intro ?_ ?_
    · first
      | exact stSkip (by kernel_rfl) rfl
      | exact stA (.inl rfl) (by kernel_rfl) rfl (by kernel_rfl)
      | exact stA (.inr rfl) (by kernel_rfl) rfl (by kernel_rfl)
      | exact stPick rfl (by kernel_rfl) rfl rfl (by kernel_rfl)
      | exact stNot rfl (by kernel_rfl) rfl rfl rfl
      | exact stLen rfl (by kernel_rfl) (by kernel_rfl) rfl rfl
      | exact stFA rfl (by kernel_rfl) rfl rfl (fun w => by simp [go_sem])
      | exact stIA rfl (by kernel_rfl) rfl rfl rfl (fun w => by simp [go_sem])
      | exact stLd rfl (by kernel_rfl) rfl rfl (fun w hS => by simp [go_sem, (hS.1.get 0 rfl), (hS.1.get 1 rfl), (hS.1.get 2 rfl), (hS.1.get 3 rfl), (hS.1.get 4 rfl), (hS.1.get 5 rfl), (hS.1.get 6 rfl), (hS.1.get 7 rfl), (hS.1.get 8 rfl), (hS.1.get 9 rfl)])
      | exact stFS2 (f := sortF) (g := setF) rfl rfl (by kernel_rfl) rfl rfl rfl (fun w hS => ⟨nv1, ov1, rfl, hS.2.2.2.1, hS.2.2.2.2.1⟩) (fun w hS => ⟨nv0, ov0, rfl, hS.2.1, hS.2.2.1⟩) (by simp [sortF, maxLen]) (by simp [setF, maxLen])
      | exact stCall1 (s1 := .faces [sortF, setF]) rfl (enters_of Tryz.func40 (by kernel_rfl) rfl) (by kernel_rfl) rfl rfl (fun v wx hS h1 => (HA2 v wx hS.2.2.2.2.2 h1).mono (by rintro e w' ⟨rfl, hb⟩; exact ⟨_, rfl, rfl, hb⟩))
      | exact stExt rfl (by kernel_rfl) rfl rfl
      | exact stBin rfl (by kernel_rfl) rfl rfl rfl (fun w => by simp [go_sem])
   exact trivial
 · intro aE vE w3 hSE hbE haE hfE hvE
   obtain rfl : vE = .int .i64 6 := hvE _ rfl;have h4 : aE.tmps.getD 4 undef = .int .i64 1 := hfE 11 _ _ (by decide) rfl rfl;have B3 := B2.trans (below_less hbE B2.size);clear k0 k1 k2 k3 k4 k5 k6 k7 k8 k9 hm0 hm1 hm2 hm3 hmt hSE hfE hvE;rw [haE];clear haE;simp only [List.take_succ_cons, List.take_zero, putsOf, pz, pw, h4];clear h4;go_upto_region 13 with (first
    | (go_at_call 23; refine (HO1 _ B3).mono ?_; clear HO1; rintro e w4 ⟨u4, rfl, hS4, hb4⟩; have g4 := hS4.mono (D' := Any) (fun _ _ => trivial); obtain ⟨a4, s4, rfl, _, hSa4, hSs4⟩ := hS4; obtain ⟨pa, ca, rfl, _⟩ := hSa4.shape; obtain ⟨ps, cs, rfl, _⟩ := hSs4.shape; have B4 := (B3.trans (below_less hb4 B3.size)).alloc (B3.trans (below_less hb4 B3.size)).size (.cells #[.bool false, .slice pa 2 ca, str tB, .slice ps 0 cs] 36); have f4 := heap_alloc_new w4 (.cells #[.bool false, .slice pa 2 ca, str tB, .slice ps 0 cs] 36); have g4 := g4.below ((Below.refl _ w4).alloc (nl _) (.cells #[.bool false, .slice pa 2 ca, str tB, .slice ps 0 cs] 36)) (nl _))
    | (go_at_call 23; refine (HO2 _ B4).mono ?_; clear HO2; rintro e w5 ⟨u5, rfl, hS5, hb5⟩; obtain ⟨a5, s5, rfl, _, hSa5, hSs5⟩ := hS5; obtain ⟨pa5, ca5, rfl, _⟩ := hSa5.shape; obtain ⟨ps5, cs5, rfl, _⟩ := hSs5.shape; have B5 := (B4.trans (below_less hb5 B4.size)).alloc (B4.trans (below_less hb5 B4.size)).size (.cells #[.bool X2.iter, .slice pa5 X2.args.length ca5, str X2.res, .slice ps5 X2.sigs.length cs5] 36); have f5 := heap_up (.cells #[.bool X2.iter, .slice pa5 X2.args.length ca5, str X2.res, .slice ps5 X2.sigs.length cs5] 36) (kept_call f4 hb5); have g5 := (g4.below hb5 (nl _)).below ((Below.refl _ w5).alloc (nl _) (.cells #[.bool X2.iter, .slice pa5 X2.args.length ca5, str X2.res, .slice ps5 X2.sigs.length cs5] 36)) (nl _))
    | (go_at_call 21; refine (HO3 _ B5).mono ?_; clear HO3; rintro e w6 ⟨u6, rfl, hO6, hb6⟩; obtain ⟨p6, c6, hv6⟩ := hO6.shape; rw [hp2.out] at hv6; subst hv6; have m6 := hO6.opsM; have B6 := B5.trans (below_less hb6 B5.size); have f6 := kept_call f5 hb6; have g6 := g5.below hb6 (nl _))
    | (go_at_call 27; refine (HS1 _ B6).mono ?_; clear HS1; rintro e w7 ⟨u7, rfl, hS7, hb7⟩; obtain ⟨a7, s7, rfl, _, hSa7, hSs7⟩ := hS7; obtain ⟨pa7, ca7, rfl, _⟩ := hSa7.shape; obtain ⟨ps7, cs7, rfl, _⟩ := hSs7.shape; have B7 := (B6.trans (below_less hb7 B6.size)).alloc (B6.trans (below_less hb7 B6.size)).size (.cells #[.bool X3.iter, .slice pa7 X3.args.length ca7, str X3.res, .slice ps7 X3.sigs.length cs7] 36); have f7 := heap_up (.cells #[.bool X3.iter, .slice pa7 X3.args.length ca7, str X3.res, .slice ps7 X3.sigs.length cs7] 36) (kept_call f6 hb7); have g7 := (g6.below hb7 (nl _)).below ((Below.refl _ w7).alloc (nl _) (.cells #[.bool X3.iter, .slice pa7 X3.args.length ca7, str X3.res, .slice ps7 X3.sigs.length cs7] 36)) (nl _); have m7 := (m6.below hb7 (nl _)).below ((Below.refl _ w7).alloc (nl _) (.cells #[.bool X3.iter, .slice pa7 X3.args.length ca7, str X3.res, .slice ps7 X3.sigs.length cs7] 36)) (nl _); have kk7 := HK.out _ B7)
    | (go_at_call 29; refine (HF _ B7).mono ?_; clear HF; rintro e w8 ⟨rfl, hb8⟩; have B8 := B7.trans (below_less hb8 B7.size); have f8 := kept_call f7 hb8; have g8 := g7.below hb8 (nl _); have m8 := m7.below hb8 (nl _); have kk8 := HK.out _ B8)
    | (go_at_call 47; refine (HU _ B8).mono ?_; clear HU; rintro e w9 ⟨u9, rfl, q9, hb9⟩; obtain ⟨p9, c9, rfl, _⟩ := q9.shape; have B9 := B8.trans (below_less hb9 B8.size); have f9 := kept_call f8 hb9; have g9 := g8.below hb9 (nl _); have m9 := m8.below hb9 (nl _); have kk9 := HK.out _ B9)
    | (go_at_call 51; refine (HW _ B9).mono ?_; clear HW; rintro e w10 ⟨rfl, hb10⟩; have B10 := B9.trans (below_less hb10 B9.size); have f10 := kept_call f9 hb10; have g10 := g9.below hb10 (nl _); have m10 := m9.below hb10 (nl _); have q10 := q9.below hb10 (nl _)))
   obtain ⟨⟨j0, j1, j2, j3⟩, _⟩ := box4 f10;obtain ⟨b10, o10, _, _, e10, _, _, _, _, n0, _⟩ := m10.at hx2;rw [hx2n] at n0;subst e10;obtain ⟨b17, o17, e17, _, u0⟩ := q10.at (k := 0) rfl;subst e17;rw [Nat.add_zero] at u0;have hsg := g10.below (Below.refl _ w10).drew (nl _);have j0 := Below.keep (Below.refl _ w10).drew j0;have j1 := Below.keep (Below.refl _ w10).drew j1;have j2 := Below.keep (Below.refl _ w10).drew j2;have j3 := Below.keep (Below.refl _ w10).drew j3;have n0 := Below.keep (Below.refl _ w10).drew n0;have u0 := Below.keep (Below.refl _ w10).drew u0;have HPR := fun (v2 : Value) (wx : World) (h2 : SS Any wx v2 [[115, 101, 116, 91, 105, 110, 116, 93], [105, 110, 116]]) => show Calls Tryz.prog 57 #[str tB, v2] wx fun e w' => ∃ u, e = .returned u ∧ SigV Any w' u ⟨false, [[115, 101, 116, 91, 105, 110, 116, 93], [105, 110, 116]], tB, []⟩ ∧ Below wx.heap.size wx w' from by
    refine (proc_any tB v2 wx (by obtain ⟨p, c, h, _⟩ := h2.shape; exact ⟨_, _, _, h⟩)).mono ?_;rintro e w' ⟨rfl, hb⟩;exact ⟨_, rfl, ⟨_, _, rfl, by simp [tB, maxLen], h2.below hb (nl _), SS.nil _ _ _ _⟩, hb⟩
   have HSM := fun (v2 : Value) (wx : World) (h1 : SigV Any wx (.agg #[.bool false, .slice pa 2 ca, str tB, .slice ps 0 cs]) ⟨false, [[115, 101, 116, 91, 105, 110, 116, 93], [105, 110, 116]], tB, []⟩) (h2 : SigV Any wx v2 ⟨false, [[115, 101, 116, 91, 105, 110, 116, 93], [105, 110, 116]], tB, []⟩) => show Calls Tryz.prog 26 #[.agg #[.bool false, .slice pa 2 ca, str tB, .slice ps 0 cs], v2] wx fun e w' => ∃ u, e = .returned u ∧ u = .bool true ∧ Below wx.heap.size wx w' from by
    refine (rsig_any _ _ _ _ _ h1 h2).mono ?_;rintro e w' ⟨rfl, hb⟩;exact ⟨_, rfl, by rw [show sameK _ _ = true by decide], hb⟩
   clear f4 f5 f6 f7 f8 f9 f10 g4 g5 g6 g7 g8 g9 m6 m7 m8 m9 m10 q9 q10 kk7 kk8 kk9 hO6 hp2;generalize w4.heap.size = b6 at *;refine wp_region_spec (D := Any) 35 [(6, .eq (.pointer (some ⟨b6, 0, none⟩))), (10, .eq (.slice (some ⟨b10, o10, none⟩) 7 c6)), (14, .eq (str [108, 116])), (15, .eq (.bool false)), (17, .eq (.slice (some ⟨b17, o17, none⟩) 1 c9))] [(.eq (.agg #[.bool false, .slice pa 2 ca, str tB, .slice ps 0 cs])), (.ss [[115, 101, 116, 91, 105, 110, 116, 93], [105, 110, 116]]), (.sig ⟨false, [[115, 101, 116, 91, 105, 110, 116, 93], [105, 110, 116]], tB, []⟩), (.eq (.bool true)), (.eq (.bool true)), (.eq (.slice (some ⟨b10, o10, none⟩) 7 c6)), (.eq (.int .i64 7)), (.eq (.bool true)), (.eq (.bool true)), (.eq (.bool true)), (.eq (.slice (some ⟨b10, o10, none⟩) 7 c6)), (.eq (.pointer (some ⟨b10, o10 + 2 * 5, none⟩))), (.eq (.pointer (some ⟨b10, o10 + 2 * 5, none⟩))), (.eq (str [102, 101, 116, 99, 104])), (.eq (.bool true)), (.eq (.bool true)), (.eq (.bool true)), (.eq (str [108, 116])), (.eq (.bool true)), (.eq (.bool true)), (.eq (.bool true)), (.eq (.bool false)), (.eq (.bool true)), (.eq (.bool true)), (.eq (.bool true)), (.eq (.slice (some ⟨b17, o17, none⟩) 1 c9)), (.eq (.int .i64 1)), (.eq (.bool true)), (.eq (.bool true)), (.eq (.bool true)), (.eq (.slice (some ⟨b17, o17, none⟩) 1 c9)), (.eq (.pointer (some ⟨b17, o17, none⟩))), (.eq (str [115, 101, 116])), (.eq (.bool true)), (.eq (.bool true)), (.eq (.bool true))] (fun w' => CellsAt [(⟨b6, 0, none⟩, .bool false), (⟨b6, 1, none⟩, .slice pa 2 ca), (⟨b6, 2, none⟩, str tB), (⟨b6, 3, none⟩, .slice ps 0 cs), (⟨b10, o10 + 2 * 5, none⟩, str [102, 101, 116, 99, 104]), (⟨b17, o17, none⟩, str [115, 101, 116])] w' ∧ SigV Any w' (.agg #[.bool false, .slice pa 2 ca, str tB, .slice ps 0 cs]) ⟨false, [[115, 101, 116, 91, 105, 110, 116, 93], [105, 110, 116]], tB, []⟩) (by kernel_rfl) (by kernel_rfl) (by kernel_rfl) (by kernel_rfl) (by kernel_rfl) (fun _ _ h hb => ⟨h.1.below hb, SigV.below h.2 hb (nl _)⟩) ⟨(fun p hp => by simp only [List.mem_cons, List.not_mem_nil, or_false] at hp; rcases hp with rfl | rfl | rfl | rfl | rfl | rfl <;> assumption), hsg⟩ ?_ ?_ ?_
   · intro p hp
     simp only [List.mem_cons, List.not_mem_nil, or_false] at hp;rcases hp with rfl | rfl | rfl | rfl | rfl
     · exact rfl
     · exact rfl
     · exact rfl
     · exact rfl
     · exact rfl
   · iterate 36
      refine And.intro ?_ ?_
      · first
        | exact stSkip (by kernel_rfl) rfl
        | exact stA (.inl rfl) (by kernel_rfl) rfl (by kernel_rfl)
        | exact stA (.inr rfl) (by kernel_rfl) rfl (by kernel_rfl)
        | exact stPick rfl (by kernel_rfl) rfl rfl (by kernel_rfl)
        | exact stNot rfl (by kernel_rfl) rfl rfl rfl
        | exact stLen rfl (by kernel_rfl) (by kernel_rfl) rfl rfl
        | exact stFA rfl (by kernel_rfl) rfl rfl (fun w => by simp [go_sem])
        | exact stIA rfl (by kernel_rfl) rfl rfl rfl (fun w => by simp [go_sem])
        | exact stLd rfl (by kernel_rfl) rfl rfl (fun w hS => by simp [go_sem, (hS.1.get 0 rfl), (hS.1.get 1 rfl), (hS.1.get 2 rfl), (hS.1.get 3 rfl), (hS.1.get 4 rfl), (hS.1.get 5 rfl)])
        | exact stSS2 rfl rfl (by kernel_rfl) rfl rfl rfl (by simp [maxLen]) (by simp [maxLen]) (fun _ _ => trivial)
        | exact stCall2 (s1 := .eq (str tB)) (s2 := .ss [[115, 101, 116, 91, 105, 110, 116, 93], [105, 110, 116]]) rfl (enters_of Tryz.func57 (by kernel_rfl) rfl) (by kernel_rfl) rfl rfl rfl (fun v v2 wx hS h1 h2 => by rw [show v = str tB from h1]; exact HPR v2 wx h2)
        | exact stCall2 (s1 := .eq (.agg #[.bool false, .slice pa 2 ca, str tB, .slice ps 0 cs])) (s2 := .sig ⟨false, [[115, 101, 116, 91, 105, 110, 116, 93], [105, 110, 116]], tB, []⟩) rfl (enters_of Tryz.func26 (by kernel_rfl) rfl) (by kernel_rfl) rfl rfl rfl (fun v v2 wx hS h1 h2 => by rw [show v = .agg #[.bool false, .slice pa 2 ca, str tB, .slice ps 0 cs] from h1]; exact HSM v2 wx hS.2 h2)
        | exact stBin rfl (by kernel_rfl) rfl rfl rfl (fun w => by simp [go_sem])
     exact trivial
   · intro aE vE w11 hSE hbE haE hfE hvE
     obtain rfl : vE = .bool true := hvE _ rfl;have B11 := B10.trans (below_less hbE B10.size);have kk11 := HK.out _ B11;clear hSE hfE hvE j0 j1 j2 j3 n0 u0 hsg g10 HPR HSM;rw [haE];clear haE;simp only [List.take_succ_cons, List.take_zero, putsOf, pz, pw];go_wp2_with (first
      | (go_at_call 19; refine (HG1 _ B11).mono ?_; clear HG1; rintro e w12 ⟨rfl, hb12⟩; have B12 := B11.trans (below_less hb12 B11.size); have kk12 := HK.out _ B12)
      | (go_at_call 19; refine (HG2 _ B12).mono ?_; clear HG2; rintro e w13 ⟨rfl, hb13⟩; have B13 := B12.trans (below_less hb13 B12.size)))
     go_ret;exact ⟨rfl, hb0.trans (below_less B13 hb0.size)⟩
end Go.Proofs.YtakgjcfkdemipaaGreatDoor
namespace Go.Proofs.YtakgjcfkdemipaaGreatDoor
structure Over (L M : List FaceP) : Prop where
 face : ∀ n f, findK L n = some f → ∃ g, findK M n = some g ∧ extB f g = true ∧ OnceO g.ops
theorem rawK_same {L M : List FaceP} {needs : List OpP} {p q : Bool} {t : List UInt8} (hk : (checkK t).2.k ≠ 7) : rawK ⟨L, needs, p⟩ t = rawK ⟨M, needs, q⟩ t := by
 unfold rawK
 simp only
 split <;> first | rfl | (rename_i h; exact absurd h hk)
theorem rawK_seven (c : ScopeP) {t : List UInt8} (hk : (checkK t).2.k = 7) : rawK c t = (((findK c.faces (baseK t).1).map (·.ops)).getD [], (argK t).1) := by
 unfold rawK
 simp only [hk]
theorem opIn_over {L M : List FaceP} (ho : Over L M) {needs : List OpP} {p : Bool} {t n : List UInt8} (h : (opIn ⟨L, needs, p⟩ t n).2 = 0) : opIn ⟨M, needs, p⟩ t n = opIn ⟨L, needs, p⟩ t n := by
 by_cases hk : (checkK t).2.k = 7
 case neg =>
  unfold opIn;rw [rawK_same (L := L) (M := M) (q := p) hk]
 case pos =>
  unfold opIn at *;rw [rawK_seven _ hk] at h;rw [rawK_seven _ hk, rawK_seven _ hk];simp only at h ⊢;rcases hf : findK L (baseK t).1 with _ | f
  · rw [hf] at h
    exact absurd h (by simp)
  · obtain ⟨g, hg, he, hn⟩ := ho.face _ _ hf
    rw [hf] at h;rw [hg];simp only [Option.map_some, Option.getD_some] at h ⊢;rcases hx : f.ops.find? (fun o => decide (o.name = n)) with _ | x
    · rw [hx] at h
      exact absurd h (by simp)
    · have hxn : x.name = n := by have := List.find?_some hx; simpa using this
      have := once_find hn ((ext_iff.1 he).2.2.2.2 x (List.mem_of_find?_eq_some hx));rw [hxn] at this;rw [this, hx]
theorem lackK_over {L M : List FaceP} (ho : Over L M) {needs : List OpP} {p : Bool} {t : List UInt8} {n : OpP} (h : lackK ⟨L, needs, p⟩ t n = false) : lackK ⟨M, needs, p⟩ t n = false := by
 unfold lackK at *
 have h1 : (opIn ⟨L, needs, p⟩ t n.name).2 = 0 := by
  simp only [Bool.or_eq_false_iff, decide_eq_false_iff_not, ne_eq, Decidable.not_not] at h;exact h.1.1
 rw [opIn_over ho h1]
 exact h
theorem lacksK_none (c : ScopeP) (want : List OpP) (t : List UInt8) : (lacksK c want t).isSome = false ↔ ∀ n ∈ want, lackK c t n = false := by
 unfold lacksK
 rw [Option.isSome_map, ← Bool.not_eq_true, Option.isSome_iff_exists]
 constructor
 · intro h n hn
   rcases hq : lackK c t n with _ | _
   · rfl
   · rcases hf : want.find? (lackK c t) with _ | x
     · exact absurd hq (by simpa using List.find?_eq_none.1 hf n hn)
     · exact absurd ⟨x, hf⟩ h
 · rintro h ⟨x, hx⟩
   have h1 := h x (List.mem_of_find?_eq_some hx);rw [List.find?_some hx] at h1;cases h1
theorem firstE_all {α : Type} {f : α → Nat} : ∀ {l : List α}, firstE (l.map f) = 0 ↔ ∀ x ∈ l, f x = 0
 | [] => by simp [firstE]
 | x :: l => by
  rw [List.map_cons, firstE];split
  · rename_i h
    rw [firstE_all (l := l)];simp [h]
  · rename_i h
    simp [h]
theorem goodN_over {L M : List FaceP} (ho : Over L M) {needs : List OpP} {p : Bool} : ∀ (n : Nat) (t : List UInt8), goodN ⟨L, needs, p⟩ n t = 0 → goodN ⟨M, needs, p⟩ n t = 0
 | 0, _, _ => rfl
 | n + 1, t, h => by
  rw [goodN] at h ⊢;split at h
  · rename_i h1; exact absurd h h1
  rename_i h1
  rw [if_neg h1];split at h
  · cases h
  rename_i h2
  rw [if_neg h2];rw [firstE_all] at h ⊢;intro u hu;have hn := h u hu;unfold namedE at hn ⊢
  by_cases hk : (checkK u).2.k = 7
  case neg => rw [if_neg hk]
  rw [if_pos hk] at hn ⊢;simp only at hn ⊢;rcases hf : findK L (baseK u).1 with _ | f
  · rw [hf] at hn; cases hn
  rw [hf] at hn;obtain ⟨g, hg, he, _⟩ := ho.face _ _ hf;rw [hg];simp only at hn ⊢;obtain ⟨_, e2, e3, e4, _⟩ := ext_iff.1 he;rw [← e2, ← e3];split at hn
  case isFalse => cases hn
  rename_i h3
  rw [if_pos h3];split at hn
  · cases hn
  rename_i h4
  rw [if_neg];rintro ⟨h5, h6⟩;apply h4;refine ⟨h5, ?_⟩;rcases h6 with ⟨h6, h7⟩ | h6
  · left
    have hne : f.needs ≠ [] := fun e => by
     rcases hgn : g.needs with _ | ⟨x, r⟩
     · exact h6 hgn
     · have := e4 x (by rw [hgn]; simp)
       rw [e] at this;cases this
    exact ⟨hne, fun e => h7 (goodN_over ho n _ e)⟩
  · rcases hl : (lacksK ⟨L, needs, p⟩ f.needs (argK u).1).isSome with _ | _
    · rw [lacksK_none] at hl
      have : (lacksK ⟨M, needs, p⟩ g.needs (argK u).1).isSome = false := (lacksK_none _ _ _).2 fun n hn => lackK_over ho (hl n (e4 n hn))
      rw [this] at h6;cases h6
    · exact .inr rfl
theorem findK_set {n : List UInt8} {g : FaceP} : ∀ {L : List FaceP} {k : Nat} {f0 f : FaceP}, L[k]? = some f0 → f0.name = g.name → findK L n = some f → findK (L.set k g) n = some f ∨ (f = f0 ∧ findK (L.set k g) n = some g)
 | [], _, _, _, h, _, _ => by simp at h
 | x :: L, 0, f0, f, h, hn, hf => by
  obtain rfl : x = f0 := by simpa using h
  unfold findK at *;rw [List.set_cons_zero]
  by_cases hx : x.name = n
  · rw [List.find?_cons_of_pos (by simpa using hx)] at hf
    cases hf;exact .inr ⟨rfl, List.find?_cons_of_pos (by simpa using hn ▸ hx)⟩
  · rw [List.find?_cons_of_neg (by simpa using hx)] at hf
    left
    rw [List.find?_cons_of_neg (by simpa using fun e => hx (hn.trans e))];exact hf
 | x :: L, k + 1, f0, f, h, hn, hf => by
  have h' : L[k]? = some f0 := by simpa using h
  unfold findK at *;rw [List.set_cons_succ]
  by_cases hx : x.name = n
  · rw [List.find?_cons_of_pos (by simpa using hx)] at hf ⊢
    exact .inl hf
  · rw [List.find?_cons_of_neg (by simpa using hx)] at hf ⊢
    exact findK_set (n := n) h' hn hf
theorem over_set {L : List FaceP} {k : Nat} {f0 g : FaceP} (h0 : L[k]? = some f0) (he : extB f0 g = true) (hL : ∀ f ∈ L, faceK f = true) (hg : faceK g = true) : Over L (L.set k g) := by
 refine ⟨fun n f hf => ?_⟩
 have hfm : f ∈ L := List.mem_of_find?_eq_some hf
 rcases findK_set h0 (ext_iff.1 he).1 hf with h | ⟨rfl, h⟩
 · exact ⟨f, h, ext_self f, (faceK_parts (hL f hfm)).2.2.2.2.2.2.2.2.1⟩
 · exact ⟨g, h, he, (faceK_parts hg).2.2.2.2.2.2.2.2.1⟩
theorem putL_mem {a : List UInt8} : ∀ {l : List OpP}, (putL a l).2 = 0 → ∀ o ∈ (putL a l).1, ∃ x ∈ l, x.name = o.name ∧ putK x.sig a = (o.sig, 0)
 | [], _, o, h => by cases h
 | x :: l, h, o, ho => by
  unfold putL at h ho;split at h
  · rename_i h1
    rw [if_pos h1] at ho;split at h
    · rename_i h2
      rw [if_pos h2] at ho;rcases List.mem_cons.1 ho with rfl | ho
      · exact ⟨x, by simp, rfl, Prod.ext rfl h1⟩
      · obtain ⟨y, hy, e⟩ := putL_mem h2 o ho
        exact ⟨y, by simp [hy], e⟩
    · rename_i h2; exact absurd h h2
  · rename_i h1; exact absurd h h1
theorem replaced {L : List FaceP} {k : Nat} {f0 g : FaceP} {needs : List OpP} {t : List UInt8} (h0 : L[k]? = some f0) (he : (extK f0 g).1 = true) (ho : (opsOfK L needs t).2 = 0) (hm : (allK (L.set k g)).2 = 0) :
 ∀ o ∈ (opsOfK L needs t).1, opOfK (L.set k g) needs t o.name = (o.sig, 0) := by
 intro o hmem
 have hty : typedK L needs t = 0 := by
  unfold opsOfK at ho;split at ho
  · rename_i h1; exact absurd ho h1
  · rename_i h1; exact Decidable.not_not.1 h1
 rw [show opsOfK L needs t = opsIn ⟨L, needs, parK needs t⟩ t by unfold opsOfK; rw [if_neg (by rw [hty]; simp)]] at ho hmem
 have hak : askedK L needs = 0 ∧ goodK ⟨L, needs, parK needs t⟩ t = 0 := by
  unfold typedK at hty;split at hty
  · rename_i h1; exact absurd hty h1
  · rename_i h1; exact ⟨Decidable.not_not.1 h1, hty⟩
 obtain ⟨hL, hnd⟩ := asked_parts hak.1
 have heb : faceK g = true ∧ extB f0 g = true := by
  unfold extK at he;split at he
  · rename_i h1
    rw [Bool.and_eq_true] at h1;exact ⟨h1.2, he⟩
  · cases he
 have hov := over_set h0 heb.2 hL heb.1
 have hgood : goodK ⟨L.set k g, needs, parK needs t⟩ t = 0 := goodN_over hov 7 t hak.2
 have hask : askedK (L.set k g) needs = 0 := by unfold askedK; rw [if_neg (by rw [hm]; simp), if_pos hnd]
 have htm : typedK (L.set k g) needs t = 0 := by unfold typedK; rw [if_neg (by rw [hask]; simp)]; exact hgood
 unfold opOfK
 rw [if_neg (by rw [htm]; simp)]
 have hro := raw_once ⟨L, needs, parK needs t⟩ t hL hnd
 unfold opsIn at ho hmem
 split at ho
 · rename_i h1; exact absurd ho h1
 rename_i h1
 rw [if_neg h1] at hmem
 obtain ⟨x, hx, e1, e2⟩ := putL_mem (Decidable.not_not.1 h1) o ((sortO_perm _).mem_iff.1 hmem)
 have hop : opIn ⟨L, needs, parK needs t⟩ t o.name = (o.sig, 0) := by
  unfold opIn;rw [← e1, once_find hro hx];exact e2
 rw [opIn_over hov (by rw [hop]), hop]
end Go.Proofs.YtakgjcfkdemipaaGreatDoor
namespace Go.Proofs.YtakgjcfkdemipaaGreatDoor
open Go Go.RowKit
theorem few_needs2 {l : List FaceP} (h : fewS l = true) : ∀ f ∈ l, f.needs.length ≤ 100000 := fun f hf => by
 rw [fewS_eq, Bool.and_eq_true, List.all_eq_true] at h
 have h1 := h.1 f hf
 unfold faceS headS wantedS at h1
 simp only [Bool.and_eq_true, decide_eq_true_eq] at h1
 omega
theorem pick_index (i : Int) (n : Nat) (h0 : 0 < n) (h1 : n ≤ 100) : ∃ k : Nat, wrap64 ((IntKind.u64.wrap i).tmod n) = k ∧ k < n := by
 have hw : IntKind.u64.wrap i = i % 18446744073709551616 := by simp [IntKind.wrap, IntKind.bits, IntKind.signed]
 rw [hw]
 have hp : 0 ≤ i % 18446744073709551616 := Int.emod_nonneg _ (by decide)
 rw [Int.tmod_eq_emod_of_nonneg hp]
 have h2 : 0 ≤ (i % 18446744073709551616) % n := Int.emod_nonneg _ (by omega)
 have h3 : (i % 18446744073709551616) % n < n := Int.emod_lt_of_pos _ (by omega)
 refine ⟨((i % 18446744073709551616) % n).toNat, ?_, by omega⟩
 rw [Int.toNat_of_nonneg h2]
 generalize (i % 18446744073709551616) % n = r at h2 h3
 unfold wrap64
 omega
theorem few_len {l : List FaceP} (h : fewS l = true) : l.length ≤ 23 := by
 rw [fewS_eq, Bool.and_eq_true] at h
 have h1 := h.2
 unfold sizeS at h1
 simp only [Bool.or_eq_true, Bool.and_eq_true, decide_eq_true_eq] at h1
 omega
end Go.Proofs.YtakgjcfkdemipaaGreatDoor
namespace Go.Proofs.YtakgjcfkdemipaaGreatDoor
open Go Go.RowKit
set_option maxRecDepth 8000 in
set_option maxHeartbeats 25600000 in
theorem repllaw_any (l : List FaceP) (i : Int) (g : FaceP) (needs : List OpP) (t : List UInt8) (lv gv nv : Value) (w : World) (hT : Tab w) (hl : FacesM Any w lv l) (hg : FaceV Any w gv g) (hn : OpsM Any w nv needs) (htl : t.length ≤ maxLen) :
 Calls Tryz.prog 13 #[lv, .int .i64 i, gv, nv, str t] w fun e w' => e = .returned (.bool true) ∧ Below w.heap.size w w' := by
 obtain ⟨lp, lc, rfl, _, hlm, _⟩ := hl.shape
 obtain ⟨np, nc, rfl, _, hnm, _⟩ := hn.shape
 obtain ⟨gn, gk, gp, gN, gO⟩ := g
 obtain ⟨v1, v4, rfl, gl, g1, g4⟩ := hg
 dsimp only at gl g1 g4
 obtain ⟨p1, c1, rfl, _⟩ := g1.shape
 obtain ⟨p4, c4, rfl, _⟩ := g4.shape
 unfold maxLen at hlm hnm
 have hA := (Below.refl _ w).alloc (nl _) (.cells #[str gn, .int .u8 gk, .bool gp, .slice p1 gN.length c1, .slice p4 gO.length c4] 58)
 have k0 := heap_alloc_new w (.cells #[str gn, .int .u8 gk, .bool gp, .slice p1 gN.length c1, .slice p4 gO.length c4] 58)
 have HT := Lib.hid (fun W (hW : Below w.heap.size w W) => hT.below hW (nl _))
 have HS := fun W hW => shown_any W (HT.out W hW)
 have HF := fun W (hW : Below w.heap.size w W) => lfew_any l _ W (hl.below hW (nl _))
 have HN := fun W (hW : Below w.heap.size w W) => lwanted_any needs _ W (hn.below hW (nl _))
 have HG := fun W (hW : Below w.heap.size w W) => lfew_any [⟨gn, gk, gp, gN, gO⟩] (.slice (some ⟨W.heap.size, 0, none⟩) 1 1) (W.alloc (.cells #[str gn, .int .u8 gk, .bool gp, .slice p1 gN.length c1, .slice p4 gO.length c4] 58)) (faces_at (D := Any) W W.heap.size rfl trivial (l := [⟨gn, gk, gp, gN, gO⟩]) 58 (by simp [maxLen]) ⟨_, _, [], rfl, gl, g1.below hW (nl _), g4.below hW (nl _), rfl⟩)
 have HH := fun W => lshort_any [t] (.slice (some ⟨W.heap.size, 0, none⟩) 1 1) (W.alloc (.cells #[str t] 9)) (ss_at (D := Any) W W.heap.size rfl trivial [t] (by simp [maxLen]) (by simpa using htl) 9)
 have HK := Lib.hid (fun W' (hW : Below (w.alloc (.cells #[str gn, .int .u8 gk, .bool gp, .slice p1 gN.length c1, .slice p4 gO.length c4] 58)).heap.size (w.alloc (.cells #[str gn, .int .u8 gk, .bool gp, .slice p1 gN.length c1, .slice p4 gO.length c4] 58)) W') => box5 (kept_call k0 hW))
 have hR := Below.refl (w.alloc (.cells #[str gn, .int .u8 gk, .bool gp, .slice p1 gN.length c1, .slice p4 gO.length c4] 58)).heap.size (w.alloc (.cells #[str gn, .int .u8 gk, .bool gp, .slice p1 gN.length c1, .slice p4 gO.length c4] 58))
 have b0 := box5 k0
 rcases q1 : fewS l with _ | _
 · rw [q1] at HF
   clear HN HG HH q1 hl hn hlm hnm;go_enter Tryz.func13, Tryz.ntmps13;go_wp2_with (first
    | (go_at_call 18; refine (HS w1 (hA.trans (below_less B1 hA.size))).mono ?_; rintro e w9 ⟨rfl, hb9⟩)
    | (go_at_call 15; refine (HF _ hA).mono ?_; clear HF; rintro e w1 ⟨rfl, hb1⟩; have B1 := hR.trans hb1))
   go_ret;exact ⟨rfl, (hA.trans (below_less B1 hA.size)).trans (below_less hb9 (hA.trans (below_less B1 hA.size)).size)⟩
 rcases q2 : fewS [⟨gn, gk, gp, gN, gO⟩] with _ | _
 · rw [q1] at HF
   rw [q2] at HG;clear HN HH q1 q2 hl hn hlm hnm;go_enter Tryz.func13, Tryz.ntmps13;go_wp2_with (first
    | (go_at_call 18; refine (HS w2 (hA.trans (below_less B2 hA.size))).mono ?_; rintro e w9 ⟨rfl, hb9⟩)
    | (go_at_call 15; refine (HG w1 (hA.trans (below_less B1 hA.size))).mono ?_; clear HG; rintro e w2 ⟨rfl, hb2⟩; have B2 := (B1.alloc B1.size (.cells #[str gn, .int .u8 gk, .bool gp, .slice p1 gN.length c1, .slice p4 gO.length c4] 58)).trans (below_less hb2 (B1.alloc B1.size (.cells #[str gn, .int .u8 gk, .bool gp, .slice p1 gN.length c1, .slice p4 gO.length c4] 58)).size))
    | (go_at_call 15; refine (HF _ hA).mono ?_; clear HF; rintro e w1 ⟨rfl, hb1⟩; have B1 := hR.trans hb1; obtain ⟨kb1, _⟩ := HK.out w1 B1))
   go_ret;exact ⟨rfl, (hA.trans (below_less B2 hA.size)).trans (below_less hb9 (hA.trans (below_less B2 hA.size)).size)⟩
 rcases q3 : wantedS needs with _ | _
 · rw [q1] at HF
   rw [q2] at HG;rw [q3] at HN;clear HH q1 q2 q3 hl hn hlm hnm;go_enter Tryz.func13, Tryz.ntmps13;go_wp2_with (first
    | (go_at_call 18; refine (HS w3 (hA.trans (below_less B3 hA.size))).mono ?_; rintro e w9 ⟨rfl, hb9⟩)
    | (go_at_call 16; refine (HN w2 (hA.trans (below_less B2 hA.size))).mono ?_; clear HN; rintro e w3 ⟨rfl, hb3⟩; have B3 := B2.trans (below_less hb3 B2.size))
    | (go_at_call 15; refine (HG w1 (hA.trans (below_less B1 hA.size))).mono ?_; clear HG; rintro e w2 ⟨rfl, hb2⟩; have B2 := (B1.alloc B1.size (.cells #[str gn, .int .u8 gk, .bool gp, .slice p1 gN.length c1, .slice p4 gO.length c4] 58)).trans (below_less hb2 (B1.alloc B1.size (.cells #[str gn, .int .u8 gk, .bool gp, .slice p1 gN.length c1, .slice p4 gO.length c4] 58)).size))
    | (go_at_call 15; refine (HF _ hA).mono ?_; clear HF; rintro e w1 ⟨rfl, hb1⟩; have B1 := hR.trans hb1; obtain ⟨kb1, _⟩ := HK.out w1 B1))
   go_ret;exact ⟨rfl, (hA.trans (below_less B3 hA.size)).trans (below_less hb9 (hA.trans (below_less B3 hA.size)).size)⟩
 have hfn := few_needs2 q1
 have hgn := few_needs2 q2 ⟨gn, gk, gp, gN, gO⟩ (by simp)
 have hnl : needs.length ≤ 6 := by unfold wantedS at q3; simp only [Bool.and_eq_true, decide_eq_true_eq] at q3; exact q3.2
 have hll := few_len q1
 rw [q1] at HF
 rw [q2] at HG
 rw [q3] at HN
 clear q1 q2 q3
 rcases q4 : shortK [t] with _ | _
 · rw [q4] at HH
   clear q4 hl hn hlm hnm hfn hgn hnl hll;go_enter Tryz.func13, Tryz.ntmps13;go_wp2_with (first
    | (go_at_call 18; refine (HS w4 (hA.trans (below_less B4 hA.size))).mono ?_; rintro e w9 ⟨rfl, hb9⟩)
    | (go_at_call 17; refine (HH w3).mono ?_; clear HH; rintro e w4 ⟨rfl, hb4⟩; have B4 := (B3.alloc B3.size (.cells #[str t] 9)).trans (below_less hb4 (B3.alloc B3.size (.cells #[str t] 9)).size))
    | (go_at_call 16; refine (HN w2 (hA.trans (below_less B2 hA.size))).mono ?_; clear HN; rintro e w3 ⟨rfl, hb3⟩; have B3 := B2.trans (below_less hb3 B2.size))
    | (go_at_call 15; refine (HG w1 (hA.trans (below_less B1 hA.size))).mono ?_; clear HG; rintro e w2 ⟨rfl, hb2⟩; have B2 := (B1.alloc B1.size (.cells #[str gn, .int .u8 gk, .bool gp, .slice p1 gN.length c1, .slice p4 gO.length c4] 58)).trans (below_less hb2 (B1.alloc B1.size (.cells #[str gn, .int .u8 gk, .bool gp, .slice p1 gN.length c1, .slice p4 gO.length c4] 58)).size))
    | (go_at_call 15; refine (HF _ hA).mono ?_; clear HF; rintro e w1 ⟨rfl, hb1⟩; have B1 := hR.trans hb1; obtain ⟨kb1, _⟩ := HK.out w1 B1))
   go_ret;exact ⟨rfl, (hA.trans (below_less B4 hA.size)).trans (below_less hb9 (hA.trans (below_less B4 hA.size)).size)⟩
 rw [q4] at HH
 clear q4
 by_cases hl0 : l = []
 · have g0 : ((l.length : Int) == 0) = true := by rw [hl0]; rfl
   clear hl hn hlm hnm hfn hgn hnl hll hl0;go_enter Tryz.func13, Tryz.ntmps13;go_wp2_with (first
    | (go_at_call 18; refine (HS w4 (hA.trans (below_less B4 hA.size))).mono ?_; rintro e w9 ⟨rfl, hb9⟩)
    | (go_at_call 17; refine (HH w3).mono ?_; clear HH; rintro e w4 ⟨rfl, hb4⟩; have B4 := (B3.alloc B3.size (.cells #[str t] 9)).trans (below_less hb4 (B3.alloc B3.size (.cells #[str t] 9)).size))
    | (go_at_call 16; refine (HN w2 (hA.trans (below_less B2 hA.size))).mono ?_; clear HN; rintro e w3 ⟨rfl, hb3⟩; have B3 := B2.trans (below_less hb3 B2.size))
    | (go_at_call 15; refine (HG w1 (hA.trans (below_less B1 hA.size))).mono ?_; clear HG; rintro e w2 ⟨rfl, hb2⟩; have B2 := (B1.alloc B1.size (.cells #[str gn, .int .u8 gk, .bool gp, .slice p1 gN.length c1, .slice p4 gO.length c4] 58)).trans (below_less hb2 (B1.alloc B1.size (.cells #[str gn, .int .u8 gk, .bool gp, .slice p1 gN.length c1, .slice p4 gO.length c4] 58)).size))
    | (go_at_call 15; refine (HF _ hA).mono ?_; clear HF; rintro e w1 ⟨rfl, hb1⟩; have B1 := hR.trans hb1; obtain ⟨kb1, _⟩ := HK.out w1 B1))
   go_ret;exact ⟨rfl, (hA.trans (below_less B4 hA.size)).trans (below_less hb9 (hA.trans (below_less B4 hA.size)).size)⟩
 have hlp : 0 < l.length := List.length_pos_iff.2 hl0
 have g0 : ((l.length : Int) == 0) = false := by simpa using hl0
 go_enter Tryz.func13, Tryz.ntmps13
 go_upto_region 4 with (first
  | (go_at_call 17; refine (HH w3).mono ?_; clear HH; rintro e w4 ⟨rfl, hb4⟩; have B4 := (B3.alloc B3.size (.cells #[str t] 9)).trans (below_less hb4 (B3.alloc B3.size (.cells #[str t] 9)).size))
  | (go_at_call 16; refine (HN w2 (hA.trans (below_less B2 hA.size))).mono ?_; clear HN; rintro e w3 ⟨rfl, hb3⟩; have B3 := B2.trans (below_less hb3 B2.size))
  | (go_at_call 15; refine (HG w1 (hA.trans (below_less B1 hA.size))).mono ?_; clear HG; rintro e w2 ⟨rfl, hb2⟩; have B2 := (B1.alloc B1.size (.cells #[str gn, .int .u8 gk, .bool gp, .slice p1 gN.length c1, .slice p4 gO.length c4] 58)).trans (below_less hb2 (B1.alloc B1.size (.cells #[str gn, .int .u8 gk, .bool gp, .slice p1 gN.length c1, .slice p4 gO.length c4] 58)).size))
  | (go_at_call 15; refine (HF _ hA).mono ?_; clear HF; rintro e w1 ⟨rfl, hb1⟩; have B1 := hR.trans hb1; obtain ⟨kb1, _⟩ := HK.out w1 B1))
 obtain ⟨k, hk1, hk⟩ := pick_index i l.length hlp (by omega)
 rw [hk1]
 clear hk1 hb1 hb2 hb3 hb4 B1 B2 B3 kb1
 obtain ⟨f0, hf⟩ : ∃ f, l[k]? = some f := ⟨_, List.getElem?_eq_getElem hk⟩
 have B4w := hA.trans (below_less B4 hA.size)
 obtain ⟨bl, ol, nvf, ovf, hbe, _, hfl, hfN, hfO, d0, d1, d2, d3, d4⟩ := (hl.below B4w (nl _)).at hf
 subst hbe
 have F4 : FaceV Any w4 (.agg #[str f0.name, .int .u8 f0.kind, .bool f0.par, nvf, ovf]) f0 := ⟨nvf, ovf, rfl, hfl, hfN, hfO⟩
 have G4 : FaceV Any w4 (.agg #[str gn, .int .u8 gk, .bool gp, .slice p1 gN.length c1, .slice p4 gO.length c4]) ⟨gn, gk, gp, gN, gO⟩ := ⟨_, _, rfl, gl, g1.below B4w (nl _), g4.below B4w (nl _)⟩
 have T4 := HT.out w4 B4w
 obtain ⟨⟨e0, e1, e2, e3, e4⟩, _⟩ := HK.out w4 B4
 have HE := Lib.hid (fun W (hT : Tab W) (ha : FaceV Any W (.agg #[str f0.name, .int .u8 f0.kind, .bool f0.par, nvf, ovf]) f0) (hb : FaceV Any W (.agg #[str gn, .int .u8 gk, .bool gp, .slice p1 gN.length c1, .slice p4 gO.length c4]) ⟨gn, gk, gp, gN, gO⟩) => extends_any f0 ⟨gn, gk, gp, gN, gO⟩ _ _ W hT ha hb (hfn f0 (List.mem_of_getElem? hf)) hgn)
 have HR := fun (hext : (extK f0 ⟨gn, gk, gp, gN, gO⟩).1 = true) (ho : (opsOfK l needs t).2 = 0) (hm : (allK (l.set k ⟨gn, gk, gp, gN, gO⟩)).2 = 0) => replaced (L := l) (g := ⟨gn, gk, gp, gN, gO⟩) (needs := needs) (t := t) hf hext ho hm
 have HO := fun W (hW : Below w.heap.size w W) => opsOf_any l _ needs _ t W (HT.out W hW) (hl.below hW (nl _)) (hn.below hW (nl _)) hfn (by omega) htl
 rcases ho : opsOfK l needs t with ⟨L, fc⟩
 rw [ho] at HO HR
 rcases hx : extK f0 ⟨gn, gk, gp, gN, gO⟩ with ⟨is, e⟩
 rw [hx] at HE HR
 dsimp only at HE HR
 clear hx b0
 refine wp_reg (D := Any) (w := w4) 10 [(0, vL bl ol l.length lc), (7, vP w.heap.size 0), (11, vI k)] [vL bl ol l.length lc, vI k, vP bl (ol + k * 5), .eq (.agg #[str f0.name, .int .u8 f0.kind, .bool f0.par, nvf, ovf]), .eq (.agg #[str gn, .int .u8 gk, .bool gp, .slice p1 gN.length c1, .slice p4 gO.length c4]), .eq (.tuple #[.bool is, .int .i64 e]), .eq (.tuple #[.bool is, .int .i64 e]), .eq (.bool is), vI e, .eq (.bool is), vI e] (fun w' => CellsAt [(⟨bl, ol + k * 5, none⟩, str f0.name), (⟨bl, ol + k * 5 + 1, none⟩, .int .u8 f0.kind), (⟨bl, ol + k * 5 + 2, none⟩, .bool f0.par), (⟨bl, ol + k * 5 + 3, none⟩, nvf), (⟨bl, ol + k * 5 + 4, none⟩, ovf), (⟨w.heap.size, 0, none⟩, str gn), (⟨w.heap.size, 1, none⟩, .int .u8 gk), (⟨w.heap.size, 2, none⟩, .bool gp), (⟨w.heap.size, 3, none⟩, .slice p1 gN.length c1), (⟨w.heap.size, 4, none⟩, .slice p4 gO.length c4)] w' ∧ FaceV Any w' (.agg #[str f0.name, .int .u8 f0.kind, .bool f0.par, nvf, ovf]) f0 ∧ FaceV Any w' (.agg #[str gn, .int .u8 gk, .bool gp, .slice p1 gN.length c1, .slice p4 gO.length c4]) ⟨gn, gk, gp, gN, gO⟩ ∧ Tab w') (by kernel_rfl) rfl (fun _ _ h hb => ⟨h.1.below hb, FaceV.below h.2.1 hb (nl _), FaceV.below h.2.2.1 hb (nl _), h.2.2.2.below hb (nl _)⟩) ⟨(by (iterate 10 refine ccons (by exact Below.keep (Below.refl _ w4).drew (by assumption)) ?_); exact cnil), FaceV.below F4 (Below.refl _ w4).drew (nl _), FaceV.below G4 (Below.refl _ w4).drew (nl _), Tab.below T4 (Below.refl _ w4).drew (nl _)⟩ ⟨rfl, rfl, rfl, trivial⟩ ?_ ?_
 · iterate 11
    refine And.intro ?_ ?_
    · first
      | exact stSkip (by kernel_rfl) rfl
      | exact st0 rfl rfl (by kernel_rfl)
      | exact stLen rfl (by kernel_rfl) (by kernel_rfl) rfl rfl
      | exact stFA rfl (by kernel_rfl) rfl rfl (fun w => by simp [go_sem])
      | exact stIA rfl (by kernel_rfl) rfl rfl rfl (fun w => by simp [go_sem, hk])
      | exact stLd rfl (by kernel_rfl) rfl rfl (fun w hS => by simp [go_sem, (hS.1.get 0 rfl), (hS.1.get 1 rfl), (hS.1.get 2 rfl), (hS.1.get 3 rfl), (hS.1.get 4 rfl), (hS.1.get 5 rfl), (hS.1.get 6 rfl), (hS.1.get 7 rfl), (hS.1.get 8 rfl), (hS.1.get 9 rfl)])
      | exact stCall2 (s1 := .eq (.agg #[str f0.name, .int .u8 f0.kind, .bool f0.par, nvf, ovf])) (s2 := .eq (.agg #[str gn, .int .u8 gk, .bool gp, .slice p1 gN.length c1, .slice p4 gO.length c4])) rfl (enters_of Tryz.func45 (by kernel_rfl) rfl) (by kernel_rfl) rfl rfl rfl (fun v v2 wx hS h1 h2 => by rw [show v = .agg #[str f0.name, .int .u8 f0.kind, .bool f0.par, nvf, ovf] from h1, show v2 = .agg #[str gn, .int .u8 gk, .bool gp, .slice p1 gN.length c1, .slice p4 gO.length c4] from h2]; exact (HE.out wx hS.2.2.2 hS.2.1 hS.2.2.1).mono (by rintro e w' ⟨rfl, hb⟩; exact ⟨_, rfl, rfl, hb⟩))
      | exact stExt rfl (by kernel_rfl) rfl rfl
      | exact stBin rfl (by kernel_rfl) rfl rfl rfl (fun w => by simp [go_sem])
   exact trivial
 · intro aE w5 hSE hbE hfE
   have h12 : aE.tmps.getD 12 undef = .bool is := hfE 9 _ _ (by decide) rfl rfl;clear hSE hfE HE F4 G4 T4 d0 d1 d2 d3 d4 e0 e1 e2 e3 e4;simp only [pq, pz, pw, h12];clear h12;have R5 := B4.trans (below_less hbE B4.size);have B5 := hA.trans (below_less R5 hA.size);go_upto_region 6 with (go_at_call 21; refine (HO w5 B5).mono ?_; clear HO; rintro e9 w6 ⟨u6, rfl, hO6, hb6⟩; obtain ⟨p6, c6, rfl⟩ := hO6.shape; have R6 := R5.trans (below_less hb6 R5.size); have B6 := hA.trans (below_less R6 hA.size))
   by_cases he : e = 0
   case neg =>
    have g1 : ((e : Int) != 0) = true := by simpa using he
    clear HR he hO6;go_wp2_with (go_at_call 18; refine (HS w6 B6).mono ?_; rintro e9 w9 ⟨rfl, hb9⟩);go_ret;exact ⟨rfl, B6.trans (below_less hb9 B6.size)⟩
   subst he;rcases is with _ | _
   · clear HR hO6
     go_wp2_with (go_at_call 18; refine (HS w6 B6).mono ?_; rintro e9 w9 ⟨rfl, hb9⟩);go_ret;exact ⟨rfl, B6.trans (below_less hb9 B6.size)⟩
   by_cases hfc : fc = 0
   case neg =>
    have g1 : ((fc : Int) != 0) = true := by simpa using hfc
    clear HR hfc hO6;go_wp2_with (go_at_call 18; refine (HS w6 B6).mono ?_; rintro e9 w9 ⟨rfl, hb9⟩);go_ret;exact ⟨rfl, B6.trans (below_less hb9 B6.size)⟩
   subst hfc;have HR2 := Lib.hid (HR rfl rfl);clear HR;have m6 := hO6.opsM;obtain ⟨_, _, _, _, hLm, _⟩ := m6.shape;unfold maxLen at hLm;have hE6 : (w6.alloc (.cells #[] 58)).ownsRow w6.heap.size 58 5 (.slice (some ⟨w6.heap.size, 0, none⟩) 0 0) 0 [] := ⟨rfl, .inr ⟨w6.heap.size, 0, #[], rfl, nl _, heap_alloc_new w6 _, nl _, Nat.zero_le _, rfl, rfl⟩⟩;have hA6 := (Below.refl _ w6).alloc (nl _) (.cells #[] 58);have hl6 := hl.below B6 (nl _);go_upto_region 9 with (at_builtin; refine wpList_append_faces w6 (w6.alloc (.cells #[] 58)) rfl _ _ rfl w6.heap.size (.slice (some ⟨w6.heap.size, 0, none⟩) 0 0) rfl hE6 _ l rfl hl6 hl0 (nl _) hA6 (by omega) (by simp) ?_; intro g7 cap7 w7 hown7 hg7 hgr7);have hb7 := hA6.grown hgr7 (by simp) (fun q e => by cases e; exact nl _);have R7 := R6.trans (below_less hb7 R6.size);have B7 := hA.trans (below_less R7 hA.size);obtain ⟨kb7, _⟩ := HK.out w7 R7;obtain ⟨⟨u0, u1, u2, u3, u4, y0, y1, y2, y3, y4⟩, fz⟩ := hown7.at hk;have z0 := fz (k * 5);have z1 := fz (k * 5 + 1);have z2 := fz (k * 5 + 2);have z3 := fz (k * 5 + 3);have z4 := fz (k * 5 + 4);clear fz;go_upto_region 10 with fail;have hN7 : OpsM (fun b => b < w6.heap.size) w7 (.slice p1 gN.length c1) gN := ((g1.below B6 (nl _)).fresh.mono fun _ h => h.2).below hb7 (nl _);have hO7 : OpsM (fun b => b < w6.heap.size) w7 (.slice p4 gO.length c4) gO := ((g4.below B6 (nl _)).fresh.mono fun _ h => h.2).below hb7 (nl _);have hM := hown7.put hk (f := ⟨gn, gk, gp, gN, gO⟩) gl hN7 hO7;dsimp only at hM;have hb8 := Below.set5 hb7 (Nat.le_trans (nl _) hg7) (k * 5) (str gn) (.int .u8 gk) (.bool gp) (.slice p1 gN.length c1) (.slice p4 gO.length c4);have B8 := B6.trans (below_less hb8 B6.size);have hset : ∀ f ∈ l.set k ⟨gn, gk, gp, gN, gO⟩, f.needs.length ≤ 100000 := fun f hf => by
    rcases List.mem_or_eq_of_mem_set hf with hf | rfl
    · exact hfn f hf
    · exact hgn
   have HC := fun W hT hM => all_any (D := Any) (l.set k ⟨gn, gk, gp, gN, gO⟩) (.slice (some ⟨g7, 0, none⟩) l.length cap7) W hT hM hset
   clear kb7 y0 y1 y2 y3 y4 z0 z1 z2 z3 z4 hN7 hO7 hown7 hgr7
   change Code.wp _ _ _ _ (set5 w7 g7 (k * 5) (str gn) (.int .u8 gk) (.bool gp) (.slice p1 gN.length c1) (.slice p4 gO.length c4))
   have T8 := HT.out _ B8;generalize set5 w7 g7 (k * 5) (str gn) (.int .u8 gk) (.bool gp) (.slice p1 gN.length c1) (.slice p4 gO.length c4) = w8 at *;rcases hak : allK (l.set k ⟨gn, gk, gp, gN, gO⟩) with ⟨ia, ea⟩;rw [hak] at HC HR2;dsimp only at HC;go_upto_region 11 with (go_at_call 40; refine (HC w8 T8 hM).mono ?_; clear HC; rintro e9 w9 ⟨rfl, hb9⟩);have B9 := B8.trans (below_less hb9 B8.size)
   by_cases hea : ea = 0
   case neg =>
    have g1 : ((ea : Int) != 0) = true := by simpa using hea
    clear HR2 hea;go_wp2_with (go_at_call 18; refine (HS w9 B9).mono ?_; rintro e9 w10 ⟨rfl, hb10⟩);go_ret;exact ⟨rfl, B9.trans (below_less hb10 B9.size)⟩
   subst hea;rw [show ((0 : Nat) : Int) = 0 from rfl];have HR3 := Lib.hid (HR2.out rfl);clear HR2 hak;have M9 := hM.below hb9 (nl _);have N9 := hn.below B9 (nl _);have m9 := (m6.below hb8 (nl _)).below hb9 (nl _);have T9 := HT.out _ B9;have HOP := fun n W (hW : Below w9.heap.size w9 W) => opOf_any (D := Any) (l.set k ⟨gn, gk, gp, gN, gO⟩) (.slice (some ⟨g7, 0, none⟩) l.length cap7) needs _ t n W (T9.below hW (nl _)) (M9.below hW (nl _)) (N9.below hW (nl _)) hset (by omega) htl
   clear hM hn hl hl6 M9 N9 m6 T9 T8 HK k0 g1 g4 hA6 hE6 hO6 hb7 hb8;go_wp2_with fail;go_loopw [19] (fun y wr => ∃ a : Nat, a ≤ L.length ∧ y = .int .i64 a ∧ Below w9.heap.size w9 wr) (fun y _ => L.length - (intOf y).toNat)
   case atStart => exact ⟨0, Nat.zero_le _, by go_num, Below.refl _ _⟩
   case round =>
    obtain ⟨a, ha, rfl, hr⟩ := hrel;have Br := B9.trans (below_less hr B9.size)
    by_cases hlt : a < L.length
    case neg =>
     go_wp2_with (go_at_call 18; refine (HS wr Br).mono ?_; rintro e9 w10 ⟨rfl, hb10⟩);go_ret;exact ⟨rfl, Br.trans (below_less hb10 Br.size)⟩
    case pos =>
     obtain ⟨x, hx⟩ : ∃ x, L[a]? = some x := ⟨_, List.getElem?_eq_getElem hlt⟩
     have HX := HOP x.name wr hr;rw [HR3.out x (List.mem_of_getElem? hx)] at HX;obtain ⟨bo, oo, av, sv, hbe, _, hxl, hSa, hSs, pc0, pc1, pc2, pc3, pc4⟩ := (m9.below hr (nl _)).at hx;subst hbe;clear hx;go_upto_region 17 with (go_at_call 23; refine HX.mono ?_; clear HX; rintro e9 wu ⟨u, rfl, ⟨au, su, rfl, hul, hUa, hUs⟩, hbu⟩; obtain ⟨pu, cu, rfl, _⟩ := hUa.shape; obtain ⟨qu, du, rfl, _⟩ := hUs.shape);have hEy := hbu.alloc hbu.size (.cells #[.bool x.sig.iter, .slice pu x.sig.args.length cu, .string ⟨x.sig.res.toArray⟩, .slice qu x.sig.sigs.length du] 36);have fU := heap_alloc_new wu (.cells #[.bool x.sig.iter, .slice pu x.sig.args.length cu, .string ⟨x.sig.res.toArray⟩, .slice qu x.sig.sigs.length du] 36);have hSx : SigV Any (wu.alloc (.cells #[.bool x.sig.iter, .slice pu x.sig.args.length cu, .string ⟨x.sig.res.toArray⟩, .slice qu x.sig.sigs.length du] 36)) (.agg #[.bool x.sig.iter, av, str x.sig.res, sv]) x.sig := ⟨av, sv, rfl, hxl.2, (hSa.below hEy (nl _)).mono (fun _ _ => trivial), (hSs.below hEy (nl _)).mono (fun _ _ => trivial)⟩;have hSu : SigV Any (wu.alloc (.cells #[.bool x.sig.iter, .slice pu x.sig.args.length cu, .string ⟨x.sig.res.toArray⟩, .slice qu x.sig.sigs.length du] 36)) (.agg #[.bool x.sig.iter, .slice pu x.sig.args.length cu, str x.sig.res, .slice qu x.sig.sigs.length du]) x.sig := ⟨_, _, rfl, hul, (hUa.below ((Below.refl _ wu).alloc (nl _) _) (nl _)).mono (fun _ _ => trivial), (hUs.below ((Below.refl _ wu).alloc (nl _) _) (nl _)).mono (fun _ _ => trivial)⟩;have pc1 := Below.keep hEy pc1;have pc2 := Below.keep hEy pc2;have pc3 := Below.keep hEy pc3;have pc4 := Below.keep hEy pc4;obtain ⟨⟨bu0, bu1, bu2, bu3⟩, _⟩ := box4 fU;clear hbu hUa hUs fU HOP HR3 hSa hSs pc0;generalize wu.alloc (.cells #[.bool x.sig.iter, .slice pu x.sig.args.length cu, .string ⟨x.sig.res.toArray⟩, .slice qu x.sig.sigs.length du] 36) = wy at *;generalize wu.heap.size = Bu at *;refine wp_reg (D := Any) (w := wy) 11 [(14, vL bo oo L.length c6), (19, vI a), (20, vP Bu 0), (21, vI 0)] [vI 0, vN, vN, .eq (.agg #[.bool x.sig.iter, .slice pu x.sig.args.length cu, str x.sig.res, .slice qu x.sig.sigs.length du]), vL bo oo L.length c6, vI a, vP bo (oo + a * 5), vP bo (oo + a * 5 + 1), .eq (.agg #[.bool x.sig.iter, av, str x.sig.res, sv]), vY, vN, vN] (fun w' => CellsAt [(⟨Bu, 0, none⟩, .bool x.sig.iter), (⟨Bu, 1, none⟩, .slice pu x.sig.args.length cu), (⟨Bu, 2, none⟩, str x.sig.res), (⟨Bu, 3, none⟩, .slice qu x.sig.sigs.length du), (⟨bo, oo + a * 5 + 1, none⟩, .bool x.sig.iter), (⟨bo, oo + a * 5 + 2, none⟩, av), (⟨bo, oo + a * 5 + 3, none⟩, str x.sig.res), (⟨bo, oo + a * 5 + 4, none⟩, sv)] w' ∧ SigV Any w' (.agg #[.bool x.sig.iter, .slice pu x.sig.args.length cu, str x.sig.res, .slice qu x.sig.sigs.length du]) x.sig ∧ SigV Any w' (.agg #[.bool x.sig.iter, av, str x.sig.res, sv]) x.sig) (by kernel_rfl) rfl (fun _ _ h hb => ⟨h.1.below hb, SigV.below h.2.1 hb (nl _), SigV.below h.2.2 hb (nl _)⟩) ⟨(by (iterate 8 refine ccons (by exact Below.keep (Below.refl _ wy).drew (by assumption)) ?_); exact cnil), SigV.below hSu (Below.refl _ wy).drew (nl _), SigV.below hSx (Below.refl _ wy).drew (nl _)⟩ ⟨rfl, rfl, rfl, rfl, trivial⟩ ?_ ?_
     · iterate 12
        refine And.intro ?_ ?_
        · first
          | exact stSkip (by kernel_rfl) rfl
          | exact st0 rfl rfl (by kernel_rfl)
          | exact stLen rfl (by kernel_rfl) (by kernel_rfl) rfl rfl
          | exact stFA rfl (by kernel_rfl) rfl rfl (fun w => by simp [go_sem])
          | exact stIA rfl (by kernel_rfl) rfl rfl rfl (fun w => by simp [go_sem, hlt])
          | exact stLd rfl (by kernel_rfl) rfl rfl (fun w hS => by simp [go_sem, (hS.1.get 0 rfl), (hS.1.get 1 rfl), (hS.1.get 2 rfl), (hS.1.get 3 rfl), (hS.1.get 4 rfl), (hS.1.get 5 rfl), (hS.1.get 6 rfl), (hS.1.get 7 rfl)])
          | exact stCall2 (s1 := .eq (.agg #[.bool x.sig.iter, .slice pu x.sig.args.length cu, str x.sig.res, .slice qu x.sig.sigs.length du])) (s2 := .eq (.agg #[.bool x.sig.iter, av, str x.sig.res, sv])) rfl (enters_of Tryz.func26 (by kernel_rfl) rfl) (by kernel_rfl) rfl rfl rfl (fun v v2 wx hS h1 h2 => by rw [show v = .agg #[.bool x.sig.iter, .slice pu x.sig.args.length cu, str x.sig.res, .slice qu x.sig.sigs.length du] from h1, show v2 = .agg #[.bool x.sig.iter, av, str x.sig.res, sv] from h2]; exact (rsig_any _ _ _ _ wx hS.2.1 hS.2.2).mono (by rw [(sameK_iff x.sig x.sig).2 rfl]; rintro e w' ⟨rfl, hb⟩; exact ⟨_, rfl, rfl, hb⟩))
          | exact stBin rfl (by kernel_rfl) rfl rfl rfl (fun w => by simp [go_sem])
       exact trivial
     · intro aE wE hSE hbE _
       simp only [pq, pz, pw];go_wp2_with fail;exact ⟨⟨a + 1, hlt, by go_num, hr.trans (below_less (hEy.trans (below_less hbE hEy.size)) hr.size)⟩, by simp only [intOf]; omega⟩
end Go.Proofs.YtakgjcfkdemipaaGreatDoor
