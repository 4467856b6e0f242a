/-
  Contract: of the law: shown: the chapter's examples hold. Condition: the variable strings.asciiSpace.
  A library with one face replaced by one that extends it (plain): what was good is good, and has at least the operations that it had. No condition.
  The law FaceFits (plain): the parameter fits the needs of the scope; what fits some needs fits some of them; a type of a cluster is good exactly if its argument is, and fits. No condition.
  The law FaceFits answers true. Condition: the variable strings.asciiSpace.
-/
import Derived.Deep.CutRange
import Derived.Test.YtakgjcfkdemipaaGreatDoorZn
import Derived.Test.YtakgjcfkdemipaaGreatDoorZ22
import Derived.Test.YtakgjcfkdemipaaGreatDoorZ24
import Derived.Test.YtakgjcfkdemipaaGreatDoorZ28
import Derived.Test.YtakgjcfkdemipaaGreatDoorZ29
import Derived.Test.YtakgjcfkdemipaaGreatDoorZ37
import Derived.Test.YtakgjcfkdemipaaGreatDoorZ40
import Derived.Test.YtakgjcfkdemipaaGreatDoorZ43
import Derived.Test.YtakgjcfkdemipaaGreatDoorZ44
import Derived.Test.YtakgjcfkdemipaaGreatDoorZ45
namespace Go.Proofs.YtakgjcfkdemipaaGreatDoor
open Go Go.RowKit
section
variable {D : Nat → Prop} {ops : Array Oper} {h : Nat} {V : List VS} {E : List (Nat × VS)} {S : World → Prop} {k : Nat} {o : Oper}
theorem stFS2 {t : TypeId} {x y : Operand} {u v : Value} {f g : FaceP} (ho : o.op = .buildSlice t 2 #[(0, x), (1, y)]) (ht : t = 22) (hw : wantV ops h V o = some true) (hk : V[k]? = some (.faces [f, g])) (hx : specOf ops h V E o x = some (.eq u)) (hy : specOf ops h V E o y = some (.eq v))
 (hu : ∀ w, S w → ∃ n q, u = .agg #[str f.name, .int .u8 f.kind, .bool f.par, n, q] ∧ OpsM Any w n f.needs ∧ OpsM Any w q f.ops) (hv : ∀ w, S w → ∃ n q, v = .agg #[str g.name, .int .u8 g.kind, .bool g.par, n, q] ∧ OpsM Any w n g.needs ∧ OpsM Any w q g.ops) (hl : f.name.length ≤ maxLen) (hl2 : g.name.length ≤ maxLen) : StepAt Any Tryz.prog S ops h V E k o :=
 stOf [(x, .eq u), (y, .eq v)] hw hk (by simp [hx, hy]) fun a w Q hS hi next hn => by
  have h1 : a.eval x = u := hi (x, .eq u) (by simp);have h2 : a.eval y = v := hi (y, .eq v) (by simp);obtain ⟨n, q, rfl, hn1, hn2⟩ := hu w hS;obtain ⟨n2, q2, rfl, hn3, hn4⟩ := hv w hS;subst ht;unfold Oper.wp;have hrun : ∀ ev : Operand → Value, ev x = .agg #[str f.name, .int .u8 f.kind, .bool f.par, n, q] → ev y = .agg #[str g.name, .int .u8 g.kind, .bool g.par, n2, q2] → (execOp ev o).run Tryz.prog w = .ok (.value (.slice (some ⟨w.heap.size, 0, none⟩) 2 2)) (w.alloc (.cells #[str f.name, .int .u8 f.kind, .bool f.par, n, q, str g.name, .int .u8 g.kind, .bool g.par, n2, q2] 58)) := fun ev h1 h2 => by
   unfold execOp;simp [ho, h1, h2, go_sem]
  rw [hrun _ h1 h2];exact hn _ _ (faces_at (D := Any) w _ rfl trivial (l := [f, g]) 58 (by simp [maxLen]) ⟨_, _, _, rfl, hl, hn1, hn2, _, _, [], rfl, hl2, hn3, hn4, rfl⟩) ((Below.refl _ w).alloc (nl _) _)
theorem stExt {x : Operand} {cs : Array Value} {r : Value} {i : Nat} (ho : o.op = .extract x i) (hw : wantV ops h V o = some true) (hk : V[k]? = some (.eq r)) (hx : specOf ops h V E o x = some (.eq (.tuple cs))) (hr : cs[i]? = some r := by rfl) : StepAt D Tryz.prog S ops h V E k o :=
 stP1 x hw hk hx fun ev w hS h1 => by unfold execOp; simp [ho, h1, hr, go_sem]
end
theorem FacesM.any {D : Nat → Prop} {w : World} {v : Value} {l : List FaceP} (h : FacesM D w v l) : FacesM Any w v l := by
 obtain ⟨p, c, h1, h2, h3, hl, h4⟩ := h
 refine ⟨p, c, h1, h2, h3, hl, ?_⟩
 rcases h4 with h4 | ⟨b, o, e1, h5, h6, h7⟩
 · exact .inl h4
 · refine .inr ⟨b, o, e1, trivial, h6, fun j hj => ?_⟩
   obtain ⟨a, s, k1, k2, k3⟩ := h7 j hj;exact ⟨a, s, k1.mono (fun _ _ => trivial), k2.mono (fun _ _ => trivial), k3⟩
set_option maxRecDepth 8000 in
set_option maxHeartbeats 25600000 in
theorem shown_any (w : World) (ht : Tab w) : Calls Tryz.prog 18 #[] w fun e w' => e = .returned (.bool true) ∧ Below w.heap.size w w' := by
 go_enter Tryz.func18, Tryz.ntmps18
 go_upto_region 2 with (go_at_call 56; refine (library_any _).mono ?_; rintro e w1 ⟨g, rfl, hL, hb1⟩)
 have hL := hL.any
 have hn : ∀ f ∈ libK, f.needs.length ≤ 100000 := by simp [libK, setF, sortF]
 have HT := Lib.hid (fun W (hW : Below w1.heap.size w1 W) => (ht.below hb1 (nl _)).below hW (nl _))
 have HL := Lib.hid (fun W (hW : Below w1.heap.size w1 W) => hL.below hW (nl _))
 obtain ⟨b0, o0, nv0, ov0, e0, _, _, hN0, hO0, c0, c1, c2, c3, c4⟩ := hL.at (k := 0) (x := setF) rfl
 obtain ⟨b1, o1, nv1, ov1, e1, _, _, hN1, hO1, c5, c6, c7, c8, c9⟩ := hL.at (k := 1) (x := sortF) rfl
 simp only [Option.some.injEq, Addr.mk.injEq, and_true] at e0 e1
 obtain ⟨rfl, rfl⟩ := e0
 obtain ⟨rfl, rfl⟩ := e1
 simp only [Nat.zero_mul, Nat.one_mul, Nat.zero_add, Nat.reduceAdd] at c0 c1 c2 c3 c4 c5 c6 c7 c8 c9
 have HK := Lib.hid (fun W (hW : Below w1.heap.size w1 W) => (⟨Below.keep hW c0, Below.keep hW c1, Below.keep hW c2, Below.keep hW c3, Below.keep hW c4, Below.keep hW c5, Below.keep hW c6, Below.keep hW c7, Below.keep hW c8, Below.keep hW c9⟩ : W.cell? ⟨g, 0, none⟩ = some (str setF.name) ∧ W.cell? ⟨g, 1, none⟩ = some (.int .u8 3) ∧ W.cell? ⟨g, 2, none⟩ = some (.bool true) ∧ W.cell? ⟨g, 3, none⟩ = some nv0 ∧ W.cell? ⟨g, 4, none⟩ = some ov0 ∧ W.cell? ⟨g, 5, none⟩ = some (str sortF.name) ∧ W.cell? ⟨g, 6, none⟩ = some (.int .u8 1) ∧ W.cell? ⟨g, 7, none⟩ = some (.bool true) ∧ W.cell? ⟨g, 8, none⟩ = some nv1 ∧ W.cell? ⟨g, 9, none⟩ = some ov1))
 have HN := Lib.hid (fun W (hW : Below w1.heap.size w1 W) => (⟨(hN0.mono (fun _ _ => trivial)).below hW (nl _), (hO0.mono (fun _ _ => trivial)).below hW (nl _), (hN1.mono (fun _ _ => trivial)).below hW (nl _), (hO1.mono (fun _ _ => trivial)).below hW (nl _)⟩ : OpsM Any W nv0 setF.needs ∧ OpsM Any W ov0 setF.ops ∧ OpsM Any W nv1 sortF.needs ∧ OpsM Any W ov1 sortF.ops))
 have HA := fun W (hW : Below w1.heap.size w1 W) => all_any libK _ W (HT.out W hW) (HL.out W hW) hn
 rw [sh_all] at HA
 have HA2 := fun v W (hT : Tab W) (hv : FacesM Any W v [sortF, setF]) => all_any [sortF, setF] v W hT hv (by simp [setF, sortF])
 rw [sh_back] at HA2
 have HO1 := fun W (hW : Below w1.heap.size w1 W) => opOf_any libK _ [] (.slice none 0 0) [115, 101, 116, 91, 105, 110, 116, 93] [104, 111, 108, 100, 115] W (HT.out W hW) (HL.out W hW) (OpsM.nil Any _ none 0) hn (by simp) (by simp [maxLen])
 rw [sh_holds] at HO1
 have HO2 := fun W (hW : Below w1.heap.size w1 W) => opOf_any libK _ [] (.slice none 0 0) [115, 101, 116, 91, 105, 110, 116, 93] [97, 100, 100] W (HT.out W hW) (HL.out W hW) (OpsM.nil Any _ none 0) hn (by simp) (by simp [maxLen])
 rw [sh_add] at HO2
 have HO3 := fun W (hW : Below w1.heap.size w1 W) => opsOf_any libK _ [] (.slice none 0 0) [97, 114, 114, 97, 121, 91, 105, 110, 116, 93] W (HT.out W hW) (HL.out W hW) (OpsM.nil Any _ none 0) hn (by simp) (by simp [maxLen])
 obtain ⟨p1, p2, p3⟩ := sh_ops
 rw [p1] at HO3
 have HS1 := fun W (hW : Below w1.heap.size w1 W) => sigOf_any libK _ [] (.slice none 0 0) [115, 111, 114, 116] [98, 111, 111, 108] W (HT.out W hW) (HL.out W hW) (OpsM.nil Any _ none 0) hn (by simp) (by simp [maxLen]) (by simp [maxLen])
 rw [sh_sig] at HS1
 have HF := fun W (hW : Below w1.heap.size w1 W) => fitsL_any libK _ [] (.slice none 0 0) sortF.needs nv1 [98, 111, 111, 108] W (HT.out W hW) (HL.out W hW) (OpsM.nil Any _ none 0) (HN.out W hW).2.2.1 hn (by simp) (by simp [sortF]) (by simp [maxLen])
 rw [sh_fits] at HF
 have HU := fun W (hW : Below w1.heap.size w1 W) => uses_any _ setF W (HT.out W hW) ⟨nv0, ov0, rfl, by simp [setF, maxLen], (HN.out W hW).1, (HN.out W hW).2.1⟩ (by simp [setF])
 rw [sh_uses] at HU
 have HW := fun W (hW : Below w1.heap.size w1 W) => write_any _ sortF W (HT.out W hW) ⟨nv1, ov1, rfl, by simp [sortF, maxLen], (HN.out W hW).2.2.1, (HN.out W hW).2.2.2⟩ (by simp [sortF])
 rw [sh_text] at HW
 have HG1 := fun W (hW : Below w1.heap.size w1 W) => goodL_any libK _ [] (.slice none 0 0) false [115, 101, 116, 91, 115, 101, 116, 91, 105, 110, 116, 93, 93] W (HT.out W hW) (HL.out W hW) (OpsM.nil Any _ none 0) hn (by simp) (by simp [maxLen])
 rw [sh_bad] at HG1
 have HG2 := fun W (hW : Below w1.heap.size w1 W) => goodL_any libK _ setF.needs nv0 true tS W (HT.out W hW) (HL.out W hW) (HN.out W hW).1 hn (by simp [setF]) (by simp [tS, maxLen])
 rw [sh_good] at HG2
 generalize (opOfK libK [] [115, 101, 116, 91, 105, 110, 116, 93] [97, 100, 100]).1 = X2 at *
 generalize (opsOfK libK [] [97, 114, 114, 97, 121, 91, 105, 110, 116, 93]).1 = OL at *
 generalize (sigOfK libK [] [115, 111, 114, 116] [98, 111, 111, 108]).1 = X3 at *
 obtain ⟨x2, hx2, hx2n⟩ : ∃ x, OL[2]? = some x ∧ x.name = [102, 101, 116, 99, 104] := by simpa [Option.map_eq_some_iff] using p3
 have hp2 := Lib.hid p2
 have hb0 := hb1
 clear hL hN0 hO0 hN1 hO1 c0 c1 c2 c3 c4 c5 c6 c7 c8 c9 p1 p2 p3 hn ht
 have B1 : Below w1.heap.size w1 w1 := Below.refl _ _
 go_upto_region 3 with (go_at_call 40; refine (HA _ B1).mono ?_; clear HA; rintro e w2 ⟨rfl, hb2⟩)
 have B2 := B1.trans (below_less hb2 (nl _))
 obtain ⟨k0, k1, k2, k3, k4, k5, k6, k7, k8, k9⟩ := HK.out w2.drew B2.drew
 obtain ⟨hm0, hm1, hm2, hm3⟩ := HN.out w2.drew B2.drew
 have hmt := HT.out w2.drew B2.drew
 refine wp_region_spec (D := Any) (w := w2) 12 [(1, .eq (.slice (some ⟨g, 0, none⟩) 2 2))] [(.eq (.slice (some ⟨g, 0, none⟩) 2 2)), (.eq (.pointer (some ⟨g, 1 * 5, none⟩))), (.eq (.agg #[str sortF.name, .int .u8 1, .bool true, nv1, ov1])), (.eq (.slice (some ⟨g, 0, none⟩) 2 2)), (.eq (.pointer (some ⟨g, 0, none⟩))), (.eq (.agg #[str setF.name, .int .u8 3, .bool true, nv0, ov0])), (.faces [sortF, setF]), (.eq (.tuple #[.int .i64 1, .int .i64 6])), (.eq (.tuple #[.int .i64 1, .int .i64 6])), (.eq (.int .i64 1)), (.eq (.int .i64 6)), (.eq (.int .i64 1)), (.eq (.int .i64 6))] (fun w' => CellsAt [(⟨g, 0, none⟩, str setF.name), (⟨g, 1, none⟩, .int .u8 3), (⟨g, 2, none⟩, .bool true), (⟨g, 3, none⟩, nv0), (⟨g, 4, none⟩, ov0), (⟨g, 5, none⟩, str sortF.name), (⟨g, 6, none⟩, .int .u8 1), (⟨g, 7, none⟩, .bool true), (⟨g, 8, none⟩, nv1), (⟨g, 9, none⟩, ov1)] w' ∧ OpsM Any w' nv0 setF.needs ∧ OpsM Any w' ov0 setF.ops ∧ OpsM Any w' nv1 sortF.needs ∧ OpsM Any w' ov1 sortF.ops ∧ Tab w') (by kernel_rfl) (by kernel_rfl) (by kernel_rfl) (by kernel_rfl) (by kernel_rfl) (fun _ _ h hb => ⟨h.1.below hb, ⟨h.2.1.below hb (nl _), h.2.2.1.below hb (nl _), h.2.2.2.1.below hb (nl _), h.2.2.2.2.1.below hb (nl _), h.2.2.2.2.2.below hb (nl _)⟩⟩) ⟨(fun p hp => by simp only [List.mem_cons, List.not_mem_nil, or_false] at hp; rcases hp with rfl | rfl | rfl | rfl | rfl | rfl | rfl | rfl | rfl | rfl <;> assumption), hm0, hm1, hm2, hm3, hmt⟩ ?_ ?_ ?_
 · intro p hp
   simp only [List.mem_cons, List.not_mem_nil, or_false] at hp;rcases hp with rfl
   · exact rfl
 · iterate 13
    refine And.intro ?_ ?_
    · first
      | exact stSkip (by kernel_rfl) rfl
      | exact stA (.inl rfl) (by kernel_rfl) rfl (by kernel_rfl)
      | exact stA (.inr rfl) (by kernel_rfl) rfl (by kernel_rfl)
      | exact stPick rfl (by kernel_rfl) rfl rfl (by kernel_rfl)
      | exact stNot rfl (by kernel_rfl) rfl rfl rfl
      | exact stLen rfl (by kernel_rfl) (by kernel_rfl) rfl rfl
      | exact stFA rfl (by kernel_rfl) rfl rfl (fun w => by simp [go_sem])
      | exact stIA rfl (by kernel_rfl) rfl rfl rfl (fun w => by simp [go_sem])
      | exact stLd rfl (by kernel_rfl) rfl rfl (fun w hS => by simp [go_sem, (hS.1.get 0 rfl), (hS.1.get 1 rfl), (hS.1.get 2 rfl), (hS.1.get 3 rfl), (hS.1.get 4 rfl), (hS.1.get 5 rfl), (hS.1.get 6 rfl), (hS.1.get 7 rfl), (hS.1.get 8 rfl), (hS.1.get 9 rfl)])
      | exact stFS2 (f := sortF) (g := setF) rfl rfl (by kernel_rfl) rfl rfl rfl (fun w hS => ⟨nv1, ov1, rfl, hS.2.2.2.1, hS.2.2.2.2.1⟩) (fun w hS => ⟨nv0, ov0, rfl, hS.2.1, hS.2.2.1⟩) (by simp [sortF, maxLen]) (by simp [setF, maxLen])
      | exact stCall1 (s1 := .faces [sortF, setF]) rfl (enters_of Tryz.func40 (by kernel_rfl) rfl) (by kernel_rfl) rfl rfl (fun v wx hS h1 => (HA2 v wx hS.2.2.2.2.2 h1).mono (by rintro e w' ⟨rfl, hb⟩; exact ⟨_, rfl, rfl, hb⟩))
      | exact stExt rfl (by kernel_rfl) rfl rfl
      | exact stBin rfl (by kernel_rfl) rfl rfl rfl (fun w => by simp [go_sem])
   exact trivial
 · intro aE vE w3 hSE hbE haE hfE hvE
   obtain rfl : vE = .int .i64 6 := hvE _ rfl;have h4 : aE.tmps.getD 4 undef = .int .i64 1 := hfE 11 _ _ (by decide) rfl rfl;have B3 := B2.trans (below_less hbE B2.size);clear k0 k1 k2 k3 k4 k5 k6 k7 k8 k9 hm0 hm1 hm2 hm3 hmt hSE hfE hvE;rw [haE];clear haE;simp only [List.take_succ_cons, List.take_zero, putsOf, pz, pw, h4];clear h4;go_upto_region 13 with (first
    | (go_at_call 23; refine (HO1 _ B3).mono ?_; clear HO1; rintro e w4 ⟨u4, rfl, hS4, hb4⟩; have g4 := hS4.mono (D' := Any) (fun _ _ => trivial); obtain ⟨a4, s4, rfl, _, hSa4, hSs4⟩ := hS4; obtain ⟨pa, ca, rfl, _⟩ := hSa4.shape; obtain ⟨ps, cs, rfl, _⟩ := hSs4.shape; have B4 := (B3.trans (below_less hb4 B3.size)).alloc (B3.trans (below_less hb4 B3.size)).size (.cells #[.bool false, .slice pa 2 ca, str tB, .slice ps 0 cs] 36); have f4 := heap_alloc_new w4 (.cells #[.bool false, .slice pa 2 ca, str tB, .slice ps 0 cs] 36); have g4 := g4.below ((Below.refl _ w4).alloc (nl _) (.cells #[.bool false, .slice pa 2 ca, str tB, .slice ps 0 cs] 36)) (nl _))
    | (go_at_call 23; refine (HO2 _ B4).mono ?_; clear HO2; rintro e w5 ⟨u5, rfl, hS5, hb5⟩; obtain ⟨a5, s5, rfl, _, hSa5, hSs5⟩ := hS5; obtain ⟨pa5, ca5, rfl, _⟩ := hSa5.shape; obtain ⟨ps5, cs5, rfl, _⟩ := hSs5.shape; have B5 := (B4.trans (below_less hb5 B4.size)).alloc (B4.trans (below_less hb5 B4.size)).size (.cells #[.bool X2.iter, .slice pa5 X2.args.length ca5, str X2.res, .slice ps5 X2.sigs.length cs5] 36); have f5 := heap_up (.cells #[.bool X2.iter, .slice pa5 X2.args.length ca5, str X2.res, .slice ps5 X2.sigs.length cs5] 36) (kept_call f4 hb5); have g5 := (g4.below hb5 (nl _)).below ((Below.refl _ w5).alloc (nl _) (.cells #[.bool X2.iter, .slice pa5 X2.args.length ca5, str X2.res, .slice ps5 X2.sigs.length cs5] 36)) (nl _))
    | (go_at_call 21; refine (HO3 _ B5).mono ?_; clear HO3; rintro e w6 ⟨u6, rfl, hO6, hb6⟩; obtain ⟨p6, c6, hv6⟩ := hO6.shape; rw [hp2.out] at hv6; subst hv6; have m6 := hO6.opsM; have B6 := B5.trans (below_less hb6 B5.size); have f6 := kept_call f5 hb6; have g6 := g5.below hb6 (nl _))
    | (go_at_call 27; refine (HS1 _ B6).mono ?_; clear HS1; rintro e w7 ⟨u7, rfl, hS7, hb7⟩; obtain ⟨a7, s7, rfl, _, hSa7, hSs7⟩ := hS7; obtain ⟨pa7, ca7, rfl, _⟩ := hSa7.shape; obtain ⟨ps7, cs7, rfl, _⟩ := hSs7.shape; have B7 := (B6.trans (below_less hb7 B6.size)).alloc (B6.trans (below_less hb7 B6.size)).size (.cells #[.bool X3.iter, .slice pa7 X3.args.length ca7, str X3.res, .slice ps7 X3.sigs.length cs7] 36); have f7 := heap_up (.cells #[.bool X3.iter, .slice pa7 X3.args.length ca7, str X3.res, .slice ps7 X3.sigs.length cs7] 36) (kept_call f6 hb7); have g7 := (g6.below hb7 (nl _)).below ((Below.refl _ w7).alloc (nl _) (.cells #[.bool X3.iter, .slice pa7 X3.args.length ca7, str X3.res, .slice ps7 X3.sigs.length cs7] 36)) (nl _); have m7 := (m6.below hb7 (nl _)).below ((Below.refl _ w7).alloc (nl _) (.cells #[.bool X3.iter, .slice pa7 X3.args.length ca7, str X3.res, .slice ps7 X3.sigs.length cs7] 36)) (nl _); have kk7 := HK.out _ B7)
    | (go_at_call 29; refine (HF _ B7).mono ?_; clear HF; rintro e w8 ⟨rfl, hb8⟩; have B8 := B7.trans (below_less hb8 B7.size); have f8 := kept_call f7 hb8; have g8 := g7.below hb8 (nl _); have m8 := m7.below hb8 (nl _); have kk8 := HK.out _ B8)
    | (go_at_call 47; refine (HU _ B8).mono ?_; clear HU; rintro e w9 ⟨u9, rfl, q9, hb9⟩; obtain ⟨p9, c9, rfl, _⟩ := q9.shape; have B9 := B8.trans (below_less hb9 B8.size); have f9 := kept_call f8 hb9; have g9 := g8.below hb9 (nl _); have m9 := m8.below hb9 (nl _); have kk9 := HK.out _ B9)
    | (go_at_call 51; refine (HW _ B9).mono ?_; clear HW; rintro e w10 ⟨rfl, hb10⟩; have B10 := B9.trans (below_less hb10 B9.size); have f10 := kept_call f9 hb10; have g10 := g9.below hb10 (nl _); have m10 := m9.below hb10 (nl _); have q10 := q9.below hb10 (nl _)))
   obtain ⟨⟨j0, j1, j2, j3⟩, _⟩ := box4 f10;obtain ⟨b10, o10, _, _, e10, _, _, _, _, n0, _⟩ := m10.at hx2;rw [hx2n] at n0;subst e10;obtain ⟨b17, o17, e17, _, u0⟩ := q10.at (k := 0) rfl;subst e17;rw [Nat.add_zero] at u0;have hsg := g10.below (Below.refl _ w10).drew (nl _);have j0 := Below.keep (Below.refl _ w10).drew j0;have j1 := Below.keep (Below.refl _ w10).drew j1;have j2 := Below.keep (Below.refl _ w10).drew j2;have j3 := Below.keep (Below.refl _ w10).drew j3;have n0 := Below.keep (Below.refl _ w10).drew n0;have u0 := Below.keep (Below.refl _ w10).drew u0;have HPR := fun (v2 : Value) (wx : World) (h2 : SS Any wx v2 [[115, 101, 116, 91, 105, 110, 116, 93], [105, 110, 116]]) => show Calls Tryz.prog 57 #[str tB, v2] wx fun e w' => ∃ u, e = .returned u ∧ SigV Any w' u ⟨false, [[115, 101, 116, 91, 105, 110, 116, 93], [105, 110, 116]], tB, []⟩ ∧ Below wx.heap.size wx w' from by
    refine (proc_any tB v2 wx (by obtain ⟨p, c, h, _⟩ := h2.shape; exact ⟨_, _, _, h⟩)).mono ?_;rintro e w' ⟨rfl, hb⟩;exact ⟨_, rfl, ⟨_, _, rfl, by simp [tB, maxLen], h2.below hb (nl _), SS.nil _ _ _ _⟩, hb⟩
   have HSM := fun (v2 : Value) (wx : World) (h1 : SigV Any wx (.agg #[.bool false, .slice pa 2 ca, str tB, .slice ps 0 cs]) ⟨false, [[115, 101, 116, 91, 105, 110, 116, 93], [105, 110, 116]], tB, []⟩) (h2 : SigV Any wx v2 ⟨false, [[115, 101, 116, 91, 105, 110, 116, 93], [105, 110, 116]], tB, []⟩) => show Calls Tryz.prog 26 #[.agg #[.bool false, .slice pa 2 ca, str tB, .slice ps 0 cs], v2] wx fun e w' => ∃ u, e = .returned u ∧ u = .bool true ∧ Below wx.heap.size wx w' from by
    refine (rsig_any _ _ _ _ _ h1 h2).mono ?_;rintro e w' ⟨rfl, hb⟩;exact ⟨_, rfl, by rw [show sameK _ _ = true by decide], hb⟩
   clear f4 f5 f6 f7 f8 f9 f10 g4 g5 g6 g7 g8 g9 m6 m7 m8 m9 m10 q9 q10 kk7 kk8 kk9 hO6 hp2;generalize w4.heap.size = b6 at *;refine wp_region_spec (D := Any) 35 [(6, .eq (.pointer (some ⟨b6, 0, none⟩))), (10, .eq (.slice (some ⟨b10, o10, none⟩) 7 c6)), (14, .eq (str [108, 116])), (15, .eq (.bool false)), (17, .eq (.slice (some ⟨b17, o17, none⟩) 1 c9))] [(.eq (.agg #[.bool false, .slice pa 2 ca, str tB, .slice ps 0 cs])), (.ss [[115, 101, 116, 91, 105, 110, 116, 93], [105, 110, 116]]), (.sig ⟨false, [[115, 101, 116, 91, 105, 110, 116, 93], [105, 110, 116]], tB, []⟩), (.eq (.bool true)), (.eq (.bool true)), (.eq (.slice (some ⟨b10, o10, none⟩) 7 c6)), (.eq (.int .i64 7)), (.eq (.bool true)), (.eq (.bool true)), (.eq (.bool true)), (.eq (.slice (some ⟨b10, o10, none⟩) 7 c6)), (.eq (.pointer (some ⟨b10, o10 + 2 * 5, none⟩))), (.eq (.pointer (some ⟨b10, o10 + 2 * 5, none⟩))), (.eq (str [102, 101, 116, 99, 104])), (.eq (.bool true)), (.eq (.bool true)), (.eq (.bool true)), (.eq (str [108, 116])), (.eq (.bool true)), (.eq (.bool true)), (.eq (.bool true)), (.eq (.bool false)), (.eq (.bool true)), (.eq (.bool true)), (.eq (.bool true)), (.eq (.slice (some ⟨b17, o17, none⟩) 1 c9)), (.eq (.int .i64 1)), (.eq (.bool true)), (.eq (.bool true)), (.eq (.bool true)), (.eq (.slice (some ⟨b17, o17, none⟩) 1 c9)), (.eq (.pointer (some ⟨b17, o17, none⟩))), (.eq (str [115, 101, 116])), (.eq (.bool true)), (.eq (.bool true)), (.eq (.bool true))] (fun w' => CellsAt [(⟨b6, 0, none⟩, .bool false), (⟨b6, 1, none⟩, .slice pa 2 ca), (⟨b6, 2, none⟩, str tB), (⟨b6, 3, none⟩, .slice ps 0 cs), (⟨b10, o10 + 2 * 5, none⟩, str [102, 101, 116, 99, 104]), (⟨b17, o17, none⟩, str [115, 101, 116])] w' ∧ SigV Any w' (.agg #[.bool false, .slice pa 2 ca, str tB, .slice ps 0 cs]) ⟨false, [[115, 101, 116, 91, 105, 110, 116, 93], [105, 110, 116]], tB, []⟩) (by kernel_rfl) (by kernel_rfl) (by kernel_rfl) (by kernel_rfl) (by kernel_rfl) (fun _ _ h hb => ⟨h.1.below hb, SigV.below h.2 hb (nl _)⟩) ⟨(fun p hp => by simp only [List.mem_cons, List.not_mem_nil, or_false] at hp; rcases hp with rfl | rfl | rfl | rfl | rfl | rfl <;> assumption), hsg⟩ ?_ ?_ ?_
   · intro p hp
     simp only [List.mem_cons, List.not_mem_nil, or_false] at hp;rcases hp with rfl | rfl | rfl | rfl | rfl
     · exact rfl
     · exact rfl
     · exact rfl
     · exact rfl
     · exact rfl
   · iterate 36
      refine And.intro ?_ ?_
      · first
        | exact stSkip (by kernel_rfl) rfl
        | exact stA (.inl rfl) (by kernel_rfl) rfl (by kernel_rfl)
        | exact stA (.inr rfl) (by kernel_rfl) rfl (by kernel_rfl)
        | exact stPick rfl (by kernel_rfl) rfl rfl (by kernel_rfl)
        | exact stNot rfl (by kernel_rfl) rfl rfl rfl
        | exact stLen rfl (by kernel_rfl) (by kernel_rfl) rfl rfl
        | exact stFA rfl (by kernel_rfl) rfl rfl (fun w => by simp [go_sem])
        | exact stIA rfl (by kernel_rfl) rfl rfl rfl (fun w => by simp [go_sem])
        | exact stLd rfl (by kernel_rfl) rfl rfl (fun w hS => by simp [go_sem, (hS.1.get 0 rfl), (hS.1.get 1 rfl), (hS.1.get 2 rfl), (hS.1.get 3 rfl), (hS.1.get 4 rfl), (hS.1.get 5 rfl)])
        | exact stSS2 rfl rfl (by kernel_rfl) rfl rfl rfl (by simp [maxLen]) (by simp [maxLen]) (fun _ _ => trivial)
        | exact stCall2 (s1 := .eq (str tB)) (s2 := .ss [[115, 101, 116, 91, 105, 110, 116, 93], [105, 110, 116]]) rfl (enters_of Tryz.func57 (by kernel_rfl) rfl) (by kernel_rfl) rfl rfl rfl (fun v v2 wx hS h1 h2 => by rw [show v = str tB from h1]; exact HPR v2 wx h2)
        | exact stCall2 (s1 := .eq (.agg #[.bool false, .slice pa 2 ca, str tB, .slice ps 0 cs])) (s2 := .sig ⟨false, [[115, 101, 116, 91, 105, 110, 116, 93], [105, 110, 116]], tB, []⟩) rfl (enters_of Tryz.func26 (by kernel_rfl) rfl) (by kernel_rfl) rfl rfl rfl (fun v v2 wx hS h1 h2 => by rw [show v = .agg #[.bool false, .slice pa 2 ca, str tB, .slice ps 0 cs] from h1]; exact HSM v2 wx hS.2 h2)
        | exact stBin rfl (by kernel_rfl) rfl rfl rfl (fun w => by simp [go_sem])
     exact trivial
   · intro aE vE w11 hSE hbE haE hfE hvE
     obtain rfl : vE = .bool true := hvE _ rfl;have B11 := B10.trans (below_less hbE B10.size);have kk11 := HK.out _ B11;clear hSE hfE hvE j0 j1 j2 j3 n0 u0 hsg g10 HPR HSM;rw [haE];clear haE;simp only [List.take_succ_cons, List.take_zero, putsOf, pz, pw];go_wp2_with (first
      | (go_at_call 19; refine (HG1 _ B11).mono ?_; clear HG1; rintro e w12 ⟨rfl, hb12⟩; have B12 := B11.trans (below_less hb12 B11.size); have kk12 := HK.out _ B12)
      | (go_at_call 19; refine (HG2 _ B12).mono ?_; clear HG2; rintro e w13 ⟨rfl, hb13⟩; have B13 := B12.trans (below_less hb13 B12.size)))
     go_ret;exact ⟨rfl, hb0.trans (below_less B13 hb0.size)⟩
end Go.Proofs.YtakgjcfkdemipaaGreatDoor
namespace Go.Proofs.YtakgjcfkdemipaaGreatDoor
theorem firstE_all {α : Type} {f : α → Nat} : ∀ {l : List α}, firstE (l.map f) = 0 ↔ ∀ x ∈ l, f x = 0
 | [] => by simp [firstE]
 | x :: l => by
  rw [List.map_cons, firstE];split
  · rename_i h
    rw [firstE_all (l := l)];simp [h]
  · rename_i h
    simp [h]
end Go.Proofs.YtakgjcfkdemipaaGreatDoor
namespace Go.Proofs.YtakgjcfkdemipaaGreatDoor
theorem putK_q {s : SigP} {o : Bool} (h : saidK s o = true) : putK s qT = (s, 0) := by
 obtain ⟨_, _, _, _, h5⟩ := saidK_parts h
 obtain ⟨it, args, res, sigs⟩ := s
 have hw : ∀ l : List (List UInt8), (∀ t ∈ l, (checkK t).1 = 0) → withL qT l = (l, 0) := by
  intro l
  induction l with
  | nil => intro _; rfl
  | cons t l ih =>
   intro hl;have h1 := (withK_par (hl t (List.mem_cons_self ..))).1;have h2 := ih fun x hx => hl x (List.mem_cons_of_mem _ hx)
   unfold withL;rw [h1, h2];simp
 have ha := hw args fun t ht => (h5 t (by unfold typesK; simp [ht])).1
 unfold putK
 rw [if_neg (by decide : ¬ (qT : List UInt8) = []), ha]
 simp only [ne_eq, not_true_eq_false, if_false]
 by_cases hr : res = []
 · rw [if_pos hr, hr]
 · have hr1 := (withK_par (h5 res (by unfold typesK; simp [hr])).1).1
   rw [if_neg hr, hr1];simp
theorem fits_own {l : List FaceP} {needs : List OpP} (h : (fitsL l needs needs qT).2.2 = 0) : (fitsL l needs needs qT).2.1 = true := by
 unfold fitsL at *
 split at h
 · rename_i h1; exact absurd h h1
 rename_i h1
 rw [if_neg h1]
 split at h
 · cases h
 rename_i h2
 rw [if_neg h2]
 split at h
 · rename_i h3; exact absurd h h3
 rename_i h3
 rw [if_neg h3]
 have hn : neededK needs = true := by simpa using h2
 have hr : ∀ c : ScopeP, rawK c qT = (c.needs, []) := fun c => by unfold rawK; rw [checkQ]; rfl
 have hl : lacksK ⟨l, needs, parK needs qT⟩ needs qT = none := by
  unfold lacksK;rw [Option.map_eq_none_iff, List.find?_eq_none];intro n hm;have hs : saidK n.sig true = true := by
   unfold neededK at hn;simp only [Bool.and_eq_true, List.all_eq_true] at hn;exact hn.1.1 n hm
  have ho : opIn ⟨l, needs, parK needs qT⟩ qT n.name = (n.sig, 0) := by
   unfold opIn;rw [hr];simp only;rw [once_find (neededK_once hn) hm];simp only [putK, if_true]
  unfold lackK;rw [ho, putK_q hs, (sameK_iff _ _).2 rfl];simp
 rw [hl]
theorem needed_cons {a : OpP} {l : List OpP} (h : neededK (a :: l) = true) : neededK l = true ∧ neededK [a] = true := by
 unfold neededK at *
 simp only [List.all_cons, List.length_cons, List.map_cons, Bool.and_eq_true, decide_eq_true_eq] at h
 obtain ⟨⟨⟨h1, h2⟩, h3⟩, h4⟩ := h
 cases l with
 | nil => exact ⟨rfl, by simpa [h1] using h4⟩
 | cons b l =>
  rw [List.map_cons, ascK] at h4;simp only [Bool.and_eq_true] at h4;refine ⟨?_, by simp [h1, h4.1.1, ascK]⟩;rw [h2, decide_eq_true (by simp only [List.length_cons] at h3 ⊢; omega), List.map_cons, h4.2]
  rfl
theorem fits_cut {l : List FaceP} {needs : List OpP} {a : OpP} {r : List OpP} {t : List UInt8} (h : (fitsL l needs (a :: r) t).2.2 = 0) :
 (fitsL l needs r t).2.2 = 0 ∧ (fitsL l needs [a] t).2.2 = 0 ∧ (fitsL l needs (a :: r) t).2.1 = ((fitsL l needs r t).2.1 && (fitsL l needs [a] t).2.1) := by
 unfold fitsL at *
 split at h
 · rename_i h1; exact absurd h h1
 rename_i h1
 rw [if_neg h1, if_neg h1, if_neg h1]
 split at h
 · cases h
 rename_i h2
 obtain ⟨n1, n2⟩ := needed_cons (a := a) (l := r) (by simpa using h2)
 have e1 : ¬ neededK r = false := by rw [n1]; simp
 have e2 : ¬ neededK [a] = false := by rw [n2]; simp
 rw [if_neg h2, if_neg e1, if_neg e2]
 split at h
 · rename_i h3; exact absurd h h3
 rename_i h3
 rw [if_neg h3, if_neg h3, if_neg h3]
 unfold lacksK
 rw [List.find?_cons, List.find?_cons]
 rcases lackK ⟨l, needs, parK needs t⟩ t a with _ | _
 · rcases r.find? (lackK ⟨l, needs, parK needs t⟩ t) with _ | _ <;> simp
 · rcases r.find? (lackK ⟨l, needs, parK needs t⟩ t) with _ | _ <;> simp
theorem find_at : ∀ {l : List FaceP} {k : Nat} {f : FaceP}, Apart l → l[k]? = some f → findK l f.name = some f
 | [], _, _, _, h => by simp at h
 | x :: l, 0, f, _, h => by
  obtain rfl : x = f := by simpa using h
  unfold findK;exact List.find?_cons_of_pos (by simp)
 | x :: l, k + 1, f, ha, h => by
  have h' : l[k]? = some f := by simpa using h
  obtain ⟨h1, h2⟩ := List.pairwise_cons.1 ha;unfold findK;rw [List.find?_cons_of_neg (by simpa using h1 f (List.mem_of_getElem? h'))];exact find_at (l := l) h2 h'
theorem one_ins (k : Nat) (n : List UInt8) (t : Tr) : Tr.ins ⟨k, n, .one t⟩ = ⟨k, n, .one t⟩ :: t.ins := by
 simp [Tr.ins, Fo.one, Fo.ins]
theorem one_opn (n : List UInt8) (t : Tr) : Tr.opn ⟨7, n, .one t⟩ = t.opn := by
 simp [Tr.opn, Fo.one, Fo.opn]
theorem named_parts {n t u : List UInt8} (ht : t ≠ []) (h : namK n t = (u, 0)) :
 (checkK t).1 = 0 ∧ (checkK u).1 = 0 ∧ (checkK u).2.k = 7 ∧ baseK u = (n, 0) ∧ argK u = (t, true, 0) ∧ openK u = openK t ∧ levelK t < 6 ∧ ∀ s, s ∈ (insideK u).1 ↔ s = u ∨ s ∈ (insideK t).1 := by
 unfold namK at h
 split at h
 case isFalse => cases h
 rename_i hn
 split at h
 case isFalse => rename_i h1; exact absurd (congrArg Prod.snd h) h1
 rename_i h1
 rcases hq : checkK t with ⟨c, A⟩
 rw [hq] at h h1
 simp only at h h1
 subst h1
 obtain ⟨oA, eA, lA, vA⟩ := checkK_ok hq
 have oT : (Tr.mk 7 n (.one A)).ok := Wf.app _ _ hn oA
 unfold toldK at h
 split at h
 · cases h
 rename_i h2
 obtain rfl : (Tr.mk 7 n (.one A)).txt = u := congrArg Prod.fst h
 have hT : checkK (Tr.mk 7 n (.one A)).txt = (0, ⟨7, n, .one A⟩) := by rw [checkK_of oT, if_neg h2]
 have hof : ∀ l : List Nat, l.contains 7 = true → ofK (Tr.mk 7 n (.one A)).txt l = (0, ⟨7, n, .one A⟩) := fun l hl => by
  unfold ofK;rw [hT, if_pos rfl, if_pos hl]
 have hlen : (Fo.one A).len ≠ 0 := by simp [Fo.one, Fo.len]
 have hfirst : (Fo.one A).first = A := by simp [Fo.one, Fo.first]
 refine ⟨rfl, by rw [hT], by rw [hT], ?_, ?_, ?_, ?_, ?_⟩
 · unfold baseK; rw [hof [7] rfl]
 · unfold argK
   rw [hof [4, 7] rfl];rw [if_pos ⟨rfl, hlen⟩]
   show ((Fo.one A).first.txt, true, 0) = _
   rw [hfirst, eA]
 · unfold openK
   rw [hT, hq, if_pos rfl, if_pos rfl];exact one_opn n A
 · rw [levelK_of hq]
   have := one_level 7 n A;omega
 · intro s
   unfold insideK;rw [hT, hq, if_pos rfl, if_pos rfl];simp only;rw [insF_once, insF_once, onceB_mem, onceB_mem, one_ins, List.map_cons, List.mem_cons]
theorem named_good {l : List FaceP} {k : Nat} {f : FaceP} {needs : List OpP} {t u : List UInt8} (hk : l[k]? = some f) (hp : f.par = true) (h3 : f.kind = 3) (ht : t ≠ []) (h : namK f.name t = (u, 0)) :
 goodL l needs (openK t || decide (0 < needs.length)) u = 0 ↔ (fitsL l needs f.needs t).2.2 = 0 ∧ (fitsL l needs f.needs t).2.1 = true := by
 obtain ⟨ct, cu, ku, bu, au, ou, lt6, mu⟩ := named_parts ht h
 unfold goodL fitsL
 by_cases ha : askedK l needs = 0
 case neg => rw [if_pos ha, if_pos ha]; simp [ha]
 rw [if_neg (by rw [ha]; simp), if_neg (by rw [ha]; simp)]
 obtain ⟨hL, _⟩ := asked_parts ha
 have hfm := hL f (List.mem_of_getElem? hk)
 rw [if_neg (by rw [(faceK_parts hfm).2.2.2.1]; simp)]
 have hap : Apart l := by
  unfold askedK at ha;split at ha
  · rename_i h1; exact absurd ha h1
  · rename_i h1; exact apart_of (allK_ok (Decidable.not_not.1 h1)).1
 have hpar : (openK t || decide (0 < needs.length)) = parK needs t := by unfold parK; rw [Bool.or_comm]
 rw [hpar]
 have hgu : goodK ⟨l, needs, parK needs t⟩ u = 0 ↔ goodK ⟨l, needs, parK needs t⟩ t = 0 ∧ namedE ⟨l, needs, parK needs t⟩ (goodN ⟨l, needs, parK needs t⟩ 6) u = 0 := by
  unfold goodK;have e1 : ¬ (checkK u).1 ≠ 0 := by rw [cu]; simp
  have e2 : ¬ (checkK t).1 ≠ 0 := by rw [ct]; simp
  rw [goodN, goodN, if_neg e1, if_neg e2, ou];simp only
  by_cases hop : openK t = true ∧ parK needs t = false
  · rw [if_pos hop, if_pos hop]; simp
  · rw [if_neg hop, if_neg hop, firstE_all, firstE_all]
    constructor
    · intro hh
      exact ⟨fun x hx => hh x ((mu x).2 (.inr hx)), hh u ((mu u).2 (.inl rfl))⟩
    · rintro ⟨h4, h5⟩ x hx
      rcases (mu x).1 hx with rfl | hx
      · exact h5
      · exact h4 x hx
 rw [hgu]
 by_cases hg : goodK ⟨l, needs, parK needs t⟩ t = 0
 case neg => rw [if_pos hg]; simp [hg]
 rw [if_neg (by rw [hg]; simp)]
 have hg6 : goodN ⟨l, needs, parK needs t⟩ 6 t = 0 := by rw [goodN_fuel _ 6 7 t lt6 (by omega)]; exact hg
 have hne : namedE ⟨l, needs, parK needs t⟩ (goodN ⟨l, needs, parK needs t⟩ 6) u = if (lacksK ⟨l, needs, parK needs t⟩ f.needs t).isSome = true then 41 else 0 := by
  unfold namedE;rw [if_pos ku, bu, find_at hap hk, au];simp only [h3, hp, true_and, if_true, hg6, ne_eq, not_true_eq_false, and_false, false_or]
 rw [hne]
 rcases lacksK ⟨l, needs, parK needs t⟩ f.needs t with _ | _ <;> simp [hg]
end Go.Proofs.YtakgjcfkdemipaaGreatDoor
namespace Go.Proofs.YtakgjcfkdemipaaGreatDoor
open Go Go.RowKit
theorem few_needs2 {l : List FaceP} (h : fewS l = true) : ∀ f ∈ l, f.needs.length ≤ 100000 := fun f hf => by
 rw [fewS_eq, Bool.and_eq_true, List.all_eq_true] at h
 have h1 := h.1 f hf
 unfold faceS headS wantedS at h1
 simp only [Bool.and_eq_true, decide_eq_true_eq] at h1
 omega
theorem pick_index (i : Int) (n : Nat) (h0 : 0 < n) (h1 : n ≤ 100) : ∃ k : Nat, wrap64 ((IntKind.u64.wrap i).tmod n) = k ∧ k < n := by
 have hw : IntKind.u64.wrap i = i % 18446744073709551616 := by simp [IntKind.wrap, IntKind.bits, IntKind.signed]
 rw [hw]
 have hp : 0 ≤ i % 18446744073709551616 := Int.emod_nonneg _ (by decide)
 rw [Int.tmod_eq_emod_of_nonneg hp]
 have h2 : 0 ≤ (i % 18446744073709551616) % n := Int.emod_nonneg _ (by omega)
 have h3 : (i % 18446744073709551616) % n < n := Int.emod_lt_of_pos _ (by omega)
 refine ⟨((i % 18446744073709551616) % n).toNat, ?_, by omega⟩
 rw [Int.toNat_of_nonneg h2]
 generalize (i % 18446744073709551616) % n = r at h2 h3
 unfold wrap64
 omega
theorem few_len {l : List FaceP} (h : fewS l = true) : l.length ≤ 23 := by
 rw [fewS_eq, Bool.and_eq_true] at h
 have h1 := h.2
 unfold sizeS at h1
 simp only [Bool.or_eq_true, Bool.and_eq_true, decide_eq_true_eq] at h1
 omega
theorem named_short {n t u : List UInt8} (ht : t ≠ []) (h : namK n t = (u, 0)) : u.length ≤ maxLen := by
 have hc := (named_parts ht h).2.1
 rcases hq : checkK u with ⟨c, A⟩
 rw [hq] at hc
 simp only at hc
 subst hc
 have := (checkK_ok hq).2.2.1
 unfold maxLen
 omega
set_option maxRecDepth 8000 in
set_option maxHeartbeats 25600000 in
theorem fitlaw_any (l : List FaceP) (needs want : List OpP) (t : List UInt8) (i : Int) (lv nv xv : Value) (w : World) (hT : Tab w) (hl : FacesM Any w lv l) (hn : OpsM Any w nv needs) (hx : OpsM Any w xv want) (htl : t.length ≤ maxLen) :
 Calls Tryz.prog 8 #[lv, nv, xv, str t, .int .i64 i] w fun e w' => e = .returned (.bool true) ∧ Below w.heap.size w w' := by
 obtain ⟨lp, lc, rfl, _, hlm, _⟩ := hl.shape
 obtain ⟨np, nc, rfl, _, hnm, _⟩ := hn.shape
 obtain ⟨xp, xc, rfl, hxc, hxm, _⟩ := hx.shape
 unfold maxLen at hlm hnm hxm
 have hA := Below.refl w.heap.size w
 have HT := Lib.hid (fun W (hW : Below w.heap.size w W) => hT.below hW (nl _))
 have HS := fun W hW => shown_any W (HT.out W hW)
 have HF := fun W (hW : Below w.heap.size w W) => lfew_any l _ W (hl.below hW (nl _))
 have HN := fun W (hW : Below w.heap.size w W) => lwanted_any needs _ W (hn.below hW (nl _))
 have HX := fun W (hW : Below w.heap.size w W) => lwanted_any want _ W (hx.below hW (nl _))
 have HH := fun W => lshort_any [t] (.slice (some ⟨W.heap.size, 0, none⟩) 1 1) (W.alloc (.cells #[str t] 9)) (ss_at (D := Any) W W.heap.size rfl trivial [t] (by simp [maxLen]) (by simpa using htl) 9)
 rcases q1 : fewS l with _ | _
 · rw [q1] at HF
   clear HN HX HH q1 hl hn hx hlm hnm hxm hxc;go_enter Tryz.func8, Tryz.ntmps8;go_wp2_with (first
    | (go_at_call 18; refine (HS w1 B1).mono ?_; rintro e w9 ⟨rfl, hb9⟩)
    | (go_at_call 15; refine (HF w hA).mono ?_; clear HF; rintro e w1 ⟨rfl, hb1⟩; have B1 := hA.trans hb1))
   go_ret;exact ⟨rfl, B1.trans (below_less hb9 B1.size)⟩
 rcases q2 : wantedS needs with _ | _
 · rw [q1] at HF
   rw [q2] at HN;clear HX HH q1 q2 hl hn hx hlm hnm hxm hxc;go_enter Tryz.func8, Tryz.ntmps8;go_wp2_with (first
    | (go_at_call 18; refine (HS w2 B2).mono ?_; rintro e w9 ⟨rfl, hb9⟩)
    | (go_at_call 16; refine (HN w1 B1).mono ?_; clear HN; rintro e w2 ⟨rfl, hb2⟩; have B2 := B1.trans (below_less hb2 B1.size))
    | (go_at_call 15; refine (HF w hA).mono ?_; clear HF; rintro e w1 ⟨rfl, hb1⟩; have B1 := hA.trans hb1))
   go_ret;exact ⟨rfl, B2.trans (below_less hb9 B2.size)⟩
 rcases q3 : wantedS want with _ | _
 · rw [q1] at HF
   rw [q2] at HN;rw [q3] at HX;clear HH q1 q2 q3 hl hn hx hlm hnm hxm hxc;go_enter Tryz.func8, Tryz.ntmps8;go_wp2_with (first
    | (go_at_call 18; refine (HS w3 B3).mono ?_; rintro e w9 ⟨rfl, hb9⟩)
    | (go_at_call 16; refine (HX w2 B2).mono ?_; clear HX; rintro e w3 ⟨rfl, hb3⟩; have B3 := B2.trans (below_less hb3 B2.size))
    | (go_at_call 16; refine (HN w1 B1).mono ?_; clear HN; rintro e w2 ⟨rfl, hb2⟩; have B2 := B1.trans (below_less hb2 B1.size))
    | (go_at_call 15; refine (HF w hA).mono ?_; clear HF; rintro e w1 ⟨rfl, hb1⟩; have B1 := hA.trans hb1))
   go_ret;exact ⟨rfl, B3.trans (below_less hb9 B3.size)⟩
 have hfn := few_needs2 q1
 have hnl : needs.length ≤ 6 := by unfold wantedS at q2; simp only [Bool.and_eq_true, decide_eq_true_eq] at q2; exact q2.2
 have hxl : want.length ≤ 6 := by unfold wantedS at q3; simp only [Bool.and_eq_true, decide_eq_true_eq] at q3; exact q3.2
 have hll := few_len q1
 rw [q1] at HF
 rw [q2] at HN
 rw [q3] at HX
 clear q1 q2 q3
 rcases q4 : shortK [t] with _ | _
 · rw [q4] at HH
   clear q4 hl hn hx hlm hnm hxm hxc hfn hnl hxl hll;go_enter Tryz.func8, Tryz.ntmps8;go_wp2_with (first
    | (go_at_call 18; refine (HS w4 B4).mono ?_; rintro e w9 ⟨rfl, hb9⟩)
    | (go_at_call 17; refine (HH w3).mono ?_; clear HH; rintro e w4 ⟨rfl, hb4⟩; have B4 := (B3.alloc B3.size (.cells #[str t] 9)).trans (below_less hb4 (B3.alloc B3.size (.cells #[str t] 9)).size))
    | (go_at_call 16; refine (HX w2 B2).mono ?_; clear HX; rintro e w3 ⟨rfl, hb3⟩; have B3 := B2.trans (below_less hb3 B2.size))
    | (go_at_call 16; refine (HN w1 B1).mono ?_; clear HN; rintro e w2 ⟨rfl, hb2⟩; have B2 := B1.trans (below_less hb2 B1.size))
    | (go_at_call 15; refine (HF w hA).mono ?_; clear HF; rintro e w1 ⟨rfl, hb1⟩; have B1 := hA.trans hb1))
   go_ret;exact ⟨rfl, B4.trans (below_less hb9 B4.size)⟩
 have ht2 : t.length ≤ 200 := by rw [short_one] at q4; simpa using q4
 rw [q4] at HH
 clear q4
 by_cases hl0 : l = []
 · have g0 : ((l.length : Int) == 0) = true := by rw [hl0]; rfl
   clear hl hn hx hlm hnm hxm hxc hfn hnl hxl hll hl0 ht2;go_enter Tryz.func8, Tryz.ntmps8;go_wp2_with (first
    | (go_at_call 18; refine (HS w4 B4).mono ?_; rintro e w9 ⟨rfl, hb9⟩)
    | (go_at_call 17; refine (HH w3).mono ?_; clear HH; rintro e w4 ⟨rfl, hb4⟩; have B4 := (B3.alloc B3.size (.cells #[str t] 9)).trans (below_less hb4 (B3.alloc B3.size (.cells #[str t] 9)).size))
    | (go_at_call 16; refine (HX w2 B2).mono ?_; clear HX; rintro e w3 ⟨rfl, hb3⟩; have B3 := B2.trans (below_less hb3 B2.size))
    | (go_at_call 16; refine (HN w1 B1).mono ?_; clear HN; rintro e w2 ⟨rfl, hb2⟩; have B2 := B1.trans (below_less hb2 B1.size))
    | (go_at_call 15; refine (HF w hA).mono ?_; clear HF; rintro e w1 ⟨rfl, hb1⟩; have B1 := hA.trans hb1))
   go_ret;exact ⟨rfl, B4.trans (below_less hb9 B4.size)⟩
 have hlp : 0 < l.length := List.length_pos_iff.2 hl0
 have g0 : ((l.length : Int) == 0) = false := by simpa using hl0
 go_enter Tryz.func8, Tryz.ntmps8
 go_upto_if 59 with (first
  | (go_at_call 17; refine (HH w3).mono ?_; clear HH; rintro e w4 ⟨rfl, hb4⟩; have B4 := (B3.alloc B3.size (.cells #[str t] 9)).trans (below_less hb4 (B3.alloc B3.size (.cells #[str t] 9)).size))
  | (go_at_call 16; refine (HX w2 B2).mono ?_; clear HX; rintro e w3 ⟨rfl, hb3⟩; have B3 := B2.trans (below_less hb3 B2.size))
  | (go_at_call 16; refine (HN w1 B1).mono ?_; clear HN; rintro e w2 ⟨rfl, hb2⟩; have B2 := B1.trans (below_less hb2 B1.size))
  | (go_at_call 15; refine (HF w hA).mono ?_; clear HF; rintro e w1 ⟨rfl, hb1⟩; have B1 := hA.trans hb1))
 clear hb1 hb2 hb3 hb4 B1 B2 B3
 have HX1 := fun W (hW : Below w.heap.size w W) => fitsL_any l _ needs _ needs _ qT W (HT.out W hW) (hl.below hW (nl _)) (hn.below hW (nl _)) (hn.below hW (nl _)) hfn (by omega) (by omega) (by simp [qT, maxLen])
 have hown := fits_own (l := l) (needs := needs)
 go_cut [] from 57 to 73 (fun wx => Below w.heap.size w wx)
 case first =>
  by_cases hn0 : needs = []
  · have g1 : ¬ ((0 : Int) < (needs.length : Int)) := by simp [hn0]
    have g2 : ¬ (0 < needs.length) := by simp [hn0]
    clear hn0 HX1 hown;go_wp2_with fail
    go_meet
    exact B4
  · have g1 : (0 : Int) < (needs.length : Int) := by simpa using List.length_pos_iff.2 hn0
    have g2 : 0 < needs.length := List.length_pos_iff.2 hn0;clear hn0;generalize fitsL l needs needs qT = r at HX1 hown;obtain ⟨ra, rb, rc⟩ := r;dsimp only at HX1 hown
    by_cases hrc : rc = 0
    · obtain rfl := hown hrc
      subst hrc;go_wp2_with (go_at_call 29; refine (HX1 _ B4).mono ?_; clear HX1; rintro e w5 ⟨rfl, hb5⟩)
      go_meet
      exact B4.trans (below_less hb5 B4.size)
    · have g3 : ((rc : Int) == 0) = false := by simpa using hrc
      go_wp2_with (go_at_call 29; refine (HX1 _ B4).mono ?_; clear HX1; rintro e w5 ⟨rfl, hb5⟩)
      go_meet
      exact B4.trans (below_less hb5 B4.size)
 case rest =>
  clear HX1 hown B4;have HX2 := fun W (hW : Below w.heap.size w W) => fitsL_any l _ needs _ want _ t W (HT.out W hW) (hl.below hW (nl _)) (hn.below hW (nl _)) (hx.below hW (nl _)) hfn (by omega) (by omega) htl
  go_upto_region 8 with (go_at_call 29; refine (HX2 _ hcut).mono ?_; clear HX2; rintro e w6 ⟨rfl, hb6⟩);have B6 := hcut.trans (below_less hb6 hcut.size);have HC := fun (h : (fitsL l needs want t).2.2 = 0) (hw : want ≠ []) => show (fitsL l needs (want.drop 1) t).2.2 = 0 ∧ (fitsL l needs (want.take 1) t).2.2 = 0 ∧ (fitsL l needs want t).2.1 = ((fitsL l needs (want.drop 1) t).2.1 && (fitsL l needs (want.take 1) t).2.1) from by
   rcases want with _ | ⟨x, r⟩
   · exact absurd rfl hw
   · exact fits_cut h
  have HX3 := fun vd W (hW : Below w.heap.size w W) (hv : OpsM Any W vd (want.drop 1)) => fitsL_any l _ needs _ (want.drop 1) vd t W (HT.out W hW) (hl.below hW (nl _)) (hn.below hW (nl _)) hv hfn (by omega) (by simp only [List.length_drop]; omega) htl
  have HX4 := fun vd W (hW : Below w.heap.size w W) (hv : OpsM Any W vd (want.take 1)) => fitsL_any l _ needs _ (want.take 1) vd t W (HT.out W hW) (hl.below hW (nl _)) (hn.below hW (nl _)) hv hfn (by omega) (by simp only [List.length_take]; omega) htl
  generalize fitsL l needs want t = r at HC ⊢;generalize fitsL l needs (want.drop 1) t = r3 at HC HX3;generalize fitsL l needs (want.take 1) t = r4 at HC HX4;obtain ⟨ra, rb, rc⟩ := r;obtain ⟨ra3, rb3, rc3⟩ := r3;obtain ⟨ra4, rb4, rc4⟩ := r4;dsimp only at HC HX3 HX4 ⊢;clear hcut hb6
  go_cut [89] from 83 to 88 (fun s wx => s = .bool (decide (rc = 0) && decide (want ≠ [])) ∧ wx = w6)
  case first =>
   clear HC HX3 HX4
   by_cases hrc : rc = 0
   · subst hrc
     by_cases hw0 : want = []
     · have g1 : ¬ ((0 : Int) < (want.length : Int)) := by simp [hw0]
       have g2 : ¬ (0 < want.length) := by simp [hw0]
       have g3 : decide (want ≠ []) = false := by simp [hw0]
       clear hw0;go_wp2_with fail
       go_meet
       exact ⟨by rw [g3]; rfl, rfl⟩
     · have g1 : (0 : Int) < (want.length : Int) := by simpa using List.length_pos_iff.2 hw0
       have g2 : 0 < want.length := List.length_pos_iff.2 hw0;have g3 : decide (want ≠ []) = true := by simp [hw0]
       clear hw0;go_wp2_with fail
       go_meet
       exact ⟨by rw [g3]; rfl, rfl⟩
   · have g3 : ((rc : Int) == 0) = false := by simpa using hrc
     have g4 : decide (rc = 0) = false := by simpa using hrc
     clear hrc;go_wp2_with fail
     go_meet
     exact ⟨by rw [g4]; rfl, rfl⟩
  case rest =>
   obtain ⟨rfl, rfl⟩ := hcut;have hq := fun (h : (decide (rc = 0) && decide (want ≠ [])) = true) => show rc = 0 ∧ want ≠ [] by simpa using h
   generalize (decide (rc = 0) && decide (want ≠ [])) = q at hq ⊢
   go_upto_if 89 with fail
   go_cut [] from 90 to 123 (fun wx => Below w.heap.size w wx)
   case first =>
    rcases q with _ | _
    · clear HC HX3 HX4 hq
      go_wp2_with fail
      go_meet
      exact B6
    · obtain ⟨hrc, hw0⟩ := hq rfl
      obtain ⟨c3, c4, c5⟩ := HC hrc hw0;subst hrc c3 c4;have hwl : 0 < want.length := List.length_pos_iff.2 hw0;obtain ⟨x0, hx0⟩ : ∃ x, want[0]? = some x := ⟨_, List.getElem?_eq_getElem hwl⟩
      obtain ⟨bx, ox, _, _, hxp, _⟩ := hx.at hx0;subst hxp;clear hx0 hq HC hw0;have htk := Lib.hid (fun W (hW : Below w.heap.size w W) => (OpsM.take (hx.below hW (nl _)) (show 1 ≤ want.length from hwl) xc (by omega) : OpsM Any W (.slice (some ⟨bx, ox, none⟩) 1 xc) (want.take 1)))
      by_cases hc1 : xc = 1
      · subst hc1
        have hd : OpsM Any wc (.slice (some ⟨bx, ox, none⟩) 0 0) (want.drop 1) := by
         rw [show want.drop 1 = [] from List.drop_eq_nil_of_le (by omega)];exact OpsM.nil _ _ _ _
        go_upto_region 11 with (first
         | (go_at_call 29; refine (HX4 _ w7 B7 (htk.out w7 B7)).mono ?_; clear HX4; rintro e w8 ⟨rfl, hb8⟩; have B8 := B7.trans (below_less hb8 B7.size))
         | (go_at_call 29; refine (HX3 _ _ B6 hd).mono ?_; clear HX3; rintro e w7 ⟨rfl, hb7⟩; have B7 := B6.trans (below_less hb7 B6.size)))
        clear hd htk;rcases rb3 with _ | _
        · rcases rb4 with _ | _
          · subst c5
            go_wp2_with fail
            go_meet
            exact B8
          · subst c5
            go_wp2_with fail
            go_meet
            exact B8
        · rcases rb4 with _ | _
          · subst c5
            go_wp2_with fail
            go_meet
            exact B8
          · subst c5
            go_wp2_with fail
            go_meet
            exact B8
      · have hc2 : 1 < xc := by omega
        have hd : OpsM Any wc (.slice (some ⟨bx, ox + 5, none⟩) (want.length - 1) (xc - 1)) (want.drop 1) := OpsM.drop (k := 1) (hx.below B6 (nl _)) hwl rfl (xc - 1) (by omega);go_upto_region 11 with (first
         | (go_at_call 29; refine (HX4 _ w7 B7 (htk.out w7 B7)).mono ?_; clear HX4; rintro e w8 ⟨rfl, hb8⟩; have B8 := B7.trans (below_less hb8 B7.size))
         | (go_at_call 29; refine (HX3 _ _ B6 hd).mono ?_; clear HX3; rintro e w7 ⟨rfl, hb7⟩; have B7 := B6.trans (below_less hb7 B6.size)))
        clear hd htk;rcases rb3 with _ | _
        · rcases rb4 with _ | _
          · subst c5
            go_wp2_with fail
            go_meet
            exact B8
          · subst c5
            go_wp2_with fail
            go_meet
            exact B8
        · rcases rb4 with _ | _
          · subst c5
            go_wp2_with fail
            go_meet
            exact B8
          · subst c5
            go_wp2_with fail
            go_meet
            exact B8
   case rest =>
    clear HC HX3 HX4 hq B6;go_upto_region 14 with fail;obtain ⟨k, hk1, hk⟩ := pick_index i l.length hlp (by omega);rw [hk1];clear hk1;obtain ⟨f, hf⟩ : ∃ f, l[k]? = some f := ⟨_, List.getElem?_eq_getElem hk⟩
    obtain ⟨bl, ol, nv1, ov1, hbe, _, hfl, hN, hO, d0, d1, d2, d3, d4⟩ := (hl.below hcut (nl _)).at hf;subst hbe;obtain ⟨p1, c1, rfl, _⟩ := hN.shape;obtain ⟨p2, c2, rfl, _⟩ := hO.shape;have hfn2 := hfn f (List.mem_of_getElem? hf);have HG := fun (hp : f.par = true) (h3 : f.kind = 3) (ht : t ≠ []) u (h : namK f.name t = (u, 0)) => named_good (needs := needs) hf hp h3 ht h
    have HNM := fun W => rnamed_any f.name t hfl htl W
    have HX5 := fun W (hW : Below wc.heap.size wc W) => fitsL_any l _ needs _ f.needs _ t W (HT.out W (hcut.trans (below_less hW hcut.size))) ((hl.below hcut (nl _)).below hW (nl _)) ((hn.below hcut (nl _)).below hW (nl _)) (hN.below hW (nl _)) hfn (by omega) hfn2 htl
    have HOP := fun W => ropen_any t htl W
    have HGD := fun par u (hu : u.length ≤ maxLen) W (hW : Below wc.heap.size wc W) => goodL_any l _ needs _ par u W (HT.out W (hcut.trans (below_less hW hcut.size))) ((hl.below hcut (nl _)).below hW (nl _)) ((hn.below hcut (nl _)).below hW (nl _)) hfn (by omega) hu
    have hE := (Below.refl _ wc).alloc (nl _) (.cells #[str f.name, .int .u8 f.kind, .bool f.par, .slice p1 f.needs.length c1, .slice p2 f.ops.length c2] 58);have kE := heap_alloc_new wc (.cells #[str f.name, .int .u8 f.kind, .bool f.par, .slice p1 f.needs.length c1, .slice p2 f.ops.length c2] 58);have bE := box5 kE;clear hf hN hO hl hn hx;go_upto_region 16 with (go_at_call 37; refine (HNM _).mono ?_; clear HNM; rintro e w9 ⟨rfl, hb9⟩);have kE9 := kept_call kE hb9;have bE9 := box5 kE9;have B9 := hE.trans (below_less hb9 hE.size);have B9w := hcut.trans (below_less B9 hcut.size);clear kE bE hE hb9 kE9
    by_cases ht0 : t = []
    · have gt1 : (t == []) = true := by rw [ht0]; rfl
      have gt2 : t.isEmpty = true := by rw [ht0]; rfl
      clear HG HX5 HGD HOP ht0;go_wp2_with (go_at_call 18; refine (HS w9 B9w).mono ?_; rintro e w10 ⟨rfl, hb10⟩);go_ret;exact ⟨rfl, B9w.trans (below_less hb10 B9w.size)⟩
    have gt1 : (t == []) = false := by simpa using ht0
    have gt2 : t.isEmpty = false := by simpa using ht0
    have HG0 := fun hp h3 u h => HG hp h3 ht0 u h
    have hsm := fun u h => named_short (n := f.name) (u := u) ht0 h
    clear HG ht0;generalize namK f.name t = nk at HG0 hsm ⊢;obtain ⟨u, nc2⟩ := nk;dsimp only
    by_cases hnc : nc2 = 0
    case neg =>
     have gn : ((nc2 : Int) != 0) = true := by simpa using hnc
     clear HG0 HX5 HGD HOP hnc hsm;go_wp2_with (go_at_call 18; refine (HS w9 B9w).mono ?_; rintro e w10 ⟨rfl, hb10⟩);go_ret;exact ⟨rfl, B9w.trans (below_less hb10 B9w.size)⟩
    subst hnc;rcases hpar : f.par with _ | _
    · rw [hpar] at bE9
      clear HG0 HX5 HGD HOP hsm;go_wp2_with (go_at_call 18; refine (HS w9 B9w).mono ?_; rintro e w10 ⟨rfl, hb10⟩);go_ret;exact ⟨rfl, B9w.trans (below_less hb10 B9w.size)⟩
    rw [hpar] at bE9
    by_cases hkd : f.kind = 3
    case neg =>
     have gk : ((f.kind : Int) != 3) = true := by
      have : ¬ (f.kind : Int) = 3 := by omega
      simpa using this
     clear HG0 HX5 HGD HOP hkd hsm;go_wp2_with (go_at_call 18; refine (HS w9 B9w).mono ?_; rintro e w10 ⟨rfl, hb10⟩);go_ret;exact ⟨rfl, B9w.trans (below_less hb10 B9w.size)⟩
    have HG1 := HG0 hpar hkd u rfl;have hu := hsm u rfl;rw [hkd] at bE9;clear HG0 hsm;generalize fitsL l needs f.needs t = r at HG1 HX5;obtain ⟨rx, rf, rh⟩ := r;dsimp only at HG1 HX5;rcases hop : openK t with _ | _
    · rw [hop] at HG1 HOP
      rw [Bool.false_or] at HG1
      by_cases hnd : 0 < needs.length
      · have gd : (0 : Int) < (needs.length : Int) := by omega
        rw [decide_eq_true hnd] at HG1;have HG2 : goodL l needs true u = 0 ↔ rh = 0 ∧ rf = true := by
         rw [← HG1]
        have HGD := HGD true u hu;generalize goodL l needs true u = gl at HGD HG2;clear HG1;rcases rf with _ | _
        · have g7 : ((gl : Int) == 0) = false := by
           have : gl ≠ 0 := fun e => by have := (HG2.1 e).2; cases this
           simpa using this
          by_cases hrh : rh = 0
          · subst hrh
            clear HG2;go_wp2_with (first
             | (go_at_call 19; refine (HGD w12 B12).mono ?_; rintro e w13 ⟨rfl, hb13⟩; have B13 := B12.trans (below_less hb13 B12.size))
             | (go_at_call 18; refine (HS w11 (hcut.trans (below_less B11 hcut.size))).mono ?_; rintro e w12 ⟨rfl, hb12⟩; have B12 := B11.trans (below_less hb12 B11.size))
             | (go_at_call 34; refine (HOP w10).mono ?_; rintro e w11 ⟨rfl, hb11⟩; have B11 := B10.trans (below_less hb11 B10.size))
             | (go_at_call 29; refine (HX5 w9 B9).mono ?_; rintro e w10 ⟨rfl, hb10⟩; have B10 := B9.trans (below_less hb10 B9.size)))
            go_ret;exact ⟨rfl, hcut.trans (below_less B13 hcut.size)⟩
          · have g8 : ((rh : Int) == 0) = false := by simpa using hrh
            clear HG2 hrh;go_wp2_with (first
             | (go_at_call 19; refine (HGD w12 B12).mono ?_; rintro e w13 ⟨rfl, hb13⟩; have B13 := B12.trans (below_less hb13 B12.size))
             | (go_at_call 18; refine (HS w11 (hcut.trans (below_less B11 hcut.size))).mono ?_; rintro e w12 ⟨rfl, hb12⟩; have B12 := B11.trans (below_less hb12 B11.size))
             | (go_at_call 34; refine (HOP w10).mono ?_; rintro e w11 ⟨rfl, hb11⟩; have B11 := B10.trans (below_less hb11 B10.size))
             | (go_at_call 29; refine (HX5 w9 B9).mono ?_; rintro e w10 ⟨rfl, hb10⟩; have B10 := B9.trans (below_less hb10 B9.size)))
            go_ret;exact ⟨rfl, hcut.trans (below_less B13 hcut.size)⟩
        · by_cases hrh : rh = 0
          · subst hrh
            have g7 : gl = 0 := HG2.2 ⟨rfl, rfl⟩;subst g7;clear HG2;go_wp2_with (first
             | (go_at_call 19; refine (HGD w12 B12).mono ?_; rintro e w13 ⟨rfl, hb13⟩; have B13 := B12.trans (below_less hb13 B12.size))
             | (go_at_call 18; refine (HS w11 (hcut.trans (below_less B11 hcut.size))).mono ?_; rintro e w12 ⟨rfl, hb12⟩; have B12 := B11.trans (below_less hb12 B11.size))
             | (go_at_call 34; refine (HOP w10).mono ?_; rintro e w11 ⟨rfl, hb11⟩; have B11 := B10.trans (below_less hb11 B10.size))
             | (go_at_call 29; refine (HX5 w9 B9).mono ?_; rintro e w10 ⟨rfl, hb10⟩; have B10 := B9.trans (below_less hb10 B9.size)))
            go_ret;exact ⟨rfl, hcut.trans (below_less B13 hcut.size)⟩
          · have g7 : ((gl : Int) == 0) = false := by
             have : gl ≠ 0 := fun e => hrh (HG2.1 e).1
             simpa using this
            have g8 : ((rh : Int) == 0) = false := by simpa using hrh
            clear HG2 hrh;go_wp2_with (first
             | (go_at_call 19; refine (HGD w12 B12).mono ?_; rintro e w13 ⟨rfl, hb13⟩; have B13 := B12.trans (below_less hb13 B12.size))
             | (go_at_call 18; refine (HS w11 (hcut.trans (below_less B11 hcut.size))).mono ?_; rintro e w12 ⟨rfl, hb12⟩; have B12 := B11.trans (below_less hb12 B11.size))
             | (go_at_call 34; refine (HOP w10).mono ?_; rintro e w11 ⟨rfl, hb11⟩; have B11 := B10.trans (below_less hb11 B10.size))
             | (go_at_call 29; refine (HX5 w9 B9).mono ?_; rintro e w10 ⟨rfl, hb10⟩; have B10 := B9.trans (below_less hb10 B9.size)))
            go_ret;exact ⟨rfl, hcut.trans (below_less B13 hcut.size)⟩
      · have gd : ¬ (0 : Int) < (needs.length : Int) := by omega
        rw [decide_eq_false hnd] at HG1;have HG2 : goodL l needs false u = 0 ↔ rh = 0 ∧ rf = true := by
         rw [← HG1]
        have HGD := HGD false u hu;generalize goodL l needs false u = gl at HGD HG2;clear HG1;rcases rf with _ | _
        · have g7 : ((gl : Int) == 0) = false := by
           have : gl ≠ 0 := fun e => by have := (HG2.1 e).2; cases this
           simpa using this
          by_cases hrh : rh = 0
          · subst hrh
            clear HG2;go_wp2_with (first
             | (go_at_call 19; refine (HGD w12 B12).mono ?_; rintro e w13 ⟨rfl, hb13⟩; have B13 := B12.trans (below_less hb13 B12.size))
             | (go_at_call 18; refine (HS w11 (hcut.trans (below_less B11 hcut.size))).mono ?_; rintro e w12 ⟨rfl, hb12⟩; have B12 := B11.trans (below_less hb12 B11.size))
             | (go_at_call 34; refine (HOP w10).mono ?_; rintro e w11 ⟨rfl, hb11⟩; have B11 := B10.trans (below_less hb11 B10.size))
             | (go_at_call 29; refine (HX5 w9 B9).mono ?_; rintro e w10 ⟨rfl, hb10⟩; have B10 := B9.trans (below_less hb10 B9.size)))
            go_ret;exact ⟨rfl, hcut.trans (below_less B13 hcut.size)⟩
          · have g8 : ((rh : Int) == 0) = false := by simpa using hrh
            clear HG2 hrh;go_wp2_with (first
             | (go_at_call 19; refine (HGD w12 B12).mono ?_; rintro e w13 ⟨rfl, hb13⟩; have B13 := B12.trans (below_less hb13 B12.size))
             | (go_at_call 18; refine (HS w11 (hcut.trans (below_less B11 hcut.size))).mono ?_; rintro e w12 ⟨rfl, hb12⟩; have B12 := B11.trans (below_less hb12 B11.size))
             | (go_at_call 34; refine (HOP w10).mono ?_; rintro e w11 ⟨rfl, hb11⟩; have B11 := B10.trans (below_less hb11 B10.size))
             | (go_at_call 29; refine (HX5 w9 B9).mono ?_; rintro e w10 ⟨rfl, hb10⟩; have B10 := B9.trans (below_less hb10 B9.size)))
            go_ret;exact ⟨rfl, hcut.trans (below_less B13 hcut.size)⟩
        · by_cases hrh : rh = 0
          · subst hrh
            have g7 : gl = 0 := HG2.2 ⟨rfl, rfl⟩;subst g7;clear HG2;go_wp2_with (first
             | (go_at_call 19; refine (HGD w12 B12).mono ?_; rintro e w13 ⟨rfl, hb13⟩; have B13 := B12.trans (below_less hb13 B12.size))
             | (go_at_call 18; refine (HS w11 (hcut.trans (below_less B11 hcut.size))).mono ?_; rintro e w12 ⟨rfl, hb12⟩; have B12 := B11.trans (below_less hb12 B11.size))
             | (go_at_call 34; refine (HOP w10).mono ?_; rintro e w11 ⟨rfl, hb11⟩; have B11 := B10.trans (below_less hb11 B10.size))
             | (go_at_call 29; refine (HX5 w9 B9).mono ?_; rintro e w10 ⟨rfl, hb10⟩; have B10 := B9.trans (below_less hb10 B9.size)))
            go_ret;exact ⟨rfl, hcut.trans (below_less B13 hcut.size)⟩
          · have g7 : ((gl : Int) == 0) = false := by
             have : gl ≠ 0 := fun e => hrh (HG2.1 e).1
             simpa using this
            have g8 : ((rh : Int) == 0) = false := by simpa using hrh
            clear HG2 hrh;go_wp2_with (first
             | (go_at_call 19; refine (HGD w12 B12).mono ?_; rintro e w13 ⟨rfl, hb13⟩; have B13 := B12.trans (below_less hb13 B12.size))
             | (go_at_call 18; refine (HS w11 (hcut.trans (below_less B11 hcut.size))).mono ?_; rintro e w12 ⟨rfl, hb12⟩; have B12 := B11.trans (below_less hb12 B11.size))
             | (go_at_call 34; refine (HOP w10).mono ?_; rintro e w11 ⟨rfl, hb11⟩; have B11 := B10.trans (below_less hb11 B10.size))
             | (go_at_call 29; refine (HX5 w9 B9).mono ?_; rintro e w10 ⟨rfl, hb10⟩; have B10 := B9.trans (below_less hb10 B9.size)))
            go_ret;exact ⟨rfl, hcut.trans (below_less B13 hcut.size)⟩
    · rw [hop] at HG1 HOP
      rw [Bool.true_or] at HG1;have HG2 : goodL l needs true u = 0 ↔ rh = 0 ∧ rf = true := by
       rw [← HG1]
      have HGD := HGD true u hu;generalize goodL l needs true u = gl at HGD HG2;clear HG1;rcases rf with _ | _
      · have g7 : ((gl : Int) == 0) = false := by
         have : gl ≠ 0 := fun e => by have := (HG2.1 e).2; cases this
         simpa using this
        by_cases hrh : rh = 0
        · subst hrh
          clear HG2;go_wp2_with (first
           | (go_at_call 19; refine (HGD w12 B12).mono ?_; rintro e w13 ⟨rfl, hb13⟩; have B13 := B12.trans (below_less hb13 B12.size))
           | (go_at_call 18; refine (HS w11 (hcut.trans (below_less B11 hcut.size))).mono ?_; rintro e w12 ⟨rfl, hb12⟩; have B12 := B11.trans (below_less hb12 B11.size))
           | (go_at_call 34; refine (HOP w10).mono ?_; rintro e w11 ⟨rfl, hb11⟩; have B11 := B10.trans (below_less hb11 B10.size))
           | (go_at_call 29; refine (HX5 w9 B9).mono ?_; rintro e w10 ⟨rfl, hb10⟩; have B10 := B9.trans (below_less hb10 B9.size)))
          go_ret;exact ⟨rfl, hcut.trans (below_less B13 hcut.size)⟩
        · have g8 : ((rh : Int) == 0) = false := by simpa using hrh
          clear HG2 hrh;go_wp2_with (first
           | (go_at_call 19; refine (HGD w12 B12).mono ?_; rintro e w13 ⟨rfl, hb13⟩; have B13 := B12.trans (below_less hb13 B12.size))
           | (go_at_call 18; refine (HS w11 (hcut.trans (below_less B11 hcut.size))).mono ?_; rintro e w12 ⟨rfl, hb12⟩; have B12 := B11.trans (below_less hb12 B11.size))
           | (go_at_call 34; refine (HOP w10).mono ?_; rintro e w11 ⟨rfl, hb11⟩; have B11 := B10.trans (below_less hb11 B10.size))
           | (go_at_call 29; refine (HX5 w9 B9).mono ?_; rintro e w10 ⟨rfl, hb10⟩; have B10 := B9.trans (below_less hb10 B9.size)))
          go_ret;exact ⟨rfl, hcut.trans (below_less B13 hcut.size)⟩
      · by_cases hrh : rh = 0
        · subst hrh
          have g7 : gl = 0 := HG2.2 ⟨rfl, rfl⟩;subst g7;clear HG2;go_wp2_with (first
           | (go_at_call 19; refine (HGD w12 B12).mono ?_; rintro e w13 ⟨rfl, hb13⟩; have B13 := B12.trans (below_less hb13 B12.size))
           | (go_at_call 18; refine (HS w11 (hcut.trans (below_less B11 hcut.size))).mono ?_; rintro e w12 ⟨rfl, hb12⟩; have B12 := B11.trans (below_less hb12 B11.size))
           | (go_at_call 34; refine (HOP w10).mono ?_; rintro e w11 ⟨rfl, hb11⟩; have B11 := B10.trans (below_less hb11 B10.size))
           | (go_at_call 29; refine (HX5 w9 B9).mono ?_; rintro e w10 ⟨rfl, hb10⟩; have B10 := B9.trans (below_less hb10 B9.size)))
          go_ret;exact ⟨rfl, hcut.trans (below_less B13 hcut.size)⟩
        · have g7 : ((gl : Int) == 0) = false := by
           have : gl ≠ 0 := fun e => hrh (HG2.1 e).1
           simpa using this
          have g8 : ((rh : Int) == 0) = false := by simpa using hrh
          clear HG2 hrh;go_wp2_with (first
           | (go_at_call 19; refine (HGD w12 B12).mono ?_; rintro e w13 ⟨rfl, hb13⟩; have B13 := B12.trans (below_less hb13 B12.size))
           | (go_at_call 18; refine (HS w11 (hcut.trans (below_less B11 hcut.size))).mono ?_; rintro e w12 ⟨rfl, hb12⟩; have B12 := B11.trans (below_less hb12 B11.size))
           | (go_at_call 34; refine (HOP w10).mono ?_; rintro e w11 ⟨rfl, hb11⟩; have B11 := B10.trans (below_less hb11 B10.size))
           | (go_at_call 29; refine (HX5 w9 B9).mono ?_; rintro e w10 ⟨rfl, hb10⟩; have B10 := B9.trans (below_less hb10 B9.size)))
          go_ret;exact ⟨rfl, hcut.trans (below_less B13 hcut.size)⟩
end Go.Proofs.YtakgjcfkdemipaaGreatDoor
