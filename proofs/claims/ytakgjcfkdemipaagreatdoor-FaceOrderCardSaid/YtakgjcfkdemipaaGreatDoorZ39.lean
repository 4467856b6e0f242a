/-
  Contract: of the law: shown: the chapter's examples hold. Condition: the variable strings.asciiSpace.
-/
import Derived.Test.YtakgjcfkdemipaaGreatDoorZn
import Derived.Test.YtakgjcfkdemipaaGreatDoorZ2
import Derived.Test.YtakgjcfkdemipaaGreatDoorZ22
import Derived.Test.YtakgjcfkdemipaaGreatDoorZ33
import Derived.Test.YtakgjcfkdemipaaGreatDoorZ36
import Derived.Test.YtakgjcfkdemipaaGreatDoorZ38
namespace Go.Proofs.YtakgjcfkdemipaaGreatDoor
open Go Go.RowKit
section
variable {D : Nat → Prop} {ops : Array Oper} {h : Nat} {V : List VS} {E : List (Nat × VS)} {S : World → Prop} {k : Nat} {o : Oper}
theorem stFS2 {t : TypeId} {x y : Operand} {u v : Value} {f g : FaceP} (ho : o.op = .buildSlice t 2 #[(0, x), (1, y)]) (ht : t = 22) (hw : wantV ops h V o = some true) (hk : V[k]? = some (.faces [f, g])) (hx : specOf ops h V E o x = some (.eq u)) (hy : specOf ops h V E o y = some (.eq v))
 (hu : ∀ w, S w → ∃ n q, u = .agg #[str f.name, .int .u8 f.kind, .bool f.par, n, q] ∧ OpsM Any w n f.needs ∧ OpsM Any w q f.ops) (hv : ∀ w, S w → ∃ n q, v = .agg #[str g.name, .int .u8 g.kind, .bool g.par, n, q] ∧ OpsM Any w n g.needs ∧ OpsM Any w q g.ops) (hl : f.name.length ≤ maxLen) (hl2 : g.name.length ≤ maxLen) : StepAt Any Tryz.prog S ops h V E k o :=
 stOf [(x, .eq u), (y, .eq v)] hw hk (by simp [hx, hy]) fun a w Q hS hi next hn => by
  have h1 : a.eval x = u := hi (x, .eq u) (by simp);have h2 : a.eval y = v := hi (y, .eq v) (by simp);obtain ⟨n, q, rfl, hn1, hn2⟩ := hu w hS;obtain ⟨n2, q2, rfl, hn3, hn4⟩ := hv w hS;subst ht;unfold Oper.wp;have hrun : ∀ ev : Operand → Value, ev x = .agg #[str f.name, .int .u8 f.kind, .bool f.par, n, q] → ev y = .agg #[str g.name, .int .u8 g.kind, .bool g.par, n2, q2] → (execOp ev o).run Tryz.prog w = .ok (.value (.slice (some ⟨w.heap.size, 0, none⟩) 2 2)) (w.alloc (.cells #[str f.name, .int .u8 f.kind, .bool f.par, n, q, str g.name, .int .u8 g.kind, .bool g.par, n2, q2] 58)) := fun ev h1 h2 => by
   unfold execOp;simp [ho, h1, h2, go_sem]
  rw [hrun _ h1 h2];exact hn _ _ (faces_at (D := Any) w _ rfl trivial (l := [f, g]) 58 (by simp [maxLen]) ⟨_, _, _, rfl, hl, hn1, hn2, _, _, [], rfl, hl2, hn3, hn4, rfl⟩) ((Below.refl _ w).alloc (nl _) _)
theorem stExt {x : Operand} {cs : Array Value} {r : Value} {i : Nat} (ho : o.op = .extract x i) (hw : wantV ops h V o = some true) (hk : V[k]? = some (.eq r)) (hx : specOf ops h V E o x = some (.eq (.tuple cs))) (hr : cs[i]? = some r := by rfl) : StepAt D Tryz.prog S ops h V E k o :=
 stP1 x hw hk hx fun ev w hS h1 => by unfold execOp; simp [ho, h1, hr, go_sem]
end
theorem FacesM.any {D : Nat → Prop} {w : World} {v : Value} {l : List FaceP} (h : FacesM D w v l) : FacesM Any w v l := by
 obtain ⟨p, c, h1, h2, h3, hl, h4⟩ := h
 refine ⟨p, c, h1, h2, h3, hl, ?_⟩
 rcases h4 with h4 | ⟨b, o, e1, h5, h6, h7⟩
 · exact .inl h4
 · refine .inr ⟨b, o, e1, trivial, h6, fun j hj => ?_⟩
   obtain ⟨a, s, k1, k2, k3⟩ := h7 j hj;exact ⟨a, s, k1.mono (fun _ _ => trivial), k2.mono (fun _ _ => trivial), k3⟩
set_option maxRecDepth 8000 in
set_option maxHeartbeats 25600000 in
theorem shown_any (w : World) (ht : Tab w) : Calls Tryz.prog 18 #[] w fun e w' => e = .returned (.bool true) ∧ Below w.heap.size w w' := by
 go_enter Tryz.func18, Tryz.ntmps18
 go_upto_region 2 with (go_at_call 56; refine (library_any _).mono ?_; rintro e w1 ⟨g, rfl, hL, hb1⟩)
 have hL := hL.any
 have hn : ∀ f ∈ libK, f.needs.length ≤ 100000 := by simp [libK, setF, sortF]
 have HT := Lib.hid (fun W (hW : Below w1.heap.size w1 W) => (ht.below hb1 (nl _)).below hW (nl _))
 have HL := Lib.hid (fun W (hW : Below w1.heap.size w1 W) => hL.below hW (nl _))
 obtain ⟨b0, o0, nv0, ov0, e0, _, _, hN0, hO0, c0, c1, c2, c3, c4⟩ := hL.at (k := 0) (x := setF) rfl
 obtain ⟨b1, o1, nv1, ov1, e1, _, _, hN1, hO1, c5, c6, c7, c8, c9⟩ := hL.at (k := 1) (x := sortF) rfl
 simp only [Option.some.injEq, Addr.mk.injEq, and_true] at e0 e1
 obtain ⟨rfl, rfl⟩ := e0
 obtain ⟨rfl, rfl⟩ := e1
 simp only [Nat.zero_mul, Nat.one_mul, Nat.zero_add, Nat.reduceAdd] at c0 c1 c2 c3 c4 c5 c6 c7 c8 c9
 have HK := Lib.hid (fun W (hW : Below w1.heap.size w1 W) => (⟨Below.keep hW c0, Below.keep hW c1, Below.keep hW c2, Below.keep hW c3, Below.keep hW c4, Below.keep hW c5, Below.keep hW c6, Below.keep hW c7, Below.keep hW c8, Below.keep hW c9⟩ : W.cell? ⟨g, 0, none⟩ = some (str setF.name) ∧ W.cell? ⟨g, 1, none⟩ = some (.int .u8 3) ∧ W.cell? ⟨g, 2, none⟩ = some (.bool true) ∧ W.cell? ⟨g, 3, none⟩ = some nv0 ∧ W.cell? ⟨g, 4, none⟩ = some ov0 ∧ W.cell? ⟨g, 5, none⟩ = some (str sortF.name) ∧ W.cell? ⟨g, 6, none⟩ = some (.int .u8 1) ∧ W.cell? ⟨g, 7, none⟩ = some (.bool true) ∧ W.cell? ⟨g, 8, none⟩ = some nv1 ∧ W.cell? ⟨g, 9, none⟩ = some ov1))
 have HN := Lib.hid (fun W (hW : Below w1.heap.size w1 W) => (⟨(hN0.mono (fun _ _ => trivial)).below hW (nl _), (hO0.mono (fun _ _ => trivial)).below hW (nl _), (hN1.mono (fun _ _ => trivial)).below hW (nl _), (hO1.mono (fun _ _ => trivial)).below hW (nl _)⟩ : OpsM Any W nv0 setF.needs ∧ OpsM Any W ov0 setF.ops ∧ OpsM Any W nv1 sortF.needs ∧ OpsM Any W ov1 sortF.ops))
 have HA := fun W (hW : Below w1.heap.size w1 W) => all_any libK _ W (HT.out W hW) (HL.out W hW) hn
 rw [sh_all] at HA
 have HA2 := fun v W (hT : Tab W) (hv : FacesM Any W v [sortF, setF]) => all_any [sortF, setF] v W hT hv (by simp [setF, sortF])
 rw [sh_back] at HA2
 have HO1 := fun W (hW : Below w1.heap.size w1 W) => opOf_any libK _ [] (.slice none 0 0) [115, 101, 116, 91, 105, 110, 116, 93] [104, 111, 108, 100, 115] W (HT.out W hW) (HL.out W hW) (OpsM.nil Any _ none 0) hn (by simp) (by simp [maxLen])
 rw [sh_holds] at HO1
 have HO2 := fun W (hW : Below w1.heap.size w1 W) => opOf_any libK _ [] (.slice none 0 0) [115, 101, 116, 91, 105, 110, 116, 93] [97, 100, 100] W (HT.out W hW) (HL.out W hW) (OpsM.nil Any _ none 0) hn (by simp) (by simp [maxLen])
 rw [sh_add] at HO2
 have HO3 := fun W (hW : Below w1.heap.size w1 W) => opsOf_any libK _ [] (.slice none 0 0) [97, 114, 114, 97, 121, 91, 105, 110, 116, 93] W (HT.out W hW) (HL.out W hW) (OpsM.nil Any _ none 0) hn (by simp) (by simp [maxLen])
 obtain ⟨p1, p2, p3⟩ := sh_ops
 rw [p1] at HO3
 have HS1 := fun W (hW : Below w1.heap.size w1 W) => sigOf_any libK _ [] (.slice none 0 0) [115, 111, 114, 116] [98, 111, 111, 108] W (HT.out W hW) (HL.out W hW) (OpsM.nil Any _ none 0) hn (by simp) (by simp [maxLen]) (by simp [maxLen])
 rw [sh_sig] at HS1
 have HF := fun W (hW : Below w1.heap.size w1 W) => fitsL_any libK _ [] (.slice none 0 0) sortF.needs nv1 [98, 111, 111, 108] W (HT.out W hW) (HL.out W hW) (OpsM.nil Any _ none 0) (HN.out W hW).2.2.1 hn (by simp) (by simp [sortF]) (by simp [maxLen])
 rw [sh_fits] at HF
 have HU := fun W (hW : Below w1.heap.size w1 W) => uses_any _ setF W (HT.out W hW) ⟨nv0, ov0, rfl, by simp [setF, maxLen], (HN.out W hW).1, (HN.out W hW).2.1⟩ (by simp [setF])
 rw [sh_uses] at HU
 have HW := fun W (hW : Below w1.heap.size w1 W) => write_any _ sortF W (HT.out W hW) ⟨nv1, ov1, rfl, by simp [sortF, maxLen], (HN.out W hW).2.2.1, (HN.out W hW).2.2.2⟩ (by simp [sortF])
 rw [sh_text] at HW
 have HG1 := fun W (hW : Below w1.heap.size w1 W) => goodL_any libK _ [] (.slice none 0 0) false [115, 101, 116, 91, 115, 101, 116, 91, 105, 110, 116, 93, 93] W (HT.out W hW) (HL.out W hW) (OpsM.nil Any _ none 0) hn (by simp) (by simp [maxLen])
 rw [sh_bad] at HG1
 have HG2 := fun W (hW : Below w1.heap.size w1 W) => goodL_any libK _ setF.needs nv0 true tS W (HT.out W hW) (HL.out W hW) (HN.out W hW).1 hn (by simp [setF]) (by simp [tS, maxLen])
 rw [sh_good] at HG2
 generalize (opOfK libK [] [115, 101, 116, 91, 105, 110, 116, 93] [97, 100, 100]).1 = X2 at *
 generalize (opsOfK libK [] [97, 114, 114, 97, 121, 91, 105, 110, 116, 93]).1 = OL at *
 generalize (sigOfK libK [] [115, 111, 114, 116] [98, 111, 111, 108]).1 = X3 at *
 obtain ⟨x2, hx2, hx2n⟩ : ∃ x, OL[2]? = some x ∧ x.name = [102, 101, 116, 99, 104] := by simpa [Option.map_eq_some_iff] using p3
 have hp2 := Lib.hid p2
 have hb0 := hb1
 clear hL hN0 hO0 hN1 hO1 c0 c1 c2 c3 c4 c5 c6 c7 c8 c9 p1 p2 p3 hn ht
 have B1 : Below w1.heap.size w1 w1 := Below.refl _ _
 go_upto_region 3 with (go_at_call 40; refine (HA _ B1).mono ?_; clear HA; rintro e w2 ⟨rfl, hb2⟩)
 have B2 := B1.trans (below_less hb2 (nl _))
 obtain ⟨k0, k1, k2, k3, k4, k5, k6, k7, k8, k9⟩ := HK.out w2.drew B2.drew
 obtain ⟨hm0, hm1, hm2, hm3⟩ := HN.out w2.drew B2.drew
 have hmt := HT.out w2.drew B2.drew
 refine wp_region_spec (D := Any) (w := w2) 12 [(1, .eq (.slice (some ⟨g, 0, none⟩) 2 2))] [(.eq (.slice (some ⟨g, 0, none⟩) 2 2)), (.eq (.pointer (some ⟨g, 1 * 5, none⟩))), (.eq (.agg #[str sortF.name, .int .u8 1, .bool true, nv1, ov1])), (.eq (.slice (some ⟨g, 0, none⟩) 2 2)), (.eq (.pointer (some ⟨g, 0, none⟩))), (.eq (.agg #[str setF.name, .int .u8 3, .bool true, nv0, ov0])), (.faces [sortF, setF]), (.eq (.tuple #[.int .i64 1, .int .i64 6])), (.eq (.tuple #[.int .i64 1, .int .i64 6])), (.eq (.int .i64 1)), (.eq (.int .i64 6)), (.eq (.int .i64 1)), (.eq (.int .i64 6))] (fun w' => CellsAt [(⟨g, 0, none⟩, str setF.name), (⟨g, 1, none⟩, .int .u8 3), (⟨g, 2, none⟩, .bool true), (⟨g, 3, none⟩, nv0), (⟨g, 4, none⟩, ov0), (⟨g, 5, none⟩, str sortF.name), (⟨g, 6, none⟩, .int .u8 1), (⟨g, 7, none⟩, .bool true), (⟨g, 8, none⟩, nv1), (⟨g, 9, none⟩, ov1)] w' ∧ OpsM Any w' nv0 setF.needs ∧ OpsM Any w' ov0 setF.ops ∧ OpsM Any w' nv1 sortF.needs ∧ OpsM Any w' ov1 sortF.ops ∧ Tab w') (by kernel_rfl) (by kernel_rfl) (by kernel_rfl) (by kernel_rfl) (by kernel_rfl) (fun _ _ h hb => ⟨h.1.below hb, ⟨h.2.1.below hb (nl _), h.2.2.1.below hb (nl _), h.2.2.2.1.below hb (nl _), h.2.2.2.2.1.below hb (nl _), h.2.2.2.2.2.below hb (nl _)⟩⟩) ⟨(fun p hp => by simp only [List.mem_cons, List.not_mem_nil, or_false] at hp; rcases hp with rfl | rfl | rfl | rfl | rfl | rfl | rfl | rfl | rfl | rfl <;> assumption), hm0, hm1, hm2, hm3, hmt⟩ ?_ ?_ ?_
 · intro p hp
   simp only [List.mem_cons, List.not_mem_nil, or_false] at hp;rcases hp with rfl
   · exact rfl
 · iterate 13
    refine And.intro ?_ ?_
    · first
      | exact stSkip (by kernel_rfl) rfl
      | exact stA (.inl rfl) (by kernel_rfl) rfl (by kernel_rfl)
      | exact stA (.inr rfl) (by kernel_rfl) rfl (by kernel_rfl)
      | exact stPick rfl (by kernel_rfl) rfl rfl (by kernel_rfl)
      | exact stNot rfl (by kernel_rfl) rfl rfl rfl
      | exact stLen rfl (by kernel_rfl) (by kernel_rfl) rfl rfl
      | exact stFA rfl (by kernel_rfl) rfl rfl (fun w => by simp [go_sem])
      | exact stIA rfl (by kernel_rfl) rfl rfl rfl (fun w => by simp [go_sem])
      | exact stLd rfl (by kernel_rfl) rfl rfl (fun w hS => by simp [go_sem, (hS.1.get 0 rfl), (hS.1.get 1 rfl), (hS.1.get 2 rfl), (hS.1.get 3 rfl), (hS.1.get 4 rfl), (hS.1.get 5 rfl), (hS.1.get 6 rfl), (hS.1.get 7 rfl), (hS.1.get 8 rfl), (hS.1.get 9 rfl)])
      | exact stFS2 (f := sortF) (g := setF) rfl rfl (by kernel_rfl) rfl rfl rfl (fun w hS => ⟨nv1, ov1, rfl, hS.2.2.2.1, hS.2.2.2.2.1⟩) (fun w hS => ⟨nv0, ov0, rfl, hS.2.1, hS.2.2.1⟩) (by simp [sortF, maxLen]) (by simp [setF, maxLen])
      | exact stCall1 (s1 := .faces [sortF, setF]) rfl (enters_of Tryz.func40 (by kernel_rfl) rfl) (by kernel_rfl) rfl rfl (fun v wx hS h1 => (HA2 v wx hS.2.2.2.2.2 h1).mono (by rintro e w' ⟨rfl, hb⟩; exact ⟨_, rfl, rfl, hb⟩))
      | exact stExt rfl (by kernel_rfl) rfl rfl
      | exact stBin rfl (by kernel_rfl) rfl rfl rfl (fun w => by simp [go_sem])
   exact trivial
 · intro aE vE w3 hSE hbE haE hfE hvE
   obtain rfl : vE = .int .i64 6 := hvE _ rfl;have h4 : aE.tmps.getD 4 undef = .int .i64 1 := hfE 11 _ _ (by decide) rfl rfl;have B3 := B2.trans (below_less hbE B2.size);clear k0 k1 k2 k3 k4 k5 k6 k7 k8 k9 hm0 hm1 hm2 hm3 hmt hSE hfE hvE;rw [haE];clear haE;simp only [List.take_succ_cons, List.take_zero, putsOf, pz, pw, h4];clear h4;go_upto_region 13 with (first
    | (go_at_call 23; refine (HO1 _ B3).mono ?_; clear HO1; rintro e w4 ⟨u4, rfl, hS4, hb4⟩; have g4 := hS4.mono (D' := Any) (fun _ _ => trivial); obtain ⟨a4, s4, rfl, _, hSa4, hSs4⟩ := hS4; obtain ⟨pa, ca, rfl, _⟩ := hSa4.shape; obtain ⟨ps, cs, rfl, _⟩ := hSs4.shape; have B4 := (B3.trans (below_less hb4 B3.size)).alloc (B3.trans (below_less hb4 B3.size)).size (.cells #[.bool false, .slice pa 2 ca, str tB, .slice ps 0 cs] 36); have f4 := heap_alloc_new w4 (.cells #[.bool false, .slice pa 2 ca, str tB, .slice ps 0 cs] 36); have g4 := g4.below ((Below.refl _ w4).alloc (nl _) (.cells #[.bool false, .slice pa 2 ca, str tB, .slice ps 0 cs] 36)) (nl _))
    | (go_at_call 23; refine (HO2 _ B4).mono ?_; clear HO2; rintro e w5 ⟨u5, rfl, hS5, hb5⟩; obtain ⟨a5, s5, rfl, _, hSa5, hSs5⟩ := hS5; obtain ⟨pa5, ca5, rfl, _⟩ := hSa5.shape; obtain ⟨ps5, cs5, rfl, _⟩ := hSs5.shape; have B5 := (B4.trans (below_less hb5 B4.size)).alloc (B4.trans (below_less hb5 B4.size)).size (.cells #[.bool X2.iter, .slice pa5 X2.args.length ca5, str X2.res, .slice ps5 X2.sigs.length cs5] 36); have f5 := heap_up (.cells #[.bool X2.iter, .slice pa5 X2.args.length ca5, str X2.res, .slice ps5 X2.sigs.length cs5] 36) (kept_call f4 hb5); have g5 := (g4.below hb5 (nl _)).below ((Below.refl _ w5).alloc (nl _) (.cells #[.bool X2.iter, .slice pa5 X2.args.length ca5, str X2.res, .slice ps5 X2.sigs.length cs5] 36)) (nl _))
    | (go_at_call 21; refine (HO3 _ B5).mono ?_; clear HO3; rintro e w6 ⟨u6, rfl, hO6, hb6⟩; obtain ⟨p6, c6, hv6⟩ := hO6.shape; rw [hp2.out] at hv6; subst hv6; have m6 := hO6.opsM; have B6 := B5.trans (below_less hb6 B5.size); have f6 := kept_call f5 hb6; have g6 := g5.below hb6 (nl _))
    | (go_at_call 27; refine (HS1 _ B6).mono ?_; clear HS1; rintro e w7 ⟨u7, rfl, hS7, hb7⟩; obtain ⟨a7, s7, rfl, _, hSa7, hSs7⟩ := hS7; obtain ⟨pa7, ca7, rfl, _⟩ := hSa7.shape; obtain ⟨ps7, cs7, rfl, _⟩ := hSs7.shape; have B7 := (B6.trans (below_less hb7 B6.size)).alloc (B6.trans (below_less hb7 B6.size)).size (.cells #[.bool X3.iter, .slice pa7 X3.args.length ca7, str X3.res, .slice ps7 X3.sigs.length cs7] 36); have f7 := heap_up (.cells #[.bool X3.iter, .slice pa7 X3.args.length ca7, str X3.res, .slice ps7 X3.sigs.length cs7] 36) (kept_call f6 hb7); have g7 := (g6.below hb7 (nl _)).below ((Below.refl _ w7).alloc (nl _) (.cells #[.bool X3.iter, .slice pa7 X3.args.length ca7, str X3.res, .slice ps7 X3.sigs.length cs7] 36)) (nl _); have m7 := (m6.below hb7 (nl _)).below ((Below.refl _ w7).alloc (nl _) (.cells #[.bool X3.iter, .slice pa7 X3.args.length ca7, str X3.res, .slice ps7 X3.sigs.length cs7] 36)) (nl _); have kk7 := HK.out _ B7)
    | (go_at_call 29; refine (HF _ B7).mono ?_; clear HF; rintro e w8 ⟨rfl, hb8⟩; have B8 := B7.trans (below_less hb8 B7.size); have f8 := kept_call f7 hb8; have g8 := g7.below hb8 (nl _); have m8 := m7.below hb8 (nl _); have kk8 := HK.out _ B8)
    | (go_at_call 47; refine (HU _ B8).mono ?_; clear HU; rintro e w9 ⟨u9, rfl, q9, hb9⟩; obtain ⟨p9, c9, rfl, _⟩ := q9.shape; have B9 := B8.trans (below_less hb9 B8.size); have f9 := kept_call f8 hb9; have g9 := g8.below hb9 (nl _); have m9 := m8.below hb9 (nl _); have kk9 := HK.out _ B9)
    | (go_at_call 51; refine (HW _ B9).mono ?_; clear HW; rintro e w10 ⟨rfl, hb10⟩; have B10 := B9.trans (below_less hb10 B9.size); have f10 := kept_call f9 hb10; have g10 := g9.below hb10 (nl _); have m10 := m9.below hb10 (nl _); have q10 := q9.below hb10 (nl _)))
   obtain ⟨⟨j0, j1, j2, j3⟩, _⟩ := box4 f10;obtain ⟨b10, o10, _, _, e10, _, _, _, _, n0, _⟩ := m10.at hx2;rw [hx2n] at n0;subst e10;obtain ⟨b17, o17, e17, _, u0⟩ := q10.at (k := 0) rfl;subst e17;rw [Nat.add_zero] at u0;have hsg := g10.below (Below.refl _ w10).drew (nl _);have j0 := Below.keep (Below.refl _ w10).drew j0;have j1 := Below.keep (Below.refl _ w10).drew j1;have j2 := Below.keep (Below.refl _ w10).drew j2;have j3 := Below.keep (Below.refl _ w10).drew j3;have n0 := Below.keep (Below.refl _ w10).drew n0;have u0 := Below.keep (Below.refl _ w10).drew u0;have HPR := fun (v2 : Value) (wx : World) (h2 : SS Any wx v2 [[115, 101, 116, 91, 105, 110, 116, 93], [105, 110, 116]]) => show Calls Tryz.prog 57 #[str tB, v2] wx fun e w' => ∃ u, e = .returned u ∧ SigV Any w' u ⟨false, [[115, 101, 116, 91, 105, 110, 116, 93], [105, 110, 116]], tB, []⟩ ∧ Below wx.heap.size wx w' from by
    refine (proc_any tB v2 wx (by obtain ⟨p, c, h, _⟩ := h2.shape; exact ⟨_, _, _, h⟩)).mono ?_;rintro e w' ⟨rfl, hb⟩;exact ⟨_, rfl, ⟨_, _, rfl, by simp [tB, maxLen], h2.below hb (nl _), SS.nil _ _ _ _⟩, hb⟩
   have HSM := fun (v2 : Value) (wx : World) (h1 : SigV Any wx (.agg #[.bool false, .slice pa 2 ca, str tB, .slice ps 0 cs]) ⟨false, [[115, 101, 116, 91, 105, 110, 116, 93], [105, 110, 116]], tB, []⟩) (h2 : SigV Any wx v2 ⟨false, [[115, 101, 116, 91, 105, 110, 116, 93], [105, 110, 116]], tB, []⟩) => show Calls Tryz.prog 26 #[.agg #[.bool false, .slice pa 2 ca, str tB, .slice ps 0 cs], v2] wx fun e w' => ∃ u, e = .returned u ∧ u = .bool true ∧ Below wx.heap.size wx w' from by
    refine (rsig_any _ _ _ _ _ h1 h2).mono ?_;rintro e w' ⟨rfl, hb⟩;exact ⟨_, rfl, by rw [show sameK _ _ = true by decide], hb⟩
   clear f4 f5 f6 f7 f8 f9 f10 g4 g5 g6 g7 g8 g9 m6 m7 m8 m9 m10 q9 q10 kk7 kk8 kk9 hO6 hp2;generalize w4.heap.size = b6 at *;refine wp_region_spec (D := Any) 35 [(6, .eq (.pointer (some ⟨b6, 0, none⟩))), (10, .eq (.slice (some ⟨b10, o10, none⟩) 7 c6)), (14, .eq (str [108, 116])), (15, .eq (.bool false)), (17, .eq (.slice (some ⟨b17, o17, none⟩) 1 c9))] [(.eq (.agg #[.bool false, .slice pa 2 ca, str tB, .slice ps 0 cs])), (.ss [[115, 101, 116, 91, 105, 110, 116, 93], [105, 110, 116]]), (.sig ⟨false, [[115, 101, 116, 91, 105, 110, 116, 93], [105, 110, 116]], tB, []⟩), (.eq (.bool true)), (.eq (.bool true)), (.eq (.slice (some ⟨b10, o10, none⟩) 7 c6)), (.eq (.int .i64 7)), (.eq (.bool true)), (.eq (.bool true)), (.eq (.bool true)), (.eq (.slice (some ⟨b10, o10, none⟩) 7 c6)), (.eq (.pointer (some ⟨b10, o10 + 2 * 5, none⟩))), (.eq (.pointer (some ⟨b10, o10 + 2 * 5, none⟩))), (.eq (str [102, 101, 116, 99, 104])), (.eq (.bool true)), (.eq (.bool true)), (.eq (.bool true)), (.eq (str [108, 116])), (.eq (.bool true)), (.eq (.bool true)), (.eq (.bool true)), (.eq (.bool false)), (.eq (.bool true)), (.eq (.bool true)), (.eq (.bool true)), (.eq (.slice (some ⟨b17, o17, none⟩) 1 c9)), (.eq (.int .i64 1)), (.eq (.bool true)), (.eq (.bool true)), (.eq (.bool true)), (.eq (.slice (some ⟨b17, o17, none⟩) 1 c9)), (.eq (.pointer (some ⟨b17, o17, none⟩))), (.eq (str [115, 101, 116])), (.eq (.bool true)), (.eq (.bool true)), (.eq (.bool true))] (fun w' => CellsAt [(⟨b6, 0, none⟩, .bool false), (⟨b6, 1, none⟩, .slice pa 2 ca), (⟨b6, 2, none⟩, str tB), (⟨b6, 3, none⟩, .slice ps 0 cs), (⟨b10, o10 + 2 * 5, none⟩, str [102, 101, 116, 99, 104]), (⟨b17, o17, none⟩, str [115, 101, 116])] w' ∧ SigV Any w' (.agg #[.bool false, .slice pa 2 ca, str tB, .slice ps 0 cs]) ⟨false, [[115, 101, 116, 91, 105, 110, 116, 93], [105, 110, 116]], tB, []⟩) (by kernel_rfl) (by kernel_rfl) (by kernel_rfl) (by kernel_rfl) (by kernel_rfl) (fun _ _ h hb => ⟨h.1.below hb, SigV.below h.2 hb (nl _)⟩) ⟨(fun p hp => by simp only [List.mem_cons, List.not_mem_nil, or_false] at hp; rcases hp with rfl | rfl | rfl | rfl | rfl | rfl <;> assumption), hsg⟩ ?_ ?_ ?_
   · intro p hp
     simp only [List.mem_cons, List.not_mem_nil, or_false] at hp;rcases hp with rfl | rfl | rfl | rfl | rfl
     · exact rfl
     · exact rfl
     · exact rfl
     · exact rfl
     · exact rfl
   · iterate 36
      refine And.intro ?_ ?_
      · first
        | exact stSkip (by kernel_rfl) rfl
        | exact stA (.inl rfl) (by kernel_rfl) rfl (by kernel_rfl)
        | exact stA (.inr rfl) (by kernel_rfl) rfl (by kernel_rfl)
        | exact stPick rfl (by kernel_rfl) rfl rfl (by kernel_rfl)
        | exact stNot rfl (by kernel_rfl) rfl rfl rfl
        | exact stLen rfl (by kernel_rfl) (by kernel_rfl) rfl rfl
        | exact stFA rfl (by kernel_rfl) rfl rfl (fun w => by simp [go_sem])
        | exact stIA rfl (by kernel_rfl) rfl rfl rfl (fun w => by simp [go_sem])
        | exact stLd rfl (by kernel_rfl) rfl rfl (fun w hS => by simp [go_sem, (hS.1.get 0 rfl), (hS.1.get 1 rfl), (hS.1.get 2 rfl), (hS.1.get 3 rfl), (hS.1.get 4 rfl), (hS.1.get 5 rfl)])
        | exact stSS2 rfl rfl (by kernel_rfl) rfl rfl rfl (by simp [maxLen]) (by simp [maxLen]) (fun _ _ => trivial)
        | exact stCall2 (s1 := .eq (str tB)) (s2 := .ss [[115, 101, 116, 91, 105, 110, 116, 93], [105, 110, 116]]) rfl (enters_of Tryz.func57 (by kernel_rfl) rfl) (by kernel_rfl) rfl rfl rfl (fun v v2 wx hS h1 h2 => by rw [show v = str tB from h1]; exact HPR v2 wx h2)
        | exact stCall2 (s1 := .eq (.agg #[.bool false, .slice pa 2 ca, str tB, .slice ps 0 cs])) (s2 := .sig ⟨false, [[115, 101, 116, 91, 105, 110, 116, 93], [105, 110, 116]], tB, []⟩) rfl (enters_of Tryz.func26 (by kernel_rfl) rfl) (by kernel_rfl) rfl rfl rfl (fun v v2 wx hS h1 h2 => by rw [show v = .agg #[.bool false, .slice pa 2 ca, str tB, .slice ps 0 cs] from h1]; exact HSM v2 wx hS.2 h2)
        | exact stBin rfl (by kernel_rfl) rfl rfl rfl (fun w => by simp [go_sem])
     exact trivial
   · intro aE vE w11 hSE hbE haE hfE hvE
     obtain rfl : vE = .bool true := hvE _ rfl;have B11 := B10.trans (below_less hbE B10.size);have kk11 := HK.out _ B11;clear hSE hfE hvE j0 j1 j2 j3 n0 u0 hsg g10 HPR HSM;rw [haE];clear haE;simp only [List.take_succ_cons, List.take_zero, putsOf, pz, pw];go_wp2_with (first
      | (go_at_call 19; refine (HG1 _ B11).mono ?_; clear HG1; rintro e w12 ⟨rfl, hb12⟩; have B12 := B11.trans (below_less hb12 B11.size); have kk12 := HK.out _ B12)
      | (go_at_call 19; refine (HG2 _ B12).mono ?_; clear HG2; rintro e w13 ⟨rfl, hb13⟩; have B13 := B12.trans (below_less hb13 B12.size)))
     go_ret;exact ⟨rfl, hb0.trans (below_less B13 hb0.size)⟩
end Go.Proofs.YtakgjcfkdemipaaGreatDoor
