/-
  Contract: of the package face: (maker).oneofs. Condition: the parts' lengths; the variable strings.asciiSpace.
  Contract: of the package face: (maker).records. Condition: the parts' lengths; the variable strings.asciiSpace.
-/
import Derived.Test.YtakgjcfkdemipaaGreatDoorYn
import Derived.Test.YtakgjcfkdemipaaGreatDoorY25
namespace Go.Proofs.YtakgjcfkdemipaaGreatDoor
open Go.RowKit
set_option maxRecDepth 8000 in
set_option maxHeartbeats 12800000 in
theorem oneofs_any (v : Value) (m : Nat) (nv : Value) (p : Bool) (t : List UInt8) (w : World) (hT : Tab w) (hpn : (partsK t).1.length ≤ 100) (hps : ∀ x ∈ (partsK t).1, x.1.length ≤ 1000 ∧ x.2.length ≤ maxLen) (hv : MakV v m nv p t) (ht : t.length ≤ maxLen) :
 Calls Tryz.prog 182 #[v] w fun e w' => ∃ u, e = .returned u ∧ OwnO w.heap.size w' u (([⟨[101, 113, 117, 97, 108], ⟨false, [t, t], [98, 111, 111, 108], []⟩⟩] : List OpP) ++ (partsK t).1.flatMap (fun p : List UInt8 × List UInt8 => ([⟨[105, 115, 95] ++ p.1, ⟨false, [t], [98, 111, 111, 108], []⟩⟩, ⟨[109, 97, 107, 101, 95] ++ p.1, ⟨false, [p.2], t, []⟩⟩] : List OpP))) ∧ Below w.heap.size w w' := by
 obtain ⟨rfl, q, n, c, rfl⟩ := hv
 have hbox := heap_alloc_new w (.cells #[.map (some m), .slice q n c, .bool p, str t] 145)
 have hA := (Below.refl _ w).alloc (nl _) (.cells #[.map (some m), .slice q n c, .bool p, str t] 145)
 have HC := kparts_any t ht (w.alloc (.cells #[.map (some m), .slice q n c, .bool p, str t] 145)) (hT.below hA (nl _))
 have bx := (box4 hbox).1
 generalize (partsK t).1 = ps at *
 go_enter Tryz.func182, Tryz.ntmps182
 go_wp2_with (first
  | (go_at_call 238; refine (equals_any _ m _ _ t _ ⟨rfl, _, _, _, rfl⟩ ht).mono ?_; rintro e w2 ⟨u, rfl, ⟨x, y, rfl, l1, r1, q1⟩, hb2⟩; obtain ⟨p1, c1, rfl, _⟩ := r1.shape; obtain ⟨p2, c2, rfl, _⟩ := q1.shape)
  | (go_at_call 241; refine HC.mono ?_; clear HC; rintro e w1 ⟨v, rfl, hp1, hb1⟩; obtain ⟨pp, cp, rfl⟩ := hp1.shape; have hbx1 := kept_call hbox hb1; have bx1 := (box4 hbx1).1))
 have hs2 := hb2.size
 have hs1 := hb1.size
 simp only [World.size_alloc] at hs1
 have hown := own_newO (B := w1.heap.size) (n := 1) w2 hs2 rfl (by unfold maxLen; simp) (show OpsC (fun b => w1.heap.size ≤ b) w2 _ [opEq t] from ⟨_, _, _, rfl, l1, r1, q1, rfl⟩)
 have hB := hb2.alloc hs2 (.cells #[str (opEq t).name, .bool (opEq t).sig.iter, .slice p1 (opEq t).sig.args.length c1, str (opEq t).sig.res, .slice p2 (opEq t).sig.sigs.length c2] 50)
 have hW1 : Below w.heap.size w w1 := hA.trans (below_less hb1 (by simp))
 clear l1 r1 q1 hb2 hs2 bx1 hA hb1 hbox bx
 generalize w2.alloc (.cells #[str (opEq t).name, .bool (opEq t).sig.iter, .slice p1 (opEq t).sig.args.length c1, str (opEq t).sig.res, .slice p2 (opEq t).sig.sigs.length c2] 50) = W3 at *
 generalize Value.agg #[str (opEq t).name, .bool (opEq t).sig.iter, .slice p1 (opEq t).sig.args.length c1, str (opEq t).sig.res, .slice p2 (opEq t).sig.sigs.length c2] = vEq
 generalize (some (⟨w2.heap.size, 0, none⟩ : Addr)) = pE at *
 go_loopw [5, 19] (fun v y wx => ∃ i : Nat, i ≤ ps.length ∧ y = .int .i64 i ∧ OwnO w1.heap.size wx v ([opEq t] ++ (ps.take i).flatMap (fun p : List UInt8 × List UInt8 => ([⟨[105, 115, 95] ++ p.1, ⟨false, [t], [98, 111, 111, 108], []⟩⟩, ⟨[109, 97, 107, 101, 95] ++ p.1, ⟨false, [p.2], t, []⟩⟩] : List OpP))) ∧ Below w1.heap.size w1 wx) (fun _ y _ => ps.length - (intOf y).toNat)
 case atStart => exact ⟨0, Nat.zero_le _, by go_num, by simpa using hown, hB⟩
 case round =>
  clear hown hB;obtain ⟨i, hi, rfl, hown, hB⟩ := hrel;obtain ⟨pv, cv, rfl⟩ := hown.shape
  by_cases hlt : i < ps.length
  case neg =>
   have hie : i = ps.length := by omega
   subst hie;have hLF : [opEq t] ++ (ps.take ps.length).flatMap (fun p : List UInt8 × List UInt8 => ([⟨[105, 115, 95] ++ p.1, ⟨false, [t], [98, 111, 111, 108], []⟩⟩, ⟨[109, 97, 107, 101, 95] ++ p.1, ⟨false, [p.2], t, []⟩⟩] : List OpP)) = [opEq t] ++ ps.flatMap (fun p : List UInt8 × List UInt8 => ([⟨[105, 115, 95] ++ p.1, ⟨false, [t], [98, 111, 111, 108], []⟩⟩, ⟨[109, 97, 107, 101, 95] ++ p.1, ⟨false, [p.2], t, []⟩⟩] : List OpP)) := by rw [List.take_length]
   generalize [opEq t] ++ (ps.take ps.length).flatMap (fun p : List UInt8 × List UInt8 => ([⟨[105, 115, 95] ++ p.1, ⟨false, [t], [98, 111, 111, 108], []⟩⟩, ⟨[109, 97, 107, 101, 95] ++ p.1, ⟨false, [p.2], t, []⟩⟩] : List OpP)) = LL at *;go_wp2_with fail;go_ret;subst hLF;exact ⟨_, rfl, by simpa [opEq] using hown.mono hW1.size, hW1.trans (below_less hB hW1.size)⟩
  case pos =>
   have hpr := hp1.below hB;obtain ⟨b1, o1, cz, ⟨nm, ty⟩, hbe, hx, pc1, pc2⟩ := hpr.at hlt;injection hbe with hbe;subst hbe;obtain ⟨hnm, hty⟩ := hps _ (List.mem_of_getElem? hx);simp only at hnm hty pc1 pc2;have hTk := Lib.hid (show ([opEq t] ++ (ps.take i).flatMap (fun p : List UInt8 × List UInt8 => ([⟨[105, 115, 95] ++ p.1, ⟨false, [t], [98, 111, 111, 108], []⟩⟩, ⟨[109, 97, 107, 101, 95] ++ p.1, ⟨false, [p.2], t, []⟩⟩] : List OpP))) ++ ((fun p : List UInt8 × List UInt8 => ([⟨[105, 115, 95] ++ p.1, ⟨false, [t], [98, 111, 111, 108], []⟩⟩, ⟨[109, 97, 107, 101, 95] ++ p.1, ⟨false, [p.2], t, []⟩⟩] : List OpP)) (nm, ty)) = [opEq t] ++ (ps.take (i + 1)).flatMap (fun p : List UInt8 × List UInt8 => ([⟨[105, 115, 95] ++ p.1, ⟨false, [t], [98, 111, 111, 108], []⟩⟩, ⟨[109, 97, 107, 101, 95] ++ p.1, ⟨false, [p.2], t, []⟩⟩] : List OpP)) by rw [List.append_assoc, List.take_add_one, hx]; simp);have hlen : ([opEq t] ++ (ps.take i).flatMap (fun p : List UInt8 × List UInt8 => ([⟨[105, 115, 95] ++ p.1, ⟨false, [t], [98, 111, 111, 108], []⟩⟩, ⟨[109, 97, 107, 101, 95] ++ p.1, ⟨false, [p.2], t, []⟩⟩] : List OpP))).length ≤ 300 := by
    simp only [List.length_append, List.length_flatMap, List.length_cons, List.length_nil, List.map_const', List.sum_replicate_nat, List.length_take];omega
   generalize ([opEq t] ++ (ps.take i).flatMap (fun p : List UInt8 × List UInt8 => ([⟨[105, 115, 95] ++ p.1, ⟨false, [t], [98, 111, 111, 108], []⟩⟩, ⟨[109, 97, 107, 101, 95] ++ p.1, ⟨false, [p.2], t, []⟩⟩] : List OpP))) = L at *;have hbxr := heap_kept hbx1 hB (heap_lt hbx1);have gi : (i : Int) < (ps.length : Int) := by omega
   go_upto_region 6 with fail;have hP0 := heap_alloc_new wr (.cells #[.string ⟨nm.toArray⟩, .string ⟨ty.toArray⟩] 155);have hbB := heap_up (.cells #[.string ⟨nm.toArray⟩, .string ⟨ty.toArray⟩] 155) hbxr;have hoB := hown.below ((Below.refl _ wr).alloc (nl _) (.cells #[.string ⟨nm.toArray⟩, .string ⟨ty.toArray⟩] 155)) (nl _);have hBB := hB.alloc hB.size (.cells #[.string ⟨nm.toArray⟩, .string ⟨ty.toArray⟩] 155);clear hbxr hown hB hpr pc1 pc2;generalize wr.alloc (.cells #[.string ⟨nm.toArray⟩, .string ⟨ty.toArray⟩] 155) = WB at *;generalize wr.heap.size = PB at *;refine wp_region_head2 (S := fun w' => w'.heap[PB]? = some (.cells #[str nm, str ty] 155 (0, 0)) ∧ w'.heap[w.heap.size]? = some (.cells #[.map (some m), .slice q n c, .bool p, str t] 145 (0, 0)) ∧ OwnO w1.heap.size w' (.slice pv L.length cv) L ∧ Below WB.heap.size WB w') (A := fun j v w' => match j with
    | 0 => v = .slice pv L.length cv
    | 1 => v = .pointer (some ⟨PB, 0, none⟩)
    | 2 => v = str nm
    | 3 => v = str ([105, 115, 95] ++ nm)
    | 4 => v = .pointer (some ⟨w.heap.size, 3, none⟩)
    | 5 => v = str t
    | 6 => SS (fun b => WB.heap.size ≤ b) w' v [t]
    | 7 => SigV (fun b => WB.heap.size ≤ b) w' v ⟨false, [t], [98, 111, 111, 108], []⟩
    | 8 => OpV (fun b => WB.heap.size ≤ b) w' v ⟨[105, 115, 95] ++ nm, ⟨false, [t], [98, 111, 111, 108], []⟩⟩
    | 9 => v = .pointer (some ⟨PB, 0, none⟩)
    | 10 => v = str nm
    | 11 => v = str ([109, 97, 107, 101, 95] ++ nm)
    | 12 => v = .pointer (some ⟨w.heap.size, 3, none⟩)
    | 13 => v = str t
    | 14 => v = .pointer (some ⟨PB, 1, none⟩)
    | 15 => v = str ty
    | 16 => SS (fun b => WB.heap.size ≤ b) w' v [ty]
    | 17 => SigV (fun b => WB.heap.size ≤ b) w' v ⟨false, [ty], t, []⟩
    | 18 => OpV (fun b => WB.heap.size ≤ b) w' v ⟨[109, 97, 107, 101, 95] ++ nm, ⟨false, [ty], t, []⟩⟩
    | 19 => RowO (fun b => WB.heap.size ≤ b) WB.heap.size w' v [⟨[105, 115, 95] ++ nm, ⟨false, [t], [98, 111, 111, 108], []⟩⟩, ⟨[109, 97, 107, 101, 95] ++ nm, ⟨false, [ty], t, []⟩⟩]
    | _ => True) 20 (by kernel_rfl) (by decide) (by kernel_rfl) (by kernel_rfl) (by kernel_rfl) ?_ (fun w1 w2 h hb => ⟨kept_call h.1 hb, kept_call h.2.1 hb, h.2.2.1.below hb (nl _), h.2.2.2.trans (below_less hb h.2.2.2.size)⟩) ⟨hP0, hbB, hoB.below (Below.refl _ WB).drew (nl _), (Below.refl _ _).drew⟩ (stepsH_head ⟨?_, ?_, ?_, ?_, ?_, ?_, ?_, ?_, ?_, ?_, ?_, ?_, ?_, ?_, ?_, ?_, ?_, ?_, ?_, ?_, trivial⟩) ?_
   · intro j v w1 w2 h hb
     match j with
     | 0 => exact h
     | 1 => exact h
     | 2 => exact h
     | 3 => exact h
     | 4 => exact h
     | 5 => exact h
     | 6 => exact SS.below (show SS (fun b => WB.heap.size ≤ b) w1 v [t] from h) hb (nl _)
     | 7 => exact SigV.below (show SigV (fun b => WB.heap.size ≤ b) w1 v ⟨false, [t], [98, 111, 111, 108], []⟩ from h) hb (nl _)
     | 8 => exact OpV.below (show OpV (fun b => WB.heap.size ≤ b) w1 v ⟨[105, 115, 95] ++ nm, ⟨false, [t], [98, 111, 111, 108], []⟩⟩ from h) hb (nl _)
     | 9 => exact h
     | 10 => exact h
     | 11 => exact h
     | 12 => exact h
     | 13 => exact h
     | 14 => exact h
     | 15 => exact h
     | 16 => exact SS.below (show SS (fun b => WB.heap.size ≤ b) w1 v [ty] from h) hb (nl _)
     | 17 => exact SigV.below (show SigV (fun b => WB.heap.size ≤ b) w1 v ⟨false, [ty], t, []⟩ from h) hb (nl _)
     | 18 => exact OpV.below (show OpV (fun b => WB.heap.size ≤ b) w1 v ⟨[109, 97, 107, 101, 95] ++ nm, ⟨false, [ty], t, []⟩⟩ from h) hb (nl _)
     | 19 => exact RowO.below (show RowO (fun b => WB.heap.size ≤ b) WB.heap.size w1 v [⟨[105, 115, 95] ++ nm, ⟨false, [t], [98, 111, 111, 108], []⟩⟩, ⟨[109, 97, 107, 101, 95] ++ nm, ⟨false, [ty], t, []⟩⟩] from h) hb (nl _)
     | _ + 20 => trivial
   · intro x wx hS hd ho next hn
     have hle : WB.heap.size ≤ wx.heap.size := hS.2.2.2.size;have hc := (box4 hS.2.1).1;have hc2 := box2 hS.1;have e5 : x.tmps[5]?.getD undef = .slice pv L.length cv := ev_at (ho 5 (outH_of (by kernel_rfl)));clear hd ho;unfold Oper.wp;simp only [execOp];simp [go_sem, e5];exact hn _ _ rfl (Below.refl _ _)
   · intro x wx hS hd ho next hn
     have hle : WB.heap.size ≤ wx.heap.size := hS.2.2.2.size;have hc := (box4 hS.2.1).1;have hc2 := box2 hS.1;have e7 : x.tmps[7]?.getD undef = .pointer (some ⟨PB, 0, none⟩) := ev_at (ho 7 (outH_of (by kernel_rfl)));clear hd ho;unfold Oper.wp;simp only [execOp];simp [go_sem, e7];exact hn _ _ rfl (Below.refl _ _)
   · intro x wx hS hd ho next hn
     have hle : WB.heap.size ≤ wx.heap.size := hS.2.2.2.size;have hc := (box4 hS.2.1).1;have hc2 := box2 hS.1;have e24 : x.tmps[24]?.getD undef = .pointer (some ⟨PB, 0, none⟩) := ev_at (hd { on := 1, ground := .data } (by simp) rfl _ 24 rfl rfl);clear hd ho;unfold Oper.wp;simp only [execOp];simp [go_sem, e24, hc2];exact hn _ _ rfl (Below.refl _ _)
   · intro x wx hS hd ho next hn
     have hle : WB.heap.size ≤ wx.heap.size := hS.2.2.2.size;have hc := (box4 hS.2.1).1;have hc2 := box2 hS.1;have e25 : x.tmps[25]?.getD undef = str nm := ev_at (hd { on := 2, ground := .data } (by simp) rfl _ 25 rfl rfl);clear hd ho;unfold Oper.wp;simp only [execOp];simp [go_sem, e25];rw [if_neg (by omega)];exact hn _ _ rfl (Below.refl _ _)
   · intro x wx hS hd ho next hn
     have hle : WB.heap.size ≤ wx.heap.size := hS.2.2.2.size;have hc := (box4 hS.2.1).1;have hc2 := box2 hS.1;have e1 : x.tmps[1]?.getD undef = .pointer (some ⟨w.heap.size, 0, none⟩) := ev_at (ho 1 (outH_of (by kernel_rfl)));clear hd ho;unfold Oper.wp;simp only [execOp];simp [go_sem, e1];exact hn _ _ rfl (Below.refl _ _)
   · intro x wx hS hd ho next hn
     have hle : WB.heap.size ≤ wx.heap.size := hS.2.2.2.size;have hc := (box4 hS.2.1).1;have hc2 := box2 hS.1;have e27 : x.tmps[27]?.getD undef = .pointer (some ⟨w.heap.size, 3, none⟩) := ev_at (hd { on := 4, ground := .data } (by simp) rfl _ 27 rfl rfl);clear hd ho;unfold Oper.wp;simp only [execOp];simp [go_sem, e27, hc];exact hn _ _ rfl (Below.refl _ _)
   · intro x wx hS hd ho next hn
     have hle : WB.heap.size ≤ wx.heap.size := hS.2.2.2.size;have hc := (box4 hS.2.1).1;have hc2 := box2 hS.1;have e28 : x.tmps[28]?.getD undef = str t := ev_at (hd { on := 5, ground := .data } (by simp) rfl _ 28 rfl rfl);clear hd ho;unfold Oper.wp;simp only [execOp];simp [go_sem, e28];exact hn _ _ (SS.new (fun b => WB.heap.size ≤ b) wx (show WB.heap.size ≤ wx.heap.size from hle) [t] 9 (0, 0) (by unfold maxLen; simp) (by intro s hs; simp only [List.mem_cons, List.not_mem_nil, or_false] at hs; rcases hs with hs <;> rw [hs] <;> first | exact ht | exact hty | simp [maxLen])) ((Below.refl _ _).alloc (nl _) _)
   · intro x wx hS hd ho next hn
     have hle : WB.heap.size ≤ wx.heap.size := hS.2.2.2.size;have hc := (box4 hS.2.1).1;have hc2 := box2 hS.1;have h29 : SS (fun b => WB.heap.size ≤ b) wx (x.eval (.tmp 29)) [t] := (hd { on := 6, ground := .data } (by simp) rfl _ 29 rfl rfl);obtain ⟨p29, c29, e29, _⟩ := h29.shape;rw [e29] at h29;have e29 := ev_at e29;clear hd ho;unfold Oper.wp;simp only [execOp];simp [go_sem, e29];refine (sig_sig _ _ _ wx h29 (by first | exact ht | exact hty | simp [maxLen])).mono ?_;rintro e w3 ⟨u, rfl, hu, hb⟩;exact hn _ _ hu hb
   · intro x wx hS hd ho next hn
     have hle : WB.heap.size ≤ wx.heap.size := hS.2.2.2.size;have hc := (box4 hS.2.1).1;have hc2 := box2 hS.1;have e26 : x.tmps[26]?.getD undef = str ([105, 115, 95] ++ nm) := ev_at (hd { on := 3, ground := .data } (by simp) rfl _ 26 rfl rfl);have h30 : SigV (fun b => WB.heap.size ≤ b) wx (x.eval (.tmp 30)) ⟨false, [t], [98, 111, 111, 108], []⟩ := (hd { on := 7, ground := .data } (by simp) rfl _ 30 rfl rfl);obtain ⟨x30, y30, e30, l30, r30, q30⟩ := h30;obtain ⟨px30, cx30, rfl, _⟩ := r30.shape;obtain ⟨py30, cy30, rfl, _⟩ := q30.shape;have e30 := ev_at e30;clear hd ho;unfold Oper.wp;simp only [execOp];simp [go_sem, e26, e30];exact hn _ _ ⟨_, _, rfl, ⟨by first | (simp [maxLen]; done) | (simp [maxLen]; omega), l30⟩, r30, q30⟩ (Below.refl _ _)
   · intro x wx hS hd ho next hn
     have hle : WB.heap.size ≤ wx.heap.size := hS.2.2.2.size;have hc := (box4 hS.2.1).1;have hc2 := box2 hS.1;have e7 : x.tmps[7]?.getD undef = .pointer (some ⟨PB, 0, none⟩) := ev_at (ho 7 (outH_of (by kernel_rfl)));clear hd ho;unfold Oper.wp;simp only [execOp];simp [go_sem, e7];exact hn _ _ rfl (Below.refl _ _)
   · intro x wx hS hd ho next hn
     have hle : WB.heap.size ≤ wx.heap.size := hS.2.2.2.size;have hc := (box4 hS.2.1).1;have hc2 := box2 hS.1;have e32 : x.tmps[32]?.getD undef = .pointer (some ⟨PB, 0, none⟩) := ev_at (hd { on := 9, ground := .data } (by simp) rfl _ 32 rfl rfl);clear hd ho;unfold Oper.wp;simp only [execOp];simp [go_sem, e32, hc2];exact hn _ _ rfl (Below.refl _ _)
   · intro x wx hS hd ho next hn
     have hle : WB.heap.size ≤ wx.heap.size := hS.2.2.2.size;have hc := (box4 hS.2.1).1;have hc2 := box2 hS.1;have e33 : x.tmps[33]?.getD undef = str nm := ev_at (hd { on := 10, ground := .data } (by simp) rfl _ 33 rfl rfl);clear hd ho;unfold Oper.wp;simp only [execOp];simp [go_sem, e33];rw [if_neg (by omega)];exact hn _ _ rfl (Below.refl _ _)
   · intro x wx hS hd ho next hn
     have hle : WB.heap.size ≤ wx.heap.size := hS.2.2.2.size;have hc := (box4 hS.2.1).1;have hc2 := box2 hS.1;have e1 : x.tmps[1]?.getD undef = .pointer (some ⟨w.heap.size, 0, none⟩) := ev_at (ho 1 (outH_of (by kernel_rfl)));clear hd ho;unfold Oper.wp;simp only [execOp];simp [go_sem, e1];exact hn _ _ rfl (Below.refl _ _)
   · intro x wx hS hd ho next hn
     have hle : WB.heap.size ≤ wx.heap.size := hS.2.2.2.size;have hc := (box4 hS.2.1).1;have hc2 := box2 hS.1;have e35 : x.tmps[35]?.getD undef = .pointer (some ⟨w.heap.size, 3, none⟩) := ev_at (hd { on := 12, ground := .data } (by simp) rfl _ 35 rfl rfl);clear hd ho;unfold Oper.wp;simp only [execOp];simp [go_sem, e35, hc];exact hn _ _ rfl (Below.refl _ _)
   · intro x wx hS hd ho next hn
     have hle : WB.heap.size ≤ wx.heap.size := hS.2.2.2.size;have hc := (box4 hS.2.1).1;have hc2 := box2 hS.1;have e7 : x.tmps[7]?.getD undef = .pointer (some ⟨PB, 0, none⟩) := ev_at (ho 7 (outH_of (by kernel_rfl)));clear hd ho;unfold Oper.wp;simp only [execOp];simp [go_sem, e7];exact hn _ _ rfl (Below.refl _ _)
   · intro x wx hS hd ho next hn
     have hle : WB.heap.size ≤ wx.heap.size := hS.2.2.2.size;have hc := (box4 hS.2.1).1;have hc2 := box2 hS.1;have e37 : x.tmps[37]?.getD undef = .pointer (some ⟨PB, 1, none⟩) := ev_at (hd { on := 14, ground := .data } (by simp) rfl _ 37 rfl rfl);clear hd ho;unfold Oper.wp;simp only [execOp];simp [go_sem, e37, hc2];exact hn _ _ rfl (Below.refl _ _)
   · intro x wx hS hd ho next hn
     have hle : WB.heap.size ≤ wx.heap.size := hS.2.2.2.size;have hc := (box4 hS.2.1).1;have hc2 := box2 hS.1;have e38 : x.tmps[38]?.getD undef = str ty := ev_at (hd { on := 15, ground := .data } (by simp) rfl _ 38 rfl rfl);clear hd ho;unfold Oper.wp;simp only [execOp];simp [go_sem, e38];exact hn _ _ (SS.new (fun b => WB.heap.size ≤ b) wx (show WB.heap.size ≤ wx.heap.size from hle) [ty] 9 (0, 0) (by unfold maxLen; simp) (by intro s hs; simp only [List.mem_cons, List.not_mem_nil, or_false] at hs; rcases hs with hs <;> rw [hs] <;> first | exact ht | exact hty | simp [maxLen])) ((Below.refl _ _).alloc (nl _) _)
   · intro x wx hS hd ho next hn
     have hle : WB.heap.size ≤ wx.heap.size := hS.2.2.2.size;have hc := (box4 hS.2.1).1;have hc2 := box2 hS.1;have e36 : x.tmps[36]?.getD undef = str t := ev_at (hd { on := 13, ground := .data } (by simp) rfl _ 36 rfl rfl);have h39 : SS (fun b => WB.heap.size ≤ b) wx (x.eval (.tmp 39)) [ty] := (hd { on := 16, ground := .data } (by simp) rfl _ 39 rfl rfl);obtain ⟨p39, c39, e39, _⟩ := h39.shape;rw [e39] at h39;have e39 := ev_at e39;clear hd ho;unfold Oper.wp;simp only [execOp];simp [go_sem, e36, e39];refine (sig_sig _ _ _ wx h39 (by first | exact ht | exact hty | simp [maxLen])).mono ?_;rintro e w3 ⟨u, rfl, hu, hb⟩;exact hn _ _ hu hb
   · intro x wx hS hd ho next hn
     have hle : WB.heap.size ≤ wx.heap.size := hS.2.2.2.size;have hc := (box4 hS.2.1).1;have hc2 := box2 hS.1;have e34 : x.tmps[34]?.getD undef = str ([109, 97, 107, 101, 95] ++ nm) := ev_at (hd { on := 11, ground := .data } (by simp) rfl _ 34 rfl rfl);have h40 : SigV (fun b => WB.heap.size ≤ b) wx (x.eval (.tmp 40)) ⟨false, [ty], t, []⟩ := (hd { on := 17, ground := .data } (by simp) rfl _ 40 rfl rfl);obtain ⟨x40, y40, e40, l40, r40, q40⟩ := h40;obtain ⟨px40, cx40, rfl, _⟩ := r40.shape;obtain ⟨py40, cy40, rfl, _⟩ := q40.shape;have e40 := ev_at e40;clear hd ho;unfold Oper.wp;simp only [execOp];simp [go_sem, e34, e40];exact hn _ _ ⟨_, _, rfl, ⟨by first | (simp [maxLen]; done) | (simp [maxLen]; omega), l40⟩, r40, q40⟩ (Below.refl _ _)
   · intro x wx hS hd ho next hn
     have hle : WB.heap.size ≤ wx.heap.size := hS.2.2.2.size;have hc := (box4 hS.2.1).1;have hc2 := box2 hS.1;have h31 : OpV (fun b => WB.heap.size ≤ b) wx (x.eval (.tmp 31)) ⟨[105, 115, 95] ++ nm, ⟨false, [t], [98, 111, 111, 108], []⟩⟩ := (hd { on := 8, ground := .data } (by simp) rfl _ 31 rfl rfl);obtain ⟨x31, y31, e31, l31, r31, q31⟩ := h31;obtain ⟨px31, cx31, rfl, _⟩ := r31.shape;obtain ⟨py31, cy31, rfl, _⟩ := q31.shape;have e31 := ev_at e31;have h41 : OpV (fun b => WB.heap.size ≤ b) wx (x.eval (.tmp 41)) ⟨[109, 97, 107, 101, 95] ++ nm, ⟨false, [ty], t, []⟩⟩ := (hd { on := 18, ground := .data } (by simp) rfl _ 41 rfl rfl);obtain ⟨x41, y41, e41, l41, r41, q41⟩ := h41;obtain ⟨px41, cx41, rfl, _⟩ := r41.shape;obtain ⟨py41, cy41, rfl, _⟩ := q41.shape;have e41 := ev_at e41;clear hd ho;unfold Oper.wp;simp only [execOp];simp [go_sem, e31, e41];exact hn _ _ (row_newO (D := (fun b => WB.heap.size ≤ b)) wx hle rfl (by unfold maxLen; simp) ⟨_, _, _, rfl, l31, r31, q31, _, _, _, rfl, l41, r41, q41, rfl⟩) ((Below.refl _ _).alloc (nl _) _)
   · intro x wx hdf hsz hout hS hA
     have eL : x.tmps.getD 23 undef = .slice pv L.length cv := hA 0 _ 23 (by decide) rfl rfl;have hR : RowO (fun b => WB.heap.size ≤ b) WB.heap.size wx (x.tmps.getD 42 undef) [⟨[105, 115, 95] ++ nm, ⟨false, [t], [98, 111, 111, 108], []⟩⟩, ⟨[109, 97, 107, 101, 95] ++ nm, ⟨false, [ty], t, []⟩⟩] := hA 19 _ 42 (by decide) rfl rfl;obtain ⟨pR, cR, eR⟩ := hR.shape;rw [eR] at hR;have ha := act_putsH hdf hsz hout;rw [ha];simp only [List.take_succ_cons, List.take_zero, putsOf, eL, eR, pz, pw];clear ha hA hout hdf hsz
     show wpAny _ _ _ _ (1 + 1) _ _ _
     refine wpAny_ready (rs := [20]) (by kernel_rfl) (by simp) (AllReady.cons rfl (fun K' hK => ?_) AllReady.nil);rw [if_pos (by kernel_rfl)];refine wp_append_row (.tmp 23) (.tmp 42) rfl (v := .slice pv L.length cv) (y := .slice pR 2 cR) (by simp [Act.eval]) (by simp [Act.eval]) hS.2.2.1 hR (by simp) (fun b hb e => absurd (hoB.lt e).2 (by omega)) (by simp; omega) (Nat.le_trans hBB.size hS.2.2.2.size) (fun v' w5 h5 hb5 => hK _ _ ?_);simp only [Act.put, List.setIfInBounds_toArray];refine wpAny_ready (fuel := 0) (rs := [20 + 1]) (by kernel_rfl) (by simp) (AllReady.cons rfl (fun K' hK => ?_) AllReady.nil);rw [if_pos (by kernel_rfl)];unfold Oper.wp;simp only [execOp];simp [go_sem];refine hK _ _ (wpAny_done (by kernel_rfl) ?_ _);go_wp2_with fail;refine ⟨⟨i + 1, hlt, by go_num, hTk.out ▸ h5, (hBB.trans (below_less hS.2.2.2 hBB.size)).trans hb5⟩, by simp only [intOf]; omega⟩
end Go.Proofs.YtakgjcfkdemipaaGreatDoor
namespace Go.Proofs.YtakgjcfkdemipaaGreatDoor
open Go.RowKit
set_option maxRecDepth 8000 in
set_option maxHeartbeats 12800000 in
theorem records_any (v : Value) (m : Nat) (nv : Value) (p : Bool) (t : List UInt8) (w : World) (hT : Tab w) (hpn : (partsK t).1.length ≤ 100) (hps : ∀ x ∈ (partsK t).1, x.1.length ≤ 1000 ∧ x.2.length ≤ maxLen) (hv : MakV v m nv p t) (ht : t.length ≤ maxLen) :
 Calls Tryz.prog 181 #[v] w fun e w' => ∃ u, e = .returned u ∧ OwnO w.heap.size w' u (([⟨[101, 113, 117, 97, 108], ⟨false, [t, t], [98, 111, 111, 108], []⟩⟩] : List OpP) ++ (partsK t).1.flatMap (fun p : List UInt8 × List UInt8 => ([⟨[103, 101, 116, 95] ++ p.1, ⟨false, [t], p.2, []⟩⟩, ⟨[115, 101, 116, 95] ++ p.1, ⟨false, [t, p.2], [], []⟩⟩] : List OpP)) ++ [⟨[109, 97, 107, 101], ⟨false, ((partsK t).1.map (·.2)), t, []⟩⟩]) ∧ Below w.heap.size w w' := by
 obtain ⟨rfl, q, n, c, rfl⟩ := hv
 have hbox := heap_alloc_new w (.cells #[.map (some m), .slice q n c, .bool p, str t] 145)
 have hA := (Below.refl _ w).alloc (nl _) (.cells #[.map (some m), .slice q n c, .bool p, str t] 145)
 have HC := kparts_any t ht (w.alloc (.cells #[.map (some m), .slice q n c, .bool p, str t] 145)) (hT.below hA (nl _))
 have bx := (box4 hbox).1
 obtain ⟨i0, hi0, hz0, hz1, hz2⟩ := finfo_parts infoOp
 obtain ⟨i1, hj0, hy0, hy1, hy2⟩ := finfo_parts finfoStr
 generalize (partsK t).1 = ps at *
 go_enter Tryz.func181, Tryz.ntmps181
 go_wp2_with (first
  | (go_at_call 238; refine (equals_any _ m _ _ t _ ⟨rfl, _, _, _, rfl⟩ ht).mono ?_; rintro e w2 ⟨u, rfl, ⟨x, y, rfl, l1, r1, q1⟩, hb2⟩; obtain ⟨p1, c1, rfl, _⟩ := r1.shape; obtain ⟨p2, c2, rfl, _⟩ := q1.shape)
  | (go_at_call 241; refine HC.mono ?_; clear HC; rintro e w1 ⟨v, rfl, hp1, hb1⟩; obtain ⟨pp, cp, rfl⟩ := hp1.shape; have hbx1 := kept_call hbox hb1; have bx1 := (box4 hbx1).1))
 have hs2 := hb2.size
 have hs1 := hb1.size
 simp only [World.size_alloc] at hs1
 have hown := own_newO (B := w1.heap.size) (n := 1) w2 hs2 rfl (by unfold maxLen; simp) (show OpsC (fun b => w1.heap.size ≤ b) w2 _ [opEq t] from ⟨_, _, _, rfl, l1, r1, q1, rfl⟩)
 have hB := hb2.alloc hs2 (.cells #[str (opEq t).name, .bool (opEq t).sig.iter, .slice p1 (opEq t).sig.args.length c1, str (opEq t).sig.res, .slice p2 (opEq t).sig.sigs.length c2] 50)
 have hW1 : Below w.heap.size w w1 := hA.trans (below_less hb1 (by simp))
 clear l1 r1 q1 hb2 hs2 bx1 hA hb1 hbox bx
 generalize w2.alloc (.cells #[str (opEq t).name, .bool (opEq t).sig.iter, .slice p1 (opEq t).sig.args.length c1, str (opEq t).sig.res, .slice p2 (opEq t).sig.sigs.length c2] 50) = W3 at *
 generalize Value.agg #[str (opEq t).name, .bool (opEq t).sig.iter, .slice p1 (opEq t).sig.args.length c1, str (opEq t).sig.res, .slice p2 (opEq t).sig.sigs.length c2] = vEq
 generalize (some (⟨w2.heap.size, 0, none⟩ : Addr)) = pE at *
 go_loopw [5, 6, 20] (fun v a y wx => ∃ i : Nat, i ≤ ps.length ∧ y = .int .i64 i ∧ OwnX (fun b => a.ownBlock = some b) w1.heap.size wx v ([opEq t] ++ (ps.take i).flatMap (fun p : List UInt8 × List UInt8 => ([⟨[103, 101, 116, 95] ++ p.1, ⟨false, [t], p.2, []⟩⟩, ⟨[115, 101, 116, 95] ++ p.1, ⟨false, [t, p.2], [], []⟩⟩] : List OpP))) ∧ wx.ownsRow w1.heap.size 9 1 a i (strsC ((ps.take i).map (·.2))) ∧ Below w1.heap.size w1 wx) (fun _ _ y _ => ps.length - (intOf y).toNat)
 case atStart => exact ⟨0, Nat.zero_le _, by go_num, by simpa using hown.x (fun b e => by cases e), by simpa [strsC] using World.ownsRow_nil _ _ _ _, hB⟩
 case round =>
  clear hown hB;obtain ⟨i, hi, rfl, hown, hall, hB⟩ := hrel;obtain ⟨pv, cv, rfl⟩ := hown.shape;obtain ⟨pa, ca, rfl⟩ := row_shape hall
  by_cases hlt : i < ps.length
  case neg =>
   have hie : i = ps.length := by omega
   subst hie;have hLF := Lib.hid (show [opEq t] ++ (ps.take ps.length).flatMap (fun p : List UInt8 × List UInt8 => ([⟨[103, 101, 116, 95] ++ p.1, ⟨false, [t], p.2, []⟩⟩, ⟨[115, 101, 116, 95] ++ p.1, ⟨false, [t, p.2], [], []⟩⟩] : List OpP)) = [opEq t] ++ ps.flatMap (fun p : List UInt8 × List UInt8 => ([⟨[103, 101, 116, 95] ++ p.1, ⟨false, [t], p.2, []⟩⟩, ⟨[115, 101, 116, 95] ++ p.1, ⟨false, [t, p.2], [], []⟩⟩] : List OpP)) by rw [List.take_length]);have hlen : ([opEq t] ++ (ps.take ps.length).flatMap (fun p : List UInt8 × List UInt8 => ([⟨[103, 101, 116, 95] ++ p.1, ⟨false, [t], p.2, []⟩⟩, ⟨[115, 101, 116, 95] ++ p.1, ⟨false, [t, p.2], [], []⟩⟩] : List OpP))).length ≤ 300 := by
    simp only [List.length_append, List.length_flatMap, List.length_cons, List.length_nil, List.map_const', List.sum_replicate_nat, List.length_take];omega
   generalize [opEq t] ++ (ps.take ps.length).flatMap (fun p : List UInt8 × List UInt8 => ([⟨[103, 101, 116, 95] ++ p.1, ⟨false, [t], p.2, []⟩⟩, ⟨[115, 101, 116, 95] ++ p.1, ⟨false, [t, p.2], [], []⟩⟩] : List OpP)) = LL at *;rw [List.take_length] at hall;have hbxr := heap_kept hbx1 hB (heap_lt hbx1);have hbx := (box4 hbxr).1;obtain ⟨cs, hcs, hC⟩ := hown.own;have hSS : SS (fun b => (Value.slice pv LL.length cv).ownBlock ≠ some b) wr (.slice pa ps.length ca) (ps.map (·.2)) := by
    refine SS.of_own (base := w1.heap.size) (e := 9) ?_ ?_ ?_
    · rw [List.length_map]; exact hall
    · intro s hs
      obtain ⟨x, hx, rfl⟩ := List.mem_map.1 hs;exact (hps x hx).2
    · intro b hb
      exact rows_ne hall hcs (by decide) b hb
   go_wp2_with (first
    | (at_builtin; refine wpList_append_own2 _ rfl _ _ 31 rfl w1.heap.size 50 i0 _ 5 88 underOps hi0 hz0 hz1 hz2 rfl (by decide) _ _ cs rfl (hcs3.alloc _) ⟨w3.heap.size, 0, none⟩ 1 1 [str [109, 97, 107, 101], .bool false, .slice px nx ca', str t, .slice py 0 cb] rfl rfl (cells_new _ _ _) (by intro u hu; simp only [List.mem_cons, List.not_mem_nil, or_false] at hu; rcases hu with rfl | rfl | rfl | rfl | rfl <;> rfl) (by decide) (by unfold maxLen; omega) (by omega) (Nat.le_trans hB3.size (by simp)) ?_; intro v' w5 hown5 hgr hob)
    | (go_at_call 239; refine (sig_sig _ (ps.map (·.2)) _ _ hSS ht).mono ?_; rintro e w3 ⟨u3, rfl, ⟨a3, q3, rfl, l3, r3, s3⟩, hb3⟩; obtain ⟨px, ca', hpx, _⟩ := r3.shape; obtain ⟨py, cb, hpy, _⟩ := s3.shape; simp only [List.length_nil] at hpx hpy; generalize hnx : (ps.map (·.2)).length = nx at hpx; subst hpx hpy; have hcs3 := ownsRow_below hcs hb3 (nl _); have hC3 := hC.below hb3 (nl _); have hB3 := hB.trans (below_less hb3 hB.size)))
   go_ret;have hD3 := (Below.refl _ w3).alloc (nl _) (.cells #[str [109, 97, 107, 101], .bool false, .slice px nx ca', str t, .slice py 0 cb] 50);have h5 := OwnO.append (k := [⟨[109, 97, 107, 101], ⟨false, ps.map (·.2), t, []⟩⟩]) (hC3.below hD3 (nl _)) (OpsC.below hD3 (nl _) ⟨_, _, [], rfl, ⟨by simp [maxLen], l3⟩, r3, s3, rfl⟩) hown5 hgr hob;have hB5 := Below.grown (B := w1.heap.size) (hB3.alloc hB3.size (.cells #[str [109, 97, 107, 101], .bool false, .slice px nx ca', str t, .slice py 0 cb] 50)) hgr (Nat.le_trans hB3.size (by simp)) (fun k e => (hcs3.lt k e).1);rw [hLF.out] at h5;exact ⟨_, rfl, by simpa [opEq] using h5.mono hW1.size, hW1.trans (below_less hB5 hW1.size)⟩
  case pos =>
   have hpr := hp1.below hB;obtain ⟨b1, o1, cz, ⟨nm, ty⟩, hbe, hx, pc1, pc2⟩ := hpr.at hlt;injection hbe with hbe;subst hbe;obtain ⟨hnm, hty⟩ := hps _ (List.mem_of_getElem? hx);simp only at hnm hty pc1 pc2;have hTk := Lib.hid (show ([opEq t] ++ (ps.take i).flatMap (fun p : List UInt8 × List UInt8 => ([⟨[103, 101, 116, 95] ++ p.1, ⟨false, [t], p.2, []⟩⟩, ⟨[115, 101, 116, 95] ++ p.1, ⟨false, [t, p.2], [], []⟩⟩] : List OpP))) ++ ((fun p : List UInt8 × List UInt8 => ([⟨[103, 101, 116, 95] ++ p.1, ⟨false, [t], p.2, []⟩⟩, ⟨[115, 101, 116, 95] ++ p.1, ⟨false, [t, p.2], [], []⟩⟩] : List OpP)) (nm, ty)) = [opEq t] ++ (ps.take (i + 1)).flatMap (fun p : List UInt8 × List UInt8 => ([⟨[103, 101, 116, 95] ++ p.1, ⟨false, [t], p.2, []⟩⟩, ⟨[115, 101, 116, 95] ++ p.1, ⟨false, [t, p.2], [], []⟩⟩] : List OpP)) by rw [List.append_assoc, List.take_add_one, hx]; simp);have hTa := Lib.hid (show strsC ((ps.take i).map (·.2)) ++ [str ty] = strsC ((ps.take (i + 1)).map (·.2)) by rw [List.take_add_one, hx]; simp [strsC]);have hlen : ([opEq t] ++ (ps.take i).flatMap (fun p : List UInt8 × List UInt8 => ([⟨[103, 101, 116, 95] ++ p.1, ⟨false, [t], p.2, []⟩⟩, ⟨[115, 101, 116, 95] ++ p.1, ⟨false, [t, p.2], [], []⟩⟩] : List OpP))).length ≤ 300 := by
    simp only [List.length_append, List.length_flatMap, List.length_cons, List.length_nil, List.map_const', List.sum_replicate_nat, List.length_take];omega
   generalize ([opEq t] ++ (ps.take i).flatMap (fun p : List UInt8 × List UInt8 => ([⟨[103, 101, 116, 95] ++ p.1, ⟨false, [t], p.2, []⟩⟩, ⟨[115, 101, 116, 95] ++ p.1, ⟨false, [t, p.2], [], []⟩⟩] : List OpP))) = L at *;generalize strsC ((ps.take i).map (·.2)) = LA at *;have hbxr := heap_kept hbx1 hB (heap_lt hbx1);have gi : (i : Int) < (ps.length : Int) := by omega
   have hP0 := heap_alloc_new wr (.cells #[.string ⟨nm.toArray⟩, .string ⟨ty.toArray⟩] 155);have hP1 := heap_up (.cells #[.string ⟨ty.toArray⟩] 9) hP0;have cP := box2 hP0;have hE2 := ((Below.refl _ wr).alloc (nl _) (.cells #[.string ⟨nm.toArray⟩, .string ⟨ty.toArray⟩] 155)).alloc (by simp) (.cells #[.string ⟨ty.toArray⟩] 9);have hoB := hown.below hE2 (nl _);have haB := ownsRow_below hall hE2 (nl _);have hBB := hB.trans (below_less hE2 hB.size);have hCE := cell_one_at (w := wr.alloc (.cells #[.string ⟨nm.toArray⟩, .string ⟨ty.toArray⟩] 155)) (n := wr.heap.size + 1) (by simp) (str ty) 9;have hPn : ∀ b, (Value.slice pa i ca).ownBlock = some b → b < wr.heap.size := fun b e => ownsRow_lt hall e
   have hne := rows_ne hoB.choose_spec.1 haB (by decide);clear hown hall hB hpr;go_upto_region 8 with (at_builtin; refine wpList_append_own2 _ rfl _ _ 34 rfl w1.heap.size 9 i1 _ 1 16 underStrs hj0 hy0 hy1 hy2 rfl (by decide) _ _ _ rfl haB ⟨wr.heap.size + 1, 0, none⟩ 1 1 [str ty] rfl rfl hCE (by intro u hu; rw [List.mem_singleton.1 hu]; rfl) (by decide) (by unfold maxLen; omega) (by omega) hBB.size ?_; intro a' WB hall5 hgr hob);obtain ⟨pzz, cz', rfl⟩ := row_shape hall5;have hbB := grown_heap hgr (heap_kept hbxr hE2 (heap_lt hbxr)) (fun e => by have := (haB.lt _ e).1; have := heap_lt hbx1; omega);have hPB := grown_heap hgr hP1 (fun e => by have := hPn _ e; omega);have hoB5 := hoB.grow (a' := .slice pzz (i + 1) cz') hgr hne hob;have hBB5 := Below.grown (B := w1.heap.size) hBB hgr hBB.size (fun k e => (haB.lt k e).1);clear hbxr hP0 hP1 cP hoB haB hBB hCE hne pc1 pc2;generalize wr.heap.size = PB at *;refine wp_region_head2 (S := fun w' => w'.heap[PB]? = some (.cells #[str nm, str ty] 155 (0, 0)) ∧ w'.heap[w.heap.size]? = some (.cells #[.map (some m), .slice q n c, .bool p, str t] 145 (0, 0)) ∧ OwnX (fun b => (Value.slice pzz (i + 1) cz').ownBlock = some b) w1.heap.size w' (.slice pv L.length cv) L ∧ w'.ownsRow w1.heap.size 9 1 (.slice pzz (i + 1) cz') (i + 1) (LA ++ [str ty]) ∧ Below WB.heap.size WB w') (A := fun j v w' => match j with
    | 0 => v = .slice pv L.length cv
    | 1 => v = .pointer (some ⟨PB, 0, none⟩)
    | 2 => v = str nm
    | 3 => v = str ([103, 101, 116, 95] ++ nm)
    | 4 => v = .pointer (some ⟨PB, 1, none⟩)
    | 5 => v = str ty
    | 6 => v = .pointer (some ⟨w.heap.size, 3, none⟩)
    | 7 => v = str t
    | 8 => SS (fun b => WB.heap.size ≤ b) w' v [t]
    | 9 => SigV (fun b => WB.heap.size ≤ b) w' v ⟨false, [t], ty, []⟩
    | 10 => OpV (fun b => WB.heap.size ≤ b) w' v ⟨[103, 101, 116, 95] ++ nm, ⟨false, [t], ty, []⟩⟩
    | 11 => v = .pointer (some ⟨PB, 0, none⟩)
    | 12 => v = str nm
    | 13 => v = str ([115, 101, 116, 95] ++ nm)
    | 14 => v = .pointer (some ⟨w.heap.size, 3, none⟩)
    | 15 => v = str t
    | 16 => v = .pointer (some ⟨PB, 1, none⟩)
    | 17 => v = str ty
    | 18 => SS (fun b => WB.heap.size ≤ b) w' v [t, ty]
    | 19 => SigV (fun b => WB.heap.size ≤ b) w' v ⟨false, [t, ty], [], []⟩
    | 20 => OpV (fun b => WB.heap.size ≤ b) w' v ⟨[115, 101, 116, 95] ++ nm, ⟨false, [t, ty], [], []⟩⟩
    | 21 => RowO (fun b => WB.heap.size ≤ b) WB.heap.size w' v [⟨[103, 101, 116, 95] ++ nm, ⟨false, [t], ty, []⟩⟩, ⟨[115, 101, 116, 95] ++ nm, ⟨false, [t, ty], [], []⟩⟩]
    | _ => True) 22 (by kernel_rfl) (by decide) (by kernel_rfl) (by kernel_rfl) (by kernel_rfl) ?_ (fun w1 w2 h hb => ⟨kept_call h.1 hb, kept_call h.2.1 hb, h.2.2.1.below hb (nl _), ownsRow_below h.2.2.2.1 hb (nl _), h.2.2.2.2.trans (below_less hb h.2.2.2.2.size)⟩) ⟨hPB, hbB, hoB5.below (Below.refl _ WB).drew (nl _), ownsRow_below hall5 (Below.refl _ WB).drew (nl _), (Below.refl _ _).drew⟩ (stepsH_head ⟨?_, ?_, ?_, ?_, ?_, ?_, ?_, ?_, ?_, ?_, ?_, ?_, ?_, ?_, ?_, ?_, ?_, ?_, ?_, ?_, ?_, ?_, trivial⟩) ?_
   · intro j v w1 w2 h hb
     match j with
     | 0 => exact h
     | 1 => exact h
     | 2 => exact h
     | 3 => exact h
     | 4 => exact h
     | 5 => exact h
     | 6 => exact h
     | 7 => exact h
     | 8 => exact SS.below (show SS (fun b => WB.heap.size ≤ b) w1 v [t] from h) hb (nl _)
     | 9 => exact SigV.below (show SigV (fun b => WB.heap.size ≤ b) w1 v ⟨false, [t], ty, []⟩ from h) hb (nl _)
     | 10 => exact OpV.below (show OpV (fun b => WB.heap.size ≤ b) w1 v ⟨[103, 101, 116, 95] ++ nm, ⟨false, [t], ty, []⟩⟩ from h) hb (nl _)
     | 11 => exact h
     | 12 => exact h
     | 13 => exact h
     | 14 => exact h
     | 15 => exact h
     | 16 => exact h
     | 17 => exact h
     | 18 => exact SS.below (show SS (fun b => WB.heap.size ≤ b) w1 v [t, ty] from h) hb (nl _)
     | 19 => exact SigV.below (show SigV (fun b => WB.heap.size ≤ b) w1 v ⟨false, [t, ty], [], []⟩ from h) hb (nl _)
     | 20 => exact OpV.below (show OpV (fun b => WB.heap.size ≤ b) w1 v ⟨[115, 101, 116, 95] ++ nm, ⟨false, [t, ty], [], []⟩⟩ from h) hb (nl _)
     | 21 => exact RowO.below (show RowO (fun b => WB.heap.size ≤ b) WB.heap.size w1 v [⟨[103, 101, 116, 95] ++ nm, ⟨false, [t], ty, []⟩⟩, ⟨[115, 101, 116, 95] ++ nm, ⟨false, [t, ty], [], []⟩⟩] from h) hb (nl _)
     | _ + 22 => trivial
   · intro x wx hS hd ho next hn
     have hle : WB.heap.size ≤ wx.heap.size := hS.2.2.2.2.size;have hc := (box4 hS.2.1).1;have hc2 := box2 hS.1;have e5 : x.tmps[5]?.getD undef = .slice pv L.length cv := ev_at (ho 5 (outH_of (by kernel_rfl)));clear hd ho;unfold Oper.wp;simp only [execOp];simp [go_sem, e5];exact hn _ _ rfl (Below.refl _ _)
   · intro x wx hS hd ho next hn
     have hle : WB.heap.size ≤ wx.heap.size := hS.2.2.2.2.size;have hc := (box4 hS.2.1).1;have hc2 := box2 hS.1;have e8 : x.tmps[8]?.getD undef = .pointer (some ⟨PB, 0, none⟩) := ev_at (ho 8 (outH_of (by kernel_rfl)));clear hd ho;unfold Oper.wp;simp only [execOp];simp [go_sem, e8];exact hn _ _ rfl (Below.refl _ _)
   · intro x wx hS hd ho next hn
     have hle : WB.heap.size ≤ wx.heap.size := hS.2.2.2.2.size;have hc := (box4 hS.2.1).1;have hc2 := box2 hS.1;have e30 : x.tmps[30]?.getD undef = .pointer (some ⟨PB, 0, none⟩) := ev_at (hd { on := 1, ground := .data } (by simp) rfl _ 30 rfl rfl);clear hd ho;unfold Oper.wp;simp only [execOp];simp [go_sem, e30, hc2];exact hn _ _ rfl (Below.refl _ _)
   · intro x wx hS hd ho next hn
     have hle : WB.heap.size ≤ wx.heap.size := hS.2.2.2.2.size;have hc := (box4 hS.2.1).1;have hc2 := box2 hS.1;have e31 : x.tmps[31]?.getD undef = str nm := ev_at (hd { on := 2, ground := .data } (by simp) rfl _ 31 rfl rfl);clear hd ho;unfold Oper.wp;simp only [execOp];simp [go_sem, e31];rw [if_neg (by omega)];exact hn _ _ rfl (Below.refl _ _)
   · intro x wx hS hd ho next hn
     have hle : WB.heap.size ≤ wx.heap.size := hS.2.2.2.2.size;have hc := (box4 hS.2.1).1;have hc2 := box2 hS.1;have e8 : x.tmps[8]?.getD undef = .pointer (some ⟨PB, 0, none⟩) := ev_at (ho 8 (outH_of (by kernel_rfl)));clear hd ho;unfold Oper.wp;simp only [execOp];simp [go_sem, e8];exact hn _ _ rfl (Below.refl _ _)
   · intro x wx hS hd ho next hn
     have hle : WB.heap.size ≤ wx.heap.size := hS.2.2.2.2.size;have hc := (box4 hS.2.1).1;have hc2 := box2 hS.1;have e33 : x.tmps[33]?.getD undef = .pointer (some ⟨PB, 1, none⟩) := ev_at (hd { on := 4, ground := .data } (by simp) rfl _ 33 rfl rfl);clear hd ho;unfold Oper.wp;simp only [execOp];simp [go_sem, e33, hc2];exact hn _ _ rfl (Below.refl _ _)
   · intro x wx hS hd ho next hn
     have hle : WB.heap.size ≤ wx.heap.size := hS.2.2.2.2.size;have hc := (box4 hS.2.1).1;have hc2 := box2 hS.1;have e1 : x.tmps[1]?.getD undef = .pointer (some ⟨w.heap.size, 0, none⟩) := ev_at (ho 1 (outH_of (by kernel_rfl)));clear hd ho;unfold Oper.wp;simp only [execOp];simp [go_sem, e1];exact hn _ _ rfl (Below.refl _ _)
   · intro x wx hS hd ho next hn
     have hle : WB.heap.size ≤ wx.heap.size := hS.2.2.2.2.size;have hc := (box4 hS.2.1).1;have hc2 := box2 hS.1;have e35 : x.tmps[35]?.getD undef = .pointer (some ⟨w.heap.size, 3, none⟩) := ev_at (hd { on := 6, ground := .data } (by simp) rfl _ 35 rfl rfl);clear hd ho;unfold Oper.wp;simp only [execOp];simp [go_sem, e35, hc];exact hn _ _ rfl (Below.refl _ _)
   · intro x wx hS hd ho next hn
     have hle : WB.heap.size ≤ wx.heap.size := hS.2.2.2.2.size;have hc := (box4 hS.2.1).1;have hc2 := box2 hS.1;have e36 : x.tmps[36]?.getD undef = str t := ev_at (hd { on := 7, ground := .data } (by simp) rfl _ 36 rfl rfl);clear hd ho;unfold Oper.wp;simp only [execOp];simp [go_sem, e36];exact hn _ _ (SS.new (fun b => WB.heap.size ≤ b) wx (show WB.heap.size ≤ wx.heap.size from hle) [t] 9 (0, 0) (by unfold maxLen; simp) (by intro s hs; simp only [List.mem_cons, List.not_mem_nil, or_false] at hs; rcases hs with hs <;> rw [hs] <;> first | exact ht | exact hty | simp [maxLen])) ((Below.refl _ _).alloc (nl _) _)
   · intro x wx hS hd ho next hn
     have hle : WB.heap.size ≤ wx.heap.size := hS.2.2.2.2.size;have hc := (box4 hS.2.1).1;have hc2 := box2 hS.1;have e34 : x.tmps[34]?.getD undef = str ty := ev_at (hd { on := 5, ground := .data } (by simp) rfl _ 34 rfl rfl);have h37 : SS (fun b => WB.heap.size ≤ b) wx (x.eval (.tmp 37)) [t] := (hd { on := 8, ground := .data } (by simp) rfl _ 37 rfl rfl);obtain ⟨p37, c37, e37, _⟩ := h37.shape;rw [e37] at h37;have e37 := ev_at e37;clear hd ho;unfold Oper.wp;simp only [execOp];simp [go_sem, e34, e37];refine (sig_sig _ _ _ wx h37 (by first | exact ht | exact hty | simp [maxLen])).mono ?_;rintro e w3 ⟨u, rfl, hu, hb⟩;exact hn _ _ hu hb
   · intro x wx hS hd ho next hn
     have hle : WB.heap.size ≤ wx.heap.size := hS.2.2.2.2.size;have hc := (box4 hS.2.1).1;have hc2 := box2 hS.1;have e32 : x.tmps[32]?.getD undef = str ([103, 101, 116, 95] ++ nm) := ev_at (hd { on := 3, ground := .data } (by simp) rfl _ 32 rfl rfl);have h38 : SigV (fun b => WB.heap.size ≤ b) wx (x.eval (.tmp 38)) ⟨false, [t], ty, []⟩ := (hd { on := 9, ground := .data } (by simp) rfl _ 38 rfl rfl);obtain ⟨x38, y38, e38, l38, r38, q38⟩ := h38;obtain ⟨px38, cx38, rfl, _⟩ := r38.shape;obtain ⟨py38, cy38, rfl, _⟩ := q38.shape;have e38 := ev_at e38;clear hd ho;unfold Oper.wp;simp only [execOp];simp [go_sem, e32, e38];exact hn _ _ ⟨_, _, rfl, ⟨by first | (simp [maxLen]; done) | (simp [maxLen]; omega), l38⟩, r38, q38⟩ (Below.refl _ _)
   · intro x wx hS hd ho next hn
     have hle : WB.heap.size ≤ wx.heap.size := hS.2.2.2.2.size;have hc := (box4 hS.2.1).1;have hc2 := box2 hS.1;have e8 : x.tmps[8]?.getD undef = .pointer (some ⟨PB, 0, none⟩) := ev_at (ho 8 (outH_of (by kernel_rfl)));clear hd ho;unfold Oper.wp;simp only [execOp];simp [go_sem, e8];exact hn _ _ rfl (Below.refl _ _)
   · intro x wx hS hd ho next hn
     have hle : WB.heap.size ≤ wx.heap.size := hS.2.2.2.2.size;have hc := (box4 hS.2.1).1;have hc2 := box2 hS.1;have e40 : x.tmps[40]?.getD undef = .pointer (some ⟨PB, 0, none⟩) := ev_at (hd { on := 11, ground := .data } (by simp) rfl _ 40 rfl rfl);clear hd ho;unfold Oper.wp;simp only [execOp];simp [go_sem, e40, hc2];exact hn _ _ rfl (Below.refl _ _)
   · intro x wx hS hd ho next hn
     have hle : WB.heap.size ≤ wx.heap.size := hS.2.2.2.2.size;have hc := (box4 hS.2.1).1;have hc2 := box2 hS.1;have e41 : x.tmps[41]?.getD undef = str nm := ev_at (hd { on := 12, ground := .data } (by simp) rfl _ 41 rfl rfl);clear hd ho;unfold Oper.wp;simp only [execOp];simp [go_sem, e41];rw [if_neg (by omega)];exact hn _ _ rfl (Below.refl _ _)
   · intro x wx hS hd ho next hn
     have hle : WB.heap.size ≤ wx.heap.size := hS.2.2.2.2.size;have hc := (box4 hS.2.1).1;have hc2 := box2 hS.1;have e1 : x.tmps[1]?.getD undef = .pointer (some ⟨w.heap.size, 0, none⟩) := ev_at (ho 1 (outH_of (by kernel_rfl)));clear hd ho;unfold Oper.wp;simp only [execOp];simp [go_sem, e1];exact hn _ _ rfl (Below.refl _ _)
   · intro x wx hS hd ho next hn
     have hle : WB.heap.size ≤ wx.heap.size := hS.2.2.2.2.size;have hc := (box4 hS.2.1).1;have hc2 := box2 hS.1;have e43 : x.tmps[43]?.getD undef = .pointer (some ⟨w.heap.size, 3, none⟩) := ev_at (hd { on := 14, ground := .data } (by simp) rfl _ 43 rfl rfl);clear hd ho;unfold Oper.wp;simp only [execOp];simp [go_sem, e43, hc];exact hn _ _ rfl (Below.refl _ _)
   · intro x wx hS hd ho next hn
     have hle : WB.heap.size ≤ wx.heap.size := hS.2.2.2.2.size;have hc := (box4 hS.2.1).1;have hc2 := box2 hS.1;have e8 : x.tmps[8]?.getD undef = .pointer (some ⟨PB, 0, none⟩) := ev_at (ho 8 (outH_of (by kernel_rfl)));clear hd ho;unfold Oper.wp;simp only [execOp];simp [go_sem, e8];exact hn _ _ rfl (Below.refl _ _)
   · intro x wx hS hd ho next hn
     have hle : WB.heap.size ≤ wx.heap.size := hS.2.2.2.2.size;have hc := (box4 hS.2.1).1;have hc2 := box2 hS.1;have e45 : x.tmps[45]?.getD undef = .pointer (some ⟨PB, 1, none⟩) := ev_at (hd { on := 16, ground := .data } (by simp) rfl _ 45 rfl rfl);clear hd ho;unfold Oper.wp;simp only [execOp];simp [go_sem, e45, hc2];exact hn _ _ rfl (Below.refl _ _)
   · intro x wx hS hd ho next hn
     have hle : WB.heap.size ≤ wx.heap.size := hS.2.2.2.2.size;have hc := (box4 hS.2.1).1;have hc2 := box2 hS.1;have e44 : x.tmps[44]?.getD undef = str t := ev_at (hd { on := 15, ground := .data } (by simp) rfl _ 44 rfl rfl);have e46 : x.tmps[46]?.getD undef = str ty := ev_at (hd { on := 17, ground := .data } (by simp) rfl _ 46 rfl rfl);clear hd ho;unfold Oper.wp;simp only [execOp];simp [go_sem, e44, e46];exact hn _ _ (SS.new (fun b => WB.heap.size ≤ b) wx (show WB.heap.size ≤ wx.heap.size from hle) [t, ty] 9 (0, 0) (by unfold maxLen; simp) (by intro s hs; simp only [List.mem_cons, List.not_mem_nil, or_false] at hs; rcases hs with hs | hs <;> rw [hs] <;> first | exact ht | exact hty | simp [maxLen])) ((Below.refl _ _).alloc (nl _) _)
   · intro x wx hS hd ho next hn
     have hle : WB.heap.size ≤ wx.heap.size := hS.2.2.2.2.size;have hc := (box4 hS.2.1).1;have hc2 := box2 hS.1;have h47 : SS (fun b => WB.heap.size ≤ b) wx (x.eval (.tmp 47)) [t, ty] := (hd { on := 18, ground := .data } (by simp) rfl _ 47 rfl rfl);obtain ⟨p47, c47, e47, _⟩ := h47.shape;rw [e47] at h47;have e47 := ev_at e47;clear hd ho;unfold Oper.wp;simp only [execOp];simp [go_sem, e47];refine (sig_sig _ _ _ wx h47 (by first | exact ht | exact hty | simp [maxLen])).mono ?_;rintro e w3 ⟨u, rfl, hu, hb⟩;exact hn _ _ hu hb
   · intro x wx hS hd ho next hn
     have hle : WB.heap.size ≤ wx.heap.size := hS.2.2.2.2.size;have hc := (box4 hS.2.1).1;have hc2 := box2 hS.1;have e42 : x.tmps[42]?.getD undef = str ([115, 101, 116, 95] ++ nm) := ev_at (hd { on := 13, ground := .data } (by simp) rfl _ 42 rfl rfl);have h48 : SigV (fun b => WB.heap.size ≤ b) wx (x.eval (.tmp 48)) ⟨false, [t, ty], [], []⟩ := (hd { on := 19, ground := .data } (by simp) rfl _ 48 rfl rfl);obtain ⟨x48, y48, e48, l48, r48, q48⟩ := h48;obtain ⟨px48, cx48, rfl, _⟩ := r48.shape;obtain ⟨py48, cy48, rfl, _⟩ := q48.shape;have e48 := ev_at e48;clear hd ho;unfold Oper.wp;simp only [execOp];simp [go_sem, e42, e48];exact hn _ _ ⟨_, _, rfl, ⟨by first | (simp [maxLen]; done) | (simp [maxLen]; omega), l48⟩, r48, q48⟩ (Below.refl _ _)
   · intro x wx hS hd ho next hn
     have hle : WB.heap.size ≤ wx.heap.size := hS.2.2.2.2.size;have hc := (box4 hS.2.1).1;have hc2 := box2 hS.1;have h39 : OpV (fun b => WB.heap.size ≤ b) wx (x.eval (.tmp 39)) ⟨[103, 101, 116, 95] ++ nm, ⟨false, [t], ty, []⟩⟩ := (hd { on := 10, ground := .data } (by simp) rfl _ 39 rfl rfl);obtain ⟨x39, y39, e39, l39, r39, q39⟩ := h39;obtain ⟨px39, cx39, rfl, _⟩ := r39.shape;obtain ⟨py39, cy39, rfl, _⟩ := q39.shape;have e39 := ev_at e39;have h49 : OpV (fun b => WB.heap.size ≤ b) wx (x.eval (.tmp 49)) ⟨[115, 101, 116, 95] ++ nm, ⟨false, [t, ty], [], []⟩⟩ := (hd { on := 20, ground := .data } (by simp) rfl _ 49 rfl rfl);obtain ⟨x49, y49, e49, l49, r49, q49⟩ := h49;obtain ⟨px49, cx49, rfl, _⟩ := r49.shape;obtain ⟨py49, cy49, rfl, _⟩ := q49.shape;have e49 := ev_at e49;clear hd ho;unfold Oper.wp;simp only [execOp];simp [go_sem, e39, e49];exact hn _ _ (row_newO (D := (fun b => WB.heap.size ≤ b)) wx hle rfl (by unfold maxLen; simp) ⟨_, _, _, rfl, l39, r39, q39, _, _, _, rfl, l49, r49, q49, rfl⟩) ((Below.refl _ _).alloc (nl _) _)
   · intro x wx hdf hsz hout hS hA
     have eL : x.tmps.getD 29 undef = .slice pv L.length cv := hA 0 _ 29 (by decide) rfl rfl;have hR : RowO (fun b => WB.heap.size ≤ b) WB.heap.size wx (x.tmps.getD 50 undef) [⟨[103, 101, 116, 95] ++ nm, ⟨false, [t], ty, []⟩⟩, ⟨[115, 101, 116, 95] ++ nm, ⟨false, [t, ty], [], []⟩⟩] := hA 21 _ 50 (by decide) rfl rfl;obtain ⟨pR, cR, eR⟩ := hR.shape;rw [eR] at hR;have ha := act_putsH hdf hsz hout;rw [ha];simp only [List.take_succ_cons, List.take_zero, putsOf, eL, eR, pz, pw];clear ha hA hout hdf hsz
     show wpAny _ _ _ _ (1 + 1) _ _ _
     refine wpAny_ready (rs := [22]) (by kernel_rfl) (by simp) (AllReady.cons rfl (fun K' hK => ?_) AllReady.nil);rw [if_pos (by kernel_rfl)];refine wp_append_rowX (.tmp 29) (.tmp 50) rfl (v := .slice pv L.length cv) (y := .slice pR 2 cR) (by simp [Act.eval]) (by simp [Act.eval]) hS.2.2.1 hR (by simp) (fun b hb => ⟨fun e => absurd (hoB5.own.lt e).2 (by omega), fun e => absurd (ownsRow_lt hall5 e) (by omega)⟩) (by simp; omega) (Nat.le_trans hBB5.size hS.2.2.2.2.size) (fun v' w6 h6 hb6 hg6 => hK _ _ ?_);simp only [Act.put, List.setIfInBounds_toArray];refine wpAny_ready (fuel := 0) (rs := [22 + 1]) (by kernel_rfl) (by simp) (AllReady.cons rfl (fun K' hK => ?_) AllReady.nil);rw [if_pos (by kernel_rfl)];unfold Oper.wp;simp only [execOp];simp [go_sem];refine hK _ _ (wpAny_done (by kernel_rfl) ?_ _);have hne6 := rows_ne hS.2.2.2.1 hS.2.2.1.choose_spec.1 (by decide);go_wp2_with fail;have h7 := ownsRow_of_block (w' := w6) hS.2.2.2.1 (fun b e => hg6.block b (ownsRow_lt hS.2.2.2.1 e) (fun e2 => hne6 b e e2.symm));rw [hTa.out] at h7;rw [hTk.out] at h6;refine ⟨⟨v', .slice pzz (i + 1) cz', .pointer (some ⟨PB, 0, none⟩), .int .i64 (i + 1), ⟨(i + 1), by omega, by go_num, ?_, ?_, (hBB5.trans (below_less hS.2.2.2.2 hBB5.size)).trans hb6⟩, rfl, rfl, rfl, rfl⟩, by simp only [intOf]; omega⟩
     · simpa using h6
     · simpa using h7
end Go.Proofs.YtakgjcfkdemipaaGreatDoor
