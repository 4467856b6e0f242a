/-
  Contract: of the package face: (maker).arrays. No condition but on lengths.
  Contracts: of the package face: (maker).nulls, bools. No condition but on lengths.
-/
import Derived.Maps.AppendAt
import Derived.Test.YtakgjcfkdemipaaGreatDoorYn
import Derived.Test.YtakgjcfkdemipaaGreatDoorY16
import Derived.Test.YtakgjcfkdemipaaGreatDoorY23
namespace Go.Proofs.YtakgjcfkdemipaaGreatDoor
open Go.RowKit
set_option maxRecDepth 8000 in
set_option maxHeartbeats 12800000 in
theorem arrays_any (v : Value) (m : Nat) (nv : Value) (p : Bool) (t : List UInt8) (w : World) (hT : Tab w) (har : (argK t).1.length ≤ maxLen) (hv : MakV v m nv p t) (ht : t.length ≤ maxLen) :
 Calls Tryz.prog 180 #[v] w fun e w' => ∃ u, e = .returned u ∧ OwnO w.heap.size w' u [⟨[101, 113, 117, 97, 108], ⟨false, [t, t], [98, 111, 111, 108], []⟩⟩, ⟨[97, 100, 100, 104], ⟨false, [t, (argK t).1], [], [[111, 118, 101, 114, 102, 108, 111, 119]]⟩⟩, ⟨[102, 101, 116, 99, 104], ⟨false, [t, [105, 110, 116]], (argK t).1, [[98, 111, 117, 110, 100, 115]]⟩⟩, ⟨[110, 101, 119], ⟨false, [], t, []⟩⟩, ⟨[114, 101, 109, 104], ⟨false, [t], (argK t).1, [[98, 111, 117, 110, 100, 115]]⟩⟩, ⟨[115, 105, 122, 101], ⟨false, [t], [105, 110, 116], []⟩⟩, ⟨[115, 116, 111, 114, 101], ⟨false, [t, [105, 110, 116], (argK t).1], [], [[98, 111, 117, 110, 100, 115]]⟩⟩] ∧ Below w.heap.size w w' := by
 obtain ⟨rfl, q, n, c, rfl⟩ := hv
 have hbox := heap_alloc_new w (.cells #[.map (some m), .slice q n c, .bool p, str t] 145)
 have hA := (Below.refl _ w).alloc (nl _) (.cells #[.map (some m), .slice q n c, .bool p, str t] 145)
 have HC := karg_any t ht (w.alloc (.cells #[.map (some m), .slice q n c, .bool p, str t] 145)) (hT.below hA (nl _))
 have bx := (box4 hbox).1
 go_enter Tryz.func180, Tryz.ntmps180
 go_upto_region 2 with (go_at_call 121; refine HC.mono ?_; clear HC; rintro e w1 ⟨rfl, hb1⟩)
 have hbx1 := kept_call hbox hb1
 have hB1 := hA.trans (below_less hb1 (by simp))
 clear hbox hA bx hb1
 refine wp_region_kept (S := fun w' => w'.heap[w.heap.size]? = some (.cells #[.map (some m), .slice q n c, .bool p, str t] 145 (0, 0)) ∧ Below w.heap.size w w') (A := fun j v w' => match j with
  | 0 => v = .agg #[.map (some m), .slice q n c, .bool p, str t]
  | 1 => OpV (fun b => w.heap.size ≤ b) w' v ⟨[101, 113, 117, 97, 108], ⟨false, [t, t], [98, 111, 111, 108], []⟩⟩
  | 2 => v = .pointer (some ⟨w.heap.size, 3, none⟩)
  | 3 => v = str t
  | 4 => v = str (argK t).1
  | 5 => SS (fun b => w.heap.size ≤ b) w' v [t, (argK t).1]
  | 6 => SigV (fun b => w.heap.size ≤ b) w' v ⟨false, [t, (argK t).1], [], []⟩
  | 7 => SigV (fun b => w.heap.size ≤ b) w' v ⟨false, [t, (argK t).1], [], [[111, 118, 101, 114, 102, 108, 111, 119]]⟩
  | 8 => OpV (fun b => w.heap.size ≤ b) w' v ⟨[97, 100, 100, 104], ⟨false, [t, (argK t).1], [], [[111, 118, 101, 114, 102, 108, 111, 119]]⟩⟩
  | 9 => v = str (argK t).1
  | 10 => v = .pointer (some ⟨w.heap.size, 3, none⟩)
  | 11 => v = str t
  | 12 => SS (fun b => w.heap.size ≤ b) w' v [t, [105, 110, 116]]
  | 13 => SigV (fun b => w.heap.size ≤ b) w' v ⟨false, [t, [105, 110, 116]], (argK t).1, []⟩
  | 14 => SigV (fun b => w.heap.size ≤ b) w' v ⟨false, [t, [105, 110, 116]], (argK t).1, [[98, 111, 117, 110, 100, 115]]⟩
  | 15 => OpV (fun b => w.heap.size ≤ b) w' v ⟨[102, 101, 116, 99, 104], ⟨false, [t, [105, 110, 116]], (argK t).1, [[98, 111, 117, 110, 100, 115]]⟩⟩
  | 16 => v = .pointer (some ⟨w.heap.size, 3, none⟩)
  | 17 => v = str t
  | 18 => SigV (fun b => w.heap.size ≤ b) w' v ⟨false, [], t, []⟩
  | 19 => OpV (fun b => w.heap.size ≤ b) w' v ⟨[110, 101, 119], ⟨false, [], t, []⟩⟩
  | 20 => v = str (argK t).1
  | 21 => v = .pointer (some ⟨w.heap.size, 3, none⟩)
  | 22 => v = str t
  | 23 => SS (fun b => w.heap.size ≤ b) w' v [t]
  | 24 => SigV (fun b => w.heap.size ≤ b) w' v ⟨false, [t], (argK t).1, []⟩
  | 25 => SigV (fun b => w.heap.size ≤ b) w' v ⟨false, [t], (argK t).1, [[98, 111, 117, 110, 100, 115]]⟩
  | 26 => OpV (fun b => w.heap.size ≤ b) w' v ⟨[114, 101, 109, 104], ⟨false, [t], (argK t).1, [[98, 111, 117, 110, 100, 115]]⟩⟩
  | 27 => v = .pointer (some ⟨w.heap.size, 3, none⟩)
  | 28 => v = str t
  | 29 => SS (fun b => w.heap.size ≤ b) w' v [t]
  | 30 => SigV (fun b => w.heap.size ≤ b) w' v ⟨false, [t], [105, 110, 116], []⟩
  | 31 => OpV (fun b => w.heap.size ≤ b) w' v ⟨[115, 105, 122, 101], ⟨false, [t], [105, 110, 116], []⟩⟩
  | 32 => v = .pointer (some ⟨w.heap.size, 3, none⟩)
  | 33 => v = str t
  | 34 => v = str (argK t).1
  | 35 => SS (fun b => w.heap.size ≤ b) w' v [t, [105, 110, 116], (argK t).1]
  | 36 => SigV (fun b => w.heap.size ≤ b) w' v ⟨false, [t, [105, 110, 116], (argK t).1], [], []⟩
  | 37 => SigV (fun b => w.heap.size ≤ b) w' v ⟨false, [t, [105, 110, 116], (argK t).1], [], [[98, 111, 117, 110, 100, 115]]⟩
  | 38 => OpV (fun b => w.heap.size ≤ b) w' v ⟨[115, 116, 111, 114, 101], ⟨false, [t, [105, 110, 116], (argK t).1], [], [[98, 111, 117, 110, 100, 115]]⟩⟩
  | 39 => OwnO w.heap.size w' v [⟨[101, 113, 117, 97, 108], ⟨false, [t, t], [98, 111, 111, 108], []⟩⟩, ⟨[97, 100, 100, 104], ⟨false, [t, (argK t).1], [], [[111, 118, 101, 114, 102, 108, 111, 119]]⟩⟩, ⟨[102, 101, 116, 99, 104], ⟨false, [t, [105, 110, 116]], (argK t).1, [[98, 111, 117, 110, 100, 115]]⟩⟩, ⟨[110, 101, 119], ⟨false, [], t, []⟩⟩, ⟨[114, 101, 109, 104], ⟨false, [t], (argK t).1, [[98, 111, 117, 110, 100, 115]]⟩⟩, ⟨[115, 105, 122, 101], ⟨false, [t], [105, 110, 116], []⟩⟩, ⟨[115, 116, 111, 114, 101], ⟨false, [t, [105, 110, 116], (argK t).1], [], [[98, 111, 117, 110, 100, 115]]⟩⟩]
  | 40 => OwnO w.heap.size w' v [⟨[101, 113, 117, 97, 108], ⟨false, [t, t], [98, 111, 111, 108], []⟩⟩, ⟨[97, 100, 100, 104], ⟨false, [t, (argK t).1], [], [[111, 118, 101, 114, 102, 108, 111, 119]]⟩⟩, ⟨[102, 101, 116, 99, 104], ⟨false, [t, [105, 110, 116]], (argK t).1, [[98, 111, 117, 110, 100, 115]]⟩⟩, ⟨[110, 101, 119], ⟨false, [], t, []⟩⟩, ⟨[114, 101, 109, 104], ⟨false, [t], (argK t).1, [[98, 111, 117, 110, 100, 115]]⟩⟩, ⟨[115, 105, 122, 101], ⟨false, [t], [105, 110, 116], []⟩⟩, ⟨[115, 116, 111, 114, 101], ⟨false, [t, [105, 110, 116], (argK t).1], [], [[98, 111, 117, 110, 100, 115]]⟩⟩]
  | _ => True) (by kernel_rfl) (by kernel_rfl) (by kernel_rfl) ?_ (fun w1 w2 h hb => ⟨kept_call h.1 hb, h.2.trans (below_less hb h.2.size)⟩) ⟨hbx1, hB1.drew⟩ (steps_all ⟨?_, ?_, ?_, ?_, ?_, ?_, ?_, ?_, ?_, ?_, ?_, ?_, ?_, ?_, ?_, ?_, ?_, ?_, ?_, ?_, ?_, ?_, ?_, ?_, ?_, ?_, ?_, ?_, ?_, ?_, ?_, ?_, ?_, ?_, ?_, ?_, ?_, ?_, ?_, ?_, ?_, trivial⟩) ?_
 · intro j v w1 w2 h hb
   match j with
   | 0 => exact h
   | 1 => exact OpV.below (show OpV (fun b => w.heap.size ≤ b) w1 v ⟨[101, 113, 117, 97, 108], ⟨false, [t, t], [98, 111, 111, 108], []⟩⟩ from h) hb (nl _)
   | 2 => exact h
   | 3 => exact h
   | 4 => exact h
   | 5 => exact SS.below (show SS (fun b => w.heap.size ≤ b) w1 v [t, (argK t).1] from h) hb (nl _)
   | 6 => exact SigV.below (show SigV (fun b => w.heap.size ≤ b) w1 v ⟨false, [t, (argK t).1], [], []⟩ from h) hb (nl _)
   | 7 => exact SigV.below (show SigV (fun b => w.heap.size ≤ b) w1 v ⟨false, [t, (argK t).1], [], [[111, 118, 101, 114, 102, 108, 111, 119]]⟩ from h) hb (nl _)
   | 8 => exact OpV.below (show OpV (fun b => w.heap.size ≤ b) w1 v ⟨[97, 100, 100, 104], ⟨false, [t, (argK t).1], [], [[111, 118, 101, 114, 102, 108, 111, 119]]⟩⟩ from h) hb (nl _)
   | 9 => exact h
   | 10 => exact h
   | 11 => exact h
   | 12 => exact SS.below (show SS (fun b => w.heap.size ≤ b) w1 v [t, [105, 110, 116]] from h) hb (nl _)
   | 13 => exact SigV.below (show SigV (fun b => w.heap.size ≤ b) w1 v ⟨false, [t, [105, 110, 116]], (argK t).1, []⟩ from h) hb (nl _)
   | 14 => exact SigV.below (show SigV (fun b => w.heap.size ≤ b) w1 v ⟨false, [t, [105, 110, 116]], (argK t).1, [[98, 111, 117, 110, 100, 115]]⟩ from h) hb (nl _)
   | 15 => exact OpV.below (show OpV (fun b => w.heap.size ≤ b) w1 v ⟨[102, 101, 116, 99, 104], ⟨false, [t, [105, 110, 116]], (argK t).1, [[98, 111, 117, 110, 100, 115]]⟩⟩ from h) hb (nl _)
   | 16 => exact h
   | 17 => exact h
   | 18 => exact SigV.below (show SigV (fun b => w.heap.size ≤ b) w1 v ⟨false, [], t, []⟩ from h) hb (nl _)
   | 19 => exact OpV.below (show OpV (fun b => w.heap.size ≤ b) w1 v ⟨[110, 101, 119], ⟨false, [], t, []⟩⟩ from h) hb (nl _)
   | 20 => exact h
   | 21 => exact h
   | 22 => exact h
   | 23 => exact SS.below (show SS (fun b => w.heap.size ≤ b) w1 v [t] from h) hb (nl _)
   | 24 => exact SigV.below (show SigV (fun b => w.heap.size ≤ b) w1 v ⟨false, [t], (argK t).1, []⟩ from h) hb (nl _)
   | 25 => exact SigV.below (show SigV (fun b => w.heap.size ≤ b) w1 v ⟨false, [t], (argK t).1, [[98, 111, 117, 110, 100, 115]]⟩ from h) hb (nl _)
   | 26 => exact OpV.below (show OpV (fun b => w.heap.size ≤ b) w1 v ⟨[114, 101, 109, 104], ⟨false, [t], (argK t).1, [[98, 111, 117, 110, 100, 115]]⟩⟩ from h) hb (nl _)
   | 27 => exact h
   | 28 => exact h
   | 29 => exact SS.below (show SS (fun b => w.heap.size ≤ b) w1 v [t] from h) hb (nl _)
   | 30 => exact SigV.below (show SigV (fun b => w.heap.size ≤ b) w1 v ⟨false, [t], [105, 110, 116], []⟩ from h) hb (nl _)
   | 31 => exact OpV.below (show OpV (fun b => w.heap.size ≤ b) w1 v ⟨[115, 105, 122, 101], ⟨false, [t], [105, 110, 116], []⟩⟩ from h) hb (nl _)
   | 32 => exact h
   | 33 => exact h
   | 34 => exact h
   | 35 => exact SS.below (show SS (fun b => w.heap.size ≤ b) w1 v [t, [105, 110, 116], (argK t).1] from h) hb (nl _)
   | 36 => exact SigV.below (show SigV (fun b => w.heap.size ≤ b) w1 v ⟨false, [t, [105, 110, 116], (argK t).1], [], []⟩ from h) hb (nl _)
   | 37 => exact SigV.below (show SigV (fun b => w.heap.size ≤ b) w1 v ⟨false, [t, [105, 110, 116], (argK t).1], [], [[98, 111, 117, 110, 100, 115]]⟩ from h) hb (nl _)
   | 38 => exact OpV.below (show OpV (fun b => w.heap.size ≤ b) w1 v ⟨[115, 116, 111, 114, 101], ⟨false, [t, [105, 110, 116], (argK t).1], [], [[98, 111, 117, 110, 100, 115]]⟩⟩ from h) hb (nl _)
   | 39 => exact OwnO.below (show OwnO w.heap.size w1 v [⟨[101, 113, 117, 97, 108], ⟨false, [t, t], [98, 111, 111, 108], []⟩⟩, ⟨[97, 100, 100, 104], ⟨false, [t, (argK t).1], [], [[111, 118, 101, 114, 102, 108, 111, 119]]⟩⟩, ⟨[102, 101, 116, 99, 104], ⟨false, [t, [105, 110, 116]], (argK t).1, [[98, 111, 117, 110, 100, 115]]⟩⟩, ⟨[110, 101, 119], ⟨false, [], t, []⟩⟩, ⟨[114, 101, 109, 104], ⟨false, [t], (argK t).1, [[98, 111, 117, 110, 100, 115]]⟩⟩, ⟨[115, 105, 122, 101], ⟨false, [t], [105, 110, 116], []⟩⟩, ⟨[115, 116, 111, 114, 101], ⟨false, [t, [105, 110, 116], (argK t).1], [], [[98, 111, 117, 110, 100, 115]]⟩⟩] from h) hb (nl _)
   | 40 => exact OwnO.below (show OwnO w.heap.size w1 v [⟨[101, 113, 117, 97, 108], ⟨false, [t, t], [98, 111, 111, 108], []⟩⟩, ⟨[97, 100, 100, 104], ⟨false, [t, (argK t).1], [], [[111, 118, 101, 114, 102, 108, 111, 119]]⟩⟩, ⟨[102, 101, 116, 99, 104], ⟨false, [t, [105, 110, 116]], (argK t).1, [[98, 111, 117, 110, 100, 115]]⟩⟩, ⟨[110, 101, 119], ⟨false, [], t, []⟩⟩, ⟨[114, 101, 109, 104], ⟨false, [t], (argK t).1, [[98, 111, 117, 110, 100, 115]]⟩⟩, ⟨[115, 105, 122, 101], ⟨false, [t], [105, 110, 116], []⟩⟩, ⟨[115, 116, 111, 114, 101], ⟨false, [t, [105, 110, 116], (argK t).1], [], [[98, 111, 117, 110, 100, 115]]⟩⟩] from h) hb (nl _)
   | _ + 41 => trivial
 · intro x wx hS hd ho next hn
   have hle : w.heap.size ≤ wx.heap.size := Nat.le_of_lt (heap_lt hS.1);have hc := (box4 hS.1).1;have e1 : x.tmps[1]?.getD undef = .pointer (some ⟨w.heap.size, 0, none⟩) := ev_at (ho 1 (out_of (by kernel_rfl)));clear hd ho;unfold Oper.wp;simp only [execOp];simp [go_sem, e1, hc];exact hn _ _ rfl (Below.refl _ _)
 · intro x wx hS hd ho next hn
   have hle : w.heap.size ≤ wx.heap.size := Nat.le_of_lt (heap_lt hS.1);have hc := (box4 hS.1).1;have e13 : x.tmps[13]?.getD undef = .agg #[.map (some m), .slice q n c, .bool p, str t] := ev_at (hd { on := 0, ground := .data } (by simp) rfl _ 13 rfl rfl);clear hd ho;unfold Oper.wp;simp only [execOp];simp [go_sem, e13];refine (equals_any _ m _ _ t wx ⟨rfl, _, _, _, rfl⟩ ht).mono ?_;rintro e w3 ⟨u, rfl, hu, hb⟩;exact hn _ _ (hu.mono fun b hb => show w.heap.size ≤ b from Nat.le_trans hle hb) hb
 · intro x wx hS hd ho next hn
   have hle : w.heap.size ≤ wx.heap.size := Nat.le_of_lt (heap_lt hS.1);have hc := (box4 hS.1).1;have e1 : x.tmps[1]?.getD undef = .pointer (some ⟨w.heap.size, 0, none⟩) := ev_at (ho 1 (out_of (by kernel_rfl)));clear hd ho;unfold Oper.wp;simp only [execOp];simp [go_sem, e1];exact hn _ _ rfl (Below.refl _ _)
 · intro x wx hS hd ho next hn
   have hle : w.heap.size ≤ wx.heap.size := Nat.le_of_lt (heap_lt hS.1);have hc := (box4 hS.1).1;have e15 : x.tmps[15]?.getD undef = .pointer (some ⟨w.heap.size, 3, none⟩) := ev_at (hd { on := 2, ground := .data } (by simp) rfl _ 15 rfl rfl);clear hd ho;unfold Oper.wp;simp only [execOp];simp [go_sem, e15, hc];exact hn _ _ rfl (Below.refl _ _)
 · intro x wx hS hd ho next hn
   have hle : w.heap.size ≤ wx.heap.size := Nat.le_of_lt (heap_lt hS.1);have hc := (box4 hS.1).1;have e3 : x.tmps[3]?.getD undef = str (argK t).1 := ev_at (ho 3 (out_of (by kernel_rfl)));clear hd ho;unfold Oper.wp;simp only [execOp];simp [go_sem, e3];exact hn _ _ rfl (Below.refl _ _)
 · intro x wx hS hd ho next hn
   have hle : w.heap.size ≤ wx.heap.size := Nat.le_of_lt (heap_lt hS.1);have hc := (box4 hS.1).1;have e16 : x.tmps[16]?.getD undef = str t := ev_at (hd { on := 3, ground := .data } (by simp) rfl _ 16 rfl rfl);have e17 : x.tmps[17]?.getD undef = str (argK t).1 := ev_at (hd { on := 4, ground := .data } (by simp) rfl _ 17 rfl rfl);clear hd ho;unfold Oper.wp;simp only [execOp];simp [go_sem, e16, e17];exact hn _ _ (SS.new (fun b => w.heap.size ≤ b) wx (show w.heap.size ≤ wx.heap.size from hle) [t, (argK t).1] 9 (0, 0) (by unfold maxLen; simp) (by intro s hs; simp only [List.mem_cons, List.not_mem_nil, or_false] at hs; rcases hs with hs | hs <;> rw [hs] <;> first | exact ht | exact har | simp [maxLen])) ((Below.refl _ _).alloc (nl _) _)
 · intro x wx hS hd ho next hn
   have hle : w.heap.size ≤ wx.heap.size := Nat.le_of_lt (heap_lt hS.1);have hc := (box4 hS.1).1;have h18 : SS (fun b => w.heap.size ≤ b) wx (x.eval (.tmp 18)) [t, (argK t).1] := (hd { on := 5, ground := .data } (by simp) rfl _ 18 rfl rfl);obtain ⟨p18, c18, e18, _⟩ := h18.shape;rw [e18] at h18;have e18 := ev_at e18;clear hd ho;unfold Oper.wp;simp only [execOp];simp [go_sem, e18];refine (sig_sig _ _ _ wx h18 (by first | exact ht | exact har | simp [maxLen])).mono ?_;rintro e w3 ⟨u, rfl, hu, hb⟩;exact hn _ _ hu hb
 · intro x wx hS hd ho next hn
   have hle : w.heap.size ≤ wx.heap.size := Nat.le_of_lt (heap_lt hS.1);have hc := (box4 hS.1).1;have h19 : SigV (fun b => w.heap.size ≤ b) wx (x.eval (.tmp 19)) ⟨false, [t, (argK t).1], [], []⟩ := (hd { on := 6, ground := .data } (by simp) rfl _ 19 rfl rfl);obtain ⟨x19, y19, e19, l19, r19, q19⟩ := h19;obtain ⟨px19, cx19, rfl, _⟩ := r19.shape;obtain ⟨py19, cy19, rfl, _⟩ := q19.shape;have e19 := ev_at e19;clear hd ho;unfold Oper.wp;simp only [execOp];simp [go_sem, e19];refine (raising_sig _ ⟨false, [t, (argK t).1], [], []⟩ _ wx ⟨_, _, rfl, l19, r19, q19⟩ (by simp [maxLen]) (fun b hb => show w.heap.size ≤ b from Nat.le_trans hle hb)).mono ?_;rintro e w3 ⟨u, rfl, hu, hb⟩;exact hn _ _ hu hb
 · intro x wx hS hd ho next hn
   have hle : w.heap.size ≤ wx.heap.size := Nat.le_of_lt (heap_lt hS.1);have hc := (box4 hS.1).1;have h20 : SigV (fun b => w.heap.size ≤ b) wx (x.eval (.tmp 20)) ⟨false, [t, (argK t).1], [], [[111, 118, 101, 114, 102, 108, 111, 119]]⟩ := (hd { on := 7, ground := .data } (by simp) rfl _ 20 rfl rfl);obtain ⟨x20, y20, e20, l20, r20, q20⟩ := h20;obtain ⟨px20, cx20, rfl, _⟩ := r20.shape;obtain ⟨py20, cy20, rfl, _⟩ := q20.shape;have e20 := ev_at e20;clear hd ho;unfold Oper.wp;simp only [execOp];simp [go_sem, e20];exact hn _ _ ⟨_, _, rfl, ⟨by simp [maxLen], l20⟩, r20, q20⟩ (Below.refl _ _)
 · intro x wx hS hd ho next hn
   have hle : w.heap.size ≤ wx.heap.size := Nat.le_of_lt (heap_lt hS.1);have hc := (box4 hS.1).1;have e3 : x.tmps[3]?.getD undef = str (argK t).1 := ev_at (ho 3 (out_of (by kernel_rfl)));clear hd ho;unfold Oper.wp;simp only [execOp];simp [go_sem, e3];exact hn _ _ rfl (Below.refl _ _)
 · intro x wx hS hd ho next hn
   have hle : w.heap.size ≤ wx.heap.size := Nat.le_of_lt (heap_lt hS.1);have hc := (box4 hS.1).1;have e1 : x.tmps[1]?.getD undef = .pointer (some ⟨w.heap.size, 0, none⟩) := ev_at (ho 1 (out_of (by kernel_rfl)));clear hd ho;unfold Oper.wp;simp only [execOp];simp [go_sem, e1];exact hn _ _ rfl (Below.refl _ _)
 · intro x wx hS hd ho next hn
   have hle : w.heap.size ≤ wx.heap.size := Nat.le_of_lt (heap_lt hS.1);have hc := (box4 hS.1).1;have e23 : x.tmps[23]?.getD undef = .pointer (some ⟨w.heap.size, 3, none⟩) := ev_at (hd { on := 10, ground := .data } (by simp) rfl _ 23 rfl rfl);clear hd ho;unfold Oper.wp;simp only [execOp];simp [go_sem, e23, hc];exact hn _ _ rfl (Below.refl _ _)
 · intro x wx hS hd ho next hn
   have hle : w.heap.size ≤ wx.heap.size := Nat.le_of_lt (heap_lt hS.1);have hc := (box4 hS.1).1;have e24 : x.tmps[24]?.getD undef = str t := ev_at (hd { on := 11, ground := .data } (by simp) rfl _ 24 rfl rfl);clear hd ho;unfold Oper.wp;simp only [execOp];simp [go_sem, e24];exact hn _ _ (SS.new (fun b => w.heap.size ≤ b) wx (show w.heap.size ≤ wx.heap.size from hle) [t, [105, 110, 116]] 9 (0, 0) (by unfold maxLen; simp) (by intro s hs; simp only [List.mem_cons, List.not_mem_nil, or_false] at hs; rcases hs with hs | hs <;> rw [hs] <;> first | exact ht | exact har | simp [maxLen])) ((Below.refl _ _).alloc (nl _) _)
 · intro x wx hS hd ho next hn
   have hle : w.heap.size ≤ wx.heap.size := Nat.le_of_lt (heap_lt hS.1);have hc := (box4 hS.1).1;have e22 : x.tmps[22]?.getD undef = str (argK t).1 := ev_at (hd { on := 9, ground := .data } (by simp) rfl _ 22 rfl rfl);have h25 : SS (fun b => w.heap.size ≤ b) wx (x.eval (.tmp 25)) [t, [105, 110, 116]] := (hd { on := 12, ground := .data } (by simp) rfl _ 25 rfl rfl);obtain ⟨p25, c25, e25, _⟩ := h25.shape;rw [e25] at h25;have e25 := ev_at e25;clear hd ho;unfold Oper.wp;simp only [execOp];simp [go_sem, e22, e25];refine (sig_sig _ _ _ wx h25 (by first | exact ht | exact har | simp [maxLen])).mono ?_;rintro e w3 ⟨u, rfl, hu, hb⟩;exact hn _ _ hu hb
 · intro x wx hS hd ho next hn
   have hle : w.heap.size ≤ wx.heap.size := Nat.le_of_lt (heap_lt hS.1);have hc := (box4 hS.1).1;have h26 : SigV (fun b => w.heap.size ≤ b) wx (x.eval (.tmp 26)) ⟨false, [t, [105, 110, 116]], (argK t).1, []⟩ := (hd { on := 13, ground := .data } (by simp) rfl _ 26 rfl rfl);obtain ⟨x26, y26, e26, l26, r26, q26⟩ := h26;obtain ⟨px26, cx26, rfl, _⟩ := r26.shape;obtain ⟨py26, cy26, rfl, _⟩ := q26.shape;have e26 := ev_at e26;clear hd ho;unfold Oper.wp;simp only [execOp];simp [go_sem, e26];refine (raising_sig _ ⟨false, [t, [105, 110, 116]], (argK t).1, []⟩ _ wx ⟨_, _, rfl, l26, r26, q26⟩ (by simp [maxLen]) (fun b hb => show w.heap.size ≤ b from Nat.le_trans hle hb)).mono ?_;rintro e w3 ⟨u, rfl, hu, hb⟩;exact hn _ _ hu hb
 · intro x wx hS hd ho next hn
   have hle : w.heap.size ≤ wx.heap.size := Nat.le_of_lt (heap_lt hS.1);have hc := (box4 hS.1).1;have h27 : SigV (fun b => w.heap.size ≤ b) wx (x.eval (.tmp 27)) ⟨false, [t, [105, 110, 116]], (argK t).1, [[98, 111, 117, 110, 100, 115]]⟩ := (hd { on := 14, ground := .data } (by simp) rfl _ 27 rfl rfl);obtain ⟨x27, y27, e27, l27, r27, q27⟩ := h27;obtain ⟨px27, cx27, rfl, _⟩ := r27.shape;obtain ⟨py27, cy27, rfl, _⟩ := q27.shape;have e27 := ev_at e27;clear hd ho;unfold Oper.wp;simp only [execOp];simp [go_sem, e27];exact hn _ _ ⟨_, _, rfl, ⟨by simp [maxLen], l27⟩, r27, q27⟩ (Below.refl _ _)
 · intro x wx hS hd ho next hn
   have hle : w.heap.size ≤ wx.heap.size := Nat.le_of_lt (heap_lt hS.1);have hc := (box4 hS.1).1;have e1 : x.tmps[1]?.getD undef = .pointer (some ⟨w.heap.size, 0, none⟩) := ev_at (ho 1 (out_of (by kernel_rfl)));clear hd ho;unfold Oper.wp;simp only [execOp];simp [go_sem, e1];exact hn _ _ rfl (Below.refl _ _)
 · intro x wx hS hd ho next hn
   have hle : w.heap.size ≤ wx.heap.size := Nat.le_of_lt (heap_lt hS.1);have hc := (box4 hS.1).1;have e29 : x.tmps[29]?.getD undef = .pointer (some ⟨w.heap.size, 3, none⟩) := ev_at (hd { on := 16, ground := .data } (by simp) rfl _ 29 rfl rfl);clear hd ho;unfold Oper.wp;simp only [execOp];simp [go_sem, e29, hc];exact hn _ _ rfl (Below.refl _ _)
 · intro x wx hS hd ho next hn
   have hle : w.heap.size ≤ wx.heap.size := Nat.le_of_lt (heap_lt hS.1);have hc := (box4 hS.1).1;have e30 : x.tmps[30]?.getD undef = str t := ev_at (hd { on := 17, ground := .data } (by simp) rfl _ 30 rfl rfl);clear hd ho;unfold Oper.wp;simp only [execOp];simp [go_sem, e30];refine (sig_sig _ _ _ wx (SS.nil (fun b => w.heap.size ≤ b) wx none 0) (by first | exact ht | exact har | simp [maxLen])).mono ?_;rintro e w3 ⟨u, rfl, hu, hb⟩;exact hn _ _ hu hb
 · intro x wx hS hd ho next hn
   have hle : w.heap.size ≤ wx.heap.size := Nat.le_of_lt (heap_lt hS.1);have hc := (box4 hS.1).1;have h31 : SigV (fun b => w.heap.size ≤ b) wx (x.eval (.tmp 31)) ⟨false, [], t, []⟩ := (hd { on := 18, ground := .data } (by simp) rfl _ 31 rfl rfl);obtain ⟨x31, y31, e31, l31, r31, q31⟩ := h31;obtain ⟨px31, cx31, rfl, _⟩ := r31.shape;obtain ⟨py31, cy31, rfl, _⟩ := q31.shape;have e31 := ev_at e31;clear hd ho;unfold Oper.wp;simp only [execOp];simp [go_sem, e31];exact hn _ _ ⟨_, _, rfl, ⟨by simp [maxLen], l31⟩, r31, q31⟩ (Below.refl _ _)
 · intro x wx hS hd ho next hn
   have hle : w.heap.size ≤ wx.heap.size := Nat.le_of_lt (heap_lt hS.1);have hc := (box4 hS.1).1;have e3 : x.tmps[3]?.getD undef = str (argK t).1 := ev_at (ho 3 (out_of (by kernel_rfl)));clear hd ho;unfold Oper.wp;simp only [execOp];simp [go_sem, e3];exact hn _ _ rfl (Below.refl _ _)
 · intro x wx hS hd ho next hn
   have hle : w.heap.size ≤ wx.heap.size := Nat.le_of_lt (heap_lt hS.1);have hc := (box4 hS.1).1;have e1 : x.tmps[1]?.getD undef = .pointer (some ⟨w.heap.size, 0, none⟩) := ev_at (ho 1 (out_of (by kernel_rfl)));clear hd ho;unfold Oper.wp;simp only [execOp];simp [go_sem, e1];exact hn _ _ rfl (Below.refl _ _)
 · intro x wx hS hd ho next hn
   have hle : w.heap.size ≤ wx.heap.size := Nat.le_of_lt (heap_lt hS.1);have hc := (box4 hS.1).1;have e34 : x.tmps[34]?.getD undef = .pointer (some ⟨w.heap.size, 3, none⟩) := ev_at (hd { on := 21, ground := .data } (by simp) rfl _ 34 rfl rfl);clear hd ho;unfold Oper.wp;simp only [execOp];simp [go_sem, e34, hc];exact hn _ _ rfl (Below.refl _ _)
 · intro x wx hS hd ho next hn
   have hle : w.heap.size ≤ wx.heap.size := Nat.le_of_lt (heap_lt hS.1);have hc := (box4 hS.1).1;have e35 : x.tmps[35]?.getD undef = str t := ev_at (hd { on := 22, ground := .data } (by simp) rfl _ 35 rfl rfl);clear hd ho;unfold Oper.wp;simp only [execOp];simp [go_sem, e35];exact hn _ _ (SS.new (fun b => w.heap.size ≤ b) wx (show w.heap.size ≤ wx.heap.size from hle) [t] 9 (0, 0) (by unfold maxLen; simp) (by intro s hs; simp only [List.mem_cons, List.not_mem_nil, or_false] at hs; rcases hs with hs <;> rw [hs] <;> first | exact ht | exact har | simp [maxLen])) ((Below.refl _ _).alloc (nl _) _)
 · intro x wx hS hd ho next hn
   have hle : w.heap.size ≤ wx.heap.size := Nat.le_of_lt (heap_lt hS.1);have hc := (box4 hS.1).1;have e33 : x.tmps[33]?.getD undef = str (argK t).1 := ev_at (hd { on := 20, ground := .data } (by simp) rfl _ 33 rfl rfl);have h36 : SS (fun b => w.heap.size ≤ b) wx (x.eval (.tmp 36)) [t] := (hd { on := 23, ground := .data } (by simp) rfl _ 36 rfl rfl);obtain ⟨p36, c36, e36, _⟩ := h36.shape;rw [e36] at h36;have e36 := ev_at e36;clear hd ho;unfold Oper.wp;simp only [execOp];simp [go_sem, e33, e36];refine (sig_sig _ _ _ wx h36 (by first | exact ht | exact har | simp [maxLen])).mono ?_;rintro e w3 ⟨u, rfl, hu, hb⟩;exact hn _ _ hu hb
 · intro x wx hS hd ho next hn
   have hle : w.heap.size ≤ wx.heap.size := Nat.le_of_lt (heap_lt hS.1);have hc := (box4 hS.1).1;have h37 : SigV (fun b => w.heap.size ≤ b) wx (x.eval (.tmp 37)) ⟨false, [t], (argK t).1, []⟩ := (hd { on := 24, ground := .data } (by simp) rfl _ 37 rfl rfl);obtain ⟨x37, y37, e37, l37, r37, q37⟩ := h37;obtain ⟨px37, cx37, rfl, _⟩ := r37.shape;obtain ⟨py37, cy37, rfl, _⟩ := q37.shape;have e37 := ev_at e37;clear hd ho;unfold Oper.wp;simp only [execOp];simp [go_sem, e37];refine (raising_sig _ ⟨false, [t], (argK t).1, []⟩ _ wx ⟨_, _, rfl, l37, r37, q37⟩ (by simp [maxLen]) (fun b hb => show w.heap.size ≤ b from Nat.le_trans hle hb)).mono ?_;rintro e w3 ⟨u, rfl, hu, hb⟩;exact hn _ _ hu hb
 · intro x wx hS hd ho next hn
   have hle : w.heap.size ≤ wx.heap.size := Nat.le_of_lt (heap_lt hS.1);have hc := (box4 hS.1).1;have h38 : SigV (fun b => w.heap.size ≤ b) wx (x.eval (.tmp 38)) ⟨false, [t], (argK t).1, [[98, 111, 117, 110, 100, 115]]⟩ := (hd { on := 25, ground := .data } (by simp) rfl _ 38 rfl rfl);obtain ⟨x38, y38, e38, l38, r38, q38⟩ := h38;obtain ⟨px38, cx38, rfl, _⟩ := r38.shape;obtain ⟨py38, cy38, rfl, _⟩ := q38.shape;have e38 := ev_at e38;clear hd ho;unfold Oper.wp;simp only [execOp];simp [go_sem, e38];exact hn _ _ ⟨_, _, rfl, ⟨by simp [maxLen], l38⟩, r38, q38⟩ (Below.refl _ _)
 · intro x wx hS hd ho next hn
   have hle : w.heap.size ≤ wx.heap.size := Nat.le_of_lt (heap_lt hS.1);have hc := (box4 hS.1).1;have e1 : x.tmps[1]?.getD undef = .pointer (some ⟨w.heap.size, 0, none⟩) := ev_at (ho 1 (out_of (by kernel_rfl)));clear hd ho;unfold Oper.wp;simp only [execOp];simp [go_sem, e1];exact hn _ _ rfl (Below.refl _ _)
 · intro x wx hS hd ho next hn
   have hle : w.heap.size ≤ wx.heap.size := Nat.le_of_lt (heap_lt hS.1);have hc := (box4 hS.1).1;have e40 : x.tmps[40]?.getD undef = .pointer (some ⟨w.heap.size, 3, none⟩) := ev_at (hd { on := 27, ground := .data } (by simp) rfl _ 40 rfl rfl);clear hd ho;unfold Oper.wp;simp only [execOp];simp [go_sem, e40, hc];exact hn _ _ rfl (Below.refl _ _)
 · intro x wx hS hd ho next hn
   have hle : w.heap.size ≤ wx.heap.size := Nat.le_of_lt (heap_lt hS.1);have hc := (box4 hS.1).1;have e41 : x.tmps[41]?.getD undef = str t := ev_at (hd { on := 28, ground := .data } (by simp) rfl _ 41 rfl rfl);clear hd ho;unfold Oper.wp;simp only [execOp];simp [go_sem, e41];exact hn _ _ (SS.new (fun b => w.heap.size ≤ b) wx (show w.heap.size ≤ wx.heap.size from hle) [t] 9 (0, 0) (by unfold maxLen; simp) (by intro s hs; simp only [List.mem_cons, List.not_mem_nil, or_false] at hs; rcases hs with hs <;> rw [hs] <;> first | exact ht | exact har | simp [maxLen])) ((Below.refl _ _).alloc (nl _) _)
 · intro x wx hS hd ho next hn
   have hle : w.heap.size ≤ wx.heap.size := Nat.le_of_lt (heap_lt hS.1);have hc := (box4 hS.1).1;have h42 : SS (fun b => w.heap.size ≤ b) wx (x.eval (.tmp 42)) [t] := (hd { on := 29, ground := .data } (by simp) rfl _ 42 rfl rfl);obtain ⟨p42, c42, e42, _⟩ := h42.shape;rw [e42] at h42;have e42 := ev_at e42;clear hd ho;unfold Oper.wp;simp only [execOp];simp [go_sem, e42];refine (sig_sig _ _ _ wx h42 (by first | exact ht | exact har | simp [maxLen])).mono ?_;rintro e w3 ⟨u, rfl, hu, hb⟩;exact hn _ _ hu hb
 · intro x wx hS hd ho next hn
   have hle : w.heap.size ≤ wx.heap.size := Nat.le_of_lt (heap_lt hS.1);have hc := (box4 hS.1).1;have h43 : SigV (fun b => w.heap.size ≤ b) wx (x.eval (.tmp 43)) ⟨false, [t], [105, 110, 116], []⟩ := (hd { on := 30, ground := .data } (by simp) rfl _ 43 rfl rfl);obtain ⟨x43, y43, e43, l43, r43, q43⟩ := h43;obtain ⟨px43, cx43, rfl, _⟩ := r43.shape;obtain ⟨py43, cy43, rfl, _⟩ := q43.shape;have e43 := ev_at e43;clear hd ho;unfold Oper.wp;simp only [execOp];simp [go_sem, e43];exact hn _ _ ⟨_, _, rfl, ⟨by simp [maxLen], l43⟩, r43, q43⟩ (Below.refl _ _)
 · intro x wx hS hd ho next hn
   have hle : w.heap.size ≤ wx.heap.size := Nat.le_of_lt (heap_lt hS.1);have hc := (box4 hS.1).1;have e1 : x.tmps[1]?.getD undef = .pointer (some ⟨w.heap.size, 0, none⟩) := ev_at (ho 1 (out_of (by kernel_rfl)));clear hd ho;unfold Oper.wp;simp only [execOp];simp [go_sem, e1];exact hn _ _ rfl (Below.refl _ _)
 · intro x wx hS hd ho next hn
   have hle : w.heap.size ≤ wx.heap.size := Nat.le_of_lt (heap_lt hS.1);have hc := (box4 hS.1).1;have e45 : x.tmps[45]?.getD undef = .pointer (some ⟨w.heap.size, 3, none⟩) := ev_at (hd { on := 32, ground := .data } (by simp) rfl _ 45 rfl rfl);clear hd ho;unfold Oper.wp;simp only [execOp];simp [go_sem, e45, hc];exact hn _ _ rfl (Below.refl _ _)
 · intro x wx hS hd ho next hn
   have hle : w.heap.size ≤ wx.heap.size := Nat.le_of_lt (heap_lt hS.1);have hc := (box4 hS.1).1;have e3 : x.tmps[3]?.getD undef = str (argK t).1 := ev_at (ho 3 (out_of (by kernel_rfl)));clear hd ho;unfold Oper.wp;simp only [execOp];simp [go_sem, e3];exact hn _ _ rfl (Below.refl _ _)
 · intro x wx hS hd ho next hn
   have hle : w.heap.size ≤ wx.heap.size := Nat.le_of_lt (heap_lt hS.1);have hc := (box4 hS.1).1;have e46 : x.tmps[46]?.getD undef = str t := ev_at (hd { on := 33, ground := .data } (by simp) rfl _ 46 rfl rfl);have e47 : x.tmps[47]?.getD undef = str (argK t).1 := ev_at (hd { on := 34, ground := .data } (by simp) rfl _ 47 rfl rfl);clear hd ho;unfold Oper.wp;simp only [execOp];simp [go_sem, e46, e47];exact hn _ _ (SS.new (fun b => w.heap.size ≤ b) wx (show w.heap.size ≤ wx.heap.size from hle) [t, [105, 110, 116], (argK t).1] 9 (0, 0) (by unfold maxLen; simp) (by intro s hs; simp only [List.mem_cons, List.not_mem_nil, or_false] at hs; rcases hs with hs | hs | hs <;> rw [hs] <;> first | exact ht | exact har | simp [maxLen])) ((Below.refl _ _).alloc (nl _) _)
 · intro x wx hS hd ho next hn
   have hle : w.heap.size ≤ wx.heap.size := Nat.le_of_lt (heap_lt hS.1);have hc := (box4 hS.1).1;have h48 : SS (fun b => w.heap.size ≤ b) wx (x.eval (.tmp 48)) [t, [105, 110, 116], (argK t).1] := (hd { on := 35, ground := .data } (by simp) rfl _ 48 rfl rfl);obtain ⟨p48, c48, e48, _⟩ := h48.shape;rw [e48] at h48;have e48 := ev_at e48;clear hd ho;unfold Oper.wp;simp only [execOp];simp [go_sem, e48];refine (sig_sig _ _ _ wx h48 (by first | exact ht | exact har | simp [maxLen])).mono ?_;rintro e w3 ⟨u, rfl, hu, hb⟩;exact hn _ _ hu hb
 · intro x wx hS hd ho next hn
   have hle : w.heap.size ≤ wx.heap.size := Nat.le_of_lt (heap_lt hS.1);have hc := (box4 hS.1).1;have h49 : SigV (fun b => w.heap.size ≤ b) wx (x.eval (.tmp 49)) ⟨false, [t, [105, 110, 116], (argK t).1], [], []⟩ := (hd { on := 36, ground := .data } (by simp) rfl _ 49 rfl rfl);obtain ⟨x49, y49, e49, l49, r49, q49⟩ := h49;obtain ⟨px49, cx49, rfl, _⟩ := r49.shape;obtain ⟨py49, cy49, rfl, _⟩ := q49.shape;have e49 := ev_at e49;clear hd ho;unfold Oper.wp;simp only [execOp];simp [go_sem, e49];refine (raising_sig _ ⟨false, [t, [105, 110, 116], (argK t).1], [], []⟩ _ wx ⟨_, _, rfl, l49, r49, q49⟩ (by simp [maxLen]) (fun b hb => show w.heap.size ≤ b from Nat.le_trans hle hb)).mono ?_;rintro e w3 ⟨u, rfl, hu, hb⟩;exact hn _ _ hu hb
 · intro x wx hS hd ho next hn
   have hle : w.heap.size ≤ wx.heap.size := Nat.le_of_lt (heap_lt hS.1);have hc := (box4 hS.1).1;have h50 : SigV (fun b => w.heap.size ≤ b) wx (x.eval (.tmp 50)) ⟨false, [t, [105, 110, 116], (argK t).1], [], [[98, 111, 117, 110, 100, 115]]⟩ := (hd { on := 37, ground := .data } (by simp) rfl _ 50 rfl rfl);obtain ⟨x50, y50, e50, l50, r50, q50⟩ := h50;obtain ⟨px50, cx50, rfl, _⟩ := r50.shape;obtain ⟨py50, cy50, rfl, _⟩ := q50.shape;have e50 := ev_at e50;clear hd ho;unfold Oper.wp;simp only [execOp];simp [go_sem, e50];exact hn _ _ ⟨_, _, rfl, ⟨by simp [maxLen], l50⟩, r50, q50⟩ (Below.refl _ _)
 · intro x wx hS hd ho next hn
   have hle : w.heap.size ≤ wx.heap.size := Nat.le_of_lt (heap_lt hS.1);have hc := (box4 hS.1).1;have h14 : OpV (fun b => w.heap.size ≤ b) wx (x.eval (.tmp 14)) ⟨[101, 113, 117, 97, 108], ⟨false, [t, t], [98, 111, 111, 108], []⟩⟩ := (hd { on := 1, ground := .data } (by simp) rfl _ 14 rfl rfl);obtain ⟨x14, y14, e14, l14, r14, q14⟩ := h14;obtain ⟨px14, cx14, rfl, _⟩ := r14.shape;obtain ⟨py14, cy14, rfl, _⟩ := q14.shape;have e14 := ev_at e14;have h21 : OpV (fun b => w.heap.size ≤ b) wx (x.eval (.tmp 21)) ⟨[97, 100, 100, 104], ⟨false, [t, (argK t).1], [], [[111, 118, 101, 114, 102, 108, 111, 119]]⟩⟩ := (hd { on := 8, ground := .data } (by simp) rfl _ 21 rfl rfl);obtain ⟨x21, y21, e21, l21, r21, q21⟩ := h21;obtain ⟨px21, cx21, rfl, _⟩ := r21.shape;obtain ⟨py21, cy21, rfl, _⟩ := q21.shape;have e21 := ev_at e21;have h28 : OpV (fun b => w.heap.size ≤ b) wx (x.eval (.tmp 28)) ⟨[102, 101, 116, 99, 104], ⟨false, [t, [105, 110, 116]], (argK t).1, [[98, 111, 117, 110, 100, 115]]⟩⟩ := (hd { on := 15, ground := .data } (by simp) rfl _ 28 rfl rfl);obtain ⟨x28, y28, e28, l28, r28, q28⟩ := h28;obtain ⟨px28, cx28, rfl, _⟩ := r28.shape;obtain ⟨py28, cy28, rfl, _⟩ := q28.shape;have e28 := ev_at e28;have h32 : OpV (fun b => w.heap.size ≤ b) wx (x.eval (.tmp 32)) ⟨[110, 101, 119], ⟨false, [], t, []⟩⟩ := (hd { on := 19, ground := .data } (by simp) rfl _ 32 rfl rfl);obtain ⟨x32, y32, e32, l32, r32, q32⟩ := h32;obtain ⟨px32, cx32, rfl, _⟩ := r32.shape;obtain ⟨py32, cy32, rfl, _⟩ := q32.shape;have e32 := ev_at e32;have h39 : OpV (fun b => w.heap.size ≤ b) wx (x.eval (.tmp 39)) ⟨[114, 101, 109, 104], ⟨false, [t], (argK t).1, [[98, 111, 117, 110, 100, 115]]⟩⟩ := (hd { on := 26, ground := .data } (by simp) rfl _ 39 rfl rfl);obtain ⟨x39, y39, e39, l39, r39, q39⟩ := h39;obtain ⟨px39, cx39, rfl, _⟩ := r39.shape;obtain ⟨py39, cy39, rfl, _⟩ := q39.shape;have e39 := ev_at e39;have h44 : OpV (fun b => w.heap.size ≤ b) wx (x.eval (.tmp 44)) ⟨[115, 105, 122, 101], ⟨false, [t], [105, 110, 116], []⟩⟩ := (hd { on := 31, ground := .data } (by simp) rfl _ 44 rfl rfl)
   obtain ⟨x44, y44, e44, l44, r44, q44⟩ := h44;obtain ⟨px44, cx44, rfl, _⟩ := r44.shape;obtain ⟨py44, cy44, rfl, _⟩ := q44.shape;have e44 := ev_at e44;have h51 : OpV (fun b => w.heap.size ≤ b) wx (x.eval (.tmp 51)) ⟨[115, 116, 111, 114, 101], ⟨false, [t, [105, 110, 116], (argK t).1], [], [[98, 111, 117, 110, 100, 115]]⟩⟩ := (hd { on := 38, ground := .data } (by simp) rfl _ 51 rfl rfl);obtain ⟨x51, y51, e51, l51, r51, q51⟩ := h51;obtain ⟨px51, cx51, rfl, _⟩ := r51.shape;obtain ⟨py51, cy51, rfl, _⟩ := q51.shape;have e51 := ev_at e51;clear hd ho;unfold Oper.wp;simp only [execOp];simp [go_sem, e14, e21, e28, e32, e39, e44, e51];exact hn _ _ (own_newO (D := (fun b => w.heap.size ≤ b)) wx hle rfl (by unfold maxLen; simp) ⟨_, _, _, rfl, l14, r14, q14, _, _, _, rfl, l21, r21, q21, _, _, _, rfl, l28, r28, q28, _, _, _, rfl, l32, r32, q32, _, _, _, rfl, l39, r39, q39, _, _, _, rfl, l44, r44, q44, _, _, _, rfl, l51, r51, q51, rfl⟩) ((Below.refl _ _).alloc (nl _) _)
 · intro x wx hS hd ho next hn
   have hx : OwnO w.heap.size wx (x.eval (.tmp 52)) [⟨[101, 113, 117, 97, 108], ⟨false, [t, t], [98, 111, 111, 108], []⟩⟩, ⟨[97, 100, 100, 104], ⟨false, [t, (argK t).1], [], [[111, 118, 101, 114, 102, 108, 111, 119]]⟩⟩, ⟨[102, 101, 116, 99, 104], ⟨false, [t, [105, 110, 116]], (argK t).1, [[98, 111, 117, 110, 100, 115]]⟩⟩, ⟨[110, 101, 119], ⟨false, [], t, []⟩⟩, ⟨[114, 101, 109, 104], ⟨false, [t], (argK t).1, [[98, 111, 117, 110, 100, 115]]⟩⟩, ⟨[115, 105, 122, 101], ⟨false, [t], [105, 110, 116], []⟩⟩, ⟨[115, 116, 111, 114, 101], ⟨false, [t, [105, 110, 116], (argK t).1], [], [[98, 111, 117, 110, 100, 115]]⟩⟩] := (hd { on := 39, ground := .data } (by simp) rfl _ 52 rfl rfl);clear hd ho;unfold Oper.wp;simp only [execOp];simp [go_sem];refine hn _ _ ?_ (Below.refl _ _)
   simpa [Act.eval] using hx
 · intro x wx hdf hsz hout hS hA
   have hu : OwnO w.heap.size wx (x.tmps.getD 2 undef) [⟨[101, 113, 117, 97, 108], ⟨false, [t, t], [98, 111, 111, 108], []⟩⟩, ⟨[97, 100, 100, 104], ⟨false, [t, (argK t).1], [], [[111, 118, 101, 114, 102, 108, 111, 119]]⟩⟩, ⟨[102, 101, 116, 99, 104], ⟨false, [t, [105, 110, 116]], (argK t).1, [[98, 111, 117, 110, 100, 115]]⟩⟩, ⟨[110, 101, 119], ⟨false, [], t, []⟩⟩, ⟨[114, 101, 109, 104], ⟨false, [t], (argK t).1, [[98, 111, 117, 110, 100, 115]]⟩⟩, ⟨[115, 105, 122, 101], ⟨false, [t], [105, 110, 116], []⟩⟩, ⟨[115, 116, 111, 114, 101], ⟨false, [t, [105, 110, 116], (argK t).1], [], [[98, 111, 117, 110, 100, 115]]⟩⟩] := hA 40 _ 2 rfl rfl;obtain ⟨p2, c2, e2⟩ := hu.shape;rw [e2] at hu;have ha := act_puts hdf hsz hout;rw [ha];simp only [putsOf, e2, pz, pw];clear ha hA hout hdf hsz;go_wp2_with fail;go_ret;exact ⟨_, rfl, hu, hS.2⟩
end Go.Proofs.YtakgjcfkdemipaaGreatDoor
namespace Go.Proofs.YtakgjcfkdemipaaGreatDoor
open Go.RowKit
set_option maxRecDepth 8000 in
set_option maxHeartbeats 12800000 in
theorem nulls_any (v : Value) (m : Nat) (nv : Value) (p : Bool) (t : List UInt8) (w : World) (hv : MakV v m nv p t) (ht : t.length ≤ maxLen) :
 Calls Tryz.prog 179 #[v] w fun e w' => ∃ u, e = .returned u ∧ OwnO w.heap.size w' u [⟨[101, 113, 117, 97, 108], ⟨false, [t, t], [98, 111, 111, 108], []⟩⟩] ∧ Below w.heap.size w w' := by
 obtain ⟨rfl, q, n, c, rfl⟩ := hv
 have hA := (Below.refl _ w).alloc (nl _) (.cells #[.map (some m), .slice q n c, .bool p, str t] 145)
 go_enter Tryz.func179, Tryz.ntmps179
 go_wp2_with (go_at_call 238; refine (equals_any _ m _ _ t _ ⟨rfl, _, _, _, rfl⟩ ht).mono ?_; rintro e w1 ⟨u, rfl, ⟨x, y, rfl, l1, r1, q1⟩, hb1⟩; obtain ⟨p1, c1, rfl, _⟩ := r1.shape; obtain ⟨p2, c2, rfl, _⟩ := q1.shape)
 go_ret
 have hs := hb1.size
 simp only [World.size_alloc] at hs
 exact ⟨_, rfl, own_newO w1 (by omega) rfl (by unfold maxLen; simp) ⟨_, _, _, rfl, l1, r1, q1, rfl⟩, (hA.trans (below_less hb1 (by simp))).alloc (by omega) _⟩
set_option maxRecDepth 8000 in
set_option maxHeartbeats 12800000 in
theorem bools_any (v : Value) (m : Nat) (nv : Value) (p : Bool) (t : List UInt8) (w : World) (hv : MakV v m nv p t) (ht : t.length ≤ maxLen) :
 Calls Tryz.prog 178 #[v] w fun e w' => ∃ u, e = .returned u ∧ OwnO w.heap.size w' u [⟨[101, 113, 117, 97, 108], ⟨false, [t, t], [98, 111, 111, 108], []⟩⟩, ⟨[97, 110, 100], ⟨false, [t, t], t, []⟩⟩, ⟨[111, 114], ⟨false, [t, t], t, []⟩⟩, ⟨[110, 111, 116], ⟨false, [t], t, []⟩⟩] ∧ Below w.heap.size w w' := by
 obtain ⟨rfl, q, n, c, rfl⟩ := hv
 have hbox := heap_alloc_new w (.cells #[.map (some m), .slice q n c, .bool p, str t] 145)
 have hA := (Below.refl _ w).alloc (nl _) (.cells #[.map (some m), .slice q n c, .bool p, str t] 145)
 go_enter Tryz.func178, Tryz.ntmps178
 go_upto_region 1 with fail
 refine wp_region_kept (S := fun w' => w'.heap[w.heap.size]? = some (.cells #[.map (some m), .slice q n c, .bool p, str t] 145 (0, 0)) ∧ Below w.heap.size w w') (A := fun j v w' => match j with
  | 0 => v = .agg #[.map (some m), .slice q n c, .bool p, str t]
  | 1 => OpV (fun b => w.heap.size ≤ b) w' v ⟨[101, 113, 117, 97, 108], ⟨false, [t, t], [98, 111, 111, 108], []⟩⟩
  | 2 => v = .pointer (some ⟨w.heap.size, 3, none⟩)
  | 3 => v = str t
  | 4 => v = .pointer (some ⟨w.heap.size, 3, none⟩)
  | 5 => v = str t
  | 6 => v = .pointer (some ⟨w.heap.size, 3, none⟩)
  | 7 => v = str t
  | 8 => SS (fun b => w.heap.size ≤ b) w' v [t, t]
  | 9 => SigV (fun b => w.heap.size ≤ b) w' v ⟨false, [t, t], t, []⟩
  | 10 => OpV (fun b => w.heap.size ≤ b) w' v ⟨[97, 110, 100], ⟨false, [t, t], t, []⟩⟩
  | 11 => v = .pointer (some ⟨w.heap.size, 3, none⟩)
  | 12 => v = str t
  | 13 => v = .pointer (some ⟨w.heap.size, 3, none⟩)
  | 14 => v = str t
  | 15 => v = .pointer (some ⟨w.heap.size, 3, none⟩)
  | 16 => v = str t
  | 17 => SS (fun b => w.heap.size ≤ b) w' v [t, t]
  | 18 => SigV (fun b => w.heap.size ≤ b) w' v ⟨false, [t, t], t, []⟩
  | 19 => OpV (fun b => w.heap.size ≤ b) w' v ⟨[111, 114], ⟨false, [t, t], t, []⟩⟩
  | 20 => v = .pointer (some ⟨w.heap.size, 3, none⟩)
  | 21 => v = str t
  | 22 => v = .pointer (some ⟨w.heap.size, 3, none⟩)
  | 23 => v = str t
  | 24 => SS (fun b => w.heap.size ≤ b) w' v [t]
  | 25 => SigV (fun b => w.heap.size ≤ b) w' v ⟨false, [t], t, []⟩
  | 26 => OpV (fun b => w.heap.size ≤ b) w' v ⟨[110, 111, 116], ⟨false, [t], t, []⟩⟩
  | 27 => OwnO w.heap.size w' v [⟨[101, 113, 117, 97, 108], ⟨false, [t, t], [98, 111, 111, 108], []⟩⟩, ⟨[97, 110, 100], ⟨false, [t, t], t, []⟩⟩, ⟨[111, 114], ⟨false, [t, t], t, []⟩⟩, ⟨[110, 111, 116], ⟨false, [t], t, []⟩⟩]
  | 28 => OwnO w.heap.size w' v [⟨[101, 113, 117, 97, 108], ⟨false, [t, t], [98, 111, 111, 108], []⟩⟩, ⟨[97, 110, 100], ⟨false, [t, t], t, []⟩⟩, ⟨[111, 114], ⟨false, [t, t], t, []⟩⟩, ⟨[110, 111, 116], ⟨false, [t], t, []⟩⟩]
  | _ => True) (by kernel_rfl) (by kernel_rfl) (by kernel_rfl) ?_ (fun w1 w2 h hb => ⟨kept_call h.1 hb, h.2.trans (below_less hb h.2.size)⟩) ⟨hbox, hA.drew⟩ (steps_all ⟨?_, ?_, ?_, ?_, ?_, ?_, ?_, ?_, ?_, ?_, ?_, ?_, ?_, ?_, ?_, ?_, ?_, ?_, ?_, ?_, ?_, ?_, ?_, ?_, ?_, ?_, ?_, ?_, ?_, trivial⟩) ?_
 · intro j v w1 w2 h hb
   match j with
   | 0 => exact h
   | 1 => exact OpV.below (show OpV (fun b => w.heap.size ≤ b) w1 v ⟨[101, 113, 117, 97, 108], ⟨false, [t, t], [98, 111, 111, 108], []⟩⟩ from h) hb (nl _)
   | 2 => exact h
   | 3 => exact h
   | 4 => exact h
   | 5 => exact h
   | 6 => exact h
   | 7 => exact h
   | 8 => exact SS.below (show SS (fun b => w.heap.size ≤ b) w1 v [t, t] from h) hb (nl _)
   | 9 => exact SigV.below (show SigV (fun b => w.heap.size ≤ b) w1 v ⟨false, [t, t], t, []⟩ from h) hb (nl _)
   | 10 => exact OpV.below (show OpV (fun b => w.heap.size ≤ b) w1 v ⟨[97, 110, 100], ⟨false, [t, t], t, []⟩⟩ from h) hb (nl _)
   | 11 => exact h
   | 12 => exact h
   | 13 => exact h
   | 14 => exact h
   | 15 => exact h
   | 16 => exact h
   | 17 => exact SS.below (show SS (fun b => w.heap.size ≤ b) w1 v [t, t] from h) hb (nl _)
   | 18 => exact SigV.below (show SigV (fun b => w.heap.size ≤ b) w1 v ⟨false, [t, t], t, []⟩ from h) hb (nl _)
   | 19 => exact OpV.below (show OpV (fun b => w.heap.size ≤ b) w1 v ⟨[111, 114], ⟨false, [t, t], t, []⟩⟩ from h) hb (nl _)
   | 20 => exact h
   | 21 => exact h
   | 22 => exact h
   | 23 => exact h
   | 24 => exact SS.below (show SS (fun b => w.heap.size ≤ b) w1 v [t] from h) hb (nl _)
   | 25 => exact SigV.below (show SigV (fun b => w.heap.size ≤ b) w1 v ⟨false, [t], t, []⟩ from h) hb (nl _)
   | 26 => exact OpV.below (show OpV (fun b => w.heap.size ≤ b) w1 v ⟨[110, 111, 116], ⟨false, [t], t, []⟩⟩ from h) hb (nl _)
   | 27 => exact OwnO.below (show OwnO w.heap.size w1 v [⟨[101, 113, 117, 97, 108], ⟨false, [t, t], [98, 111, 111, 108], []⟩⟩, ⟨[97, 110, 100], ⟨false, [t, t], t, []⟩⟩, ⟨[111, 114], ⟨false, [t, t], t, []⟩⟩, ⟨[110, 111, 116], ⟨false, [t], t, []⟩⟩] from h) hb (nl _)
   | 28 => exact OwnO.below (show OwnO w.heap.size w1 v [⟨[101, 113, 117, 97, 108], ⟨false, [t, t], [98, 111, 111, 108], []⟩⟩, ⟨[97, 110, 100], ⟨false, [t, t], t, []⟩⟩, ⟨[111, 114], ⟨false, [t, t], t, []⟩⟩, ⟨[110, 111, 116], ⟨false, [t], t, []⟩⟩] from h) hb (nl _)
   | _ + 29 => trivial
 · intro x wx hS hd ho next hn
   have hle : w.heap.size ≤ wx.heap.size := Nat.le_of_lt (heap_lt hS.1);have hc := (box4 hS.1).1;have e1 : x.tmps[1]?.getD undef = .pointer (some ⟨w.heap.size, 0, none⟩) := ev_at (ho 1 (out_of (by kernel_rfl)));clear hd ho;unfold Oper.wp;simp only [execOp];simp [go_sem, e1, hc];exact hn _ _ rfl (Below.refl _ _)
 · intro x wx hS hd ho next hn
   have hle : w.heap.size ≤ wx.heap.size := Nat.le_of_lt (heap_lt hS.1);have hc := (box4 hS.1).1;have e3 : x.tmps[3]?.getD undef = .agg #[.map (some m), .slice q n c, .bool p, str t] := ev_at (hd { on := 0, ground := .data } (by simp) rfl _ 3 rfl rfl);clear hd ho;unfold Oper.wp;simp only [execOp];simp [go_sem, e3];refine (equals_any _ m _ _ t wx ⟨rfl, _, _, _, rfl⟩ ht).mono ?_;rintro e w3 ⟨u, rfl, hu, hb⟩;exact hn _ _ (hu.mono fun b hb => show w.heap.size ≤ b from Nat.le_trans hle hb) hb
 · intro x wx hS hd ho next hn
   have hle : w.heap.size ≤ wx.heap.size := Nat.le_of_lt (heap_lt hS.1);have hc := (box4 hS.1).1;have e1 : x.tmps[1]?.getD undef = .pointer (some ⟨w.heap.size, 0, none⟩) := ev_at (ho 1 (out_of (by kernel_rfl)));clear hd ho;unfold Oper.wp;simp only [execOp];simp [go_sem, e1];exact hn _ _ rfl (Below.refl _ _)
 · intro x wx hS hd ho next hn
   have hle : w.heap.size ≤ wx.heap.size := Nat.le_of_lt (heap_lt hS.1);have hc := (box4 hS.1).1;have e5 : x.tmps[5]?.getD undef = .pointer (some ⟨w.heap.size, 3, none⟩) := ev_at (hd { on := 2, ground := .data } (by simp) rfl _ 5 rfl rfl);clear hd ho;unfold Oper.wp;simp only [execOp];simp [go_sem, e5, hc];exact hn _ _ rfl (Below.refl _ _)
 · intro x wx hS hd ho next hn
   have hle : w.heap.size ≤ wx.heap.size := Nat.le_of_lt (heap_lt hS.1);have hc := (box4 hS.1).1;have e1 : x.tmps[1]?.getD undef = .pointer (some ⟨w.heap.size, 0, none⟩) := ev_at (ho 1 (out_of (by kernel_rfl)));clear hd ho;unfold Oper.wp;simp only [execOp];simp [go_sem, e1];exact hn _ _ rfl (Below.refl _ _)
 · intro x wx hS hd ho next hn
   have hle : w.heap.size ≤ wx.heap.size := Nat.le_of_lt (heap_lt hS.1);have hc := (box4 hS.1).1;have e7 : x.tmps[7]?.getD undef = .pointer (some ⟨w.heap.size, 3, none⟩) := ev_at (hd { on := 4, ground := .data } (by simp) rfl _ 7 rfl rfl);clear hd ho;unfold Oper.wp;simp only [execOp];simp [go_sem, e7, hc];exact hn _ _ rfl (Below.refl _ _)
 · intro x wx hS hd ho next hn
   have hle : w.heap.size ≤ wx.heap.size := Nat.le_of_lt (heap_lt hS.1);have hc := (box4 hS.1).1;have e1 : x.tmps[1]?.getD undef = .pointer (some ⟨w.heap.size, 0, none⟩) := ev_at (ho 1 (out_of (by kernel_rfl)));clear hd ho;unfold Oper.wp;simp only [execOp];simp [go_sem, e1];exact hn _ _ rfl (Below.refl _ _)
 · intro x wx hS hd ho next hn
   have hle : w.heap.size ≤ wx.heap.size := Nat.le_of_lt (heap_lt hS.1);have hc := (box4 hS.1).1;have e9 : x.tmps[9]?.getD undef = .pointer (some ⟨w.heap.size, 3, none⟩) := ev_at (hd { on := 6, ground := .data } (by simp) rfl _ 9 rfl rfl);clear hd ho;unfold Oper.wp;simp only [execOp];simp [go_sem, e9, hc];exact hn _ _ rfl (Below.refl _ _)
 · intro x wx hS hd ho next hn
   have hle : w.heap.size ≤ wx.heap.size := Nat.le_of_lt (heap_lt hS.1);have hc := (box4 hS.1).1;have e8 : x.tmps[8]?.getD undef = str t := ev_at (hd { on := 5, ground := .data } (by simp) rfl _ 8 rfl rfl);have e10 : x.tmps[10]?.getD undef = str t := ev_at (hd { on := 7, ground := .data } (by simp) rfl _ 10 rfl rfl);clear hd ho;unfold Oper.wp;simp only [execOp];simp [go_sem, e8, e10];exact hn _ _ (SS.new (fun b => w.heap.size ≤ b) wx (show w.heap.size ≤ wx.heap.size from hle) [t, t] 9 (0, 0) (by unfold maxLen; simp) (by simp [ht])) ((Below.refl _ _).alloc (nl _) _)
 · intro x wx hS hd ho next hn
   have hle : w.heap.size ≤ wx.heap.size := Nat.le_of_lt (heap_lt hS.1);have hc := (box4 hS.1).1;have e6 : x.tmps[6]?.getD undef = str t := ev_at (hd { on := 3, ground := .data } (by simp) rfl _ 6 rfl rfl);have h11 : SS (fun b => w.heap.size ≤ b) wx (x.eval (.tmp 11)) [t, t] := (hd { on := 8, ground := .data } (by simp) rfl _ 11 rfl rfl);obtain ⟨p11, c11, e11, _⟩ := h11.shape;rw [e11] at h11;have e11 := ev_at e11;clear hd ho;unfold Oper.wp;simp only [execOp];simp [go_sem, e6, e11];refine (sig_sig _ _ _ wx h11 (by first | exact ht | simp [maxLen])).mono ?_;rintro e w3 ⟨u, rfl, hu, hb⟩;exact hn _ _ hu hb
 · intro x wx hS hd ho next hn
   have hle : w.heap.size ≤ wx.heap.size := Nat.le_of_lt (heap_lt hS.1);have hc := (box4 hS.1).1;have h12 : SigV (fun b => w.heap.size ≤ b) wx (x.eval (.tmp 12)) ⟨false, [t, t], t, []⟩ := (hd { on := 9, ground := .data } (by simp) rfl _ 12 rfl rfl);obtain ⟨x12, y12, e12, l12, r12, q12⟩ := h12;obtain ⟨px12, cx12, rfl, _⟩ := r12.shape;obtain ⟨py12, cy12, rfl, _⟩ := q12.shape;have e12 := ev_at e12;clear hd ho;unfold Oper.wp;simp only [execOp];simp [go_sem, e12];exact hn _ _ ⟨_, _, rfl, ⟨by simp [maxLen], l12⟩, r12, q12⟩ (Below.refl _ _)
 · intro x wx hS hd ho next hn
   have hle : w.heap.size ≤ wx.heap.size := Nat.le_of_lt (heap_lt hS.1);have hc := (box4 hS.1).1;have e1 : x.tmps[1]?.getD undef = .pointer (some ⟨w.heap.size, 0, none⟩) := ev_at (ho 1 (out_of (by kernel_rfl)));clear hd ho;unfold Oper.wp;simp only [execOp];simp [go_sem, e1];exact hn _ _ rfl (Below.refl _ _)
 · intro x wx hS hd ho next hn
   have hle : w.heap.size ≤ wx.heap.size := Nat.le_of_lt (heap_lt hS.1);have hc := (box4 hS.1).1;have e14 : x.tmps[14]?.getD undef = .pointer (some ⟨w.heap.size, 3, none⟩) := ev_at (hd { on := 11, ground := .data } (by simp) rfl _ 14 rfl rfl);clear hd ho;unfold Oper.wp;simp only [execOp];simp [go_sem, e14, hc];exact hn _ _ rfl (Below.refl _ _)
 · intro x wx hS hd ho next hn
   have hle : w.heap.size ≤ wx.heap.size := Nat.le_of_lt (heap_lt hS.1);have hc := (box4 hS.1).1;have e1 : x.tmps[1]?.getD undef = .pointer (some ⟨w.heap.size, 0, none⟩) := ev_at (ho 1 (out_of (by kernel_rfl)));clear hd ho;unfold Oper.wp;simp only [execOp];simp [go_sem, e1];exact hn _ _ rfl (Below.refl _ _)
 · intro x wx hS hd ho next hn
   have hle : w.heap.size ≤ wx.heap.size := Nat.le_of_lt (heap_lt hS.1);have hc := (box4 hS.1).1;have e16 : x.tmps[16]?.getD undef = .pointer (some ⟨w.heap.size, 3, none⟩) := ev_at (hd { on := 13, ground := .data } (by simp) rfl _ 16 rfl rfl);clear hd ho;unfold Oper.wp;simp only [execOp];simp [go_sem, e16, hc];exact hn _ _ rfl (Below.refl _ _)
 · intro x wx hS hd ho next hn
   have hle : w.heap.size ≤ wx.heap.size := Nat.le_of_lt (heap_lt hS.1);have hc := (box4 hS.1).1;have e1 : x.tmps[1]?.getD undef = .pointer (some ⟨w.heap.size, 0, none⟩) := ev_at (ho 1 (out_of (by kernel_rfl)));clear hd ho;unfold Oper.wp;simp only [execOp];simp [go_sem, e1];exact hn _ _ rfl (Below.refl _ _)
 · intro x wx hS hd ho next hn
   have hle : w.heap.size ≤ wx.heap.size := Nat.le_of_lt (heap_lt hS.1);have hc := (box4 hS.1).1;have e18 : x.tmps[18]?.getD undef = .pointer (some ⟨w.heap.size, 3, none⟩) := ev_at (hd { on := 15, ground := .data } (by simp) rfl _ 18 rfl rfl);clear hd ho;unfold Oper.wp;simp only [execOp];simp [go_sem, e18, hc];exact hn _ _ rfl (Below.refl _ _)
 · intro x wx hS hd ho next hn
   have hle : w.heap.size ≤ wx.heap.size := Nat.le_of_lt (heap_lt hS.1);have hc := (box4 hS.1).1;have e17 : x.tmps[17]?.getD undef = str t := ev_at (hd { on := 14, ground := .data } (by simp) rfl _ 17 rfl rfl);have e19 : x.tmps[19]?.getD undef = str t := ev_at (hd { on := 16, ground := .data } (by simp) rfl _ 19 rfl rfl);clear hd ho;unfold Oper.wp;simp only [execOp];simp [go_sem, e17, e19];exact hn _ _ (SS.new (fun b => w.heap.size ≤ b) wx (show w.heap.size ≤ wx.heap.size from hle) [t, t] 9 (0, 0) (by unfold maxLen; simp) (by simp [ht])) ((Below.refl _ _).alloc (nl _) _)
 · intro x wx hS hd ho next hn
   have hle : w.heap.size ≤ wx.heap.size := Nat.le_of_lt (heap_lt hS.1);have hc := (box4 hS.1).1;have e15 : x.tmps[15]?.getD undef = str t := ev_at (hd { on := 12, ground := .data } (by simp) rfl _ 15 rfl rfl);have h20 : SS (fun b => w.heap.size ≤ b) wx (x.eval (.tmp 20)) [t, t] := (hd { on := 17, ground := .data } (by simp) rfl _ 20 rfl rfl);obtain ⟨p20, c20, e20, _⟩ := h20.shape;rw [e20] at h20;have e20 := ev_at e20;clear hd ho;unfold Oper.wp;simp only [execOp];simp [go_sem, e15, e20];refine (sig_sig _ _ _ wx h20 (by first | exact ht | simp [maxLen])).mono ?_;rintro e w3 ⟨u, rfl, hu, hb⟩;exact hn _ _ hu hb
 · intro x wx hS hd ho next hn
   have hle : w.heap.size ≤ wx.heap.size := Nat.le_of_lt (heap_lt hS.1);have hc := (box4 hS.1).1;have h21 : SigV (fun b => w.heap.size ≤ b) wx (x.eval (.tmp 21)) ⟨false, [t, t], t, []⟩ := (hd { on := 18, ground := .data } (by simp) rfl _ 21 rfl rfl);obtain ⟨x21, y21, e21, l21, r21, q21⟩ := h21;obtain ⟨px21, cx21, rfl, _⟩ := r21.shape;obtain ⟨py21, cy21, rfl, _⟩ := q21.shape;have e21 := ev_at e21;clear hd ho;unfold Oper.wp;simp only [execOp];simp [go_sem, e21];exact hn _ _ ⟨_, _, rfl, ⟨by simp [maxLen], l21⟩, r21, q21⟩ (Below.refl _ _)
 · intro x wx hS hd ho next hn
   have hle : w.heap.size ≤ wx.heap.size := Nat.le_of_lt (heap_lt hS.1);have hc := (box4 hS.1).1;have e1 : x.tmps[1]?.getD undef = .pointer (some ⟨w.heap.size, 0, none⟩) := ev_at (ho 1 (out_of (by kernel_rfl)));clear hd ho;unfold Oper.wp;simp only [execOp];simp [go_sem, e1];exact hn _ _ rfl (Below.refl _ _)
 · intro x wx hS hd ho next hn
   have hle : w.heap.size ≤ wx.heap.size := Nat.le_of_lt (heap_lt hS.1);have hc := (box4 hS.1).1;have e23 : x.tmps[23]?.getD undef = .pointer (some ⟨w.heap.size, 3, none⟩) := ev_at (hd { on := 20, ground := .data } (by simp) rfl _ 23 rfl rfl);clear hd ho;unfold Oper.wp;simp only [execOp];simp [go_sem, e23, hc];exact hn _ _ rfl (Below.refl _ _)
 · intro x wx hS hd ho next hn
   have hle : w.heap.size ≤ wx.heap.size := Nat.le_of_lt (heap_lt hS.1);have hc := (box4 hS.1).1;have e1 : x.tmps[1]?.getD undef = .pointer (some ⟨w.heap.size, 0, none⟩) := ev_at (ho 1 (out_of (by kernel_rfl)));clear hd ho;unfold Oper.wp;simp only [execOp];simp [go_sem, e1];exact hn _ _ rfl (Below.refl _ _)
 · intro x wx hS hd ho next hn
   have hle : w.heap.size ≤ wx.heap.size := Nat.le_of_lt (heap_lt hS.1);have hc := (box4 hS.1).1;have e25 : x.tmps[25]?.getD undef = .pointer (some ⟨w.heap.size, 3, none⟩) := ev_at (hd { on := 22, ground := .data } (by simp) rfl _ 25 rfl rfl);clear hd ho;unfold Oper.wp;simp only [execOp];simp [go_sem, e25, hc];exact hn _ _ rfl (Below.refl _ _)
 · intro x wx hS hd ho next hn
   have hle : w.heap.size ≤ wx.heap.size := Nat.le_of_lt (heap_lt hS.1);have hc := (box4 hS.1).1;have e26 : x.tmps[26]?.getD undef = str t := ev_at (hd { on := 23, ground := .data } (by simp) rfl _ 26 rfl rfl);clear hd ho;unfold Oper.wp;simp only [execOp];simp [go_sem, e26];exact hn _ _ (SS.new (fun b => w.heap.size ≤ b) wx (show w.heap.size ≤ wx.heap.size from hle) [t] 9 (0, 0) (by unfold maxLen; simp) (by simp [ht])) ((Below.refl _ _).alloc (nl _) _)
 · intro x wx hS hd ho next hn
   have hle : w.heap.size ≤ wx.heap.size := Nat.le_of_lt (heap_lt hS.1);have hc := (box4 hS.1).1;have e24 : x.tmps[24]?.getD undef = str t := ev_at (hd { on := 21, ground := .data } (by simp) rfl _ 24 rfl rfl);have h27 : SS (fun b => w.heap.size ≤ b) wx (x.eval (.tmp 27)) [t] := (hd { on := 24, ground := .data } (by simp) rfl _ 27 rfl rfl);obtain ⟨p27, c27, e27, _⟩ := h27.shape;rw [e27] at h27;have e27 := ev_at e27;clear hd ho;unfold Oper.wp;simp only [execOp];simp [go_sem, e24, e27];refine (sig_sig _ _ _ wx h27 (by first | exact ht | simp [maxLen])).mono ?_;rintro e w3 ⟨u, rfl, hu, hb⟩;exact hn _ _ hu hb
 · intro x wx hS hd ho next hn
   have hle : w.heap.size ≤ wx.heap.size := Nat.le_of_lt (heap_lt hS.1);have hc := (box4 hS.1).1;have h28 : SigV (fun b => w.heap.size ≤ b) wx (x.eval (.tmp 28)) ⟨false, [t], t, []⟩ := (hd { on := 25, ground := .data } (by simp) rfl _ 28 rfl rfl);obtain ⟨x28, y28, e28, l28, r28, q28⟩ := h28;obtain ⟨px28, cx28, rfl, _⟩ := r28.shape;obtain ⟨py28, cy28, rfl, _⟩ := q28.shape;have e28 := ev_at e28;clear hd ho;unfold Oper.wp;simp only [execOp];simp [go_sem, e28];exact hn _ _ ⟨_, _, rfl, ⟨by simp [maxLen], l28⟩, r28, q28⟩ (Below.refl _ _)
 · intro x wx hS hd ho next hn
   have hle : w.heap.size ≤ wx.heap.size := Nat.le_of_lt (heap_lt hS.1);have hc := (box4 hS.1).1;have h4 : OpV (fun b => w.heap.size ≤ b) wx (x.eval (.tmp 4)) ⟨[101, 113, 117, 97, 108], ⟨false, [t, t], [98, 111, 111, 108], []⟩⟩ := (hd { on := 1, ground := .data } (by simp) rfl _ 4 rfl rfl);obtain ⟨x4, y4, e4, l4, r4, q4⟩ := h4;obtain ⟨px4, cx4, rfl, _⟩ := r4.shape;obtain ⟨py4, cy4, rfl, _⟩ := q4.shape;have e4 := ev_at e4;have h13 : OpV (fun b => w.heap.size ≤ b) wx (x.eval (.tmp 13)) ⟨[97, 110, 100], ⟨false, [t, t], t, []⟩⟩ := (hd { on := 10, ground := .data } (by simp) rfl _ 13 rfl rfl);obtain ⟨x13, y13, e13, l13, r13, q13⟩ := h13;obtain ⟨px13, cx13, rfl, _⟩ := r13.shape;obtain ⟨py13, cy13, rfl, _⟩ := q13.shape;have e13 := ev_at e13;have h22 : OpV (fun b => w.heap.size ≤ b) wx (x.eval (.tmp 22)) ⟨[111, 114], ⟨false, [t, t], t, []⟩⟩ := (hd { on := 19, ground := .data } (by simp) rfl _ 22 rfl rfl);obtain ⟨x22, y22, e22, l22, r22, q22⟩ := h22;obtain ⟨px22, cx22, rfl, _⟩ := r22.shape;obtain ⟨py22, cy22, rfl, _⟩ := q22.shape;have e22 := ev_at e22;have h29 : OpV (fun b => w.heap.size ≤ b) wx (x.eval (.tmp 29)) ⟨[110, 111, 116], ⟨false, [t], t, []⟩⟩ := (hd { on := 26, ground := .data } (by simp) rfl _ 29 rfl rfl);obtain ⟨x29, y29, e29, l29, r29, q29⟩ := h29;obtain ⟨px29, cx29, rfl, _⟩ := r29.shape;obtain ⟨py29, cy29, rfl, _⟩ := q29.shape;have e29 := ev_at e29;clear hd ho;unfold Oper.wp;simp only [execOp];simp [go_sem, e4, e13, e22, e29];exact hn _ _ (own_newO (D := (fun b => w.heap.size ≤ b)) wx hle rfl (by unfold maxLen; simp) ⟨_, _, _, rfl, l4, r4, q4, _, _, _, rfl, l13, r13, q13, _, _, _, rfl, l22, r22, q22, _, _, _, rfl, l29, r29, q29, rfl⟩) ((Below.refl _ _).alloc (nl _) _)
 · intro x wx hS hd ho next hn
   have hx : OwnO w.heap.size wx (x.eval (.tmp 30)) [⟨[101, 113, 117, 97, 108], ⟨false, [t, t], [98, 111, 111, 108], []⟩⟩, ⟨[97, 110, 100], ⟨false, [t, t], t, []⟩⟩, ⟨[111, 114], ⟨false, [t, t], t, []⟩⟩, ⟨[110, 111, 116], ⟨false, [t], t, []⟩⟩] := (hd { on := 27, ground := .data } (by simp) rfl _ 30 rfl rfl);clear hd ho;unfold Oper.wp;simp only [execOp];simp [go_sem];refine hn _ _ ?_ (Below.refl _ _)
   simpa [Act.eval] using hx
 · intro x wx hdf hsz hout hS hA
   have hu : OwnO w.heap.size wx (x.tmps.getD 2 undef) [⟨[101, 113, 117, 97, 108], ⟨false, [t, t], [98, 111, 111, 108], []⟩⟩, ⟨[97, 110, 100], ⟨false, [t, t], t, []⟩⟩, ⟨[111, 114], ⟨false, [t, t], t, []⟩⟩, ⟨[110, 111, 116], ⟨false, [t], t, []⟩⟩] := hA 28 _ 2 rfl rfl;obtain ⟨p2, c2, e2⟩ := hu.shape;rw [e2] at hu;have ha := act_puts hdf hsz hout;rw [ha];simp only [putsOf, e2, pz, pw];clear ha hA hout hdf hsz;go_wp2_with fail;go_ret;exact ⟨_, rfl, hu, hS.2⟩
end Go.Proofs.YtakgjcfkdemipaaGreatDoor
