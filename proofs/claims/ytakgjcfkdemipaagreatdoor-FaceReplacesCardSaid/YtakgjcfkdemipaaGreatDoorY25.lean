/-
  Contract: of the package face: (maker).ints. No condition but on lengths.
  Rows of operations that a region makes, and append behind them. No condition but on lengths.
-/
import Derived.Maps.AppendAt
import Derived.Test.YtakgjcfkdemipaaGreatDoorYn
import Derived.Test.YtakgjcfkdemipaaGreatDoorY1
import Derived.Test.YtakgjcfkdemipaaGreatDoorY18
import Derived.Test.YtakgjcfkdemipaaGreatDoorY23
namespace Go.Proofs.YtakgjcfkdemipaaGreatDoor
open Go.RowKit
theorem infoOp : (Tryz.prog.info? 50).map (fun i => (i.zero, i.size, i.bytes)) = some (some (.agg #[.string ⟨#[]⟩, .bool false, .slice none 0 0, .string ⟨#[]⟩, .slice none 0 0]), 5, 88) := by kernel_rfl
theorem underOps : Tryz.prog.underlying 31 = some (.slice 50) := by kernel_rfl
theorem cells_new (w : World) (cs : List Value) (t : TypeId) : ∀ j u, cs[j]? = some u → (w.alloc (.cells cs.toArray t)).cell? ((⟨w.heap.size, 0, none⟩ : Addr).add j) = some u := by
 intro j u hu
 rw [Go.WideShapes.add_plain, Nat.zero_add]
 refine (cells_at (heap_alloc_new w _) j).trans ?_
 simpa using hu
set_option maxRecDepth 8000 in
set_option maxHeartbeats 12800000 in
theorem ints_any (v : Value) (m : Nat) (nv : Value) (p : Bool) (t : List UInt8) (w : World) (hv : MakV v m nv p t) (ht : t.length ≤ maxLen) :
 Calls Tryz.prog 177 #[v] w fun e w' => ∃ u, e = .returned u ∧ OwnO w.heap.size w' u (([⟨[101, 113, 117, 97, 108], ⟨false, [t, t], [98, 111, 111, 108], []⟩⟩, ⟨[108, 101], ⟨false, [t, t], [98, 111, 111, 108], []⟩⟩, ⟨[108, 116], ⟨false, [t, t], [98, 111, 111, 108], []⟩⟩] : List OpP) ++ ([[97, 100, 100], [115, 117, 98], [109, 117, 108]] : List (List UInt8)).map (fun n => (⟨n, ⟨false, [t, t], t, [[111, 118, 101, 114, 102, 108, 111, 119]]⟩⟩ : OpP)) ++ ([[100, 105, 118], [109, 111, 100]] : List (List UInt8)).map (fun n => (⟨n, ⟨false, [t, t], t, [[122, 101, 114, 111, 100, 105, 118, 105, 100, 101]]⟩⟩ : OpP))) ∧ Below w.heap.size w w' := by
 obtain ⟨rfl, q, n, c, rfl⟩ := hv
 obtain ⟨i0, hi0, hz0, hz1, hz2⟩ := finfo_parts infoOp
 have hbox := heap_alloc_new w (.cells #[.map (some m), .slice q n c, .bool p, str t] 145)
 have hA := (Below.refl _ w).alloc (nl _) (.cells #[.map (some m), .slice q n c, .bool p, str t] 145)
 go_enter Tryz.func177, Tryz.ntmps177
 go_upto_region 1 with fail
 refine wp_region_kept (S := fun w' => w'.heap[w.heap.size]? = some (.cells #[.map (some m), .slice q n c, .bool p, str t] 145 (0, 0)) ∧ Below w.heap.size w w') (A := fun j v w' => match j with
  | 0 => v = .agg #[.map (some m), .slice q n c, .bool p, str t]
  | 1 => OpV (fun b => w.heap.size ≤ b) w' v ⟨[101, 113, 117, 97, 108], ⟨false, [t, t], [98, 111, 111, 108], []⟩⟩
  | 2 => v = .pointer (some ⟨w.heap.size, 3, none⟩)
  | 3 => v = str t
  | 4 => v = .pointer (some ⟨w.heap.size, 3, none⟩)
  | 5 => v = str t
  | 6 => SS (fun b => w.heap.size ≤ b) w' v [t, t]
  | 7 => SigV (fun b => w.heap.size ≤ b) w' v ⟨false, [t, t], [98, 111, 111, 108], []⟩
  | 8 => OpV (fun b => w.heap.size ≤ b) w' v ⟨[108, 101], ⟨false, [t, t], [98, 111, 111, 108], []⟩⟩
  | 9 => v = .pointer (some ⟨w.heap.size, 3, none⟩)
  | 10 => v = str t
  | 11 => v = .pointer (some ⟨w.heap.size, 3, none⟩)
  | 12 => v = str t
  | 13 => SS (fun b => w.heap.size ≤ b) w' v [t, t]
  | 14 => SigV (fun b => w.heap.size ≤ b) w' v ⟨false, [t, t], [98, 111, 111, 108], []⟩
  | 15 => OpV (fun b => w.heap.size ≤ b) w' v ⟨[108, 116], ⟨false, [t, t], [98, 111, 111, 108], []⟩⟩
  | 16 => OwnO w.heap.size w' v [⟨[101, 113, 117, 97, 108], ⟨false, [t, t], [98, 111, 111, 108], []⟩⟩, ⟨[108, 101], ⟨false, [t, t], [98, 111, 111, 108], []⟩⟩, ⟨[108, 116], ⟨false, [t, t], [98, 111, 111, 108], []⟩⟩]
  | 17 => OwnO w.heap.size w' v [⟨[101, 113, 117, 97, 108], ⟨false, [t, t], [98, 111, 111, 108], []⟩⟩, ⟨[108, 101], ⟨false, [t, t], [98, 111, 111, 108], []⟩⟩, ⟨[108, 116], ⟨false, [t, t], [98, 111, 111, 108], []⟩⟩]
  | _ => True) (by kernel_rfl) (by kernel_rfl) (by kernel_rfl) ?_ (fun w1 w2 h hb => ⟨kept_call h.1 hb, h.2.trans (below_less hb h.2.size)⟩) ⟨hbox, hA.drew⟩ (steps_all ⟨?_, ?_, ?_, ?_, ?_, ?_, ?_, ?_, ?_, ?_, ?_, ?_, ?_, ?_, ?_, ?_, ?_, ?_, trivial⟩) ?_
 · intro j v w1 w2 h hb
   match j with
   | 0 => exact h
   | 1 => exact OpV.below (show OpV (fun b => w.heap.size ≤ b) w1 v ⟨[101, 113, 117, 97, 108], ⟨false, [t, t], [98, 111, 111, 108], []⟩⟩ from h) hb (nl _)
   | 2 => exact h
   | 3 => exact h
   | 4 => exact h
   | 5 => exact h
   | 6 => exact SS.below (show SS (fun b => w.heap.size ≤ b) w1 v [t, t] from h) hb (nl _)
   | 7 => exact SigV.below (show SigV (fun b => w.heap.size ≤ b) w1 v ⟨false, [t, t], [98, 111, 111, 108], []⟩ from h) hb (nl _)
   | 8 => exact OpV.below (show OpV (fun b => w.heap.size ≤ b) w1 v ⟨[108, 101], ⟨false, [t, t], [98, 111, 111, 108], []⟩⟩ from h) hb (nl _)
   | 9 => exact h
   | 10 => exact h
   | 11 => exact h
   | 12 => exact h
   | 13 => exact SS.below (show SS (fun b => w.heap.size ≤ b) w1 v [t, t] from h) hb (nl _)
   | 14 => exact SigV.below (show SigV (fun b => w.heap.size ≤ b) w1 v ⟨false, [t, t], [98, 111, 111, 108], []⟩ from h) hb (nl _)
   | 15 => exact OpV.below (show OpV (fun b => w.heap.size ≤ b) w1 v ⟨[108, 116], ⟨false, [t, t], [98, 111, 111, 108], []⟩⟩ from h) hb (nl _)
   | 16 => exact OwnO.below (show OwnO w.heap.size w1 v [⟨[101, 113, 117, 97, 108], ⟨false, [t, t], [98, 111, 111, 108], []⟩⟩, ⟨[108, 101], ⟨false, [t, t], [98, 111, 111, 108], []⟩⟩, ⟨[108, 116], ⟨false, [t, t], [98, 111, 111, 108], []⟩⟩] from h) hb (nl _)
   | 17 => exact OwnO.below (show OwnO w.heap.size w1 v [⟨[101, 113, 117, 97, 108], ⟨false, [t, t], [98, 111, 111, 108], []⟩⟩, ⟨[108, 101], ⟨false, [t, t], [98, 111, 111, 108], []⟩⟩, ⟨[108, 116], ⟨false, [t, t], [98, 111, 111, 108], []⟩⟩] from h) hb (nl _)
   | _ + 18 => trivial
 · intro x wx hS hd ho next hn
   have hle : w.heap.size ≤ wx.heap.size := Nat.le_of_lt (heap_lt hS.1);have hc := (box4 hS.1).1;have e1 : x.tmps[1]?.getD undef = .pointer (some ⟨w.heap.size, 0, none⟩) := ev_at (ho 1 (out_of (by kernel_rfl)));clear hd ho;unfold Oper.wp;simp only [execOp];simp [go_sem, e1, hc];exact hn _ _ rfl (Below.refl _ _)
 · intro x wx hS hd ho next hn
   have hle : w.heap.size ≤ wx.heap.size := Nat.le_of_lt (heap_lt hS.1);have hc := (box4 hS.1).1;have e8 : x.tmps[8]?.getD undef = .agg #[.map (some m), .slice q n c, .bool p, str t] := ev_at (hd { on := 0, ground := .data } (by simp) rfl _ 8 rfl rfl);clear hd ho;unfold Oper.wp;simp only [execOp];simp [go_sem, e8];refine (equals_any _ m _ _ t wx ⟨rfl, _, _, _, rfl⟩ ht).mono ?_;rintro e w3 ⟨u, rfl, hu, hb⟩;exact hn _ _ (hu.mono fun b hb => show w.heap.size ≤ b from Nat.le_trans hle hb) hb
 · intro x wx hS hd ho next hn
   have hle : w.heap.size ≤ wx.heap.size := Nat.le_of_lt (heap_lt hS.1);have hc := (box4 hS.1).1;have e1 : x.tmps[1]?.getD undef = .pointer (some ⟨w.heap.size, 0, none⟩) := ev_at (ho 1 (out_of (by kernel_rfl)));clear hd ho;unfold Oper.wp;simp only [execOp];simp [go_sem, e1];exact hn _ _ rfl (Below.refl _ _)
 · intro x wx hS hd ho next hn
   have hle : w.heap.size ≤ wx.heap.size := Nat.le_of_lt (heap_lt hS.1);have hc := (box4 hS.1).1;have e10 : x.tmps[10]?.getD undef = .pointer (some ⟨w.heap.size, 3, none⟩) := ev_at (hd { on := 2, ground := .data } (by simp) rfl _ 10 rfl rfl);clear hd ho;unfold Oper.wp;simp only [execOp];simp [go_sem, e10, hc];exact hn _ _ rfl (Below.refl _ _)
 · intro x wx hS hd ho next hn
   have hle : w.heap.size ≤ wx.heap.size := Nat.le_of_lt (heap_lt hS.1);have hc := (box4 hS.1).1;have e1 : x.tmps[1]?.getD undef = .pointer (some ⟨w.heap.size, 0, none⟩) := ev_at (ho 1 (out_of (by kernel_rfl)));clear hd ho;unfold Oper.wp;simp only [execOp];simp [go_sem, e1];exact hn _ _ rfl (Below.refl _ _)
 · intro x wx hS hd ho next hn
   have hle : w.heap.size ≤ wx.heap.size := Nat.le_of_lt (heap_lt hS.1);have hc := (box4 hS.1).1;have e12 : x.tmps[12]?.getD undef = .pointer (some ⟨w.heap.size, 3, none⟩) := ev_at (hd { on := 4, ground := .data } (by simp) rfl _ 12 rfl rfl);clear hd ho;unfold Oper.wp;simp only [execOp];simp [go_sem, e12, hc];exact hn _ _ rfl (Below.refl _ _)
 · intro x wx hS hd ho next hn
   have hle : w.heap.size ≤ wx.heap.size := Nat.le_of_lt (heap_lt hS.1);have hc := (box4 hS.1).1;have e11 : x.tmps[11]?.getD undef = str t := ev_at (hd { on := 3, ground := .data } (by simp) rfl _ 11 rfl rfl);have e13 : x.tmps[13]?.getD undef = str t := ev_at (hd { on := 5, ground := .data } (by simp) rfl _ 13 rfl rfl);clear hd ho;unfold Oper.wp;simp only [execOp];simp [go_sem, e11, e13];exact hn _ _ (SS.new (fun b => w.heap.size ≤ b) wx (show w.heap.size ≤ wx.heap.size from hle) [t, t] 9 (0, 0) (by unfold maxLen; simp) (by simp [ht])) ((Below.refl _ _).alloc (nl _) _)
 · intro x wx hS hd ho next hn
   have hle : w.heap.size ≤ wx.heap.size := Nat.le_of_lt (heap_lt hS.1);have hc := (box4 hS.1).1;have h14 : SS (fun b => w.heap.size ≤ b) wx (x.eval (.tmp 14)) [t, t] := (hd { on := 6, ground := .data } (by simp) rfl _ 14 rfl rfl);obtain ⟨p14, c14, e14, _⟩ := h14.shape;rw [e14] at h14;have e14 := ev_at e14;clear hd ho;unfold Oper.wp;simp only [execOp];simp [go_sem, e14];refine (sig_sig _ _ _ wx h14 (by first | exact ht | simp [maxLen])).mono ?_;rintro e w3 ⟨u, rfl, hu, hb⟩;exact hn _ _ hu hb
 · intro x wx hS hd ho next hn
   have hle : w.heap.size ≤ wx.heap.size := Nat.le_of_lt (heap_lt hS.1);have hc := (box4 hS.1).1;have h15 : SigV (fun b => w.heap.size ≤ b) wx (x.eval (.tmp 15)) ⟨false, [t, t], [98, 111, 111, 108], []⟩ := (hd { on := 7, ground := .data } (by simp) rfl _ 15 rfl rfl);obtain ⟨x15, y15, e15, l15, r15, q15⟩ := h15;obtain ⟨px15, cx15, rfl, _⟩ := r15.shape;obtain ⟨py15, cy15, rfl, _⟩ := q15.shape;have e15 := ev_at e15;clear hd ho;unfold Oper.wp;simp only [execOp];simp [go_sem, e15];exact hn _ _ ⟨_, _, rfl, ⟨by simp [maxLen], l15⟩, r15, q15⟩ (Below.refl _ _)
 · intro x wx hS hd ho next hn
   have hle : w.heap.size ≤ wx.heap.size := Nat.le_of_lt (heap_lt hS.1);have hc := (box4 hS.1).1;have e1 : x.tmps[1]?.getD undef = .pointer (some ⟨w.heap.size, 0, none⟩) := ev_at (ho 1 (out_of (by kernel_rfl)));clear hd ho;unfold Oper.wp;simp only [execOp];simp [go_sem, e1];exact hn _ _ rfl (Below.refl _ _)
 · intro x wx hS hd ho next hn
   have hle : w.heap.size ≤ wx.heap.size := Nat.le_of_lt (heap_lt hS.1);have hc := (box4 hS.1).1;have e17 : x.tmps[17]?.getD undef = .pointer (some ⟨w.heap.size, 3, none⟩) := ev_at (hd { on := 9, ground := .data } (by simp) rfl _ 17 rfl rfl);clear hd ho;unfold Oper.wp;simp only [execOp];simp [go_sem, e17, hc];exact hn _ _ rfl (Below.refl _ _)
 · intro x wx hS hd ho next hn
   have hle : w.heap.size ≤ wx.heap.size := Nat.le_of_lt (heap_lt hS.1);have hc := (box4 hS.1).1;have e1 : x.tmps[1]?.getD undef = .pointer (some ⟨w.heap.size, 0, none⟩) := ev_at (ho 1 (out_of (by kernel_rfl)));clear hd ho;unfold Oper.wp;simp only [execOp];simp [go_sem, e1];exact hn _ _ rfl (Below.refl _ _)
 · intro x wx hS hd ho next hn
   have hle : w.heap.size ≤ wx.heap.size := Nat.le_of_lt (heap_lt hS.1);have hc := (box4 hS.1).1;have e19 : x.tmps[19]?.getD undef = .pointer (some ⟨w.heap.size, 3, none⟩) := ev_at (hd { on := 11, ground := .data } (by simp) rfl _ 19 rfl rfl);clear hd ho;unfold Oper.wp;simp only [execOp];simp [go_sem, e19, hc];exact hn _ _ rfl (Below.refl _ _)
 · intro x wx hS hd ho next hn
   have hle : w.heap.size ≤ wx.heap.size := Nat.le_of_lt (heap_lt hS.1);have hc := (box4 hS.1).1;have e18 : x.tmps[18]?.getD undef = str t := ev_at (hd { on := 10, ground := .data } (by simp) rfl _ 18 rfl rfl);have e20 : x.tmps[20]?.getD undef = str t := ev_at (hd { on := 12, ground := .data } (by simp) rfl _ 20 rfl rfl);clear hd ho;unfold Oper.wp;simp only [execOp];simp [go_sem, e18, e20];exact hn _ _ (SS.new (fun b => w.heap.size ≤ b) wx (show w.heap.size ≤ wx.heap.size from hle) [t, t] 9 (0, 0) (by unfold maxLen; simp) (by simp [ht])) ((Below.refl _ _).alloc (nl _) _)
 · intro x wx hS hd ho next hn
   have hle : w.heap.size ≤ wx.heap.size := Nat.le_of_lt (heap_lt hS.1);have hc := (box4 hS.1).1;have h21 : SS (fun b => w.heap.size ≤ b) wx (x.eval (.tmp 21)) [t, t] := (hd { on := 13, ground := .data } (by simp) rfl _ 21 rfl rfl);obtain ⟨p21, c21, e21, _⟩ := h21.shape;rw [e21] at h21;have e21 := ev_at e21;clear hd ho;unfold Oper.wp;simp only [execOp];simp [go_sem, e21];refine (sig_sig _ _ _ wx h21 (by first | exact ht | simp [maxLen])).mono ?_;rintro e w3 ⟨u, rfl, hu, hb⟩;exact hn _ _ hu hb
 · intro x wx hS hd ho next hn
   have hle : w.heap.size ≤ wx.heap.size := Nat.le_of_lt (heap_lt hS.1);have hc := (box4 hS.1).1;have h22 : SigV (fun b => w.heap.size ≤ b) wx (x.eval (.tmp 22)) ⟨false, [t, t], [98, 111, 111, 108], []⟩ := (hd { on := 14, ground := .data } (by simp) rfl _ 22 rfl rfl);obtain ⟨x22, y22, e22, l22, r22, q22⟩ := h22;obtain ⟨px22, cx22, rfl, _⟩ := r22.shape;obtain ⟨py22, cy22, rfl, _⟩ := q22.shape;have e22 := ev_at e22;clear hd ho;unfold Oper.wp;simp only [execOp];simp [go_sem, e22];exact hn _ _ ⟨_, _, rfl, ⟨by simp [maxLen], l22⟩, r22, q22⟩ (Below.refl _ _)
 · intro x wx hS hd ho next hn
   have hle : w.heap.size ≤ wx.heap.size := Nat.le_of_lt (heap_lt hS.1);have hc := (box4 hS.1).1;have h9 : OpV (fun b => w.heap.size ≤ b) wx (x.eval (.tmp 9)) ⟨[101, 113, 117, 97, 108], ⟨false, [t, t], [98, 111, 111, 108], []⟩⟩ := (hd { on := 1, ground := .data } (by simp) rfl _ 9 rfl rfl);obtain ⟨x9, y9, e9, l9, r9, q9⟩ := h9;obtain ⟨px9, cx9, rfl, _⟩ := r9.shape;obtain ⟨py9, cy9, rfl, _⟩ := q9.shape;have e9 := ev_at e9;have h16 : OpV (fun b => w.heap.size ≤ b) wx (x.eval (.tmp 16)) ⟨[108, 101], ⟨false, [t, t], [98, 111, 111, 108], []⟩⟩ := (hd { on := 8, ground := .data } (by simp) rfl _ 16 rfl rfl);obtain ⟨x16, y16, e16, l16, r16, q16⟩ := h16;obtain ⟨px16, cx16, rfl, _⟩ := r16.shape;obtain ⟨py16, cy16, rfl, _⟩ := q16.shape;have e16 := ev_at e16;have h23 : OpV (fun b => w.heap.size ≤ b) wx (x.eval (.tmp 23)) ⟨[108, 116], ⟨false, [t, t], [98, 111, 111, 108], []⟩⟩ := (hd { on := 15, ground := .data } (by simp) rfl _ 23 rfl rfl);obtain ⟨x23, y23, e23, l23, r23, q23⟩ := h23;obtain ⟨px23, cx23, rfl, _⟩ := r23.shape;obtain ⟨py23, cy23, rfl, _⟩ := q23.shape;have e23 := ev_at e23;clear hd ho;unfold Oper.wp;simp only [execOp];simp [go_sem, e9, e16, e23];exact hn _ _ (own_newO (D := (fun b => w.heap.size ≤ b)) wx hle rfl (by unfold maxLen; simp) ⟨_, _, _, rfl, l9, r9, q9, _, _, _, rfl, l16, r16, q16, _, _, _, rfl, l23, r23, q23, rfl⟩) ((Below.refl _ _).alloc (nl _) _)
 · intro x wx hS hd ho next hn
   have hx : OwnO w.heap.size wx (x.eval (.tmp 24)) [⟨[101, 113, 117, 97, 108], ⟨false, [t, t], [98, 111, 111, 108], []⟩⟩, ⟨[108, 101], ⟨false, [t, t], [98, 111, 111, 108], []⟩⟩, ⟨[108, 116], ⟨false, [t, t], [98, 111, 111, 108], []⟩⟩] := (hd { on := 16, ground := .data } (by simp) rfl _ 24 rfl rfl);clear hd ho;unfold Oper.wp;simp only [execOp];simp [go_sem];refine hn _ _ ?_ (Below.refl _ _)
   simpa [Act.eval] using hx
 · clear hbox hA
   intro x wx hdf hsz hout hS hA;have hown : OwnO w.heap.size wx (x.tmps.getD 3 undef) ([⟨[101, 113, 117, 97, 108], ⟨false, [t, t], [98, 111, 111, 108], []⟩⟩, ⟨[108, 101], ⟨false, [t, t], [98, 111, 111, 108], []⟩⟩, ⟨[108, 116], ⟨false, [t, t], [98, 111, 111, 108], []⟩⟩] : List OpP) := hA 17 _ 3 rfl rfl;obtain ⟨p2, c2, e2⟩ := hown.shape;rw [e2] at hown;have ha := act_puts hdf hsz hout;rw [ha];simp only [putsOf, e2, pz, pw];clear ha hA hout hdf hsz;generalize x.tmps.getD 8 undef = y8;generalize x.tmps.getD 9 undef = y9;generalize x.tmps.getD 10 undef = y10;generalize x.tmps.getD 11 undef = y11;generalize x.tmps.getD 12 undef = y12;generalize x.tmps.getD 13 undef = y13;generalize x.tmps.getD 14 undef = y14;generalize x.tmps.getD 15 undef = y15;generalize x.tmps.getD 16 undef = y16;generalize x.tmps.getD 17 undef = y17;generalize x.tmps.getD 18 undef = y18;generalize x.tmps.getD 19 undef = y19;generalize x.tmps.getD 20 undef = y20;generalize x.tmps.getD 21 undef = y21;generalize x.tmps.getD 22 undef = y22;generalize x.tmps.getD 23 undef = y23;generalize x.tmps.getD 24 undef = y24;have hbx := hS.1;have hB := hS.2;have hss := trivial;have hne := trivial;clear hS;have hle2 := hB.size;have hownA := hown.below ((Below.refl _ wx).alloc (nl _) (.cells #[str [97, 100, 100], str [115, 117, 98], str [109, 117, 108]] 9)) (nl _);have hbxA := heap_up (.cells #[str [97, 100, 100], str [115, 117, 98], str [109, 117, 108]] 9) hbx;have hssA : SS (fun b => b = wx.heap.size) (wx.alloc (.cells #[str [97, 100, 100], str [115, 117, 98], str [109, 117, 108]] 9)) (.slice (some ⟨wx.heap.size, 0, none⟩) 3 3) ([[97, 100, 100], [115, 117, 98], [109, 117, 108]] : List (List UInt8)) := SS.new (fun b => b = wx.heap.size) wx rfl ([[97, 100, 100], [115, 117, 98], [109, 117, 108]] : List (List UInt8)) 9 (0, 0) (by unfold maxLen; simp) (by intro s hs; simp only [List.mem_cons, List.not_mem_nil, or_false] at hs; rcases hs with rfl | rfl | rfl <;> simp [maxLen]);have hBA := hB.alloc hle2 (.cells #[str [97, 100, 100], str [115, 117, 98], str [109, 117, 108]] 9)
   have hneA : ∀ b, (Value.slice p2 _ c2).ownBlock = some b → b ≠ wx.heap.size := fun b hb => by obtain ⟨cs, hcs, _⟩ := hown; have := ownsRow_lt hcs hb; omega
   clear hown hbx hss hB hne;go_wp2_with fail;generalize hNB : wx.heap.size = NB27 at *;generalize wx.alloc (.cells #[str [97, 100, 100], str [115, 117, 98], str [109, 117, 108]] 9) = WA at *;have hown := hownA;have hbx := hbxA;have hss := hssA;have hB := hBA;have hne := hneA;clear hownA hbxA hssA hBA hneA;go_loopw [3, 27] (fun v y wx => ∃ i : Nat, i ≤ 3 ∧ y = .int .i64 i ∧ OwnO w.heap.size wx v (([⟨[101, 113, 117, 97, 108], ⟨false, [t, t], [98, 111, 111, 108], []⟩⟩, ⟨[108, 101], ⟨false, [t, t], [98, 111, 111, 108], []⟩⟩, ⟨[108, 116], ⟨false, [t, t], [98, 111, 111, 108], []⟩⟩] : List OpP) ++ (([[97, 100, 100], [115, 117, 98], [109, 117, 108]] : List (List UInt8)).take i).map (fun n => (⟨n, ⟨false, [t, t], t, [[111, 118, 101, 114, 102, 108, 111, 119]]⟩⟩ : OpP))) ∧ wx.heap[w.heap.size]? = some (.cells #[.map (some m), .slice q n c, .bool p, str t] 145 (0, 0)) ∧ SS (fun b => b = NB27) wx (.slice (some ⟨NB27, 0, none⟩) 3 3) ([[97, 100, 100], [115, 117, 98], [109, 117, 108]] : List (List UInt8)) ∧ Below w.heap.size w wx ∧ ∀ b, v.ownBlock = some b → b ≠ NB27) (fun _ y _ => 3 - (intOf y).toNat)
   case atStart => exact ⟨0, by omega, by go_num, by simpa using hown, hbx, hss, hB, hne⟩
   case round =>
    clear hown hbx hss hB hne;obtain ⟨i, hi, rfl, hown, hbx, hss, hB, hne⟩ := hrel;obtain ⟨pv, cv, rfl⟩ := hown.shape
    by_cases hlt : i < 3
    case neg =>
     have hie : i = 3 := by omega
     subst hie;rw [show List.take 3 ([[97, 100, 100], [115, 117, 98], [109, 117, 108]] : List (List UInt8)) = ([[97, 100, 100], [115, 117, 98], [109, 117, 108]] : List (List UInt8)) from rfl] at hown;simp only [show ((3 : Nat) : Int) = 3 from rfl];have hle2 := hB.size;have hownA := hown.below ((Below.refl _ wr).alloc (nl _) (.cells #[str [100, 105, 118], str [109, 111, 100]] 9)) (nl _);have hbxA := heap_up (.cells #[str [100, 105, 118], str [109, 111, 100]] 9) hbx;have hssA : SS (fun b => b = wr.heap.size) (wr.alloc (.cells #[str [100, 105, 118], str [109, 111, 100]] 9)) (.slice (some ⟨wr.heap.size, 0, none⟩) 2 2) ([[100, 105, 118], [109, 111, 100]] : List (List UInt8)) := SS.new (fun b => b = wr.heap.size) wr rfl ([[100, 105, 118], [109, 111, 100]] : List (List UInt8)) 9 (0, 0) (by unfold maxLen; simp) (by intro s hs; simp only [List.mem_cons, List.not_mem_nil, or_false] at hs; rcases hs with rfl | rfl <;> simp [maxLen]);have hBA := hB.alloc hle2 (.cells #[str [100, 105, 118], str [109, 111, 100]] 9);have hneA : ∀ b, (Value.slice pv _ cv).ownBlock = some b → b ≠ wr.heap.size := fun b hb => by obtain ⟨cs, hcs, _⟩ := hown; have := ownsRow_lt hcs hb; omega
     clear hown hbx hss hB hne;go_wp2_with fail;generalize hNB : wr.heap.size = NB48 at *;generalize wr.alloc (.cells #[str [100, 105, 118], str [109, 111, 100]] 9) = WB at *;have hown := hownA;have hbx := hbxA;have hss := hssA;have hB := hBA;have hne := hneA;clear hownA hbxA hssA hBA hneA;go_loopw [3, 48] (fun v y wx => ∃ i : Nat, i ≤ 2 ∧ y = .int .i64 i ∧ OwnO w.heap.size wx v ((([⟨[101, 113, 117, 97, 108], ⟨false, [t, t], [98, 111, 111, 108], []⟩⟩, ⟨[108, 101], ⟨false, [t, t], [98, 111, 111, 108], []⟩⟩, ⟨[108, 116], ⟨false, [t, t], [98, 111, 111, 108], []⟩⟩] : List OpP) ++ ([[97, 100, 100], [115, 117, 98], [109, 117, 108]] : List (List UInt8)).map (fun n => (⟨n, ⟨false, [t, t], t, [[111, 118, 101, 114, 102, 108, 111, 119]]⟩⟩ : OpP))) ++ (([[100, 105, 118], [109, 111, 100]] : List (List UInt8)).take i).map (fun n => (⟨n, ⟨false, [t, t], t, [[122, 101, 114, 111, 100, 105, 118, 105, 100, 101]]⟩⟩ : OpP))) ∧ wx.heap[w.heap.size]? = some (.cells #[.map (some m), .slice q n c, .bool p, str t] 145 (0, 0)) ∧ SS (fun b => b = NB48) wx (.slice (some ⟨NB48, 0, none⟩) 2 2) ([[100, 105, 118], [109, 111, 100]] : List (List UInt8)) ∧ Below w.heap.size w wx ∧ ∀ b, v.ownBlock = some b → b ≠ NB48) (fun _ y _ => 2 - (intOf y).toNat)
     case atStart => exact ⟨0, by omega, by go_num, by simpa using hown, hbx, hss, hB, hne⟩
     case round =>
      clear hown hbx hss hB hne;obtain ⟨i, hi, rfl, hown, hbx, hss, hB, hne⟩ := hrel;obtain ⟨pv, cv, rfl⟩ := hown.shape
      by_cases hlt : i < 2
      case neg =>
       have hie : i = 2 := by omega
       subst hie;rw [show List.take 2 ([[100, 105, 118], [109, 111, 100]] : List (List UInt8)) = ([[100, 105, 118], [109, 111, 100]] : List (List UInt8)) from rfl] at hown;simp only [show ((2 : Nat) : Int) = 2 from rfl];go_wp2_with fail;go_ret;exact ⟨_, rfl, hown, hB⟩
      case pos =>
       obtain ⟨nm, hnm⟩ : ∃ nm, ([[100, 105, 118], [109, 111, 100]] : List (List UInt8))[i]? = some nm := ⟨_, List.getElem?_eq_getElem hlt⟩
       have hnl : nm.length ≤ maxLen := hss.le nm (List.mem_of_getElem? hnm);obtain ⟨b1, o1, hbe, _, hcn⟩ := hss.at hnm;have hle := hB.size;have hcx := (box4 hbx).1;have hT := Lib.hid (show ((([⟨[101, 113, 117, 97, 108], ⟨false, [t, t], [98, 111, 111, 108], []⟩⟩, ⟨[108, 101], ⟨false, [t, t], [98, 111, 111, 108], []⟩⟩, ⟨[108, 116], ⟨false, [t, t], [98, 111, 111, 108], []⟩⟩] : List OpP) ++ ([[97, 100, 100], [115, 117, 98], [109, 117, 108]] : List (List UInt8)).map (fun n => (⟨n, ⟨false, [t, t], t, [[111, 118, 101, 114, 102, 108, 111, 119]]⟩⟩ : OpP))) ++ (([[100, 105, 118], [109, 111, 100]] : List (List UInt8)).take i).map (fun n => (⟨n, ⟨false, [t, t], t, [[122, 101, 114, 111, 100, 105, 118, 105, 100, 101]]⟩⟩ : OpP))) ++ [(fun n => (⟨n, ⟨false, [t, t], t, [[122, 101, 114, 111, 100, 105, 118, 105, 100, 101]]⟩⟩ : OpP)) nm] = (([⟨[101, 113, 117, 97, 108], ⟨false, [t, t], [98, 111, 111, 108], []⟩⟩, ⟨[108, 101], ⟨false, [t, t], [98, 111, 111, 108], []⟩⟩, ⟨[108, 116], ⟨false, [t, t], [98, 111, 111, 108], []⟩⟩] : List OpP) ++ ([[97, 100, 100], [115, 117, 98], [109, 117, 108]] : List (List UInt8)).map (fun n => (⟨n, ⟨false, [t, t], t, [[111, 118, 101, 114, 102, 108, 111, 119]]⟩⟩ : OpP))) ++ (([[100, 105, 118], [109, 111, 100]] : List (List UInt8)).take (i + 1)).map (fun n => (⟨n, ⟨false, [t, t], t, [[122, 101, 114, 111, 100, 105, 118, 105, 100, 101]]⟩⟩ : OpP)) by rw [List.append_assoc, List.take_add_one, hnm]; simp);have hlen : ((([⟨[101, 113, 117, 97, 108], ⟨false, [t, t], [98, 111, 111, 108], []⟩⟩, ⟨[108, 101], ⟨false, [t, t], [98, 111, 111, 108], []⟩⟩, ⟨[108, 116], ⟨false, [t, t], [98, 111, 111, 108], []⟩⟩] : List OpP) ++ ([[97, 100, 100], [115, 117, 98], [109, 117, 108]] : List (List UInt8)).map (fun n => (⟨n, ⟨false, [t, t], t, [[111, 118, 101, 114, 102, 108, 111, 119]]⟩⟩ : OpP))) ++ (([[100, 105, 118], [109, 111, 100]] : List (List UInt8)).take i).map (fun n => (⟨n, ⟨false, [t, t], t, [[122, 101, 114, 111, 100, 105, 118, 105, 100, 101]]⟩⟩ : OpP))).length ≤ 20 := by simp; omega
       generalize ((([⟨[101, 113, 117, 97, 108], ⟨false, [t, t], [98, 111, 111, 108], []⟩⟩, ⟨[108, 101], ⟨false, [t, t], [98, 111, 111, 108], []⟩⟩, ⟨[108, 116], ⟨false, [t, t], [98, 111, 111, 108], []⟩⟩] : List OpP) ++ ([[97, 100, 100], [115, 117, 98], [109, 117, 108]] : List (List UInt8)).map (fun n => (⟨n, ⟨false, [t, t], t, [[111, 118, 101, 114, 102, 108, 111, 119]]⟩⟩ : OpP))) ++ (([[100, 105, 118], [109, 111, 100]] : List (List UInt8)).take i).map (fun n => (⟨n, ⟨false, [t, t], t, [[122, 101, 114, 111, 100, 105, 118, 105, 100, 101]]⟩⟩ : OpP))) = L at *;obtain ⟨cs, hcs, hC⟩ := hown;injection hbe with hbe;injection hbe with hb1 hb2;subst hb1 hb2;have hSw : SS (fun b => wr.heap.size ≤ b) (wr.alloc (.cells #[str t, str t] 9)) (.slice (some ⟨wr.heap.size, 0, none⟩) 2 2) [t, t] := SS.new _ wr (nl _) [t, t] 9 (0, 0) (by unfold maxLen; simp) (two_le ht ht);have hB2 := hB.alloc hle (.cells #[str t, str t] 9);have hcs2 := hcs.alloc (.cells #[str t, str t] 9);have hC2 := hC.below ((Below.refl _ wr).alloc (nl _) (.cells #[str t, str t] 9)) (nl _);have hbx2 := heap_up (.cells #[str t, str t] 9) hbx;have hss2 := hss.below ((Below.refl _ wr).alloc (nl _) (.cells #[str t, str t] 9)) (nl _);rw [Nat.zero_add] at hcn;clear hnm;go_wp2_with (first
        | (at_builtin; refine wpList_append_own2 (w4.alloc (.cells #[str nm, .bool false, .slice px 2 ca, str t, .slice py 1 cb] 50)) rfl _ _ 31 rfl w.heap.size 50 i0 _ 5 88 underOps hi0 hz0 hz1 hz2 rfl (by decide) _ _ cs rfl (hcs4.alloc _) ⟨w4.heap.size, 0, none⟩ 1 1 [str nm, .bool false, .slice px 2 ca, str t, .slice py 1 cb] rfl rfl (cells_new _ _ _) (by intro u hu; simp only [List.mem_cons, List.not_mem_nil, or_false] at hu; rcases hu with rfl | rfl | rfl | rfl | rfl <;> rfl) (by decide) (by unfold maxLen; omega) (by omega) (Nat.le_trans hB4.size (by simp)) ?_; intro v' w5 hown5 hgr hob)
        | (go_at_call 240; refine (raising_sig _ ⟨false, [t, t], t, []⟩ [122, 101, 114, 111, 100, 105, 118, 105, 100, 101] _ hu3 (by simp [maxLen]) (fun b hb => show wr.heap.size ≤ b by have := hb3.size; simp at this; omega)).mono ?_; rintro e w4 ⟨u4, rfl, ⟨a4, q4, rfl, l4, r4, s4⟩, hb4⟩; obtain ⟨px, ca, hpx, _⟩ := r4.shape; obtain ⟨py, cb, hpy, _⟩ := s4.shape; subst hpx hpy; have hcs4 := ownsRow_below hcs3 hb4 (nl _); have hC4 := hC3.below hb4 (nl _); have hbx4 := kept_call hbx3 hb4; have hss4 := hss3.below hb4 (nl _); have hB4 := hB3.trans (below_less hb4 hB3.size))
        | (go_at_call 239; refine (sig_sig _ [t, t] _ _ hSw ht).mono ?_; rintro e w3 ⟨u3, rfl, hu3, hb3⟩; have hcs3 := ownsRow_below hcs2 hb3 (nl _); have hC3 := hC2.below hb3 (nl _); have hbx3 := kept_call hbx2 hb3; have hss3 := hss2.below hb3 (nl _); have hB3 := hB2.trans (below_less hb3 hB2.size)))
       obtain ⟨h5a, h5b, h5c, h5d⟩ := own_step (x := ⟨nm, ⟨false, [t, t], t, [[122, 101, 114, 111, 100, 105, 118, 105, 100, 101]]⟩⟩) _ hB4 hcs4 hC4 ⟨_, _, [], rfl, ⟨hnl, l4⟩, r4.mono (fun b hb e => absurd (ownsRow_lt hcs e) (by omega)), s4.mono (fun b hb e => absurd (ownsRow_lt hcs e) (by omega)), rfl⟩ hown5 hgr hob;have hNl : NB48 < w4.heap.size := Nat.lt_of_lt_of_le (cell_lt hcn) (by have := hb3.size; have := hb4.size; simp at *; omega);refine ⟨⟨i + 1, hlt, by go_num, hT.out ▸ h5a, (h5c _ (heap_lt hbx4) (row_other hcs4 hbx4 (by decide))).trans hbx4, hss4.agree (fun b hb hlt => by subst hb; exact h5c _ hlt (fun e => hne _ e rfl)), h5b, fun b hb e => ?_⟩, by simp only [intOf]; omega⟩;subst e;rcases h5d _ hb with h | h
       · exact hne _ h rfl
       · omega
    case pos =>
     obtain ⟨nm, hnm⟩ : ∃ nm, ([[97, 100, 100], [115, 117, 98], [109, 117, 108]] : List (List UInt8))[i]? = some nm := ⟨_, List.getElem?_eq_getElem hlt⟩
     have hnl : nm.length ≤ maxLen := hss.le nm (List.mem_of_getElem? hnm);obtain ⟨b1, o1, hbe, _, hcn⟩ := hss.at hnm;have hle := hB.size;have hcx := (box4 hbx).1;have hT := Lib.hid (show (([⟨[101, 113, 117, 97, 108], ⟨false, [t, t], [98, 111, 111, 108], []⟩⟩, ⟨[108, 101], ⟨false, [t, t], [98, 111, 111, 108], []⟩⟩, ⟨[108, 116], ⟨false, [t, t], [98, 111, 111, 108], []⟩⟩] : List OpP) ++ (([[97, 100, 100], [115, 117, 98], [109, 117, 108]] : List (List UInt8)).take i).map (fun n => (⟨n, ⟨false, [t, t], t, [[111, 118, 101, 114, 102, 108, 111, 119]]⟩⟩ : OpP))) ++ [(fun n => (⟨n, ⟨false, [t, t], t, [[111, 118, 101, 114, 102, 108, 111, 119]]⟩⟩ : OpP)) nm] = ([⟨[101, 113, 117, 97, 108], ⟨false, [t, t], [98, 111, 111, 108], []⟩⟩, ⟨[108, 101], ⟨false, [t, t], [98, 111, 111, 108], []⟩⟩, ⟨[108, 116], ⟨false, [t, t], [98, 111, 111, 108], []⟩⟩] : List OpP) ++ (([[97, 100, 100], [115, 117, 98], [109, 117, 108]] : List (List UInt8)).take (i + 1)).map (fun n => (⟨n, ⟨false, [t, t], t, [[111, 118, 101, 114, 102, 108, 111, 119]]⟩⟩ : OpP)) by rw [List.append_assoc, List.take_add_one, hnm]; simp);have hlen : (([⟨[101, 113, 117, 97, 108], ⟨false, [t, t], [98, 111, 111, 108], []⟩⟩, ⟨[108, 101], ⟨false, [t, t], [98, 111, 111, 108], []⟩⟩, ⟨[108, 116], ⟨false, [t, t], [98, 111, 111, 108], []⟩⟩] : List OpP) ++ (([[97, 100, 100], [115, 117, 98], [109, 117, 108]] : List (List UInt8)).take i).map (fun n => (⟨n, ⟨false, [t, t], t, [[111, 118, 101, 114, 102, 108, 111, 119]]⟩⟩ : OpP))).length ≤ 20 := by simp; omega
     generalize (([⟨[101, 113, 117, 97, 108], ⟨false, [t, t], [98, 111, 111, 108], []⟩⟩, ⟨[108, 101], ⟨false, [t, t], [98, 111, 111, 108], []⟩⟩, ⟨[108, 116], ⟨false, [t, t], [98, 111, 111, 108], []⟩⟩] : List OpP) ++ (([[97, 100, 100], [115, 117, 98], [109, 117, 108]] : List (List UInt8)).take i).map (fun n => (⟨n, ⟨false, [t, t], t, [[111, 118, 101, 114, 102, 108, 111, 119]]⟩⟩ : OpP))) = L at *;obtain ⟨cs, hcs, hC⟩ := hown;injection hbe with hbe;injection hbe with hb1 hb2;subst hb1 hb2;have hSw : SS (fun b => wr.heap.size ≤ b) (wr.alloc (.cells #[str t, str t] 9)) (.slice (some ⟨wr.heap.size, 0, none⟩) 2 2) [t, t] := SS.new _ wr (nl _) [t, t] 9 (0, 0) (by unfold maxLen; simp) (two_le ht ht);have hB2 := hB.alloc hle (.cells #[str t, str t] 9);have hcs2 := hcs.alloc (.cells #[str t, str t] 9);have hC2 := hC.below ((Below.refl _ wr).alloc (nl _) (.cells #[str t, str t] 9)) (nl _);have hbx2 := heap_up (.cells #[str t, str t] 9) hbx;have hss2 := hss.below ((Below.refl _ wr).alloc (nl _) (.cells #[str t, str t] 9)) (nl _);rw [Nat.zero_add] at hcn;clear hnm;go_wp2_with (first
      | (at_builtin; refine wpList_append_own2 (w4.alloc (.cells #[str nm, .bool false, .slice px 2 ca, str t, .slice py 1 cb] 50)) rfl _ _ 31 rfl w.heap.size 50 i0 _ 5 88 underOps hi0 hz0 hz1 hz2 rfl (by decide) _ _ cs rfl (hcs4.alloc _) ⟨w4.heap.size, 0, none⟩ 1 1 [str nm, .bool false, .slice px 2 ca, str t, .slice py 1 cb] rfl rfl (cells_new _ _ _) (by intro u hu; simp only [List.mem_cons, List.not_mem_nil, or_false] at hu; rcases hu with rfl | rfl | rfl | rfl | rfl <;> rfl) (by decide) (by unfold maxLen; omega) (by omega) (Nat.le_trans hB4.size (by simp)) ?_; intro v' w5 hown5 hgr hob)
      | (go_at_call 240; refine (raising_sig _ ⟨false, [t, t], t, []⟩ [111, 118, 101, 114, 102, 108, 111, 119] _ hu3 (by simp [maxLen]) (fun b hb => show wr.heap.size ≤ b by have := hb3.size; simp at this; omega)).mono ?_; rintro e w4 ⟨u4, rfl, ⟨a4, q4, rfl, l4, r4, s4⟩, hb4⟩; obtain ⟨px, ca, hpx, _⟩ := r4.shape; obtain ⟨py, cb, hpy, _⟩ := s4.shape; subst hpx hpy; have hcs4 := ownsRow_below hcs3 hb4 (nl _); have hC4 := hC3.below hb4 (nl _); have hbx4 := kept_call hbx3 hb4; have hss4 := hss3.below hb4 (nl _); have hB4 := hB3.trans (below_less hb4 hB3.size))
      | (go_at_call 239; refine (sig_sig _ [t, t] _ _ hSw ht).mono ?_; rintro e w3 ⟨u3, rfl, hu3, hb3⟩; have hcs3 := ownsRow_below hcs2 hb3 (nl _); have hC3 := hC2.below hb3 (nl _); have hbx3 := kept_call hbx2 hb3; have hss3 := hss2.below hb3 (nl _); have hB3 := hB2.trans (below_less hb3 hB2.size)))
     obtain ⟨h5a, h5b, h5c, h5d⟩ := own_step (x := ⟨nm, ⟨false, [t, t], t, [[111, 118, 101, 114, 102, 108, 111, 119]]⟩⟩) _ hB4 hcs4 hC4 ⟨_, _, [], rfl, ⟨hnl, l4⟩, r4.mono (fun b hb e => absurd (ownsRow_lt hcs e) (by omega)), s4.mono (fun b hb e => absurd (ownsRow_lt hcs e) (by omega)), rfl⟩ hown5 hgr hob;have hNl : NB27 < w4.heap.size := Nat.lt_of_lt_of_le (cell_lt hcn) (by have := hb3.size; have := hb4.size; simp at *; omega);refine ⟨⟨i + 1, hlt, by go_num, hT.out ▸ h5a, (h5c _ (heap_lt hbx4) (row_other hcs4 hbx4 (by decide))).trans hbx4, hss4.agree (fun b hb hlt => by subst hb; exact h5c _ hlt (fun e => hne _ e rfl)), h5b, fun b hb e => ?_⟩, by simp only [intOf]; omega⟩;subst e;rcases h5d _ hb with h | h
     · exact hne _ h rfl
     · omega
end Go.Proofs.YtakgjcfkdemipaaGreatDoor
namespace Go.Proofs.YtakgjcfkdemipaaGreatDoor
open Go.RowKit
def RowO (D : Nat → Prop) (B : Nat) (w : World) (v : Value) (l : List OpP) : Prop := ∃ cs, w.ownsRow B 50 5 v l.length cs ∧ OpsC D w cs l
theorem RowO.below {D : Nat → Prop} {B K : Nat} {w w' : World} {v : Value} {l : List OpP} (h : RowO D B w v l) (hb : Below K w w') (hK : w.heap.size ≤ K) : RowO D B w' v l := by
 obtain ⟨cs, h1, h2⟩ := h
 exact ⟨cs, ownsRow_below h1 hb hK, h2.below hb hK⟩
theorem RowO.shape {D : Nat → Prop} {B : Nat} {w : World} {v : Value} {l : List OpP} (h : RowO D B w v l) : ∃ p c, v = .slice p l.length c := by
 obtain ⟨cs, h1, _⟩ := h
 exact row_shape h1
theorem row_newO {D : Nat → Prop} {B n : Nat} (w : World) (hB : B ≤ w.heap.size) {l : List OpP} {cs : List Value} (hn : l.length = n) (hm : n ≤ maxLen) (hc : OpsC D w cs l) : RowO D B (w.alloc (.cells cs.toArray 50)) (.slice (some ⟨w.heap.size, 0, none⟩) n n) l := by
 subst hn
 have hb := (Below.refl _ w).alloc (nl _) (.cells cs.toArray 50)
 exact ⟨cs, ⟨hc.length, .inr ⟨w.heap.size, l.length, cs.toArray, rfl, hB, heap_alloc_new w _, nl _, hm, by simpa using hc.length, by rw [← hc.length]; simp⟩⟩, hc.below hb (nl _)⟩
theorem OwnO.lt {B : Nat} {w : World} {v : Value} {l : List OpP} (h : OwnO B w v l) {b : Nat} (hb : v.ownBlock = some b) : B ≤ b ∧ b < w.heap.size := by
 obtain ⟨cs, h1, _⟩ := h
 exact h1.lt b hb
theorem OwnO.mono {B B' : Nat} {w : World} {v : Value} {l : List OpP} (h : OwnO B w v l) (hB : B' ≤ B) : OwnO B' w v l := by
 obtain ⟨cs, ⟨h1, h2⟩, h3⟩ := h
 refine ⟨cs, ⟨h1, ?_⟩, h3⟩
 rcases h2 with h2 | ⟨g, cap, cur, e, h2, h4⟩
 · exact .inl h2
 · exact .inr ⟨g, cap, cur, e, Nat.le_trans hB h2, h4⟩
theorem box2 {w : World} {b : Nat} {a0 a1 : Value} {t : TypeId} (h : w.heap[b]? = some (.cells #[a0, a1] t (0, 0))) : w.cell? ⟨b, 0, none⟩ = some a0 ∧ w.cell? ⟨b, 1, none⟩ = some a1 :=
 ⟨(cells_at h 0).trans rfl, (cells_at h 1).trans rfl⟩
theorem wp_append_row {o : Oper} {a : Act} {w : World} {K : Act → World → Prop} {Q : Exit → Act → World → Prop} (s x : Operand)
 (ho : o.op = .call { callee := .builtin .append, args := #[s, x], argTypes := #[31, 31] }) {B B' : Nat} {D : Nat → Prop} {v y : Value} {L k : List OpP}
 (hs : a.eval s = v) (hx : a.eval x = y) (hv : OwnO B w v L) (hy : RowO D B' w y k) (hk : 0 < k.length) (hD : ∀ b, D b → v.ownBlock ≠ some b) (hm : L.length + k.length ≤ 1000) (hB : B ≤ w.heap.size)
 (h : ∀ v' w', OwnO B w' v' (L ++ k) → Below B w w' → K (a.put o.dst v') w') : Oper.wp Tryz.prog o a w K Q := by
 obtain ⟨i0, hi0, hz0, hz1, hz2⟩ := finfo_parts infoOp
 obtain ⟨cs, hcs, hC⟩ := hv
 obtain ⟨ds, hy1, hy2⟩ := hy
 rcases hy1.2 with ⟨_, h0⟩ | ⟨g, cap, cur, rfl, _⟩
 · omega
 · have hmx : L.length + k.length ≤ maxLen := by unfold maxLen; omega
   obtain ⟨v', w', hr, h2, h3, h4⟩ := run_append_own2 (P := Tryz.prog) w B 31 o.type 50 i0 _ 5 88 underOps hi0 hz0 hz1 hz2 rfl (by decide) v L.length cs hcs ⟨g, 0, none⟩ k.length cap ds hy1.1 (fun j u hj => hy1.cells (g := g) rfl j u hj) hy2.one_cell hk hmx (by omega) hB;unfold Oper.wp execOp;simp only [ho, resolve, invoke, builtin, Sem.run_bind, Sem.run_pure, Result.andThen_ok, List.map_toArray, List.map_cons, List.map_nil, hs, hx, hr];refine h v' w' ?_ ((Below.refl _ w).grown h3 hB (fun b e => (hcs.lt b e).1) |> fun z => below_less z (nl _));exact OwnO.append hC (hy2.mono hD) h2 h3 h4
def OwnX (X : Nat → Prop) (B : Nat) (w : World) (v : Value) (l : List OpP) : Prop := ∃ cs, w.ownsRow B 50 5 v l.length cs ∧ OpsC (fun b => v.ownBlock ≠ some b ∧ ¬X b) w cs l
theorem OwnX.own {X : Nat → Prop} {B : Nat} {w : World} {v : Value} {l : List OpP} (h : OwnX X B w v l) : OwnO B w v l := by
 obtain ⟨cs, h1, h2⟩ := h
 exact ⟨cs, h1, h2.mono fun b hb => hb.1⟩
theorem OwnO.x {X : Nat → Prop} {B : Nat} {w : World} {v : Value} {l : List OpP} (h : OwnO B w v l) (hX : ∀ b, ¬X b) : OwnX X B w v l := by
 obtain ⟨cs, h1, h2⟩ := h
 exact ⟨cs, h1, h2.mono fun b hb => ⟨hb, hX b⟩⟩
theorem OwnX.below {X : Nat → Prop} {B K : Nat} {w w' : World} {v : Value} {l : List OpP} (h : OwnX X B w v l) (hb : Below K w w') (hK : w.heap.size ≤ K) : OwnX X B w' v l := by
 obtain ⟨cs, h1, h2⟩ := h
 exact ⟨cs, ownsRow_below h1 hb hK, h2.below hb hK⟩
theorem OwnX.shape {X : Nat → Prop} {B : Nat} {w : World} {v : Value} {l : List OpP} (h : OwnX X B w v l) : ∃ p c, v = .slice p l.length c := h.own.shape
theorem rows_ne {B B' k k' n n' : Nat} {e e' : TypeId} {w : World} {v v' : Value} {xs xs' : List Value} (h : w.ownsRow B e k v n xs) (h' : w.ownsRow B' e' k' v' n' xs') (hne : e ≠ e') : ∀ b, v.ownBlock = some b → v'.ownBlock ≠ some b := by
 intro b hb hb'
 rcases h.2 with ⟨rfl, _⟩ | ⟨g, cap, cur, rfl, _, hg, _⟩
 · cases hb
 · rcases h'.2 with ⟨rfl, _⟩ | ⟨g', cap', cur', rfl, _, hg', _⟩
   · cases hb'
   · simp only [Value.ownBlock, Option.some.injEq] at hb hb'
     subst hb;subst hb';rw [hg] at hg';injection hg' with hg';injection hg' with _ ht _;exact hne ht
theorem OwnX.append {X : Nat → Prop} {B : Nat} {W W' : World} {v v' : Value} {l k : List OpP} {ds cs : List Value} (hC : OpsC (fun b => v.ownBlock ≠ some b ∧ ¬X b) W cs l) (hk : OpsC (fun b => v.ownBlock ≠ some b ∧ ¬X b) W ds k) (h' : W'.ownsRow B 50 5 v' (l.length + k.length) (cs ++ ds)) (hg : W.grownBy W' v.ownBlock) (ho : v'.ownBlock = v.ownBlock ∨ v'.ownBlock = some W.heap.size) : OwnX X B W' v' (l ++ k) := by
 refine ⟨cs ++ ds, by rw [List.length_append]; exact h', ?_⟩
 have key : ∀ {l : List OpP} {cs : List Value}, OpsC (fun b => v.ownBlock ≠ some b ∧ ¬X b) W cs l → OpsC (fun b => v'.ownBlock ≠ some b ∧ ¬X b) W' cs l := by
  intro l cs hc;refine (hc.fresh.agree (w' := W') fun b hb hlt => hg.block b hlt fun e => hb.1.1 e.symm).mono fun b hb => ⟨fun e => ?_, hb.1.2⟩
  rcases ho with ho | ho
  · exact hb.1.1 (by rw [← ho]; exact e)
  · have h2 := hb.2
    rw [ho] at e;injection e with e;omega
 exact OpsC.append (key hk) (key hC)
theorem OwnX.grow {B : Nat} {W W' : World} {v a a' : Value} {l : List OpP} (h : OwnX (fun b => a.ownBlock = some b) B W v l) (hg : W.grownBy W' a.ownBlock) (hav : ∀ b, v.ownBlock = some b → a.ownBlock ≠ some b) (ho : a'.ownBlock = a.ownBlock ∨ a'.ownBlock = some W.heap.size) : OwnX (fun b => a'.ownBlock = some b) B W' v l := by
 obtain ⟨cs, h1, h2⟩ := h
 refine ⟨cs, ownsRow_of_block h1 (fun b hb => hg.block b (ownsRow_lt h1 hb) (fun e => hav b hb e.symm)), ?_⟩
 refine (h2.fresh.agree (w' := W') fun b hb hlt => hg.block b hlt fun e => hb.1.2 e.symm).mono fun b hb => ⟨hb.1.1, fun e => ?_⟩
 rcases ho with ho | ho
 · exact hb.1.2 (by rw [← ho]; exact e)
 · have h2 := hb.2
   rw [ho] at e;injection e with e;omega
theorem wp_append_rowX {o : Oper} {a : Act} {w : World} {K : Act → World → Prop} {Q : Exit → Act → World → Prop} (s x : Operand)
 (ho : o.op = .call { callee := .builtin .append, args := #[s, x], argTypes := #[31, 31] }) {X : Nat → Prop} {B B' : Nat} {D : Nat → Prop} {v y : Value} {L k : List OpP}
 (hs : a.eval s = v) (hx : a.eval x = y) (hv : OwnX X B w v L) (hy : RowO D B' w y k) (hk : 0 < k.length) (hD : ∀ b, D b → v.ownBlock ≠ some b ∧ ¬X b) (hm : L.length + k.length ≤ 1000) (hB : B ≤ w.heap.size)
 (h : ∀ v' w', OwnX X B w' v' (L ++ k) → Below B w w' → w.grownBy w' v.ownBlock → K (a.put o.dst v') w') : Oper.wp Tryz.prog o a w K Q := by
 obtain ⟨i0, hi0, hz0, hz1, hz2⟩ := finfo_parts infoOp
 obtain ⟨cs, hcs, hC⟩ := hv
 obtain ⟨ds, hy1, hy2⟩ := hy
 rcases hy1.2 with ⟨_, h0⟩ | ⟨g, cap, cur, rfl, _⟩
 · omega
 · have hmx : L.length + k.length ≤ maxLen := by unfold maxLen; omega
   obtain ⟨v', w', hr, h2, h3, h4⟩ := run_append_own2 (P := Tryz.prog) w B 31 o.type 50 i0 _ 5 88 underOps hi0 hz0 hz1 hz2 rfl (by decide) v L.length cs hcs ⟨g, 0, none⟩ k.length cap ds hy1.1 (fun j u hj => hy1.cells (g := g) rfl j u hj) hy2.one_cell hk hmx (by omega) hB;unfold Oper.wp execOp;simp only [ho, resolve, invoke, builtin, Sem.run_bind, Sem.run_pure, Result.andThen_ok, List.map_toArray, List.map_cons, List.map_nil, hs, hx, hr];refine h v' w' ?_ (below_less ((Below.refl _ w).grown h3 hB (fun b e => (hcs.lt b e).1)) (nl _)) h3;exact OwnX.append hC (hy2.mono hD) h2 h3 h4
end Go.Proofs.YtakgjcfkdemipaaGreatDoor
