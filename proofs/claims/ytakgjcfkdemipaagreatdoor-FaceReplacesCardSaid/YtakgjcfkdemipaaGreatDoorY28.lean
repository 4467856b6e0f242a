/-
  Contract: of the package face: (scope).raw. Condition: the type is one; the lengths; the faces lie apart; the variable strings.asciiSpace.
-/
import Derived.Test.YtakgjcfkdemipaaGreatDoorYn
import Derived.Test.YtakgjcfkdemipaaGreatDoorY16
import Derived.Test.YtakgjcfkdemipaaGreatDoorY27
namespace Go.Proofs.YtakgjcfkdemipaaGreatDoor
open Go.RowKit
def ScopeM (D : Nat → Prop) (w : World) (v : Value) (c : ScopeP) : Prop := ∃ m nv, v = .agg #[.map (some m), nv, .bool c.par] ∧ ShelfM D w m c.faces ∧ OpsM D w nv c.needs
theorem ScopeM.below {D : Nat → Prop} {K : Nat} {w w' : World} {v : Value} {c : ScopeP} (h : ScopeM D w v c) (hb : Below K w w') (hK : w.heap.size ≤ K) : ScopeM D w' v c := by
 obtain ⟨m, nv, h1, h2, h3⟩ := h
 exact ⟨m, nv, h1, h2.below hb hK, h3.below hb hK⟩
theorem ScopeM.shape {D : Nat → Prop} {w : World} {v : Value} {c : ScopeP} (h : ScopeM D w v c) : ∃ m q n, v = .agg #[.map (some m), .slice q c.needs.length n, .bool c.par] := by
 obtain ⟨m, nv, h1, h2, h3⟩ := h
 obtain ⟨p, c', rfl, _⟩ := h3.shape
 exact ⟨m, p, c', h1⟩
set_option maxRecDepth 8000 in
set_option maxHeartbeats 25600000 in
theorem raw_any {D : Nat → Prop} (c : ScopeP) (v : Value) (t : List UInt8) (w : World) (hv : ScopeM D w v c) (hty : TyOk t) (hT : Tab w) (ha : Apart c.faces) (hn : c.needs.length ≤ 100000) (hk : 1 ≤ (checkK t).2.k ∧ (checkK t).2.k ≤ 8) :
 Calls Tryz.prog 63 #[v, str t] w fun e w' => ∃ u, e = .returned (.tuple #[u, str (rawK c t).2]) ∧ OpsM (fun _ => True) w' u (rawK c t).1 ∧ Below w.heap.size w w' := by
 obtain ⟨m, nv, rfl, hs, hN⟩ := hv
 obtain ⟨q, cq, rfl, _⟩ := hN.shape
 have hbox := heap_alloc_new w (.cells #[.map (some m), .slice q c.needs.length cq, .bool c.par] 86)
 have hA := (Below.refl _ w).alloc (nl _) (.cells #[.map (some m), .slice q c.needs.length cq, .bool c.par] 86)
 have HC := kkind_any t hty.1 (w.alloc (.cells #[.map (some m), .slice q c.needs.length cq, .bool c.par] 86)) (hT.below hA (nl _))
 have hkk : (checkK t).2.k = 1 ∨ (checkK t).2.k = 2 ∨ (checkK t).2.k = 3 ∨ (checkK t).2.k = 4 ∨ (checkK t).2.k = 5 ∨ (checkK t).2.k = 6 ∨ (checkK t).2.k = 7 ∨ (checkK t).2.k = 8 := by omega
 clear hk
 rcases hkk with hk | hk | hk | hk | hk | hk | hk | hk
 · have HM : ∀ W, Below w.heap.size w W → Calls Tryz.prog 177 #[.agg #[.map (some m), .slice q c.needs.length cq, .bool c.par, str t]] W fun e W' => ∃ u, e = .returned u ∧ OpsM (fun _ => True) W' u (rawK c t).1 ∧ Below W.heap.size W W' := by
    intro W hW;refine (ints_any _ m _ _ t W ⟨rfl, _, _, _, rfl⟩ hty.1).mono ?_;rintro e w' ⟨u, rfl, hu, hb⟩;refine ⟨_, rfl, ?_, hb⟩;unfold rawK;rw [hk];exact hu.opsM
   have HM := Lib.hid HM;have hR2 := Lib.hid (show (rawK c t).2 = [] by unfold rawK; rw [hk]; rfl);generalize rawK c t = RK at *;rw [hk] at HC;generalize (checkK t).1 = CK at *;clear hk;go_enter Tryz.func63, Tryz.ntmps63;go_upto_region 5 with (first
    | (go_at_call 119; refine HC.mono ?_; clear HC; rintro e w1 ⟨rfl, hb1⟩))
   have HM := HM.out;have hbx1 := kept_call hbox hb1;have hB1 := hA.trans (below_less hb1 (by simp));have hbx2 := hbx1;have hB2 := hB1;clear hbox hA hb1 hbx1 hB1;refine wp_region_kept (S := fun w' => w'.heap[w.heap.size]? = some (.cells #[.map (some m), .slice q c.needs.length cq, .bool c.par] 86 (0, 0)) ∧ Below w.heap.size w w') (A := fun j v w' => match j with
    | 0 => v = .agg #[.nilFunc, .func (.func 177) #[] #[], .func (.func 178) #[] #[], .func (.func 179) #[] #[], .func (.func 180) #[] #[], .func (.func 181) #[] #[], .func (.func 182) #[] #[], .func (.func 183) #[] #[], .func (.func 184) #[] #[]]
    | 1 => v = .int .u8 1
    | 2 => v = .func (.func 177) #[] #[]
    | 3 => v = .agg #[.map (some m), .slice q c.needs.length cq, .bool c.par]
    | 4 => v = str t
    | 5 => v = .agg #[.map (some m), .slice q c.needs.length cq, .bool c.par, str t]
    | 6 => OpsM (fun _ => True) w' v RK.1
    | 7 => v = .string ⟨#[]⟩
    | 8 => OpsM (fun _ => True) w' v RK.1
    | 9 => v = .string ⟨#[]⟩
    | _ => True) (by kernel_rfl) (by kernel_rfl) (by kernel_rfl) ?_ (fun w1 w2 h hb => ⟨kept_call h.1 hb, h.2.trans (below_less hb h.2.size)⟩) ⟨hbx2, hB2.drew⟩ (steps_all ⟨?_, ?_, ?_, ?_, ?_, ?_, ?_, ?_, ?_, ?_, trivial⟩) ?_
   · intro j v w1 w2 h hb
     match j with
     | 0 => exact h
     | 1 => exact h
     | 2 => exact h
     | 3 => exact h
     | 4 => exact h
     | 5 => exact h
     | 6 => exact OpsM.below (show OpsM (fun _ => True) w1 v RK.1 from h) hb (nl _)
     | 7 => exact h
     | 8 => exact OpsM.below (show OpsM (fun _ => True) w1 v RK.1 from h) hb (nl _)
     | 9 => exact h
     | _ + 10 => trivial
   · intro x wx hS hd ho next hn
     have hc := box3 hS.1;clear hd ho;unfold Oper.wp;simp only [execOp];simp [go_sem];refine (ops_any wx).mono ?_;rintro e w3 ⟨rfl, hb⟩;exact hn _ _ rfl hb
   · intro x wx hS hd ho next hn
     have hc := box3 hS.1;have e6 : x.tmps[6]?.getD undef = .int .u8 1 := ev_at (ho 6 (out_of (by kernel_rfl)));clear hd ho;unfold Oper.wp;simp only [execOp];simp [go_sem, e6];exact hn _ _ rfl (Below.refl _ _)
   · intro x wx hS hd ho next hn
     have hc := box3 hS.1;have e22 : x.tmps[22]?.getD undef = .agg #[.nilFunc, .func (.func 177) #[] #[], .func (.func 178) #[] #[], .func (.func 179) #[] #[], .func (.func 180) #[] #[], .func (.func 181) #[] #[], .func (.func 182) #[] #[], .func (.func 183) #[] #[], .func (.func 184) #[] #[]] := ev_at (hd { on := 0, ground := .data } (by simp) rfl _ 22 rfl rfl);have e23 : x.tmps[23]?.getD undef = .int .u8 1 := ev_at (hd { on := 1, ground := .data } (by simp) rfl _ 23 rfl rfl);clear hd ho;unfold Oper.wp;simp only [execOp];simp [go_sem, e22, e23];exact hn _ _ rfl (Below.refl _ _)
   · intro x wx hS hd ho next hn
     have hc := box3 hS.1;have e2 : x.tmps[2]?.getD undef = .pointer (some ⟨w.heap.size, 0, none⟩) := ev_at (ho 2 (out_of (by kernel_rfl)));clear hd ho;unfold Oper.wp;simp only [execOp];simp [go_sem, e2, hc];exact hn _ _ rfl (Below.refl _ _)
   · intro x wx hS hd ho next hn
     have hc := box3 hS.1;have e1 : x.tmps[1]?.getD undef = str t := ev_at (ho 1 (out_of (by kernel_rfl)));clear hd ho;unfold Oper.wp;simp only [execOp];simp [go_sem, e1];exact hn _ _ rfl (Below.refl _ _)
   · intro x wx hS hd ho next hn
     have hc := box3 hS.1;have e25 : x.tmps[25]?.getD undef = .agg #[.map (some m), .slice q c.needs.length cq, .bool c.par] := ev_at (hd { on := 3, ground := .data } (by simp) rfl _ 25 rfl rfl);have e26 : x.tmps[26]?.getD undef = str t := ev_at (hd { on := 4, ground := .data } (by simp) rfl _ 26 rfl rfl);clear hd ho;unfold Oper.wp;simp only [execOp];simp [go_sem, e25, e26];exact hn _ _ rfl (Below.refl _ _)
   · intro x wx hS hd ho next hn
     have hc := box3 hS.1;have e24 : x.tmps[24]?.getD undef = .func (.func 177) #[] #[] := ev_at (hd { on := 2, ground := .data } (by simp) rfl _ 24 rfl rfl);have e27 : x.tmps[27]?.getD undef = .agg #[.map (some m), .slice q c.needs.length cq, .bool c.par, str t] := ev_at (hd { on := 5, ground := .data } (by simp) rfl _ 27 rfl rfl);clear hd ho;unfold Oper.wp;simp only [execOp];simp [go_sem, e24, e27];refine (HM wx hS.2).mono ?_;rintro e w3 ⟨u, rfl, hu, hb⟩;exact hn _ _ hu hb
   · intro x wx hS hd ho next hn
     have hc := box3 hS.1;have e8 : x.tmps[8]?.getD undef = .string ⟨#[]⟩ := ev_at (ho 8 (out_of (by kernel_rfl)));clear hd ho;unfold Oper.wp;simp only [execOp];simp [go_sem, e8];exact hn _ _ rfl (Below.refl _ _)
   · intro x wx hS hd ho next hn
     have hx : OpsM (fun _ => True) wx (x.eval (.tmp 28)) RK.1 := (hd { on := 6, ground := .data } (by simp) rfl _ 28 rfl rfl);clear hd ho;unfold Oper.wp;simp only [execOp];simp [go_sem];refine hn _ _ ?_ (Below.refl _ _)
     simpa [Act.eval] using hx
   · intro x wx hS hd ho next hn
     have hc := box3 hS.1;have e29 : x.tmps[29]?.getD undef = .string ⟨#[]⟩ := ev_at (hd { on := 7, ground := .data } (by simp) rfl _ 29 rfl rfl);clear hd ho;unfold Oper.wp;simp only [execOp];simp [go_sem, e29];exact hn _ _ rfl (Below.refl _ _)
   · intro x wx hdf hsz hout hS hA
     have hu : OpsM (fun _ => True) wx (x.tmps.getD 4 undef) RK.1 := hA 8 _ 4 rfl rfl;obtain ⟨p2, c2, e2, _⟩ := hu.shape;rw [e2] at hu;have e5 : x.tmps.getD 5 undef = .string ⟨#[]⟩ := hA 9 _ 5 rfl rfl;have ha := act_puts hdf hsz hout;rw [ha];simp only [putsOf, e2, e5, pz, pw];clear ha hA hout hdf hsz;go_wp2_with fail;go_ret2;rw [hR2.out];exact ⟨_, rfl, hu, hS.2⟩
 · have HM : ∀ W, Below w.heap.size w W → Calls Tryz.prog 178 #[.agg #[.map (some m), .slice q c.needs.length cq, .bool c.par, str t]] W fun e W' => ∃ u, e = .returned u ∧ OpsM (fun _ => True) W' u (rawK c t).1 ∧ Below W.heap.size W W' := by
    intro W hW;refine (bools_any _ m _ _ t W ⟨rfl, _, _, _, rfl⟩ hty.1).mono ?_;rintro e w' ⟨u, rfl, hu, hb⟩;refine ⟨_, rfl, ?_, hb⟩;unfold rawK;rw [hk];exact hu.opsM
   have HM := Lib.hid HM;have hR2 := Lib.hid (show (rawK c t).2 = [] by unfold rawK; rw [hk]; rfl);generalize rawK c t = RK at *;rw [hk] at HC;generalize (checkK t).1 = CK at *;clear hk;go_enter Tryz.func63, Tryz.ntmps63;go_upto_region 5 with (first
    | (go_at_call 119; refine HC.mono ?_; clear HC; rintro e w1 ⟨rfl, hb1⟩))
   have HM := HM.out;have hbx1 := kept_call hbox hb1;have hB1 := hA.trans (below_less hb1 (by simp));have hbx2 := hbx1;have hB2 := hB1;clear hbox hA hb1 hbx1 hB1;refine wp_region_kept (S := fun w' => w'.heap[w.heap.size]? = some (.cells #[.map (some m), .slice q c.needs.length cq, .bool c.par] 86 (0, 0)) ∧ Below w.heap.size w w') (A := fun j v w' => match j with
    | 0 => v = .agg #[.nilFunc, .func (.func 177) #[] #[], .func (.func 178) #[] #[], .func (.func 179) #[] #[], .func (.func 180) #[] #[], .func (.func 181) #[] #[], .func (.func 182) #[] #[], .func (.func 183) #[] #[], .func (.func 184) #[] #[]]
    | 1 => v = .int .u8 2
    | 2 => v = .func (.func 178) #[] #[]
    | 3 => v = .agg #[.map (some m), .slice q c.needs.length cq, .bool c.par]
    | 4 => v = str t
    | 5 => v = .agg #[.map (some m), .slice q c.needs.length cq, .bool c.par, str t]
    | 6 => OpsM (fun _ => True) w' v RK.1
    | 7 => v = .string ⟨#[]⟩
    | 8 => OpsM (fun _ => True) w' v RK.1
    | 9 => v = .string ⟨#[]⟩
    | _ => True) (by kernel_rfl) (by kernel_rfl) (by kernel_rfl) ?_ (fun w1 w2 h hb => ⟨kept_call h.1 hb, h.2.trans (below_less hb h.2.size)⟩) ⟨hbx2, hB2.drew⟩ (steps_all ⟨?_, ?_, ?_, ?_, ?_, ?_, ?_, ?_, ?_, ?_, trivial⟩) ?_
   · intro j v w1 w2 h hb
     match j with
     | 0 => exact h
     | 1 => exact h
     | 2 => exact h
     | 3 => exact h
     | 4 => exact h
     | 5 => exact h
     | 6 => exact OpsM.below (show OpsM (fun _ => True) w1 v RK.1 from h) hb (nl _)
     | 7 => exact h
     | 8 => exact OpsM.below (show OpsM (fun _ => True) w1 v RK.1 from h) hb (nl _)
     | 9 => exact h
     | _ + 10 => trivial
   · intro x wx hS hd ho next hn
     have hc := box3 hS.1;clear hd ho;unfold Oper.wp;simp only [execOp];simp [go_sem];refine (ops_any wx).mono ?_;rintro e w3 ⟨rfl, hb⟩;exact hn _ _ rfl hb
   · intro x wx hS hd ho next hn
     have hc := box3 hS.1;have e6 : x.tmps[6]?.getD undef = .int .u8 2 := ev_at (ho 6 (out_of (by kernel_rfl)));clear hd ho;unfold Oper.wp;simp only [execOp];simp [go_sem, e6];exact hn _ _ rfl (Below.refl _ _)
   · intro x wx hS hd ho next hn
     have hc := box3 hS.1;have e22 : x.tmps[22]?.getD undef = .agg #[.nilFunc, .func (.func 177) #[] #[], .func (.func 178) #[] #[], .func (.func 179) #[] #[], .func (.func 180) #[] #[], .func (.func 181) #[] #[], .func (.func 182) #[] #[], .func (.func 183) #[] #[], .func (.func 184) #[] #[]] := ev_at (hd { on := 0, ground := .data } (by simp) rfl _ 22 rfl rfl);have e23 : x.tmps[23]?.getD undef = .int .u8 2 := ev_at (hd { on := 1, ground := .data } (by simp) rfl _ 23 rfl rfl);clear hd ho;unfold Oper.wp;simp only [execOp];simp [go_sem, e22, e23];exact hn _ _ rfl (Below.refl _ _)
   · intro x wx hS hd ho next hn
     have hc := box3 hS.1;have e2 : x.tmps[2]?.getD undef = .pointer (some ⟨w.heap.size, 0, none⟩) := ev_at (ho 2 (out_of (by kernel_rfl)));clear hd ho;unfold Oper.wp;simp only [execOp];simp [go_sem, e2, hc];exact hn _ _ rfl (Below.refl _ _)
   · intro x wx hS hd ho next hn
     have hc := box3 hS.1;have e1 : x.tmps[1]?.getD undef = str t := ev_at (ho 1 (out_of (by kernel_rfl)));clear hd ho;unfold Oper.wp;simp only [execOp];simp [go_sem, e1];exact hn _ _ rfl (Below.refl _ _)
   · intro x wx hS hd ho next hn
     have hc := box3 hS.1;have e25 : x.tmps[25]?.getD undef = .agg #[.map (some m), .slice q c.needs.length cq, .bool c.par] := ev_at (hd { on := 3, ground := .data } (by simp) rfl _ 25 rfl rfl);have e26 : x.tmps[26]?.getD undef = str t := ev_at (hd { on := 4, ground := .data } (by simp) rfl _ 26 rfl rfl);clear hd ho;unfold Oper.wp;simp only [execOp];simp [go_sem, e25, e26];exact hn _ _ rfl (Below.refl _ _)
   · intro x wx hS hd ho next hn
     have hc := box3 hS.1;have e24 : x.tmps[24]?.getD undef = .func (.func 178) #[] #[] := ev_at (hd { on := 2, ground := .data } (by simp) rfl _ 24 rfl rfl);have e27 : x.tmps[27]?.getD undef = .agg #[.map (some m), .slice q c.needs.length cq, .bool c.par, str t] := ev_at (hd { on := 5, ground := .data } (by simp) rfl _ 27 rfl rfl);clear hd ho;unfold Oper.wp;simp only [execOp];simp [go_sem, e24, e27];refine (HM wx hS.2).mono ?_;rintro e w3 ⟨u, rfl, hu, hb⟩;exact hn _ _ hu hb
   · intro x wx hS hd ho next hn
     have hc := box3 hS.1;have e8 : x.tmps[8]?.getD undef = .string ⟨#[]⟩ := ev_at (ho 8 (out_of (by kernel_rfl)));clear hd ho;unfold Oper.wp;simp only [execOp];simp [go_sem, e8];exact hn _ _ rfl (Below.refl _ _)
   · intro x wx hS hd ho next hn
     have hx : OpsM (fun _ => True) wx (x.eval (.tmp 28)) RK.1 := (hd { on := 6, ground := .data } (by simp) rfl _ 28 rfl rfl);clear hd ho;unfold Oper.wp;simp only [execOp];simp [go_sem];refine hn _ _ ?_ (Below.refl _ _)
     simpa [Act.eval] using hx
   · intro x wx hS hd ho next hn
     have hc := box3 hS.1;have e29 : x.tmps[29]?.getD undef = .string ⟨#[]⟩ := ev_at (hd { on := 7, ground := .data } (by simp) rfl _ 29 rfl rfl);clear hd ho;unfold Oper.wp;simp only [execOp];simp [go_sem, e29];exact hn _ _ rfl (Below.refl _ _)
   · intro x wx hdf hsz hout hS hA
     have hu : OpsM (fun _ => True) wx (x.tmps.getD 4 undef) RK.1 := hA 8 _ 4 rfl rfl;obtain ⟨p2, c2, e2, _⟩ := hu.shape;rw [e2] at hu;have e5 : x.tmps.getD 5 undef = .string ⟨#[]⟩ := hA 9 _ 5 rfl rfl;have ha := act_puts hdf hsz hout;rw [ha];simp only [putsOf, e2, e5, pz, pw];clear ha hA hout hdf hsz;go_wp2_with fail;go_ret2;rw [hR2.out];exact ⟨_, rfl, hu, hS.2⟩
 · have HM : ∀ W, Below w.heap.size w W → Calls Tryz.prog 179 #[.agg #[.map (some m), .slice q c.needs.length cq, .bool c.par, str t]] W fun e W' => ∃ u, e = .returned u ∧ OpsM (fun _ => True) W' u (rawK c t).1 ∧ Below W.heap.size W W' := by
    intro W hW;refine (nulls_any _ m _ _ t W ⟨rfl, _, _, _, rfl⟩ hty.1).mono ?_;rintro e w' ⟨u, rfl, hu, hb⟩;refine ⟨_, rfl, ?_, hb⟩;unfold rawK;rw [hk];exact hu.opsM
   have HM := Lib.hid HM;have hR2 := Lib.hid (show (rawK c t).2 = [] by unfold rawK; rw [hk]; rfl);generalize rawK c t = RK at *;rw [hk] at HC;generalize (checkK t).1 = CK at *;clear hk;go_enter Tryz.func63, Tryz.ntmps63;go_upto_region 5 with (first
    | (go_at_call 119; refine HC.mono ?_; clear HC; rintro e w1 ⟨rfl, hb1⟩))
   have HM := HM.out;have hbx1 := kept_call hbox hb1;have hB1 := hA.trans (below_less hb1 (by simp));have hbx2 := hbx1;have hB2 := hB1;clear hbox hA hb1 hbx1 hB1;refine wp_region_kept (S := fun w' => w'.heap[w.heap.size]? = some (.cells #[.map (some m), .slice q c.needs.length cq, .bool c.par] 86 (0, 0)) ∧ Below w.heap.size w w') (A := fun j v w' => match j with
    | 0 => v = .agg #[.nilFunc, .func (.func 177) #[] #[], .func (.func 178) #[] #[], .func (.func 179) #[] #[], .func (.func 180) #[] #[], .func (.func 181) #[] #[], .func (.func 182) #[] #[], .func (.func 183) #[] #[], .func (.func 184) #[] #[]]
    | 1 => v = .int .u8 3
    | 2 => v = .func (.func 179) #[] #[]
    | 3 => v = .agg #[.map (some m), .slice q c.needs.length cq, .bool c.par]
    | 4 => v = str t
    | 5 => v = .agg #[.map (some m), .slice q c.needs.length cq, .bool c.par, str t]
    | 6 => OpsM (fun _ => True) w' v RK.1
    | 7 => v = .string ⟨#[]⟩
    | 8 => OpsM (fun _ => True) w' v RK.1
    | 9 => v = .string ⟨#[]⟩
    | _ => True) (by kernel_rfl) (by kernel_rfl) (by kernel_rfl) ?_ (fun w1 w2 h hb => ⟨kept_call h.1 hb, h.2.trans (below_less hb h.2.size)⟩) ⟨hbx2, hB2.drew⟩ (steps_all ⟨?_, ?_, ?_, ?_, ?_, ?_, ?_, ?_, ?_, ?_, trivial⟩) ?_
   · intro j v w1 w2 h hb
     match j with
     | 0 => exact h
     | 1 => exact h
     | 2 => exact h
     | 3 => exact h
     | 4 => exact h
     | 5 => exact h
     | 6 => exact OpsM.below (show OpsM (fun _ => True) w1 v RK.1 from h) hb (nl _)
     | 7 => exact h
     | 8 => exact OpsM.below (show OpsM (fun _ => True) w1 v RK.1 from h) hb (nl _)
     | 9 => exact h
     | _ + 10 => trivial
   · intro x wx hS hd ho next hn
     have hc := box3 hS.1;clear hd ho;unfold Oper.wp;simp only [execOp];simp [go_sem];refine (ops_any wx).mono ?_;rintro e w3 ⟨rfl, hb⟩;exact hn _ _ rfl hb
   · intro x wx hS hd ho next hn
     have hc := box3 hS.1;have e6 : x.tmps[6]?.getD undef = .int .u8 3 := ev_at (ho 6 (out_of (by kernel_rfl)));clear hd ho;unfold Oper.wp;simp only [execOp];simp [go_sem, e6];exact hn _ _ rfl (Below.refl _ _)
   · intro x wx hS hd ho next hn
     have hc := box3 hS.1;have e22 : x.tmps[22]?.getD undef = .agg #[.nilFunc, .func (.func 177) #[] #[], .func (.func 178) #[] #[], .func (.func 179) #[] #[], .func (.func 180) #[] #[], .func (.func 181) #[] #[], .func (.func 182) #[] #[], .func (.func 183) #[] #[], .func (.func 184) #[] #[]] := ev_at (hd { on := 0, ground := .data } (by simp) rfl _ 22 rfl rfl);have e23 : x.tmps[23]?.getD undef = .int .u8 3 := ev_at (hd { on := 1, ground := .data } (by simp) rfl _ 23 rfl rfl);clear hd ho;unfold Oper.wp;simp only [execOp];simp [go_sem, e22, e23];exact hn _ _ rfl (Below.refl _ _)
   · intro x wx hS hd ho next hn
     have hc := box3 hS.1;have e2 : x.tmps[2]?.getD undef = .pointer (some ⟨w.heap.size, 0, none⟩) := ev_at (ho 2 (out_of (by kernel_rfl)));clear hd ho;unfold Oper.wp;simp only [execOp];simp [go_sem, e2, hc];exact hn _ _ rfl (Below.refl _ _)
   · intro x wx hS hd ho next hn
     have hc := box3 hS.1;have e1 : x.tmps[1]?.getD undef = str t := ev_at (ho 1 (out_of (by kernel_rfl)));clear hd ho;unfold Oper.wp;simp only [execOp];simp [go_sem, e1];exact hn _ _ rfl (Below.refl _ _)
   · intro x wx hS hd ho next hn
     have hc := box3 hS.1;have e25 : x.tmps[25]?.getD undef = .agg #[.map (some m), .slice q c.needs.length cq, .bool c.par] := ev_at (hd { on := 3, ground := .data } (by simp) rfl _ 25 rfl rfl);have e26 : x.tmps[26]?.getD undef = str t := ev_at (hd { on := 4, ground := .data } (by simp) rfl _ 26 rfl rfl);clear hd ho;unfold Oper.wp;simp only [execOp];simp [go_sem, e25, e26];exact hn _ _ rfl (Below.refl _ _)
   · intro x wx hS hd ho next hn
     have hc := box3 hS.1;have e24 : x.tmps[24]?.getD undef = .func (.func 179) #[] #[] := ev_at (hd { on := 2, ground := .data } (by simp) rfl _ 24 rfl rfl);have e27 : x.tmps[27]?.getD undef = .agg #[.map (some m), .slice q c.needs.length cq, .bool c.par, str t] := ev_at (hd { on := 5, ground := .data } (by simp) rfl _ 27 rfl rfl);clear hd ho;unfold Oper.wp;simp only [execOp];simp [go_sem, e24, e27];refine (HM wx hS.2).mono ?_;rintro e w3 ⟨u, rfl, hu, hb⟩;exact hn _ _ hu hb
   · intro x wx hS hd ho next hn
     have hc := box3 hS.1;have e8 : x.tmps[8]?.getD undef = .string ⟨#[]⟩ := ev_at (ho 8 (out_of (by kernel_rfl)));clear hd ho;unfold Oper.wp;simp only [execOp];simp [go_sem, e8];exact hn _ _ rfl (Below.refl _ _)
   · intro x wx hS hd ho next hn
     have hx : OpsM (fun _ => True) wx (x.eval (.tmp 28)) RK.1 := (hd { on := 6, ground := .data } (by simp) rfl _ 28 rfl rfl);clear hd ho;unfold Oper.wp;simp only [execOp];simp [go_sem];refine hn _ _ ?_ (Below.refl _ _)
     simpa [Act.eval] using hx
   · intro x wx hS hd ho next hn
     have hc := box3 hS.1;have e29 : x.tmps[29]?.getD undef = .string ⟨#[]⟩ := ev_at (hd { on := 7, ground := .data } (by simp) rfl _ 29 rfl rfl);clear hd ho;unfold Oper.wp;simp only [execOp];simp [go_sem, e29];exact hn _ _ rfl (Below.refl _ _)
   · intro x wx hdf hsz hout hS hA
     have hu : OpsM (fun _ => True) wx (x.tmps.getD 4 undef) RK.1 := hA 8 _ 4 rfl rfl;obtain ⟨p2, c2, e2, _⟩ := hu.shape;rw [e2] at hu;have e5 : x.tmps.getD 5 undef = .string ⟨#[]⟩ := hA 9 _ 5 rfl rfl;have ha := act_puts hdf hsz hout;rw [ha];simp only [putsOf, e2, e5, pz, pw];clear ha hA hout hdf hsz;go_wp2_with fail;go_ret2;rw [hR2.out];exact ⟨_, rfl, hu, hS.2⟩
 · have HM : ∀ W, Below w.heap.size w W → Calls Tryz.prog 180 #[.agg #[.map (some m), .slice q c.needs.length cq, .bool c.par, str t]] W fun e W' => ∃ u, e = .returned u ∧ OpsM (fun _ => True) W' u (rawK c t).1 ∧ Below W.heap.size W W' := by
    intro W hW;refine (arrays_any _ m _ _ t W (hT.below hW (nl _)) hty.2.1 ⟨rfl, _, _, _, rfl⟩ hty.1).mono ?_;rintro e w' ⟨u, rfl, hu, hb⟩;refine ⟨_, rfl, ?_, hb⟩;unfold rawK;rw [hk];exact hu.opsM
   have HM := Lib.hid HM;have hR2 := Lib.hid (show (rawK c t).2 = [] by unfold rawK; rw [hk]; rfl);generalize rawK c t = RK at *;rw [hk] at HC;generalize (checkK t).1 = CK at *;clear hk;go_enter Tryz.func63, Tryz.ntmps63;go_upto_region 5 with (first
    | (go_at_call 119; refine HC.mono ?_; clear HC; rintro e w1 ⟨rfl, hb1⟩))
   have HM := HM.out;have hbx1 := kept_call hbox hb1;have hB1 := hA.trans (below_less hb1 (by simp));have hbx2 := hbx1;have hB2 := hB1;clear hbox hA hb1 hbx1 hB1;refine wp_region_kept (S := fun w' => w'.heap[w.heap.size]? = some (.cells #[.map (some m), .slice q c.needs.length cq, .bool c.par] 86 (0, 0)) ∧ Below w.heap.size w w') (A := fun j v w' => match j with
    | 0 => v = .agg #[.nilFunc, .func (.func 177) #[] #[], .func (.func 178) #[] #[], .func (.func 179) #[] #[], .func (.func 180) #[] #[], .func (.func 181) #[] #[], .func (.func 182) #[] #[], .func (.func 183) #[] #[], .func (.func 184) #[] #[]]
    | 1 => v = .int .u8 4
    | 2 => v = .func (.func 180) #[] #[]
    | 3 => v = .agg #[.map (some m), .slice q c.needs.length cq, .bool c.par]
    | 4 => v = str t
    | 5 => v = .agg #[.map (some m), .slice q c.needs.length cq, .bool c.par, str t]
    | 6 => OpsM (fun _ => True) w' v RK.1
    | 7 => v = .string ⟨#[]⟩
    | 8 => OpsM (fun _ => True) w' v RK.1
    | 9 => v = .string ⟨#[]⟩
    | _ => True) (by kernel_rfl) (by kernel_rfl) (by kernel_rfl) ?_ (fun w1 w2 h hb => ⟨kept_call h.1 hb, h.2.trans (below_less hb h.2.size)⟩) ⟨hbx2, hB2.drew⟩ (steps_all ⟨?_, ?_, ?_, ?_, ?_, ?_, ?_, ?_, ?_, ?_, trivial⟩) ?_
   · intro j v w1 w2 h hb
     match j with
     | 0 => exact h
     | 1 => exact h
     | 2 => exact h
     | 3 => exact h
     | 4 => exact h
     | 5 => exact h
     | 6 => exact OpsM.below (show OpsM (fun _ => True) w1 v RK.1 from h) hb (nl _)
     | 7 => exact h
     | 8 => exact OpsM.below (show OpsM (fun _ => True) w1 v RK.1 from h) hb (nl _)
     | 9 => exact h
     | _ + 10 => trivial
   · intro x wx hS hd ho next hn
     have hc := box3 hS.1;clear hd ho;unfold Oper.wp;simp only [execOp];simp [go_sem];refine (ops_any wx).mono ?_;rintro e w3 ⟨rfl, hb⟩;exact hn _ _ rfl hb
   · intro x wx hS hd ho next hn
     have hc := box3 hS.1;have e6 : x.tmps[6]?.getD undef = .int .u8 4 := ev_at (ho 6 (out_of (by kernel_rfl)));clear hd ho;unfold Oper.wp;simp only [execOp];simp [go_sem, e6];exact hn _ _ rfl (Below.refl _ _)
   · intro x wx hS hd ho next hn
     have hc := box3 hS.1;have e22 : x.tmps[22]?.getD undef = .agg #[.nilFunc, .func (.func 177) #[] #[], .func (.func 178) #[] #[], .func (.func 179) #[] #[], .func (.func 180) #[] #[], .func (.func 181) #[] #[], .func (.func 182) #[] #[], .func (.func 183) #[] #[], .func (.func 184) #[] #[]] := ev_at (hd { on := 0, ground := .data } (by simp) rfl _ 22 rfl rfl);have e23 : x.tmps[23]?.getD undef = .int .u8 4 := ev_at (hd { on := 1, ground := .data } (by simp) rfl _ 23 rfl rfl);clear hd ho;unfold Oper.wp;simp only [execOp];simp [go_sem, e22, e23];exact hn _ _ rfl (Below.refl _ _)
   · intro x wx hS hd ho next hn
     have hc := box3 hS.1;have e2 : x.tmps[2]?.getD undef = .pointer (some ⟨w.heap.size, 0, none⟩) := ev_at (ho 2 (out_of (by kernel_rfl)));clear hd ho;unfold Oper.wp;simp only [execOp];simp [go_sem, e2, hc];exact hn _ _ rfl (Below.refl _ _)
   · intro x wx hS hd ho next hn
     have hc := box3 hS.1;have e1 : x.tmps[1]?.getD undef = str t := ev_at (ho 1 (out_of (by kernel_rfl)));clear hd ho;unfold Oper.wp;simp only [execOp];simp [go_sem, e1];exact hn _ _ rfl (Below.refl _ _)
   · intro x wx hS hd ho next hn
     have hc := box3 hS.1;have e25 : x.tmps[25]?.getD undef = .agg #[.map (some m), .slice q c.needs.length cq, .bool c.par] := ev_at (hd { on := 3, ground := .data } (by simp) rfl _ 25 rfl rfl);have e26 : x.tmps[26]?.getD undef = str t := ev_at (hd { on := 4, ground := .data } (by simp) rfl _ 26 rfl rfl);clear hd ho;unfold Oper.wp;simp only [execOp];simp [go_sem, e25, e26];exact hn _ _ rfl (Below.refl _ _)
   · intro x wx hS hd ho next hn
     have hc := box3 hS.1;have e24 : x.tmps[24]?.getD undef = .func (.func 180) #[] #[] := ev_at (hd { on := 2, ground := .data } (by simp) rfl _ 24 rfl rfl);have e27 : x.tmps[27]?.getD undef = .agg #[.map (some m), .slice q c.needs.length cq, .bool c.par, str t] := ev_at (hd { on := 5, ground := .data } (by simp) rfl _ 27 rfl rfl);clear hd ho;unfold Oper.wp;simp only [execOp];simp [go_sem, e24, e27];refine (HM wx hS.2).mono ?_;rintro e w3 ⟨u, rfl, hu, hb⟩;exact hn _ _ hu hb
   · intro x wx hS hd ho next hn
     have hc := box3 hS.1;have e8 : x.tmps[8]?.getD undef = .string ⟨#[]⟩ := ev_at (ho 8 (out_of (by kernel_rfl)));clear hd ho;unfold Oper.wp;simp only [execOp];simp [go_sem, e8];exact hn _ _ rfl (Below.refl _ _)
   · intro x wx hS hd ho next hn
     have hx : OpsM (fun _ => True) wx (x.eval (.tmp 28)) RK.1 := (hd { on := 6, ground := .data } (by simp) rfl _ 28 rfl rfl);clear hd ho;unfold Oper.wp;simp only [execOp];simp [go_sem];refine hn _ _ ?_ (Below.refl _ _)
     simpa [Act.eval] using hx
   · intro x wx hS hd ho next hn
     have hc := box3 hS.1;have e29 : x.tmps[29]?.getD undef = .string ⟨#[]⟩ := ev_at (hd { on := 7, ground := .data } (by simp) rfl _ 29 rfl rfl);clear hd ho;unfold Oper.wp;simp only [execOp];simp [go_sem, e29];exact hn _ _ rfl (Below.refl _ _)
   · intro x wx hdf hsz hout hS hA
     have hu : OpsM (fun _ => True) wx (x.tmps.getD 4 undef) RK.1 := hA 8 _ 4 rfl rfl;obtain ⟨p2, c2, e2, _⟩ := hu.shape;rw [e2] at hu;have e5 : x.tmps.getD 5 undef = .string ⟨#[]⟩ := hA 9 _ 5 rfl rfl;have ha := act_puts hdf hsz hout;rw [ha];simp only [putsOf, e2, e5, pz, pw];clear ha hA hout hdf hsz;go_wp2_with fail;go_ret2;rw [hR2.out];exact ⟨_, rfl, hu, hS.2⟩
 · have HM : ∀ W, Below w.heap.size w W → Calls Tryz.prog 181 #[.agg #[.map (some m), .slice q c.needs.length cq, .bool c.par, str t]] W fun e W' => ∃ u, e = .returned u ∧ OpsM (fun _ => True) W' u (rawK c t).1 ∧ Below W.heap.size W W' := by
    intro W hW;refine (records_any _ m _ _ t W (hT.below hW (nl _)) hty.2.2.2.1 hty.2.2.2.2 ⟨rfl, _, _, _, rfl⟩ hty.1).mono ?_;rintro e w' ⟨u, rfl, hu, hb⟩;refine ⟨_, rfl, ?_, hb⟩;unfold rawK;rw [hk];exact hu.opsM
   have HM := Lib.hid HM;have hR2 := Lib.hid (show (rawK c t).2 = [] by unfold rawK; rw [hk]; rfl);generalize rawK c t = RK at *;rw [hk] at HC;generalize (checkK t).1 = CK at *;clear hk;go_enter Tryz.func63, Tryz.ntmps63;go_upto_region 5 with (first
    | (go_at_call 119; refine HC.mono ?_; clear HC; rintro e w1 ⟨rfl, hb1⟩))
   have HM := HM.out;have hbx1 := kept_call hbox hb1;have hB1 := hA.trans (below_less hb1 (by simp));have hbx2 := hbx1;have hB2 := hB1;clear hbox hA hb1 hbx1 hB1;refine wp_region_kept (S := fun w' => w'.heap[w.heap.size]? = some (.cells #[.map (some m), .slice q c.needs.length cq, .bool c.par] 86 (0, 0)) ∧ Below w.heap.size w w') (A := fun j v w' => match j with
    | 0 => v = .agg #[.nilFunc, .func (.func 177) #[] #[], .func (.func 178) #[] #[], .func (.func 179) #[] #[], .func (.func 180) #[] #[], .func (.func 181) #[] #[], .func (.func 182) #[] #[], .func (.func 183) #[] #[], .func (.func 184) #[] #[]]
    | 1 => v = .int .u8 5
    | 2 => v = .func (.func 181) #[] #[]
    | 3 => v = .agg #[.map (some m), .slice q c.needs.length cq, .bool c.par]
    | 4 => v = str t
    | 5 => v = .agg #[.map (some m), .slice q c.needs.length cq, .bool c.par, str t]
    | 6 => OpsM (fun _ => True) w' v RK.1
    | 7 => v = .string ⟨#[]⟩
    | 8 => OpsM (fun _ => True) w' v RK.1
    | 9 => v = .string ⟨#[]⟩
    | _ => True) (by kernel_rfl) (by kernel_rfl) (by kernel_rfl) ?_ (fun w1 w2 h hb => ⟨kept_call h.1 hb, h.2.trans (below_less hb h.2.size)⟩) ⟨hbx2, hB2.drew⟩ (steps_all ⟨?_, ?_, ?_, ?_, ?_, ?_, ?_, ?_, ?_, ?_, trivial⟩) ?_
   · intro j v w1 w2 h hb
     match j with
     | 0 => exact h
     | 1 => exact h
     | 2 => exact h
     | 3 => exact h
     | 4 => exact h
     | 5 => exact h
     | 6 => exact OpsM.below (show OpsM (fun _ => True) w1 v RK.1 from h) hb (nl _)
     | 7 => exact h
     | 8 => exact OpsM.below (show OpsM (fun _ => True) w1 v RK.1 from h) hb (nl _)
     | 9 => exact h
     | _ + 10 => trivial
   · intro x wx hS hd ho next hn
     have hc := box3 hS.1;clear hd ho;unfold Oper.wp;simp only [execOp];simp [go_sem];refine (ops_any wx).mono ?_;rintro e w3 ⟨rfl, hb⟩;exact hn _ _ rfl hb
   · intro x wx hS hd ho next hn
     have hc := box3 hS.1;have e6 : x.tmps[6]?.getD undef = .int .u8 5 := ev_at (ho 6 (out_of (by kernel_rfl)));clear hd ho;unfold Oper.wp;simp only [execOp];simp [go_sem, e6];exact hn _ _ rfl (Below.refl _ _)
   · intro x wx hS hd ho next hn
     have hc := box3 hS.1;have e22 : x.tmps[22]?.getD undef = .agg #[.nilFunc, .func (.func 177) #[] #[], .func (.func 178) #[] #[], .func (.func 179) #[] #[], .func (.func 180) #[] #[], .func (.func 181) #[] #[], .func (.func 182) #[] #[], .func (.func 183) #[] #[], .func (.func 184) #[] #[]] := ev_at (hd { on := 0, ground := .data } (by simp) rfl _ 22 rfl rfl);have e23 : x.tmps[23]?.getD undef = .int .u8 5 := ev_at (hd { on := 1, ground := .data } (by simp) rfl _ 23 rfl rfl);clear hd ho;unfold Oper.wp;simp only [execOp];simp [go_sem, e22, e23];exact hn _ _ rfl (Below.refl _ _)
   · intro x wx hS hd ho next hn
     have hc := box3 hS.1;have e2 : x.tmps[2]?.getD undef = .pointer (some ⟨w.heap.size, 0, none⟩) := ev_at (ho 2 (out_of (by kernel_rfl)));clear hd ho;unfold Oper.wp;simp only [execOp];simp [go_sem, e2, hc];exact hn _ _ rfl (Below.refl _ _)
   · intro x wx hS hd ho next hn
     have hc := box3 hS.1;have e1 : x.tmps[1]?.getD undef = str t := ev_at (ho 1 (out_of (by kernel_rfl)));clear hd ho;unfold Oper.wp;simp only [execOp];simp [go_sem, e1];exact hn _ _ rfl (Below.refl _ _)
   · intro x wx hS hd ho next hn
     have hc := box3 hS.1;have e25 : x.tmps[25]?.getD undef = .agg #[.map (some m), .slice q c.needs.length cq, .bool c.par] := ev_at (hd { on := 3, ground := .data } (by simp) rfl _ 25 rfl rfl);have e26 : x.tmps[26]?.getD undef = str t := ev_at (hd { on := 4, ground := .data } (by simp) rfl _ 26 rfl rfl);clear hd ho;unfold Oper.wp;simp only [execOp];simp [go_sem, e25, e26];exact hn _ _ rfl (Below.refl _ _)
   · intro x wx hS hd ho next hn
     have hc := box3 hS.1;have e24 : x.tmps[24]?.getD undef = .func (.func 181) #[] #[] := ev_at (hd { on := 2, ground := .data } (by simp) rfl _ 24 rfl rfl);have e27 : x.tmps[27]?.getD undef = .agg #[.map (some m), .slice q c.needs.length cq, .bool c.par, str t] := ev_at (hd { on := 5, ground := .data } (by simp) rfl _ 27 rfl rfl);clear hd ho;unfold Oper.wp;simp only [execOp];simp [go_sem, e24, e27];refine (HM wx hS.2).mono ?_;rintro e w3 ⟨u, rfl, hu, hb⟩;exact hn _ _ hu hb
   · intro x wx hS hd ho next hn
     have hc := box3 hS.1;have e8 : x.tmps[8]?.getD undef = .string ⟨#[]⟩ := ev_at (ho 8 (out_of (by kernel_rfl)));clear hd ho;unfold Oper.wp;simp only [execOp];simp [go_sem, e8];exact hn _ _ rfl (Below.refl _ _)
   · intro x wx hS hd ho next hn
     have hx : OpsM (fun _ => True) wx (x.eval (.tmp 28)) RK.1 := (hd { on := 6, ground := .data } (by simp) rfl _ 28 rfl rfl);clear hd ho;unfold Oper.wp;simp only [execOp];simp [go_sem];refine hn _ _ ?_ (Below.refl _ _)
     simpa [Act.eval] using hx
   · intro x wx hS hd ho next hn
     have hc := box3 hS.1;have e29 : x.tmps[29]?.getD undef = .string ⟨#[]⟩ := ev_at (hd { on := 7, ground := .data } (by simp) rfl _ 29 rfl rfl);clear hd ho;unfold Oper.wp;simp only [execOp];simp [go_sem, e29];exact hn _ _ rfl (Below.refl _ _)
   · intro x wx hdf hsz hout hS hA
     have hu : OpsM (fun _ => True) wx (x.tmps.getD 4 undef) RK.1 := hA 8 _ 4 rfl rfl;obtain ⟨p2, c2, e2, _⟩ := hu.shape;rw [e2] at hu;have e5 : x.tmps.getD 5 undef = .string ⟨#[]⟩ := hA 9 _ 5 rfl rfl;have ha := act_puts hdf hsz hout;rw [ha];simp only [putsOf, e2, e5, pz, pw];clear ha hA hout hdf hsz;go_wp2_with fail;go_ret2;rw [hR2.out];exact ⟨_, rfl, hu, hS.2⟩
 · have HM : ∀ W, Below w.heap.size w W → Calls Tryz.prog 182 #[.agg #[.map (some m), .slice q c.needs.length cq, .bool c.par, str t]] W fun e W' => ∃ u, e = .returned u ∧ OpsM (fun _ => True) W' u (rawK c t).1 ∧ Below W.heap.size W W' := by
    intro W hW;refine (oneofs_any _ m _ _ t W (hT.below hW (nl _)) hty.2.2.2.1 hty.2.2.2.2 ⟨rfl, _, _, _, rfl⟩ hty.1).mono ?_;rintro e w' ⟨u, rfl, hu, hb⟩;refine ⟨_, rfl, ?_, hb⟩;unfold rawK;rw [hk];exact hu.opsM
   have HM := Lib.hid HM;have hR2 := Lib.hid (show (rawK c t).2 = [] by unfold rawK; rw [hk]; rfl);generalize rawK c t = RK at *;rw [hk] at HC;generalize (checkK t).1 = CK at *;clear hk;go_enter Tryz.func63, Tryz.ntmps63;go_upto_region 5 with (first
    | (go_at_call 119; refine HC.mono ?_; clear HC; rintro e w1 ⟨rfl, hb1⟩))
   have HM := HM.out;have hbx1 := kept_call hbox hb1;have hB1 := hA.trans (below_less hb1 (by simp));have hbx2 := hbx1;have hB2 := hB1;clear hbox hA hb1 hbx1 hB1;refine wp_region_kept (S := fun w' => w'.heap[w.heap.size]? = some (.cells #[.map (some m), .slice q c.needs.length cq, .bool c.par] 86 (0, 0)) ∧ Below w.heap.size w w') (A := fun j v w' => match j with
    | 0 => v = .agg #[.nilFunc, .func (.func 177) #[] #[], .func (.func 178) #[] #[], .func (.func 179) #[] #[], .func (.func 180) #[] #[], .func (.func 181) #[] #[], .func (.func 182) #[] #[], .func (.func 183) #[] #[], .func (.func 184) #[] #[]]
    | 1 => v = .int .u8 6
    | 2 => v = .func (.func 182) #[] #[]
    | 3 => v = .agg #[.map (some m), .slice q c.needs.length cq, .bool c.par]
    | 4 => v = str t
    | 5 => v = .agg #[.map (some m), .slice q c.needs.length cq, .bool c.par, str t]
    | 6 => OpsM (fun _ => True) w' v RK.1
    | 7 => v = .string ⟨#[]⟩
    | 8 => OpsM (fun _ => True) w' v RK.1
    | 9 => v = .string ⟨#[]⟩
    | _ => True) (by kernel_rfl) (by kernel_rfl) (by kernel_rfl) ?_ (fun w1 w2 h hb => ⟨kept_call h.1 hb, h.2.trans (below_less hb h.2.size)⟩) ⟨hbx2, hB2.drew⟩ (steps_all ⟨?_, ?_, ?_, ?_, ?_, ?_, ?_, ?_, ?_, ?_, trivial⟩) ?_
   · intro j v w1 w2 h hb
     match j with
     | 0 => exact h
     | 1 => exact h
     | 2 => exact h
     | 3 => exact h
     | 4 => exact h
     | 5 => exact h
     | 6 => exact OpsM.below (show OpsM (fun _ => True) w1 v RK.1 from h) hb (nl _)
     | 7 => exact h
     | 8 => exact OpsM.below (show OpsM (fun _ => True) w1 v RK.1 from h) hb (nl _)
     | 9 => exact h
     | _ + 10 => trivial
   · intro x wx hS hd ho next hn
     have hc := box3 hS.1;clear hd ho;unfold Oper.wp;simp only [execOp];simp [go_sem];refine (ops_any wx).mono ?_;rintro e w3 ⟨rfl, hb⟩;exact hn _ _ rfl hb
   · intro x wx hS hd ho next hn
     have hc := box3 hS.1;have e6 : x.tmps[6]?.getD undef = .int .u8 6 := ev_at (ho 6 (out_of (by kernel_rfl)));clear hd ho;unfold Oper.wp;simp only [execOp];simp [go_sem, e6];exact hn _ _ rfl (Below.refl _ _)
   · intro x wx hS hd ho next hn
     have hc := box3 hS.1;have e22 : x.tmps[22]?.getD undef = .agg #[.nilFunc, .func (.func 177) #[] #[], .func (.func 178) #[] #[], .func (.func 179) #[] #[], .func (.func 180) #[] #[], .func (.func 181) #[] #[], .func (.func 182) #[] #[], .func (.func 183) #[] #[], .func (.func 184) #[] #[]] := ev_at (hd { on := 0, ground := .data } (by simp) rfl _ 22 rfl rfl);have e23 : x.tmps[23]?.getD undef = .int .u8 6 := ev_at (hd { on := 1, ground := .data } (by simp) rfl _ 23 rfl rfl);clear hd ho;unfold Oper.wp;simp only [execOp];simp [go_sem, e22, e23];exact hn _ _ rfl (Below.refl _ _)
   · intro x wx hS hd ho next hn
     have hc := box3 hS.1;have e2 : x.tmps[2]?.getD undef = .pointer (some ⟨w.heap.size, 0, none⟩) := ev_at (ho 2 (out_of (by kernel_rfl)));clear hd ho;unfold Oper.wp;simp only [execOp];simp [go_sem, e2, hc];exact hn _ _ rfl (Below.refl _ _)
   · intro x wx hS hd ho next hn
     have hc := box3 hS.1;have e1 : x.tmps[1]?.getD undef = str t := ev_at (ho 1 (out_of (by kernel_rfl)));clear hd ho;unfold Oper.wp;simp only [execOp];simp [go_sem, e1];exact hn _ _ rfl (Below.refl _ _)
   · intro x wx hS hd ho next hn
     have hc := box3 hS.1;have e25 : x.tmps[25]?.getD undef = .agg #[.map (some m), .slice q c.needs.length cq, .bool c.par] := ev_at (hd { on := 3, ground := .data } (by simp) rfl _ 25 rfl rfl);have e26 : x.tmps[26]?.getD undef = str t := ev_at (hd { on := 4, ground := .data } (by simp) rfl _ 26 rfl rfl);clear hd ho;unfold Oper.wp;simp only [execOp];simp [go_sem, e25, e26];exact hn _ _ rfl (Below.refl _ _)
   · intro x wx hS hd ho next hn
     have hc := box3 hS.1;have e24 : x.tmps[24]?.getD undef = .func (.func 182) #[] #[] := ev_at (hd { on := 2, ground := .data } (by simp) rfl _ 24 rfl rfl);have e27 : x.tmps[27]?.getD undef = .agg #[.map (some m), .slice q c.needs.length cq, .bool c.par, str t] := ev_at (hd { on := 5, ground := .data } (by simp) rfl _ 27 rfl rfl);clear hd ho;unfold Oper.wp;simp only [execOp];simp [go_sem, e24, e27];refine (HM wx hS.2).mono ?_;rintro e w3 ⟨u, rfl, hu, hb⟩;exact hn _ _ hu hb
   · intro x wx hS hd ho next hn
     have hc := box3 hS.1;have e8 : x.tmps[8]?.getD undef = .string ⟨#[]⟩ := ev_at (ho 8 (out_of (by kernel_rfl)));clear hd ho;unfold Oper.wp;simp only [execOp];simp [go_sem, e8];exact hn _ _ rfl (Below.refl _ _)
   · intro x wx hS hd ho next hn
     have hx : OpsM (fun _ => True) wx (x.eval (.tmp 28)) RK.1 := (hd { on := 6, ground := .data } (by simp) rfl _ 28 rfl rfl);clear hd ho;unfold Oper.wp;simp only [execOp];simp [go_sem];refine hn _ _ ?_ (Below.refl _ _)
     simpa [Act.eval] using hx
   · intro x wx hS hd ho next hn
     have hc := box3 hS.1;have e29 : x.tmps[29]?.getD undef = .string ⟨#[]⟩ := ev_at (hd { on := 7, ground := .data } (by simp) rfl _ 29 rfl rfl);clear hd ho;unfold Oper.wp;simp only [execOp];simp [go_sem, e29];exact hn _ _ rfl (Below.refl _ _)
   · intro x wx hdf hsz hout hS hA
     have hu : OpsM (fun _ => True) wx (x.tmps.getD 4 undef) RK.1 := hA 8 _ 4 rfl rfl;obtain ⟨p2, c2, e2, _⟩ := hu.shape;rw [e2] at hu;have e5 : x.tmps.getD 5 undef = .string ⟨#[]⟩ := hA 9 _ 5 rfl rfl;have ha := act_puts hdf hsz hout;rw [ha];simp only [putsOf, e2, e5, pz, pw];clear ha hA hout hdf hsz;go_wp2_with fail;go_ret2;rw [hR2.out];exact ⟨_, rfl, hu, hS.2⟩
 · have HM : ∀ W, Below w.heap.size w W → Calls Tryz.prog 183 #[.agg #[.map (some m), .slice q c.needs.length cq, .bool c.par, str t]] W fun e W' => ∃ u, e = .returned u ∧ OpsM (fun _ => True) W' u (rawK c t).1 ∧ Below W.heap.size W W' := by
    intro W hW;refine (named_any _ m _ _ t c.faces W ⟨rfl, _, _, _, rfl⟩ hty.1 (hT.below hW (nl _)) hty.2.2.1 (hs.below hW (nl _)) ha).mono ?_;rintro e w' ⟨u, rfl, hu, hb⟩;refine ⟨_, rfl, ?_, hb⟩;unfold rawK;rw [hk];exact hu.mono (fun _ _ => trivial)
   have HM := Lib.hid HM;have hR2 := Lib.hid (show (rawK c t).2 = (argK t).1 by unfold rawK; rw [hk]; rfl);generalize rawK c t = RK at *;rw [hk] at HC;generalize (checkK t).1 = CK at *;clear hk;go_enter Tryz.func63, Tryz.ntmps63;go_upto_region 5 with (first
    | (go_at_call 121; refine (karg_any t hty.1 _ (hT.below (hA.trans (below_less hb1 (by simp))) (nl _))).mono ?_; rintro e w2 ⟨rfl, hb2⟩)
    | (go_at_call 119; refine HC.mono ?_; clear HC; rintro e w1 ⟨rfl, hb1⟩))
   have HM := HM.out;have hbx1 := kept_call hbox hb1;have hB1 := hA.trans (below_less hb1 (by simp));have hbx2 := kept_call hbx1 hb2;have hB2 := hB1.trans (below_less hb2 hB1.size);clear hbox hA hb1 hbx1 hB1;refine wp_region_kept (S := fun w' => w'.heap[w.heap.size]? = some (.cells #[.map (some m), .slice q c.needs.length cq, .bool c.par] 86 (0, 0)) ∧ Below w.heap.size w w') (A := fun j v w' => match j with
    | 0 => v = .agg #[.nilFunc, .func (.func 177) #[] #[], .func (.func 178) #[] #[], .func (.func 179) #[] #[], .func (.func 180) #[] #[], .func (.func 181) #[] #[], .func (.func 182) #[] #[], .func (.func 183) #[] #[], .func (.func 184) #[] #[]]
    | 1 => v = .int .u8 7
    | 2 => v = .func (.func 183) #[] #[]
    | 3 => v = .agg #[.map (some m), .slice q c.needs.length cq, .bool c.par]
    | 4 => v = str t
    | 5 => v = .agg #[.map (some m), .slice q c.needs.length cq, .bool c.par, str t]
    | 6 => OpsM (fun _ => True) w' v RK.1
    | 7 => v = str (argK t).1
    | 8 => OpsM (fun _ => True) w' v RK.1
    | 9 => v = str (argK t).1
    | _ => True) (by kernel_rfl) (by kernel_rfl) (by kernel_rfl) ?_ (fun w1 w2 h hb => ⟨kept_call h.1 hb, h.2.trans (below_less hb h.2.size)⟩) ⟨hbx2, hB2.drew⟩ (steps_all ⟨?_, ?_, ?_, ?_, ?_, ?_, ?_, ?_, ?_, ?_, trivial⟩) ?_
   · intro j v w1 w2 h hb
     match j with
     | 0 => exact h
     | 1 => exact h
     | 2 => exact h
     | 3 => exact h
     | 4 => exact h
     | 5 => exact h
     | 6 => exact OpsM.below (show OpsM (fun _ => True) w1 v RK.1 from h) hb (nl _)
     | 7 => exact h
     | 8 => exact OpsM.below (show OpsM (fun _ => True) w1 v RK.1 from h) hb (nl _)
     | 9 => exact h
     | _ + 10 => trivial
   · intro x wx hS hd ho next hn
     have hc := box3 hS.1;clear hd ho;unfold Oper.wp;simp only [execOp];simp [go_sem];refine (ops_any wx).mono ?_;rintro e w3 ⟨rfl, hb⟩;exact hn _ _ rfl hb
   · intro x wx hS hd ho next hn
     have hc := box3 hS.1;have e6 : x.tmps[6]?.getD undef = .int .u8 7 := ev_at (ho 6 (out_of (by kernel_rfl)));clear hd ho;unfold Oper.wp;simp only [execOp];simp [go_sem, e6];exact hn _ _ rfl (Below.refl _ _)
   · intro x wx hS hd ho next hn
     have hc := box3 hS.1;have e22 : x.tmps[22]?.getD undef = .agg #[.nilFunc, .func (.func 177) #[] #[], .func (.func 178) #[] #[], .func (.func 179) #[] #[], .func (.func 180) #[] #[], .func (.func 181) #[] #[], .func (.func 182) #[] #[], .func (.func 183) #[] #[], .func (.func 184) #[] #[]] := ev_at (hd { on := 0, ground := .data } (by simp) rfl _ 22 rfl rfl);have e23 : x.tmps[23]?.getD undef = .int .u8 7 := ev_at (hd { on := 1, ground := .data } (by simp) rfl _ 23 rfl rfl);clear hd ho;unfold Oper.wp;simp only [execOp];simp [go_sem, e22, e23];exact hn _ _ rfl (Below.refl _ _)
   · intro x wx hS hd ho next hn
     have hc := box3 hS.1;have e2 : x.tmps[2]?.getD undef = .pointer (some ⟨w.heap.size, 0, none⟩) := ev_at (ho 2 (out_of (by kernel_rfl)));clear hd ho;unfold Oper.wp;simp only [execOp];simp [go_sem, e2, hc];exact hn _ _ rfl (Below.refl _ _)
   · intro x wx hS hd ho next hn
     have hc := box3 hS.1;have e1 : x.tmps[1]?.getD undef = str t := ev_at (ho 1 (out_of (by kernel_rfl)));clear hd ho;unfold Oper.wp;simp only [execOp];simp [go_sem, e1];exact hn _ _ rfl (Below.refl _ _)
   · intro x wx hS hd ho next hn
     have hc := box3 hS.1;have e25 : x.tmps[25]?.getD undef = .agg #[.map (some m), .slice q c.needs.length cq, .bool c.par] := ev_at (hd { on := 3, ground := .data } (by simp) rfl _ 25 rfl rfl);have e26 : x.tmps[26]?.getD undef = str t := ev_at (hd { on := 4, ground := .data } (by simp) rfl _ 26 rfl rfl);clear hd ho;unfold Oper.wp;simp only [execOp];simp [go_sem, e25, e26];exact hn _ _ rfl (Below.refl _ _)
   · intro x wx hS hd ho next hn
     have hc := box3 hS.1;have e24 : x.tmps[24]?.getD undef = .func (.func 183) #[] #[] := ev_at (hd { on := 2, ground := .data } (by simp) rfl _ 24 rfl rfl);have e27 : x.tmps[27]?.getD undef = .agg #[.map (some m), .slice q c.needs.length cq, .bool c.par, str t] := ev_at (hd { on := 5, ground := .data } (by simp) rfl _ 27 rfl rfl);clear hd ho;unfold Oper.wp;simp only [execOp];simp [go_sem, e24, e27];refine (HM wx hS.2).mono ?_;rintro e w3 ⟨u, rfl, hu, hb⟩;exact hn _ _ hu hb
   · intro x wx hS hd ho next hn
     have hc := box3 hS.1;have e8 : x.tmps[8]?.getD undef = str (argK t).1 := ev_at (ho 8 (out_of (by kernel_rfl)));clear hd ho;unfold Oper.wp;simp only [execOp];simp [go_sem, e8];exact hn _ _ rfl (Below.refl _ _)
   · intro x wx hS hd ho next hn
     have hx : OpsM (fun _ => True) wx (x.eval (.tmp 28)) RK.1 := (hd { on := 6, ground := .data } (by simp) rfl _ 28 rfl rfl);clear hd ho;unfold Oper.wp;simp only [execOp];simp [go_sem];refine hn _ _ ?_ (Below.refl _ _)
     simpa [Act.eval] using hx
   · intro x wx hS hd ho next hn
     have hc := box3 hS.1;have e29 : x.tmps[29]?.getD undef = str (argK t).1 := ev_at (hd { on := 7, ground := .data } (by simp) rfl _ 29 rfl rfl);clear hd ho;unfold Oper.wp;simp only [execOp];simp [go_sem, e29];exact hn _ _ rfl (Below.refl _ _)
   · intro x wx hdf hsz hout hS hA
     have hu : OpsM (fun _ => True) wx (x.tmps.getD 4 undef) RK.1 := hA 8 _ 4 rfl rfl;obtain ⟨p2, c2, e2, _⟩ := hu.shape;rw [e2] at hu;have e5 : x.tmps.getD 5 undef = str (argK t).1 := hA 9 _ 5 rfl rfl;have ha := act_puts hdf hsz hout;rw [ha];simp only [putsOf, e2, e5, pz, pw];clear ha hA hout hdf hsz;go_wp2_with fail;go_ret2;rw [hR2.out];exact ⟨_, rfl, hu, hS.2⟩
 · have HM : ∀ W, Below w.heap.size w W → Calls Tryz.prog 184 #[.agg #[.map (some m), .slice q c.needs.length cq, .bool c.par, str t]] W fun e W' => ∃ u, e = .returned u ∧ OpsM (fun _ => True) W' u (rawK c t).1 ∧ Below W.heap.size W W' := by
    intro W hW;refine (params_any _ m _ _ t c.needs W ⟨rfl, _, _, _, rfl⟩ (hN.below hW (nl _)) hn).mono ?_;rintro e w' ⟨u, rfl, hu, hb⟩;refine ⟨_, rfl, ?_, hb⟩;unfold rawK;rw [hk];exact hu.opsM
   have HM := Lib.hid HM;have hR2 := Lib.hid (show (rawK c t).2 = [] by unfold rawK; rw [hk]; rfl);generalize rawK c t = RK at *;rw [hk] at HC;generalize (checkK t).1 = CK at *;clear hk;go_enter Tryz.func63, Tryz.ntmps63;go_upto_region 5 with (first
    | (go_at_call 119; refine HC.mono ?_; clear HC; rintro e w1 ⟨rfl, hb1⟩))
   have HM := HM.out;have hbx1 := kept_call hbox hb1;have hB1 := hA.trans (below_less hb1 (by simp));have hbx2 := hbx1;have hB2 := hB1;clear hbox hA hb1 hbx1 hB1;refine wp_region_kept (S := fun w' => w'.heap[w.heap.size]? = some (.cells #[.map (some m), .slice q c.needs.length cq, .bool c.par] 86 (0, 0)) ∧ Below w.heap.size w w') (A := fun j v w' => match j with
    | 0 => v = .agg #[.nilFunc, .func (.func 177) #[] #[], .func (.func 178) #[] #[], .func (.func 179) #[] #[], .func (.func 180) #[] #[], .func (.func 181) #[] #[], .func (.func 182) #[] #[], .func (.func 183) #[] #[], .func (.func 184) #[] #[]]
    | 1 => v = .int .u8 8
    | 2 => v = .func (.func 184) #[] #[]
    | 3 => v = .agg #[.map (some m), .slice q c.needs.length cq, .bool c.par]
    | 4 => v = str t
    | 5 => v = .agg #[.map (some m), .slice q c.needs.length cq, .bool c.par, str t]
    | 6 => OpsM (fun _ => True) w' v RK.1
    | 7 => v = .string ⟨#[]⟩
    | 8 => OpsM (fun _ => True) w' v RK.1
    | 9 => v = .string ⟨#[]⟩
    | _ => True) (by kernel_rfl) (by kernel_rfl) (by kernel_rfl) ?_ (fun w1 w2 h hb => ⟨kept_call h.1 hb, h.2.trans (below_less hb h.2.size)⟩) ⟨hbx2, hB2.drew⟩ (steps_all ⟨?_, ?_, ?_, ?_, ?_, ?_, ?_, ?_, ?_, ?_, trivial⟩) ?_
   · intro j v w1 w2 h hb
     match j with
     | 0 => exact h
     | 1 => exact h
     | 2 => exact h
     | 3 => exact h
     | 4 => exact h
     | 5 => exact h
     | 6 => exact OpsM.below (show OpsM (fun _ => True) w1 v RK.1 from h) hb (nl _)
     | 7 => exact h
     | 8 => exact OpsM.below (show OpsM (fun _ => True) w1 v RK.1 from h) hb (nl _)
     | 9 => exact h
     | _ + 10 => trivial
   · intro x wx hS hd ho next hn
     have hc := box3 hS.1;clear hd ho;unfold Oper.wp;simp only [execOp];simp [go_sem];refine (ops_any wx).mono ?_;rintro e w3 ⟨rfl, hb⟩;exact hn _ _ rfl hb
   · intro x wx hS hd ho next hn
     have hc := box3 hS.1;have e6 : x.tmps[6]?.getD undef = .int .u8 8 := ev_at (ho 6 (out_of (by kernel_rfl)));clear hd ho;unfold Oper.wp;simp only [execOp];simp [go_sem, e6];exact hn _ _ rfl (Below.refl _ _)
   · intro x wx hS hd ho next hn
     have hc := box3 hS.1;have e22 : x.tmps[22]?.getD undef = .agg #[.nilFunc, .func (.func 177) #[] #[], .func (.func 178) #[] #[], .func (.func 179) #[] #[], .func (.func 180) #[] #[], .func (.func 181) #[] #[], .func (.func 182) #[] #[], .func (.func 183) #[] #[], .func (.func 184) #[] #[]] := ev_at (hd { on := 0, ground := .data } (by simp) rfl _ 22 rfl rfl);have e23 : x.tmps[23]?.getD undef = .int .u8 8 := ev_at (hd { on := 1, ground := .data } (by simp) rfl _ 23 rfl rfl);clear hd ho;unfold Oper.wp;simp only [execOp];simp [go_sem, e22, e23];exact hn _ _ rfl (Below.refl _ _)
   · intro x wx hS hd ho next hn
     have hc := box3 hS.1;have e2 : x.tmps[2]?.getD undef = .pointer (some ⟨w.heap.size, 0, none⟩) := ev_at (ho 2 (out_of (by kernel_rfl)));clear hd ho;unfold Oper.wp;simp only [execOp];simp [go_sem, e2, hc];exact hn _ _ rfl (Below.refl _ _)
   · intro x wx hS hd ho next hn
     have hc := box3 hS.1;have e1 : x.tmps[1]?.getD undef = str t := ev_at (ho 1 (out_of (by kernel_rfl)));clear hd ho;unfold Oper.wp;simp only [execOp];simp [go_sem, e1];exact hn _ _ rfl (Below.refl _ _)
   · intro x wx hS hd ho next hn
     have hc := box3 hS.1;have e25 : x.tmps[25]?.getD undef = .agg #[.map (some m), .slice q c.needs.length cq, .bool c.par] := ev_at (hd { on := 3, ground := .data } (by simp) rfl _ 25 rfl rfl);have e26 : x.tmps[26]?.getD undef = str t := ev_at (hd { on := 4, ground := .data } (by simp) rfl _ 26 rfl rfl);clear hd ho;unfold Oper.wp;simp only [execOp];simp [go_sem, e25, e26];exact hn _ _ rfl (Below.refl _ _)
   · intro x wx hS hd ho next hn
     have hc := box3 hS.1;have e24 : x.tmps[24]?.getD undef = .func (.func 184) #[] #[] := ev_at (hd { on := 2, ground := .data } (by simp) rfl _ 24 rfl rfl);have e27 : x.tmps[27]?.getD undef = .agg #[.map (some m), .slice q c.needs.length cq, .bool c.par, str t] := ev_at (hd { on := 5, ground := .data } (by simp) rfl _ 27 rfl rfl);clear hd ho;unfold Oper.wp;simp only [execOp];simp [go_sem, e24, e27];refine (HM wx hS.2).mono ?_;rintro e w3 ⟨u, rfl, hu, hb⟩;exact hn _ _ hu hb
   · intro x wx hS hd ho next hn
     have hc := box3 hS.1;have e8 : x.tmps[8]?.getD undef = .string ⟨#[]⟩ := ev_at (ho 8 (out_of (by kernel_rfl)));clear hd ho;unfold Oper.wp;simp only [execOp];simp [go_sem, e8];exact hn _ _ rfl (Below.refl _ _)
   · intro x wx hS hd ho next hn
     have hx : OpsM (fun _ => True) wx (x.eval (.tmp 28)) RK.1 := (hd { on := 6, ground := .data } (by simp) rfl _ 28 rfl rfl);clear hd ho;unfold Oper.wp;simp only [execOp];simp [go_sem];refine hn _ _ ?_ (Below.refl _ _)
     simpa [Act.eval] using hx
   · intro x wx hS hd ho next hn
     have hc := box3 hS.1;have e29 : x.tmps[29]?.getD undef = .string ⟨#[]⟩ := ev_at (hd { on := 7, ground := .data } (by simp) rfl _ 29 rfl rfl);clear hd ho;unfold Oper.wp;simp only [execOp];simp [go_sem, e29];exact hn _ _ rfl (Below.refl _ _)
   · intro x wx hdf hsz hout hS hA
     have hu : OpsM (fun _ => True) wx (x.tmps.getD 4 undef) RK.1 := hA 8 _ 4 rfl rfl;obtain ⟨p2, c2, e2, _⟩ := hu.shape;rw [e2] at hu;have e5 : x.tmps.getD 5 undef = .string ⟨#[]⟩ := hA 9 _ 5 rfl rfl;have ha := act_puts hdf hsz hout;rw [ha];simp only [putsOf, e2, e5, pz, pw];clear ha hA hout hdf hsz;go_wp2_with fail;go_ret2;rw [hR2.out];exact ⟨_, rfl, hu, hS.2⟩
end Go.Proofs.YtakgjcfkdemipaaGreatDoor
