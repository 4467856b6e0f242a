/-
  Contracts: the program's tree.inside: the iterator over the types inside a type. Condition: the type lies in blocks that the loop's body does not change.
  Contract: the program's tree.open: whether the parameter is inside a type. No condition.
-/
import Derived.LoopIn
import Derived.LoopNIn
import Derived.OwnWalkIn
import Derived.Shelf.Abstract
import Derived.Shelf.RegionOpen
import Derived.TacticsInMore
import Derived.Test.YtakgjcfkdemipaaGreatDoorYn
import Derived.Test.YtakgjcfkdemipaaGreatDoorY10
import Derived.Test.YtakgjcfkdemipaaGreatDoorY11
namespace Go.Proofs.YtakgjcfkdemipaaGreatDoor
open Go.RowKit Go.Shelf
attribute [local go_sem] Oper.semAt_some
theorem wide_depth (m : Nat) : Fence.wide.depth.isSome = true → 1 ≤ m := fun h => by simp [Fence.wide] at h
theorem yield_any {m : Nat} (m' : Nat) {P : Program} {l : Nat} {args : Array Value} {W : World} {R : Ending → World → Prop} (h : YieldAt Fence.wide m P l args W R) : YieldAt Fence.wide m' P l args W R := by
 obtain ⟨fn, tmps, assign, body, hy, hR⟩ := h
 exact ⟨fn, tmps, assign, body, hy, hR.1, fun c cs _ => hR.2 c cs (room_wide _)⟩
section
variable {w₀ : World} {n₀ n₁ Y V l N : Nat} {Q : Tr → Prop} {J Jx : List (TV w₀ n₀ Q) → World → Prop}
def VisitOk (w₀ : World) (n₀ n₁ Y V l N : Nat) {Q : Tr → Prop} (J Jx : List (TV w₀ n₀ Q) → World → Prop) (t : Tr) : Prop :=
 ∀ (m : Nat) (v : Value) (pre : List (TV w₀ n₀ Q)) (W : World), FoV w₀ (fun b => b < n₀) t.sub v → Q t → VEnv w₀ n₀ n₁ Y V l W → J pre W → pre.length + t.ins.length ≤ N →
  CallsIn Fence.wide m Tryz.prog 214 #[.agg #[.int .u8 t.k, str t.n, v], .pointer (some ⟨Y, 0, none⟩), .pointer (some ⟨V, 0, none⟩)] W (VPost n₁ J Jx (· = .returned (.bool true)) (· = .returned (.bool false)) pre t.ins W)
set_option maxRecDepth 4000 in
set_option maxHeartbeats 3200000 in
theorem in80 {t : Tr} (IH : VisitOk w₀ n₀ n₁ Y V l N J Jx t) (hJ : ∀ pre W o, J pre W → J pre (W.alloc o)) (m : Nat) (pn : List UInt8) (v : Value) (pre : List (TV w₀ n₀ Q)) (W : World) (hv : FoV w₀ (fun b => b < n₀) t.sub v) (hQ : Q t) (hE : VEnv w₀ n₀ n₁ Y V l W) (h0 : J pre W) (hN : pre.length + t.ins.length ≤ N) :
 CallsIn Fence.wide m Tryz.prog 216 #[.agg #[str pn, .int .u8 t.k, str t.n, v], .pointer (some ⟨V, 0, none⟩)] W (VPost n₁ J Jx (· = .returned (.bool false)) (· = .returned (.bool true)) pre t.ins W) := by
 have hp := (hv.shape)
 obtain ⟨p, c, rfl, _⟩ := hp
 have hE1 := hE.alloc (.cells #[str pn, .int .u8 t.k, str t.n, .slice p t.sub.len c] 192)
 have IH1 := IH (m - 1) (.slice p t.sub.len c) pre (W.alloc (.cells #[str pn, .int .u8 t.k, str t.n, .slice p t.sub.len c] 192)) hv hQ hE1 (hJ _ _ _ h0) hN
 have hk1 := (KpI.refl n₀ n₁ W).alloc hE.size (.cells #[str pn, .int .u8 t.k, str t.n, .slice p t.sub.len c] 192)
 have hcv := hE1.cv
 clear IH
 refine callsIn_of_wp Tryz.func216 rfl trivial ?_ rfl
 simp only [Tryz.ntmps216, List.size_toArray, List.length_cons, List.length_nil, Nat.reduceAdd, Nat.reduceSub, Array.replicate_succ, Array.replicate_zero, List.push_toArray, List.append_toArray, List.nil_append, List.cons_append]
 gi_wp2_with (refine ⟨trivial, wide_depth _, ?_⟩; gi_at_call 214; refine IH1.mono ?_; rintro e W2 (⟨rfl, hx, hk⟩ | ⟨rfl, hx⟩))
 · go_ret
   exact .inl ⟨rfl, hx, hk1.trans hk⟩
 · go_ret
   exact .inr ⟨rfl, hx⟩
def StopAt (e : Ending) : Prop := ∃ i : Nat, e = .returned (.int .i64 i)
set_option maxRecDepth 4000 in
set_option maxHeartbeats 3200000 in
theorem in104 {fo : Fo} (IH : ∀ pn t i, fo.at i = some (pn, t) → Q t ∧ VisitOk w₀ n₀ n₁ Y V l N J Jx t) (hJ : ∀ pre W o, J pre W → J pre (W.alloc o)) (m : Nat) (v : Value) (pre : List (TV w₀ n₀ Q)) (W : World) (hv : FoV w₀ (fun b => b < n₀) fo v) (hE : VEnv w₀ n₀ n₁ Y V l W) (h0 : J pre W) (hN : pre.length + fo.ins.length ≤ N) :
 CallsIn Fence.wide m Tryz.prog 256 #[v, .func (.func 216) #[] #[.pointer (some ⟨V, 0, none⟩)]] W (VPost n₁ J Jx (· = .returned (.int .i64 (-1))) StopAt pre fo.ins W) := by
 have hlen := hv.len_le
 obtain ⟨p, c, rfl, _⟩ := hv.shape
 have HI := Lib.hid (And.intro IH hJ)
 have HN := Lib.hid hN
 clear IH hJ hN
 unfold maxLen at hlen
 refine callsIn_of_wp Tryz.func256 rfl trivial ?_ rfl
 simp only [Tryz.ntmps256, List.size_toArray, List.length_cons, List.length_nil, Nat.reduceAdd, Nat.reduceSub, Array.replicate_succ, Array.replicate_zero, List.push_toArray, List.append_toArray, List.nil_append, List.cons_append]
 gi_wp2
 gi_loopw [8] (fun a wr => ∃ i : Nat, i ≤ fo.len ∧ a = .int .i64 i ∧ VEnv w₀ n₀ n₁ Y V l wr ∧ KpI n₀ n₁ W wr ∧ ∃ xs : List (TV w₀ n₀ Q), xs.map (fun x => x.1.1) = fo.insTo i ∧ J (pre ++ xs) wr) (fun a _ => fo.len - (intOf a).toNat)
 case atStart => exact ⟨0, Nat.zero_le _, rfl, hE, KpI.refl _ _ _, [], by rw [Fo.insTo_zero]; rfl, by rw [List.append_nil]; exact h0⟩
 case round =>
  obtain ⟨i, hi, rfl, hEr, hkr, xs, hxs, hJr⟩ := hrel
  by_cases hlt : i < fo.len
  case pos =>
   obtain ⟨g, c', pn, t, u, e, hg0, hg, hat, x0, x1, x2, x3, hu⟩ := hv.at hlt;injection e with e1 _ e2;subst e1 e2;obtain ⟨p', c', rfl, _⟩ := hu.shape;have y0 := (hEr.low.cell (p := ⟨g, _, none⟩) (by exact hg0)).trans x0;have y1 := (hEr.low.cell (p := ⟨g, _, none⟩) (by exact hg0)).trans x1;have y2 := (hEr.low.cell (p := ⟨g, _, none⟩) (by exact hg0)).trans x2;have y3 := (hEr.low.cell (p := ⟨g, _, none⟩) (by exact hg0)).trans x3;have hsucc := fo.insTo_succ i pn t hat;have hxl : xs.length = (fo.insTo i).length := by rw [← hxs, List.length_map]
   have hpl := (fo.insTo_pre (i + 1)).length_le;rw [hsucc, List.length_append] at hpl;have H80 := in80 (HI.out.1 pn t i hat).2 HI.out.2 (m - 1) pn (.slice p' t.sub.len c') (pre ++ xs) wr hu (HI.out.1 pn t i hat).1 hEr hJr (by have := HN.out; rw [List.length_append]; omega);have HS := Lib.hid hsucc;have HX := Lib.hid hxs;clear x0 x1 x2 x3 hsucc hxl hpl hxs
   gi_wp2_with (refine ⟨trivial, wide_depth _, ?_⟩; gi_at_call 216; refine H80.mono ?_; rintro e W2 (⟨rfl, ⟨ys, hys, hj⟩, hk⟩ | ⟨rfl, ys, hys, hj⟩))
   · refine ⟨⟨i + 1, hlt, by go_num, hEr.kp hk, hkr.trans hk, xs ++ ys, by rw [List.map_append, HX.out, hys, HS.out], by rw [← List.append_assoc]; exact hj⟩, by simp only [intOf]; omega⟩
   · go_ret
     refine .inr ⟨⟨i, rfl⟩, xs ++ ys, ?_, by rw [← List.append_assoc]; exact hj⟩;rw [List.map_append, HX.out];exact ((List.prefix_append_right_inj _).2 hys).trans (by rw [← HS.out]; exact fo.insTo_pre (i + 1))
  case neg =>
   have hie : i = fo.len := by omega
   have HX := Lib.hid (show xs.map (fun x => x.1.1) = fo.ins by rw [hxs, hie, Fo.insTo_all]);clear hie hxs
   gi_wp2
   go_ret;exact .inl ⟨rfl, ⟨xs, HX.out, hJr⟩, hkr⟩
set_option maxRecDepth 4000 in
set_option maxHeartbeats 3200000 in
theorem in79 {fo : Fo} (IH : ∀ pn t i, fo.at i = some (pn, t) → Q t ∧ VisitOk w₀ n₀ n₁ Y V l N J Jx t) (hJ : ∀ pre W o, J pre W → J pre (W.alloc o)) (m : Nat) (v : Value) (pre : List (TV w₀ n₀ Q)) (W : World) (hv : FoV w₀ (fun b => b < n₀) fo v) (hE : VEnv w₀ n₀ n₁ Y V l W) (h0 : J pre W) (hN : pre.length + fo.ins.length ≤ N) :
 CallsIn Fence.wide m Tryz.prog 215 #[v, .func (.func 216) #[] #[.pointer (some ⟨V, 0, none⟩)]] W (VPost n₁ J Jx (· = .returned (.bool false)) (· = .returned (.bool true)) pre fo.ins W) := by
 have H := in104 IH hJ (m - 1) v pre W hv hE h0 hN
 clear IH hJ
 obtain ⟨p, c, rfl, _⟩ := hv.shape
 refine callsIn_of_wp Tryz.func215 rfl trivial ?_ rfl
 simp only [Tryz.ntmps215, List.size_toArray, List.length_cons, List.length_nil, Nat.reduceAdd, Nat.reduceSub, Array.replicate_succ, Array.replicate_zero, List.push_toArray, List.append_toArray, List.nil_append, List.cons_append]
 gi_wp2_with (refine ⟨trivial, wide_depth _, ?_⟩; gi_at_call 256; refine H.mono ?_; clear H; rintro e W2 (⟨rfl, hx, hk⟩ | ⟨⟨i, rfl⟩, hx⟩))
 · go_ret
   exact .inl ⟨rfl, hx, hk⟩
 · go_ret
   exact .inr ⟨by simp, hx⟩
set_option maxRecDepth 4000 in
set_option maxHeartbeats 3200000 in
theorem in78 (t : Tr) (IH : ∀ pn u i, t.sub.at i = some (pn, u) → Q u ∧ VisitOk w₀ n₀ n₁ Y V l N J Jx u) (hJ : ∀ pre W o, J pre W → J pre (W.alloc o))
 (hY : ∀ (m : Nat) (pre : List (TV w₀ n₀ Q)) (x : TV w₀ n₀ Q) (W : World), J pre W → pre.length < N → YieldAt Fence.wide m Tryz.prog l #[.agg #[.int .u8 x.1.1.k, str x.1.1.n, x.1.2]] W fun e W' =>
  (e = .returned (.bool true) ∧ J (pre ++ [x]) W' ∧ KpI n₀ n₁ W W') ∨ (e = .returned (.bool false) ∧ Jx (pre ++ [x]) W')) : VisitOk w₀ n₀ n₁ Y V l N J Jx t := by
 intro m v pre W hv hQ hE h0 hN
 obtain ⟨p, c, rfl, _⟩ := hv.shape
 have hE1 := hE.alloc (.cells #[.int .u8 t.k, str t.n, .slice p t.sub.len c] 174)
 have hrow := heap_alloc_new W (.cells #[.int .u8 t.k, str t.n, .slice p t.sub.len c] 174)
 have hk1 := (KpI.refl n₀ n₁ W).alloc hE.size (.cells #[.int .u8 t.k, str t.n, .slice p t.sub.len c] 174)
 have hJ1 := hJ _ _ (.cells #[.int .u8 t.k, str t.n, .slice p t.sub.len c] 174) h0
 have hcy := hE1.cy
 have hB : n₁ ≤ W.heap.size := by
  have := (Array.getElem?_eq_some_iff.1 hE.y).1;have := hE.ny;omega
 unfold Tr.ins at hN
 rw [List.length_cons] at hN
 obtain ⟨fn, tmps, assign, body, hy, hR⟩ := hY (m - 1) pre ⟨(t, .slice p t.sub.len c), hv, hQ⟩ (W.alloc (.cells #[.int .u8 t.k, str t.n, .slice p t.sub.len c] 174)) hJ1 (by omega)
 dsimp only at hy
 have HI := Lib.hid (And.intro IH hJ)
 clear IH hJ hY
 refine callsIn_of_wp Tryz.func214 rfl trivial ?_ rfl
 simp only [Tryz.ntmps214, List.size_toArray, List.length_cons, List.length_nil, Nat.reduceAdd, Nat.reduceSub, Array.replicate_succ, Array.replicate_zero, List.push_toArray, List.append_toArray, List.nil_append, List.cons_append]
 gi_wp2
 refine ⟨wide_depth _, ?_⟩
 refine hR.mono ?_
 clear hR hy
 rintro e W2 (⟨rfl, hJ2, hk2⟩ | ⟨rfl, hJx2⟩)
 · have hE2 := hE1.kp hk2
   have hrow2 := hk2.high _ _ _ _ hB hrow (by decide);have c2 := (cells_at hrow2 2).trans rfl;have H79 := in79 HI.out.1 HI.out.2 (m - 1) (.slice p t.sub.len c) (pre ++ [⟨(t, .slice p t.sub.len c), hv, hQ⟩]) W2 hv hE2 hJ2 (by rw [List.length_append, List.length_singleton]; omega);clear hE2 hrow2 hE1 hrow hcy hJ1 hJ2
   gi_wp2_with (refine ⟨trivial, wide_depth _, ?_⟩; gi_at_call 215; refine H79.mono ?_; clear H79; rintro e W3 (⟨rfl, ⟨ys, hys, hj⟩, hk3⟩ | ⟨rfl, ys, hys, hj⟩))
   · go_ret
     refine .inl ⟨rfl, ⟨⟨(t, .slice p t.sub.len c), hv, hQ⟩ :: ys, by rw [List.map_cons, hys]; rfl, ?_⟩, (hk1.trans hk2).trans hk3⟩;rw [List.append_assoc] at hj;exact hj
   · go_ret
     refine .inr ⟨rfl, ⟨(t, .slice p t.sub.len c), hv, hQ⟩ :: ys, ?_, ?_⟩
     · rw [List.map_cons]; exact (List.prefix_cons_inj _).2 hys
     · rw [List.append_assoc] at hj
       exact hj
 · gi_wp2
   go_ret;exact .inr ⟨rfl, [⟨(t, .slice p t.sub.len c), hv, hQ⟩], by rw [List.map_cons, List.map_nil]; exact (List.prefix_cons_inj _).2 List.nil_prefix, hJx2⟩
theorem visit_all (hH : Hered Q) (hJ : ∀ pre W o, J pre W → J pre (W.alloc o))
 (hY : ∀ (m : Nat) (pre : List (TV w₀ n₀ Q)) (x : TV w₀ n₀ Q) (W : World), J pre W → pre.length < N → YieldAt Fence.wide m Tryz.prog l #[.agg #[.int .u8 x.1.1.k, str x.1.1.n, x.1.2]] W fun e W' =>
  (e = .returned (.bool true) ∧ J (pre ++ [x]) W' ∧ KpI n₀ n₁ W W') ∨ (e = .returned (.bool false) ∧ Jx (pre ++ [x]) W')) :
 ∀ (k : Nat) (t : Tr), t.sub.level < k → VisitOk w₀ n₀ n₁ Y V l N J Jx t := by
 intro k
 induction k with
 | zero => intro t h; omega
 | succ k ih =>
  intro t h m v pre W hv hQ hE h0 hN;exact in78 t (fun pn u i hat => ⟨hH t i pn u hQ hat, ih u (by have := t.sub.at_level i pn u hat; omega)⟩) hJ hY m v pre W hv hQ hE h0 hN
set_option maxRecDepth 4000 in
set_option maxHeartbeats 3200000 in
theorem in77 (hH : Hered Q) (t : Tr) (hQ : Q t) (hJ : ∀ pre W o, J pre W → J pre (W.alloc o))
 (hY : ∀ (m : Nat) (pre : List (TV w₀ n₀ Q)) (x : TV w₀ n₀ Q) (W : World), J pre W → pre.length < t.ins.length → YieldAt Fence.wide m Tryz.prog l #[.agg #[.int .u8 x.1.1.k, str x.1.1.n, x.1.2]] W fun e W' =>
  (e = .returned (.bool true) ∧ J (pre ++ [x]) W' ∧ KpI n₀ n₁ W W') ∨ (e = .returned (.bool false) ∧ Jx (pre ++ [x]) W')) (m : Nat) (v : Value) (B : Nat) (W : World)
 (hb : Below n₀ w₀ W) (h01 : n₀ ≤ n₁) (h1 : n₁ ≤ W.heap.size) (hv : FoV w₀ (fun b => b < n₀) t.sub v) (hB : W.heap[B]? = some (.cells #[.int .u8 t.k, str t.n, v] 174 (0, 0))) (h0 : J [] W) :
 CallsIn Fence.wide m Tryz.prog 213 #[.func (.yield l) #[] #[], .pointer (some ⟨B, 0, none⟩)] W fun e W' => (∃ v, e = .returned v) ∧ ((∃ xs : List (TV w₀ n₀ Q), xs.map (fun x => x.1.1) = t.ins ∧ J xs W') ∨ (∃ xs : List (TV w₀ n₀ Q), xs.map (fun x => x.1.1) <+: t.ins ∧ Jx xs W')) := by
 obtain ⟨p, c, rfl, _⟩ := hv.shape
 have HV := Lib.hid (visit_all (Y := W.heap.size) (V := W.heap.size + 1) hH hJ hY (t.sub.level + 1) t (Nat.lt_succ_self _))
 clear hY
 have hB2 := heap_up (.cells #[.func (.func 214) #[] #[.pointer (some ⟨W.heap.size, 0, none⟩), .pointer (some ⟨W.heap.size + 1, 0, none⟩)]] 220) (heap_up (.cells #[.func (.yield l) #[] #[]] 220) hB)
 have c0 := (cells_at hB2 0).trans rfl
 have c1 := (cells_at hB2 1).trans rfl
 have c2 := (cells_at hB2 2).trans rfl
 have hE : VEnv w₀ n₀ n₁ W.heap.size (W.heap.size + 1) l ((W.alloc (.cells #[.func (.yield l) #[] #[]] 220)).alloc (.cells #[.func (.func 214) #[] #[.pointer (some ⟨W.heap.size, 0, none⟩), .pointer (some ⟨W.heap.size + 1, 0, none⟩)]] 220)) :=
  ⟨(hb.alloc (by omega) _).alloc (by simp; omega) _, heap_up _ (heap_alloc_new W _), heap_to (by simp) _ _, by omega, by omega, h01⟩
 have H78 := HV.out m.pred (.slice p t.sub.len c) [] _ hv hQ hE (hJ _ _ _ (hJ _ _ _ h0)) (by rw [List.length_nil, Nat.zero_add]; exact nl _)
 clear hE hB hB2 hb
 refine callsIn_of_wp Tryz.func213 rfl trivial ?_ rfl
 simp only [Tryz.ntmps213, List.size_toArray, List.length_cons, List.length_nil, Nat.reduceAdd, Nat.reduceSub, Array.replicate_succ, Array.replicate_zero, List.push_toArray, List.append_toArray, List.nil_append, List.cons_append]
 gi_wp2_with (refine ⟨trivial, wide_depth _, ?_⟩; gi_at_call 214; refine H78.mono ?_; clear H78; rintro e W3 (⟨rfl, ⟨ys, hys, hj⟩, hk3⟩ | ⟨rfl, ys, hys, hj⟩))
 · go_end0
   exact ⟨⟨_, rfl⟩, .inl ⟨ys, hys, hj⟩⟩
 · go_end0
   exact ⟨⟨_, rfl⟩, .inr ⟨ys, hys, hj⟩⟩
end
theorem inside_stops {w₀ w : World} {n₀ n₁ B : Nat} {Q : Tr → Prop} (hH : Hered Q) (t : Tr) (hQ : Q t) (v : Value) (n : Nat) (hb : Below n₀ w₀ w) (h01 : n₀ ≤ n₁) (h1 : n₁ ≤ w.heap.size) (hv : FoV w₀ (fun b => b < n₀) t.sub v) (hB : w.heap[B]? = some (.cells #[.int .u8 t.k, str t.n, v] 174 (0, 0))) :
 SeqStopsK Fence.wide n Tryz.prog 213 #[.pointer (some ⟨B, 0, none⟩)] (fun x : TV w₀ n₀ Q => #[Value.agg #[.int .u8 x.1.1.k, str x.1.1.n, x.1.2]]) (KpI n₀ n₁) (fun xs => xs.map (fun x => x.1.1) = t.ins) (fun xs => xs.map (fun x => x.1.1) <+: t.ins) t.ins.length w :=
 fun l J Jx W hW hJ _ hY h0 =>
  in77 hH t hQ (fun pre W' o h => hJ pre W' _ none h (World.grownBy_alloc W' o none) (fun r e => by cases e)) (fun m pre x W' hj hl => yield_any m (hY pre x W' hj hl)) n v B W (hb.trans (hW.mono (by omega))) h01 (Nat.le_trans h1 hW.size) hv ((hW.block B (Array.getElem?_eq_some_iff.1 hB).1).trans hB) h0
theorem inside_any (k : Nat) (n : List UInt8) (p : Option Addr) (l c : Nat) (m : Nat) (w : World) : CallsIn Fence.wide m Tryz.prog 158 #[.agg #[.int .u8 k, str n, .slice p l c]] w fun e w' => e = .returned (.func (.func 213) #[] #[.pointer (some ⟨w.heap.size, 0, none⟩)]) ∧ w' = w.alloc (.cells #[.int .u8 k, str n, .slice p l c] 174) := by
 refine callsIn_of_wp Tryz.func158 rfl trivial ?_ rfl
 simp only [Tryz.ntmps158, List.size_toArray, List.length_cons, List.length_nil, Nat.reduceAdd, Nat.reduceSub, Array.replicate_succ, Array.replicate_zero, List.push_toArray, List.append_toArray, List.nil_append, List.cons_append]
 gi_wp2
 go_ret
 exact ⟨rfl, rfl⟩
end Go.Proofs.YtakgjcfkdemipaaGreatDoor
namespace Go.Proofs.YtakgjcfkdemipaaGreatDoor
open Go.RowKit Go.Shelf
attribute [local go_sem] Oper.semAt_some
theorem Fo.ins_opn : ∀ fo : Fo, fo.ins.any (fun t => decide (t.k = 8)) = fo.opn
 | .nil => rfl
 | .cons pn k n sub rest => by
  rw [Fo.ins, List.any_cons, List.any_append, Fo.ins_opn sub, Fo.ins_opn rest, Fo.opn, Bool.or_assoc]
theorem Tr.ins_opn (t : Tr) : t.ins.any (fun t => decide (t.k = 8)) = t.opn := by
 rw [Tr.ins, List.any_cons, Fo.ins_opn, Tr.opn]
def parB {w₀ : World} {n₀ : Nat} {Q : Tr → Prop} (pre : List (TV w₀ n₀ Q)) : Bool := pre.any (fun x => decide (x.1.1.k = 8))
theorem parB_snoc {w₀ : World} {n₀ : Nat} {Q : Tr → Prop} (pre : List (TV w₀ n₀ Q)) (x : TV w₀ n₀ Q) : parB (pre ++ [x]) = (parB pre || decide (x.1.1.k = 8)) := by simp [parB]
theorem heap_own {β : Type} (B : Nat) (cs : β → Array Value) (t : TypeId) (z : Nat × Nat) : Own (fun s W => W.heap[B]? = some (.cells (cs s) t z)) := fun s X Y row hs hg hrow =>
 (hg.block B (Array.getElem?_eq_some_iff.1 hs).1 (fun e => by
  obtain ⟨o, ho, hc⟩ := hrow B e.symm;rw [hs] at ho;cases ho;cases hc)).trans hs
theorem size_own {β : Type} (B k : Nat) : OwnFrom B (fun (_ : β) W => k ≤ W.heap.size) := fun _ _ _ _ hs hg _ => Nat.le_trans hs hg.size
theorem none_own {β : Type} : Own (fun (_ : β) (_ : World) => False) := fun _ _ _ _ hs _ _ => hs
set_option maxRecDepth 4000 in
set_option maxHeartbeats 3200000 in
theorem open_any (t : Tr) (w : World) (D : Nat → Prop) (v : Value) (hv : FoV w D t.sub v) :
 Calls Tryz.prog 174 #[.agg #[.int .u8 t.k, str t.n, v]] w fun e w' => e = .returned (.bool t.opn) ∧ Below w.heap.size w w' := by
 have hv0 := hv.mono (D' := fun b => b < w.heap.size) fun _ _ h => h
 obtain ⟨p, c, rfl, _⟩ := hv.shape
 refine (callsIn_wide (n := 6)).1 ?_
 refine callsIn_of_wp_marks Tryz.func174 rfl trivial ?_ rfl
 simp only [Tryz.ntmps174, List.size_toArray, List.length_cons, List.length_nil, Nat.reduceAdd, Nat.reduceSub, Array.replicate_succ, Array.replicate_zero, List.push_toArray, List.append_toArray, List.nil_append, List.cons_append]
 gi_wp2_with (refine ⟨trivial, ?_⟩; gi_at_call 158; refine (inside_any _ _ _ _ _ _ _).mono ?_; rintro e w' ⟨rfl, rfl⟩)
 have hz1 : (w.alloc (.cells #[.int .u8 t.k, str t.n, .slice p t.sub.len c] 174)).heap.size = w.heap.size + 1 := by simp
 have hz2 : ((w.alloc (.cells #[.int .u8 t.k, str t.n, .slice p t.sub.len c] 174)).alloc (.cells #[.bool false] 4)).heap.size = w.heap.size + 1 + 1 := by simp
 have hb0 : Below w.heap.size w (((w.alloc (.cells #[.int .u8 t.k, str t.n, .slice p t.sub.len c] 174)).alloc (.cells #[.bool false] 4)).alloc (.cells #[.int .u8 t.k, str t.n, .slice p t.sub.len c] 174)) := (((Below.refl _ w).alloc (nl _) _).alloc (by simp) _).alloc (by simp; omega) _
 have hr2 := heap_up (.cells #[.int .u8 t.k, str t.n, .slice p t.sub.len c] 174) (heap_to hz1 #[.bool false] 4)
 have hr3 := heap_to hz2 #[.int .u8 t.k, str t.n, .slice p t.sub.len c] 174
 have hz3 : (((w.alloc (.cells #[.int .u8 t.k, str t.n, .slice p t.sub.len c] 174)).alloc (.cells #[.bool false] 4)).alloc (.cells #[.int .u8 t.k, str t.n, .slice p t.sub.len c] 174)).heap.size = w.heap.size + 3 := by simp
 clear hz1 hz2
 generalize ((w.alloc (.cells #[.int .u8 t.k, str t.n, .slice p t.sub.len c] 174)).alloc (.cells #[.bool false] 4)).alloc (.cells #[.int .u8 t.k, str t.n, .slice p t.sub.len c] 174) = W0 at *
 have hle0 : w.heap.size ≤ W0.heap.size := by omega
 have hle3 : w.heap.size + 3 ≤ W0.heap.size := by omega
 clear hz3
 refine wpIn_rangeFunc_ownH (α := TV w w.heap.size (fun _ => True)) rfl (show 1 ≤ 6 by decide) (gf := 213) (lb := #[.pointer (some ⟨w.heap.size + 1 + 1, 0, none⟩)]) rfl trivial (enters_of Tryz.func213 (by kernel_rfl) rfl)
  (inside_stops (w₀ := w) (n₀ := w.heap.size) (n₁ := W0.heap.size) (fun _ _ _ _ _ _ => trivial) t trivial _ 5 hb0 hle0 (nl _) hv0 hr3) (fun h k => h.trans k) (KpI.book hle0) (Below.refl _ _) (fun _ => rfl)
  (fun pre W => ((W.heap[w.heap.size + 1]? = some (.cells #[.bool false] 4 (0, 0)) ∧ parB pre = false) ∧ Below w.heap.size w W ∧ W0.heap.size ≤ W.heap.size))
  (fun cd pre W => ((W.heap[w.heap.size + 1]? = some (.cells #[.bool true] 4 (0, 0)) ∧ cd = .ret ∧ parB pre = true) ∧ Below w.heap.size w W ∧ W0.heap.size ≤ W.heap.size))
  (OwnFrom.and (OwnFrom.and (Own.from (heap_own _ (fun _ => #[.bool false]) _ _) _) (ownFrom_pure _ _)) (OwnFrom.and (ownFrom_below (nl _) hle0) (size_own _ _)))
  (fun _ => OwnFrom.and (OwnFrom.and (Own.from (heap_own _ (fun _ => #[.bool true]) _ _) _) (ownFrom_pure _ _)) (OwnFrom.and (ownFrom_below (nl _) hle0) (size_own _ _)))
  ⟨⟨hr2, rfl⟩, hb0, nl _⟩
  (fun x a' W => ∃ Bx, W0.heap.size ≤ Bx ∧ W.heap[Bx]? = some (.cells #[.int .u8 x.1.1.k, str x.1.1.n, x.1.2] 174 (0, 0)) ∧
   a' = { tmps := #[.agg #[.int .u8 t.k, str t.n, .slice p t.sub.len c], .pointer (some ⟨w.heap.size, 0, none⟩), .pointer (some ⟨w.heap.size + 1, 0, none⟩), .pointer (some ⟨Bx, 0, none⟩), .agg #[.int .u8 t.k, str t.n, .slice p t.sub.len c], .func (.func 213) #[] #[.pointer (some ⟨w.heap.size + 1 + 1, 0, none⟩)], .agg #[.int .u8 x.1.1.k, str x.1.1.n, x.1.2], undef, undef, undef], defers := [] })
  (fun x a' _ W W' row ⟨Bx, h1, h2, h3⟩ hg hr => ⟨Bx, h1, (heap_own (β := Unit) Bx (fun _ => #[.int .u8 x.1.1.k, str x.1.1.n, x.1.2]) _ _) () W W' row h2 hg (fun r e => (hr r e).2), h3⟩) ?assign ?body ?done ?stop
 case assign =>
  rintro l pre ⟨⟨u, vu⟩, hu, hQu⟩ W K ⟨⟨hc, hp⟩, hB, hS⟩ hK;obtain ⟨pu, cu, e, _⟩ := FoV.shape (fo := u.sub) (v := vu) hu;subst e;dsimp only at hK ⊢;have hsz := hB.size;have hlt := (Array.getElem?_eq_some_iff.1 hc).1
  gi_wp2
  exact hK _ _ ((KeepsOthers.alloc _ _).from _) ((KpI.refl _ _ _).alloc (by omega) _) ⟨⟨heap_up _ hc, hp⟩, hB.alloc hsz _, by simp; omega⟩ ⟨W.heap.size, hS, heap_alloc_new W _, rfl⟩
 case body =>
  rintro l pre ⟨⟨u, vu⟩, hu, hQu⟩ a' W hl ⟨r, hr⟩ ⟨⟨hc, hp⟩, hB, hS⟩ ⟨Bx, hBx, hX, rfl⟩ hlt;obtain ⟨pu, cu, e, _⟩ := FoV.shape (fo := u.sub) (v := vu) hu;subst e;dsimp only at hX ⊢;have c0 := (cells_at hX 0).trans rfl;have c1 := (cells_at hc 0).trans rfl;have f1 := free_at hc 0
  by_cases h8 : u.k = 8
  · have e8 : ((u.k : Int) == 8) = true := by rw [h8]; rfl
    have H8 := Lib.hid h8;clear h8
    gi_wp2
    exact ⟨(KeepsOthers.setCell _ _ _).from _, ⟨set_row hc 0 (.bool true), rfl, by rw [parB_snoc]; simp only [H8.out]; simp⟩, hB.setCell (p := ⟨w.heap.size + 1, 0, none⟩) (by simp) _, by simpa [World.setCell] using hS⟩
  · have e8 : ((u.k : Int) == 8) = false := by rw [beq_eq_false_iff_ne]; omega
    have H8 := Lib.hid h8;clear h8
    gi_wp2
    exact ⟨KeepsFrom.refl _ _, KpI.refl _ _ _, ⟨hc, by rw [parB_snoc, hp, Bool.false_or, decide_eq_false_iff_not]; exact H8.out⟩, hB, hS⟩
 case done =>
  rintro D' xs W hD hxs ⟨⟨hc, hp⟩, hB, hS⟩ hK;have hop : t.opn = false := by
   rw [← Tr.ins_opn, ← hxs, List.any_map];exact hp
  have HP := Lib.hid hop;clear hop;have c1 := (cells_at hc 0).trans rfl;have f1 := free_at hc 0
  gi_wp2
  have hK2 := (KeepsOthers.setCell W ⟨w.heap.size + 1, 0, none⟩ (.bool false)).same D' _ hK rfl;refine ⟨by simp, .inl ⟨_, _, rfl, run_takeDeferred hK2, ?_⟩⟩;have hc5 := cell_kept ((cells_at (set_row hc 0 (.bool false)) 0).trans rfl) (grownBy_putObj' _ D' (.deferred none)) (fun r e => by cases e; exact ⟨_, hK2, rfl⟩);refine ⟨.bool false, ?_, by rw [HP.out], ?_⟩
  · simp [results, Tryz.f174, go_sem, hc5]
  · exact (hB.setCell (p := ⟨w.heap.size + 1, 0, none⟩) (by simp) _).trans (belowK_b (w := w) (nl _) _ D' _ _ (by omega) hK2 rfl rfl)
 case stop =>
  rintro D' cd pre W hD hxs ⟨⟨hc, rfl, hp⟩, hB, hS⟩ hK;have hop : t.opn = true := by
   rw [← Tr.ins_opn];obtain ⟨r, hr⟩ := hxs;rw [← hr, List.any_append, List.any_map];rw [show pre.any ((fun t => decide (t.k = 8)) ∘ fun x => x.1.1) = true from hp]
   rfl
  have HP := Lib.hid hop;clear hop
  gi_wp2
  refine ⟨by simp, .inl ⟨_, _, rfl, run_takeDeferred hK, ?_⟩⟩;have hc5 := cell_kept ((cells_at hc 0).trans rfl) (grownBy_putObj' _ D' (.deferred none)) (fun r e => by cases e; exact ⟨_, hK, rfl⟩);refine ⟨.bool true, ?_, by rw [HP.out], ?_⟩
  · simp [results, Tryz.f174, go_sem, hc5]
  · exact hB.trans (belowK_b (w := w) (nl _) _ D' _ _ (by omega) hK rfl rfl)
end Go.Proofs.YtakgjcfkdemipaaGreatDoor
