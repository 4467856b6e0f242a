/-
  A row of faces made anew. Contract: of the law: library. No condition.
-/
import Derived.Test.YtakgjcfkdemipaaGreatDoorYn
import Derived.Test.YtakgjcfkdemipaaGreatDoorY5
import Derived.Test.YtakgjcfkdemipaaGreatDoorY21
namespace Go.Proofs.YtakgjcfkdemipaaGreatDoor
open Go.RowKit
def FacesC (D : Nat → Prop) (w : World) : List Value → List FaceP → Prop
 | cs, [] => cs = []
 | cs, x :: l => ∃ n o r, cs = str x.name :: .int .u8 x.kind :: .bool x.par :: n :: o :: r ∧ x.name.length ≤ maxLen ∧ OpsM D w n x.needs ∧ OpsM D w o x.ops ∧ FacesC D w r l
theorem FacesC.le {D : Nat → Prop} {w : World} : ∀ {l : List FaceP} {cs : List Value}, FacesC D w cs l → ∀ x ∈ l, x.name.length ≤ maxLen
 | [], _, _ => fun x h => by cases h
 | y :: l, _, ⟨_, _, _, _, h0, _, _, h4⟩ => fun x h => by
  rcases List.mem_cons.1 h with rfl | h
  · exact h0
  · exact FacesC.le h4 x h
theorem FacesC.get {D : Nat → Prop} {w : World} : ∀ {l : List FaceP} {cs : List Value}, FacesC D w cs l → ∀ j (h : j < l.length), ∃ a s, OpsM D w a l[j].needs ∧ OpsM D w s l[j].ops ∧
 cs[j * 5]? = some (str l[j].name) ∧ cs[j * 5 + 1]? = some (.int .u8 l[j].kind) ∧ cs[j * 5 + 2]? = some (.bool l[j].par) ∧ cs[j * 5 + 3]? = some a ∧ cs[j * 5 + 4]? = some s
 | [], _, _ => fun j h => by simp at h
 | x :: l, _, ⟨a, s, r, h1, _, h2, h3, h4⟩ => fun j h => by
  subst h1;cases j with
  | zero => exact ⟨a, s, h2, h3, rfl, rfl, rfl, rfl, rfl⟩
  | succ j =>
   have hj : j < l.length := by simpa using h
   obtain ⟨a', s', k1, k2, k3, k4, k5, k6, k7⟩ := FacesC.get h4 j hj;have e : (j + 1) * 5 = j * 5 + 1 + 1 + 1 + 1 + 1 := by omega
   refine ⟨a', s', k1, k2, ?_⟩;rw [e];exact ⟨by simpa using k3, by simpa using k4, by simpa using k5, by simpa using k6, by simpa using k7⟩
theorem FacesM.new {D : Nat → Prop} (w : World) (hB : D w.heap.size) {l : List FaceP} {cs : List Value} (t : TypeId) (z : Nat × Nat) (hm : l.length ≤ maxLen) (hc : FacesC D w cs l) : FacesM D (w.alloc (.cells cs.toArray t z)) (.slice (some ⟨w.heap.size, 0, none⟩) l.length l.length) l := by
 have hb := (Below.refl _ w).alloc (nl _) (.cells cs.toArray t z)
 refine ⟨_, _, rfl, nl _, hm, hc.le, .inr ⟨w.heap.size, 0, rfl, hB, by simp, fun j hj => ?_⟩⟩
 obtain ⟨a, s, k1, k2, k3, k4, k5, k6, k7⟩ := hc.get j hj
 have hh := heap_alloc_new w (.cells cs.toArray t z)
 have hcell : ∀ i u, cs[i]? = some u → (w.alloc (.cells cs.toArray t z)).cell? ⟨w.heap.size, 0 + i, none⟩ = some u := fun i u hu => by
  rw [Nat.zero_add];refine (cells_at hh i).trans ?_
  simpa using hu
 exact ⟨a, s, k1.below hb (nl _), k2.below hb (nl _), hcell _ _ k3, hcell _ _ k4, hcell _ _ k5, hcell _ _ k6, hcell _ _ k7⟩
theorem ss_at {D : Nat → Prop} (w : World) (n : Nat) (hn : n = w.heap.size) (hD : D n) (ss : List (List UInt8)) (hl : ss.length ≤ maxLen) (hs : ∀ s ∈ ss, s.length ≤ maxLen) (t : TypeId) : SS D (w.alloc (.cells (ss.map str).toArray t)) (.slice (some ⟨n, 0, none⟩) ss.length ss.length) ss := by
 subst hn
 exact SS.new D w hD ss t (0, 0) hl hs
theorem ops_at {D : Nat → Prop} (w : World) (n : Nat) (hn : n = w.heap.size) (hD : D n) {l : List OpP} {cs : List Value} (t : TypeId) (hm : l.length ≤ maxLen) (hc : OpsC D w cs l) : OpsM D (w.alloc (.cells cs.toArray t)) (.slice (some ⟨n, 0, none⟩) l.length l.length) l := by
 subst hn
 exact OpsM.new w hD t (0, 0) hm hc
theorem faces_at {D : Nat → Prop} (w : World) (n : Nat) (hn : n = w.heap.size) (hD : D n) {l : List FaceP} {cs : List Value} (t : TypeId) (hm : l.length ≤ maxLen) (hc : FacesC D w cs l) : FacesM D (w.alloc (.cells cs.toArray t)) (.slice (some ⟨n, 0, none⟩) l.length l.length) l := by
 subst hn
 exact FacesM.new w hD t (0, 0) hm hc
set_option maxRecDepth 8000 in
set_option maxHeartbeats 12800000 in
theorem library_any (w : World) : Calls Tryz.prog 56 #[] w fun e w' => ∃ g, e = .returned (.slice (some ⟨g, 0, none⟩) 2 2) ∧ FacesM (fun b => w.heap.size ≤ b) w' (.slice (some ⟨g, 0, none⟩) 2 2) libK ∧ Below w.heap.size w w' := by
 go_enter Tryz.func56, Tryz.ntmps56
 go_wp2_with (first
  | (go_at_call 57; have q4 := hb4; refine (proc_any _ _ _ ⟨_, _, _, rfl⟩).mono ?_; rintro e w5 ⟨rfl, hb5⟩; have f5 := kept_call (heap_up _ (heap_up _ f4)) hb5; have g1 := box5 (heap_up (.cells #[.string ⟨#[115, 111, 114, 116]⟩, .int .u8 1, .bool true, .slice (some ⟨w4.heap.size, 0, none⟩) 1 1, .slice (some ⟨w5.heap.size, 0, none⟩) 1 1] 58) (heap_up (.cells #[.string ⟨#[115, 111, 114, 116]⟩, .bool false, .slice (some ⟨w4.heap.size + 1, 0, none⟩) 1 1, str [], .slice none 0 0] 50) f5)); have g2 := box5 (heap_to (w := w5.alloc (.cells #[.string ⟨#[115, 111, 114, 116]⟩, .bool false, .slice (some ⟨w4.heap.size + 1, 0, none⟩) 1 1, str [], .slice none 0 0] 50)) (n := w5.heap.size + 1) (by simp) #[.string ⟨#[115, 111, 114, 116]⟩, .int .u8 1, .bool true, .slice (some ⟨w4.heap.size, 0, none⟩) 1 1, .slice (some ⟨w5.heap.size, 0, none⟩) 1 1] 58))
  | (go_at_call 57; have q3 := hb3; refine (proc_any _ _ _ ⟨_, _, _, rfl⟩).mono ?_; rintro e w4 ⟨rfl, hb4⟩; clear q3; have f4 := kept_call (heap_up _ (heap_to (w := w3.alloc _) (n := w3.heap.size + 1) (by simp) #[.string ⟨#[115, 101, 116]⟩, .int .u8 3, .bool true, .slice (some ⟨w1.heap.size, 0, none⟩) 1 1, .slice (some ⟨w3.heap.size, 0, none⟩) 2 2] 58)) hb4)
  | (go_at_call 57; have q2 := hb2; refine (proc_any _ _ _ ⟨_, _, _, rfl⟩).mono ?_; rintro e w3 ⟨rfl, hb3⟩; clear q2)
  | (go_at_call 57; have q1 := hb1; refine (proc_any _ _ _ ⟨_, _, _, rfl⟩).mono ?_; rintro e w2 ⟨rfl, hb2⟩; clear q1)
  | (go_at_call 57; refine (proc_any _ _ _ ⟨_, _, _, rfl⟩).mono ?_; rintro e w1 ⟨rfl, hb1⟩))
 go_ret
 have h1 := hb1.size
 have h2 := hb2.size
 have h3 := hb3.size
 have h4 := hb4.size
 have h5 := hb5.size
 simp only [World.size_alloc] at h1 h2 h3 h4 h5
 have le : ∀ s : List UInt8, s.length ≤ 20 → s.length ≤ maxLen := fun s h => by unfold maxLen; omega
 have t2 : SS (fun b => w.heap.size ≤ b) w1 (.slice (some ⟨w.heap.size, 0, none⟩) 2 2) [tQ, tQ] := (ss_at (D := fun b => w.heap.size ≤ b) w _ rfl (nl _) [tQ, tQ] (by simp [maxLen]) (by simp [tQ, maxLen]) 9).below hb1 (nl _)
 have n1 := (ops_at (D := fun b => w.heap.size ≤ b) w1 _ rfl (by omega) (l := setF.needs) 79 (by simp [setF, maxLen]) ⟨_, _, [], rfl, ⟨by simp [maxLen], by simp [tB, maxLen]⟩, t2, SS.nil _ _ none 0, rfl⟩).below hb2 (nl _)
 have t3 : SS (fun b => w.heap.size ≤ b) w3 (.slice (some ⟨w2.heap.size, 0, none⟩) 2 2) [tS, tQ] := (ss_at (D := fun b => w.heap.size ≤ b) w2 _ rfl (by omega) [tS, tQ] (by simp [maxLen]) (by simp [tQ, tS, maxLen]) 9).below hb3 (nl _)
 have E23 := ((Below.refl _ w2).alloc (nl _) _).trans (below_less hb3 (by simp))
 have o1 := ops_at (D := fun b => w.heap.size ≤ b) w3 _ rfl (by omega) (l := setF.ops) 50 (by simp [setF, maxLen]) ⟨_, _, _, rfl, ⟨by simp [maxLen], by simp [tS, maxLen]⟩, SS.nil _ _ none 0, SS.nil _ _ none 0, _, _, [], rfl, ⟨by simp [maxLen], by simp [tB, maxLen]⟩, t3, SS.nil _ _ none 0, rfl⟩
 have E34 := (((Below.refl _ (w3.alloc _)).alloc (nl _) _).alloc (by simp) _).trans (below_less hb4 (by simp))
 have E3 := ((((Below.refl _ w3).alloc (nl _) _).alloc (by simp) _).alloc (by simp; omega) _).trans (below_less hb4 (by simp; omega))
 have t4 : SS (fun b => w.heap.size ≤ b) w4 (.slice (some ⟨w3.heap.size + 1 + 1, 0, none⟩) 2 2) [tQ, tQ] := (ss_at (D := fun b => w.heap.size ≤ b) ((w3.alloc _).alloc _) (w3.heap.size + 1 + 1) (by simp) (by omega) [tQ, tQ] (by simp [maxLen]) (by simp [tQ, maxLen]) 9).below hb4 (nl _)
 have n2 := ops_at (D := fun b => w.heap.size ≤ b) w4 _ rfl (by omega) (l := sortF.needs) 79 (by simp [sortF, maxLen]) ⟨_, _, [], rfl, ⟨by simp [maxLen], by simp [tB, maxLen]⟩, t4, SS.nil _ _ none 0, rfl⟩
 have E45 := ((Below.refl _ (w4.alloc _)).alloc (nl _) _).trans (below_less hb5 (by simp))
 have E4 := (((Below.refl _ w4).alloc (nl _) _).alloc (by simp) _).trans (below_less hb5 (by simp; omega))
 have t5 : SS (fun b => w.heap.size ≤ b) w5 (.slice (some ⟨w4.heap.size + 1, 0, none⟩) 1 1) [[97, 114, 114, 97, 121, 91, 63, 116, 93]] := (ss_at (D := fun b => w.heap.size ≤ b) (w4.alloc _) (w4.heap.size + 1) (by simp) (by omega) [[97, 114, 114, 97, 121, 91, 63, 116, 93]] (by simp [maxLen]) (by simp [maxLen]) 9).below hb5 (nl _)
 have o2 := ops_at (D := fun b => w.heap.size ≤ b) w5 _ rfl (by omega) (l := sortF.ops) 50 (by simp [sortF, maxLen]) ⟨_, _, [], rfl, ⟨by simp [maxLen], by simp [maxLen]⟩, t5, SS.nil _ _ none 0, rfl⟩
 have E0 : Below w.heap.size w w5 := ((((Below.refl _ w).alloc (nl _) _).trans (below_less hb1 (by simp))).alloc (by omega) _).trans (below_less hb2 (by simp; omega)) |>.trans (below_less E23 (by omega)) |>.trans (below_less E3 (by omega)) |>.trans (below_less E4 (by omega))
 refine ⟨_, rfl, faces_at _ (w5.heap.size + 1 + 1) (by simp) (by show w.heap.size ≤ _; omega) (l := libK) 58 (by simp [libK, maxLen]) ⟨_, _, _, rfl, by simp [setF, maxLen], ?_, ?_, _, _, [], rfl, by simp [sortF, maxLen], ?_, ?_, rfl⟩, ?_⟩
 · exact (((n1.below E23 (nl _)).below E3 (nl _)).below E4 (nl _)).below (((Below.refl _ w5).alloc (nl _) _).alloc (by simp) _) (nl _)
 · exact ((o1.below E34 (nl _)).below E4 (nl _)).below (((Below.refl _ w5).alloc (nl _) _).alloc (by simp) _) (nl _)
 · exact (n2.below E45 (nl _)).below (((Below.refl _ w5).alloc (nl _) _).alloc (by simp) _) (nl _)
 · exact o2.below ((Below.refl _ (w5.alloc _)).alloc (nl _) _) (nl _)
 · exact ((E0.alloc (by omega) _).alloc (by simp; omega) _).alloc (by simp; omega) _
end Go.Proofs.YtakgjcfkdemipaaGreatDoor
