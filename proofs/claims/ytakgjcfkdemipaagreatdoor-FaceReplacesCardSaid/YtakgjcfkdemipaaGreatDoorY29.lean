/-
  Contract: of the package face: put. Condition: the number of texts; the variable strings.asciiSpace.
  Contract: of the package face: Check. Condition: the number of needs; the variable strings.asciiSpace.
  Contract: of the package face: the closure of Uses. Condition: the lengths; the types are types; the variable strings.asciiSpace.
  The text of a face (plain): how long it may be. The contract of strings.Join over texts in memory. Condition: the text is not too long.
-/
import Derived.BigQuiet
import Derived.Deep.QuietTactic
import Derived.OneCell
import Derived.Test.YtakgjcfkdemipaaGreatDoorYn
import Derived.Test.YtakgjcfkdemipaaGreatDoorY3
import Derived.Test.YtakgjcfkdemipaaGreatDoorY9
import Derived.Test.YtakgjcfkdemipaaGreatDoorY16
import Derived.Test.YtakgjcfkdemipaaGreatDoorY20
import Derived.Test.YtakgjcfkdemipaaGreatDoorY21
import Derived.Test.YtakgjcfkdemipaaGreatDoorY23
namespace Go.Proofs.YtakgjcfkdemipaaGreatDoor
open Go.RowKit
theorem withL_ok (a : List UInt8) : ∀ l : List (List UInt8), (∀ t ∈ l, (withK t a).2 = 0) → withL a l = (l.map (fun t => (withK t a).1), 0)
 | [], _ => rfl
 | t :: l, h => by
  rw [withL, if_pos (h t (List.mem_cons_self ..)), withL_ok a l fun x hx => h x (List.mem_cons_of_mem _ hx)]
  rfl
theorem withL_bad (a : List UInt8) : ∀ (l : List (List UInt8)) (i : Nat) (t : List UInt8), l[i]? = some t → (∀ x ∈ l.take i, (withK x a).2 = 0) → (withK t a).2 ≠ 0 → withL a l = ([], (withK t a).2)
 | [], i, t, h, _, _ => by simp at h
 | x :: l, 0, t, h, _, hn => by
  simp only [List.getElem?_cons_zero, Option.some.injEq] at h;subst h;rw [withL, if_neg hn]
 | x :: l, i + 1, t, h, hp, hn => by
  rw [List.getElem?_cons_succ] at h;have hx : (withK x a).2 = 0 := hp x (by simp);have ih := withL_bad a l i t h (fun y hy => hp y (by simp [hy])) hn;rw [withL, if_pos hx, ih, if_neg hn]
theorem withK_le (t a : List UInt8) : (withK t a).1.length ≤ maxLen := by
 have := withK_len t a
 unfold maxLen
 omega
def putsAt (a : List UInt8) (l : List (List UInt8)) (i : Nat) : List (List UInt8) := (l.take i).map (fun t => (withK t a).1) ++ l.drop i
theorem putsAt_zero (a : List UInt8) (l : List (List UInt8)) : putsAt a l 0 = l := by simp [putsAt]
theorem putsAt_all (a : List UInt8) (l : List (List UInt8)) : putsAt a l l.length = l.map (fun t => (withK t a).1) := by simp [putsAt]
theorem putsAt_len {a : List UInt8} {l : List (List UInt8)} {i : Nat} (h : i ≤ l.length) : (putsAt a l i).length = l.length := by simp [putsAt]; omega
theorem putsAt_get {a : List UInt8} {l : List (List UInt8)} {i : Nat} {t : List UInt8} (h : l[i]? = some t) : (putsAt a l i)[i]? = some t := by
 have hi := (List.getElem?_eq_some_iff.1 h).1
 have hl : ((l.take i).map (fun t => (withK t a).1)).length = i := by simp; omega
 unfold putsAt
 rw [List.getElem?_append_right (by omega), hl, Nat.sub_self, fdrop_at h]
 rfl
theorem putsAt_set {a : List UInt8} {l : List (List UInt8)} {i : Nat} {t : List UInt8} (h : l[i]? = some t) : (strsC (putsAt a l i)).set i (str (withK t a).1) = strsC (putsAt a l (i + 1)) := by
 have hi := (List.getElem?_eq_some_iff.1 h).1
 have hl : ((l.take i).map (fun t => (withK t a).1)).length = i := by simp; omega
 unfold putsAt
 rw [fdrop_at h, List.take_add_one, h]
 unfold strsC
 rw [List.map_append, List.set_append_right _ _ (by simp; omega)]
 simp only [List.length_map, List.length_take, Nat.min_eq_left (Nat.le_of_lt hi), Nat.sub_self]
 simp
theorem SS.row {w : World} {base : Nat} {e : TypeId} {v : Value} {ss : List (List UInt8)} {n : Nat} (h : w.ownsRow base e 1 v n (strsC ss)) (hn : ss.length = n) (hl : ∀ s ∈ ss, s.length ≤ maxLen) : SS (fun b => base ≤ b) w v ss := by
 subst hn
 exact SS.of_own h hl fun b hb => (h.lt b hb).1
theorem SigV.set4 {D : Nat → Prop} {w : World} {v : Value} {x : SigP} (h : SigV D w v x) {b : Nat} (hb : ∀ b', D b' → b' ≠ b) (a0 a1 a2 a3 : Value) : SigV D (set4 w b a0 a1 a2 a3) v x :=
 (((h.set (a := ⟨b, 0, none⟩) hb _).set (a := ⟨b, 1, none⟩) hb _).set (a := ⟨b, 2, none⟩) hb _).set (a := ⟨b, 3, none⟩) hb _
structure PutS (w : World) (O R : Nat) (bO bR : Obj) (row : Nat → World → Prop) (sg : World → Prop) (i : Nat) (listed : Array Bool) (wx : World) : Prop where
 o : wx.heap[O]? = some bO
 r : wx.heap[R]? = some bR
 s : sg wx
 b : Below w.heap.size w wx
 f : listed.getD 14 false = false → row i wx
 t : listed.getD 14 false = true → row (i + 1) wx
theorem PutS.mark {w : World} {O R : Nat} {bO bR : Obj} {row : Nat → World → Prop} {sg : World → Prop} {i : Nat} {listed : Array Bool} {wx : World} (h : PutS w O R bO bR row sg i listed wx) {j : Nat} (hj : j ≠ 14) : PutS w O R bO bR row sg i (listed.setIfInBounds j true) wx :=
 ⟨h.o, h.r, h.s, h.b, fun e => h.f (by rwa [getD_set_ne false hj] at e), fun e => h.t (by rwa [getD_set_ne false hj] at e)⟩
theorem PutS.call {w : World} {O R : Nat} {bO bR : Obj} {row : Nat → World → Prop} {sg : World → Prop} {i : Nat} {listed : Array Bool} {wx w3 : World} (h : PutS w O R bO bR row sg i listed wx) (hb : Below wx.heap.size wx w3) (hr : ∀ k, row k wx → row k w3) (hs : sg wx → sg w3) : PutS w O R bO bR row sg i listed w3 :=
 ⟨kept_call h.o hb, kept_call h.r hb, hs h.s, h.b.trans (below_less hb h.b.size), fun e => hr _ (h.f e), fun e => hr _ (h.t e)⟩
set_option maxRecDepth 8000 in
set_option maxHeartbeats 6400000 in
theorem put_none {D : Nat → Prop} (x : Value) (s : SigP) (w : World) (hx : SigV D w x s) (h1 : s.args.length ≤ 100000) (h2 : s.sigs.length ≤ 100000) :
 Calls Tryz.prog 64 #[x, str []] w fun e w' => ∃ v, e = .returned (.tuple #[v, .int .i64 0]) ∧ SigV (fun b => w.heap.size ≤ b) w' v s ∧ Below w.heap.size w w' := by
 have HC := fun W (hW : Below w.heap.size w W) => cloned_any x s W (hx.below hW (nl _)) h1 h2
 obtain ⟨av, sv, rfl, hr, ha, hs⟩ := hx
 obtain ⟨p1, c1, rfl, _⟩ := ha.shape
 obtain ⟨p2, c2, rfl, _⟩ := hs.shape
 obtain ⟨it, ar, re, sg⟩ := s
 dsimp only at *
 have hA := ((Below.refl _ w).alloc (nl _) (.cells #[.bool it, .slice p1 ar.length c1, str re, .slice p2 sg.length c2] 36))
 have hB := hA.alloc (by simp) (.cells #[.bool false, .slice none 0 0, .string ⟨#[]⟩, .slice none 0 0] 36)
 have hg2 := heap_to (w := w.alloc (.cells #[.bool it, .slice p1 ar.length c1, str re, .slice p2 sg.length c2] 36)) (n := w.heap.size + 1) (by simp) #[.bool false, .slice none 0 0, .string ⟨#[]⟩, .slice none 0 0] 36
 clear ha hs
 go_enter Tryz.func64, Tryz.ntmps64
 go_wp2_with (go_at_call 94; refine (HC _ hB).mono ?_; clear HC; rintro e w1 ⟨v1, rfl, hS, hb1, a1, q1, rfl, ho1, hs1⟩; obtain ⟨pa, ca, rfl⟩ := row_shape ho1; obtain ⟨pq, cq, rfl, _⟩ := hs1.shape; have hg2 := kept_call hg2 hb1; have bx := (box4 (heap_up (.cells #[.bool it, .slice pa ar.length ca, .string ⟨re.toArray⟩, .slice pq sg.length cq] 36) hg2)).1; have by1 := (box4 (heap_up (.cells #[.bool it, .slice pa ar.length ca, .string ⟨re.toArray⟩, .slice pq sg.length cq] 36) hg2)).2)
 refine bodyPost_ret (v := .tuple #[.agg #[.bool it, .slice pa ar.length ca, str re, .slice pq sg.length cq], .int .i64 0]) (by simp [results, Tryz.results64, go_sem, bx]) rfl ?_
 have hz1 := hb1.size
 simp only [World.size_alloc] at hz1
 refine ⟨_, rfl, (SigV.set4 (hS.below ((Below.refl _ w1).alloc (nl _) _) (nl _)) (b := w.heap.size + 1) (by intro b hb; simp at hb; omega) _ _ _ _).mono (by intro b hb; simp at hb; omega), Below.set4 ((hB.trans (below_less hb1 (by simp; omega))).alloc (by omega) _) (b := w.heap.size + 1) (by omega) _ _ _ _⟩
set_option maxRecDepth 8000 in
set_option maxHeartbeats 12800000 in
theorem put_some {D : Nat → Prop} (x : Value) (s : SigP) (a : List UInt8) (w : World) (ht : Tab w) (hx : SigV D w x s) (h1 : s.args.length ≤ 100000) (h2 : s.sigs.length ≤ 100000) (hal : a.length ≤ maxLen) (hne : a ≠ []) :
 Calls Tryz.prog 64 #[x, str a] w fun e w' => ∃ v, e = .returned (.tuple #[v, .int .i64 (putK s a).2]) ∧ SigV (fun b => w.heap.size ≤ b) w' v (putK s a).1 ∧ Below w.heap.size w w' := by
 have HC := fun W (hW : Below w.heap.size w W) => cloned_any x s W (hx.below hW (nl _)) h1 h2
 have hem : a.isEmpty = false := by simpa using hne
 obtain ⟨av, sv, rfl, hr, ha, hs⟩ := hx
 have HAL := Lib.hid ha.le
 obtain ⟨p1, c1, rfl, _⟩ := ha.shape
 obtain ⟨p2, c2, rfl, _⟩ := hs.shape
 obtain ⟨it, ar, re, sg⟩ := s
 dsimp only at *
 have HPK := Lib.hid (show putK ⟨it, ar, re, sg⟩ a = if (withL a ar).2 ≠ 0 then (.zero, (withL a ar).2) else if re = [] then (⟨it, (withL a ar).1, [], sg⟩, 0) else if (withK re a).2 ≠ 0 then (.zero, (withK re a).2) else (⟨it, (withL a ar).1, (withK re a).1, sg⟩, 0) by unfold putK; rw [if_neg hne])
 generalize putK ⟨it, ar, re, sg⟩ a = PK at *
 have hA := ((Below.refl _ w).alloc (nl _) (.cells #[.bool it, .slice p1 ar.length c1, str re, .slice p2 sg.length c2] 36))
 have hB := hA.alloc (by simp) (.cells #[.bool false, .slice none 0 0, .string ⟨#[]⟩, .slice none 0 0] 36)
 have hg2 := heap_to (w := w.alloc (.cells #[.bool it, .slice p1 ar.length c1, str re, .slice p2 sg.length c2] 36)) (n := w.heap.size + 1) (by simp) #[.bool false, .slice none 0 0, .string ⟨#[]⟩, .slice none 0 0] 36
 clear ha hs
 go_enter Tryz.func64, Tryz.ntmps64
 go_wp2_with (go_at_call 94; refine (HC _ hB).mono ?_; clear HC; rintro e w1 ⟨v1, rfl, hS, hb1, a1, q1, rfl, ho1, hs1⟩; obtain ⟨pa, ca, rfl⟩ := row_shape ho1; obtain ⟨pq, cq, rfl, _⟩ := hs1.shape; have hg2 := kept_call hg2 hb1)
 have hz1 := hb1.size
 simp only [World.size_alloc] at hz1 ho1 hs1
 have hB := (hB.trans (below_less hb1 (by simp; omega))).alloc (by omega) (.cells #[.bool it, .slice pa ar.length ca, .string ⟨re.toArray⟩, .slice pq sg.length cq] 36)
 have hg2 := heap_up (.cells #[.bool it, .slice pa ar.length ca, .string ⟨re.toArray⟩, .slice pq sg.length cq] 36) hg2
 have hg6 := heap_alloc_new w1 (.cells #[.bool it, .slice pa ar.length ca, .string ⟨re.toArray⟩, .slice pq sg.length cq] 36)
 have hrO : (Value.slice pa ar.length ca).ownBlock ≠ some w1.heap.size := fun e => by have := ownsRow_lt ho1 e; omega
 have hsO : SS (fun b => w.heap.size + 2 ≤ b ∧ (Value.slice pa ar.length ca).ownBlock ≠ some b ∧ b ≠ w1.heap.size) (w1.alloc (.cells #[.bool it, .slice pa ar.length ca, .string ⟨re.toArray⟩, .slice pq sg.length cq] 36)) (.slice pq sg.length cq) sg := (hs1.fresh.below ((Below.refl _ w1).alloc (nl _) (.cells #[.bool it, .slice pa ar.length ca, .string ⟨re.toArray⟩, .slice pq sg.length cq] 36)) (nl _)).mono fun b hb => ⟨by omega, hb.1.2, by omega⟩
 have hO1 := ho1.alloc (.cells #[.bool it, .slice pa ar.length ca, .string ⟨re.toArray⟩, .slice pq sg.length cq] 36)
 clear hS hs1 hb1
 generalize hOO : w1.heap.size = O at *
 generalize w1.alloc (.cells #[.bool it, .slice pa ar.length ca, .string ⟨re.toArray⟩, .slice pq sg.length cq] 36) = W at *
 clear ho1
 go_loopw [7, 17] (fun e y wx => ∃ i : Nat, i ≤ ar.length ∧ e = .int .i64 0 ∧ y = .int .i64 i ∧ wx.ownsRow (w.heap.size + 4) 9 1 (.slice pa ar.length ca) ar.length (strsC (putsAt a ar i)) ∧ wx.heap[O]? = some (.cells #[.bool it, .slice pa ar.length ca, .string ⟨re.toArray⟩, .slice pq sg.length cq] 36) ∧ wx.heap[w.heap.size + 1]? = some (.cells #[.bool false, .slice none 0 0, .string ⟨#[]⟩, .slice none 0 0] 36) ∧ SS (fun b => w.heap.size + 2 ≤ b ∧ (Value.slice pa ar.length ca).ownBlock ≠ some b ∧ b ≠ O) wx (.slice pq sg.length cq) sg ∧ Below w.heap.size w wx ∧ Hid (∀ t ∈ ar.take i, (withK t a).2 = 0)) (fun _ y _ => ar.length - (intOf y).toNat)
 case atStart => exact ⟨0, Nat.zero_le _, by go_num, by go_num, by rw [putsAt_zero]; exact hO1, hg6, hg2, hsO, hB, (by intro t h; simp at h)⟩
 case round =>
  clear hO1 hg6 hg2 hsO hB;obtain ⟨i, hi, rfl, rfl, ho, hg6, hg2, hs, hb, hA⟩ := hrel
  by_cases hlt : i < ar.length
  case neg =>
   have hie : i = ar.length := by omega
   subst hie;rw [putsAt_all] at ho;have HLK := Lib.hid (show withL a ar = (ar.map (fun t => (withK t a).1), 0) from withL_ok a ar (fun t ht => hA.out t (by rw [List.take_length]; exact ht)));have hwl : ∀ s ∈ ar.map (fun t => (withK t a).1), s.length ≤ maxLen := by
    intro s hs;obtain ⟨t, _, rfl⟩ := List.mem_map.1 hs;exact withK_le t a
   have hrs : SS (fun b => w.heap.size + 4 ≤ b ∧ b ≠ O) wr (.slice pa ar.length ca) (ar.map (fun t => (withK t a).1)) := (SS.of_own (by rw [List.length_map]; exact ho) hwl (D := fun b => w.heap.size + 4 ≤ b ∧ (Value.slice pa ar.length ca).ownBlock = some b) (fun b hb => ⟨(ho.lt b hb).1, hb⟩)).mono fun b hb => ⟨hb.1, fun e => hrO (by rw [← e]; exact hb.2)⟩
   have bO := box4 hg6;have bR := box4 hg2;clear hA hwl
   by_cases h0 : re = []
   · subst h0
     have HP := Lib.hid (show PK = (⟨it, ar.map (fun t => (withK t a).1), [], sg⟩, 0) by rw [HPK.out, HLK.out]; simp);go_wp2_with fail;refine bodyPost_ret (v := .tuple #[.agg #[.bool it, .slice pa ar.length ca, str [], .slice pq sg.length cq], .int .i64 0]) (by simp [results, Tryz.results64, go_sem, bR.1]) rfl ?_;rw [HP.out];refine ⟨_, rfl, ⟨_, _, rfl, by simp, ?_, ?_⟩, Below.set4 hb (b := w.heap.size + 1) (by omega) _ _ _ _⟩
     · exact (SS.set4 hrs (b := w.heap.size + 1) (by intro b hb; have := hb.1; omega) _ _ _ _).mono (by intro b hb; have := hb.1; omega)
     · exact (SS.set4 hs (b := w.heap.size + 1) (by intro b hb; have := hb.1; omega) _ _ _ _).mono (by intro b hb; have := hb.1; omega)
   · have hre : re.isEmpty = false := by simpa using h0
     have HW := kwith_any re a hr hal wr (ht.below hb (nl _));have hyl := withK_le re a;have HP := Lib.hid (show PK = if (withK re a).2 ≠ 0 then (.zero, (withK re a).2) else (⟨it, ar.map (fun t => (withK t a).1), (withK re a).1, sg⟩, 0) by rw [HPK.out, HLK.out]; simp [h0]);generalize (withK re a).2 = C at *;generalize (withK re a).1 = Y at *
     by_cases hC : C = 0
     · subst hC
       have HP := Lib.hid (HP.out.trans (if_neg (by simp)));clear h0;go_wp2_with (go_at_call 123; refine HW.mono ?_; clear HW; rintro e w5 ⟨rfl, hb5⟩; have hg6 := kept_call hg6 hb5; have hg2 := kept_call hg2 hb5; have bO := box4 hg6; have bR := box4 hg2);refine bodyPost_ret (v := .tuple #[.agg #[.bool it, .slice pa ar.length ca, str Y, .slice pq sg.length cq], .int .i64 0]) (by simp [results, Tryz.results64, go_sem, bR.1]) rfl ?_;rw [HP.out];have hb6 := hb.trans (below_less hb5 hb.size);refine ⟨_, rfl, ⟨_, _, rfl, hyl, ?_, ?_⟩, Below.set4 (hb6.setCell (p := ⟨O, 2, none⟩) (by simp only; omega) _) (b := w.heap.size + 1) (by omega) _ _ _ _⟩
       · exact (SS.set4 ((hrs.below hb5 (nl _)).set (a := ⟨O, 2, none⟩) (by intro b hb; exact hb.2) (str Y)) (b := w.heap.size + 1) (by intro b hb; have := hb.1; omega) _ _ _ _).mono (by intro b hb; have := hb.1; omega)
       · exact (SS.set4 ((hs.below hb5 (nl _)).set (a := ⟨O, 2, none⟩) (by intro b hb; exact hb.2.2) (str Y)) (b := w.heap.size + 1) (by intro b hb; have := hb.1; omega) _ _ _ _).mono (by intro b hb; have := hb.1; omega)
     · obtain ⟨g1, g2⟩ := nat_ne0 hC
       have HP := Lib.hid (HP.out.trans (if_pos hC));clear h0 hC;go_wp2_with (go_at_call 123; refine HW.mono ?_; clear HW; rintro e w5 ⟨rfl, hb5⟩; have hg6 := kept_call hg6 hb5; have hg2 := kept_call hg2 hb5; have bO := box4 hg6; have bR := box4 hg2);refine bodyPost_ret (v := .tuple #[.agg #[.bool false, .slice none 0 0, str [], .slice none 0 0], .int .i64 C]) (by simp [results, Tryz.results64, go_sem, bR.1]) rfl ?_;rw [HP.out];have hb6 := hb.trans (below_less hb5 hb.size);exact ⟨_, rfl, SigV.zero _ _, Below.set4 (hb6.setCell (p := ⟨O, 2, none⟩) (by simp only; omega) _) (b := w.heap.size + 1) (by omega) _ _ _ _⟩
  case pos =>
   obtain ⟨t, hkt⟩ : ∃ t, ar[i]? = some t := ⟨_, List.getElem?_eq_getElem hlt⟩
   have HPRE := hA;have htl : t.length ≤ maxLen := HAL.out t (List.mem_of_getElem? hkt);obtain ⟨g, rfl⟩ : ∃ g, pa = some ⟨g, 0, none⟩ := by
    rcases ho.2 with ⟨_, h0⟩ | ⟨g, cap, cur, h0, _⟩
    · omega
    · injection h0 with h0
      exact ⟨g, h0⟩
   have hgO : g ≠ O := fun e => hrO (by rw [e]; rfl)
   have hcell : wr.cell? ⟨g, i, none⟩ = some (str t) := by
    have := ho.cells (g := g) rfl i (str t) (by rw [strsC_get _ _ (by rw [putsAt_len hi]; exact hlt)]; have h := putsAt_get (a := a) hkt; rw [List.getElem?_eq_getElem (by rw [putsAt_len hi]; exact hlt)] at h; simpa using h)
    rwa [show (⟨g, 0, none⟩ : Addr).add i = ⟨g, i, none⟩ from by unfold Addr.add; simp; omega] at this
   have hfree : wr.frozen? ⟨g, i, none⟩ = false := ho.frozenAt i;have hbox := (box4 hg6).1.2.1;have gi : (i : Int) < (ar.length : Int) := by omega
   go_upto_region 8 with fail;have HCELL := Lib.hid (show ∀ wx : World, wx.ownsRow (w.heap.size + 4) 9 1 (.slice (some ⟨g, 0, none⟩) ar.length ca) ar.length (strsC (putsAt a ar i)) → wx.cell? ⟨g, i, none⟩ = some (str t) by
    intro wx ho;have := ho.cells (g := g) rfl i (str t) (by rw [strsC_get _ _ (by rw [putsAt_len hi]; exact hlt)]; have h := putsAt_get (a := a) hkt; rw [List.getElem?_eq_getElem (by rw [putsAt_len hi]; exact hlt)] at h; simpa using h)
    rwa [show (⟨g, 0, none⟩ : Addr).add i = ⟨g, i, none⟩ from by unfold Addr.add; simp; omega] at this)
   have HSET := Lib.hid (putsAt_set (a := a) hkt);refine wp_region_free (S := PutS w O (w.heap.size + 1) (.cells #[.bool it, .slice (some ⟨g, 0, none⟩) ar.length ca, .string ⟨re.toArray⟩, .slice pq sg.length cq] 36) (.cells #[.bool false, .slice none 0 0, .string ⟨#[]⟩, .slice none 0 0] 36) (fun k wx => wx.ownsRow (w.heap.size + 4) 9 1 (.slice (some ⟨g, 0, none⟩) ar.length ca) ar.length (strsC (putsAt a ar k))) (fun wx => SS (fun b => w.heap.size + 2 ≤ b ∧ (Value.slice (some ⟨g, 0, none⟩) ar.length ca).ownBlock ≠ some b ∧ b ≠ O) wx (.slice pq sg.length cq) sg) i) (A := fun j v => match j with
    | 0 => v = .pointer (some ⟨O, 1, none⟩)
    | 1 => v = .slice (some ⟨g, 0, none⟩) ar.length ca
    | 2 => v = .int .i64 i
    | 3 => v = .pointer (some ⟨O, 1, none⟩)
    | 4 => v = .slice (some ⟨g, 0, none⟩) ar.length ca
    | 5 => v = .int .i64 i
    | 6 => v = .pointer (some ⟨g, i, none⟩)
    | 7 => v = str t
    | 8 => v = str a
    | 9 => v = .tuple #[str (withK t a).1, .int .i64 (withK t a).2]
    | 10 => v = .tuple #[str (withK t a).1, .int .i64 (withK t a).2]
    | 11 => v = str (withK t a).1
    | 12 => v = .int .i64 (withK t a).2
    | 13 => v = .pointer (some ⟨g, i, none⟩)
    | 15 => v = .int .i64 (withK t a).2
    | _ => True) (by kernel_rfl) (by kernel_rfl) (by kernel_rfl) ⟨hg6, hg2, hs, hb.drew, fun _ => ho, fun h => by simp at h⟩ ⟨?_, ?_, ?_, ?_, ?_, ?_, ?_, ?_, ?_, ?_, ?_, ?_, ?_, ?_, ?_, ?_, trivial⟩ ?_
   · intro listed x wx hLs hLi hS hcl hd ho next hn
     have e6 : x.tmps[6]?.getD undef = .pointer (some ⟨O, 0, none⟩) := ev_at (ho 6 (out_of (by kernel_rfl)));clear hd ho hcl;unfold Oper.wp;simp only [execOp];simp [go_sem, e6];exact hn _ _ rfl (hS.mark (by decide))
   · intro listed x wx hLs hLi hS hcl hd ho next hn
     have e21 : x.tmps[21]?.getD undef = .pointer (some ⟨O, 1, none⟩) := ev_at (hd { on := 0, ground := .data } (by simp) rfl _ 21 rfl rfl);have hc := (box4 hS.o).1.2.1;clear hd ho hcl;unfold Oper.wp;simp only [execOp];simp [go_sem, e21, hc];exact hn _ _ rfl (hS.mark (by decide))
   · intro listed x wx hLs hLi hS hcl hd ho next hn
     have e8 : x.tmps[8]?.getD undef = .int .i64 i := ev_at (ho 8 (out_of (by kernel_rfl)));clear hd ho hcl;unfold Oper.wp;simp only [execOp];simp [go_sem, e8];exact hn _ _ rfl (hS.mark (by decide))
   · intro listed x wx hLs hLi hS hcl hd ho next hn
     have e6 : x.tmps[6]?.getD undef = .pointer (some ⟨O, 0, none⟩) := ev_at (ho 6 (out_of (by kernel_rfl)));clear hd ho hcl;unfold Oper.wp;simp only [execOp];simp [go_sem, e6];exact hn _ _ rfl (hS.mark (by decide))
   · intro listed x wx hLs hLi hS hcl hd ho next hn
     have e24 : x.tmps[24]?.getD undef = .pointer (some ⟨O, 1, none⟩) := ev_at (hd { on := 3, ground := .data } (by simp) rfl _ 24 rfl rfl);have hc := (box4 hS.o).1.2.1;clear hd ho hcl;unfold Oper.wp;simp only [execOp];simp [go_sem, e24, hc];exact hn _ _ rfl (hS.mark (by decide))
   · intro listed x wx hLs hLi hS hcl hd ho next hn
     have e8 : x.tmps[8]?.getD undef = .int .i64 i := ev_at (ho 8 (out_of (by kernel_rfl)));clear hd ho hcl;unfold Oper.wp;simp only [execOp];simp [go_sem, e8];exact hn _ _ rfl (hS.mark (by decide))
   · intro listed x wx hLs hLi hS hcl hd ho next hn
     have e25 : x.tmps[25]?.getD undef = .slice (some ⟨g, 0, none⟩) ar.length ca := ev_at (hd { on := 4, ground := .data } (by simp) rfl _ 25 rfl rfl);have e26 : x.tmps[26]?.getD undef = .int .i64 i := ev_at (hd { on := 5, ground := .data } (by simp) rfl _ 26 rfl rfl);clear hd ho hcl;unfold Oper.wp;simp only [execOp];simp [go_sem, e25, e26, gi];exact hn _ _ rfl (hS.mark (by decide))
   · intro listed x wx hLs hLi hS hcl hd ho next hn
     have e27 : x.tmps[27]?.getD undef = .pointer (some ⟨g, i, none⟩) := ev_at (hd { on := 6, ground := .data } (by simp) rfl _ 27 rfl rfl);have h14 : listed.getD 14 false = false := by
      rcases hq : listed.getD 14 false with _ | _
      · rfl
      · exfalso
        have q11 := hcl 14 _ { on := 11, ground := .data } rfl hq (by simp) rfl;have q10 := hcl 11 _ { on := 10, ground := .data } rfl q11 (by simp) rfl;have q9 := hcl 10 _ { on := 9, ground := .data } rfl q10 (by simp) rfl;have q7 := hcl 9 _ { on := 7, ground := .data } rfl q9 (by simp) rfl;have hz : 7 < listed.size := by rw [hLs]; decide
        simp [Array.getD_eq_getD_getElem?, hz] at q7 hLi;rw [q7] at hLi;cases hLi
     have hc := HCELL.out wx (hS.f h14);clear hd ho hcl;unfold Oper.wp;simp only [execOp];simp [go_sem, e27, hc];exact hn _ _ rfl (hS.mark (by decide))
   · intro listed x wx hLs hLi hS hcl hd ho next hn
     have e1 : x.tmps[1]?.getD undef = str a := ev_at (ho 1 (out_of (by kernel_rfl)));clear hd ho hcl;unfold Oper.wp;simp only [execOp];simp [go_sem, e1];exact hn _ _ rfl (hS.mark (by decide))
   · intro listed x wx hLs hLi hS hcl hd ho next hn
     have e28 : x.tmps[28]?.getD undef = str t := ev_at (hd { on := 7, ground := .data } (by simp) rfl _ 28 rfl rfl);have e29 : x.tmps[29]?.getD undef = str a := ev_at (hd { on := 8, ground := .data } (by simp) rfl _ 29 rfl rfl);clear hd ho hcl;unfold Oper.wp;simp only [execOp];simp [go_sem, e28, e29];refine (kwith_any t a htl hal wx (ht.below hS.b (nl _))).mono ?_;rintro e w3 ⟨rfl, hb3⟩;exact hn _ _ rfl ((hS.call hb3 (fun k h => ownsRow_below h hb3 (nl _)) (fun h => h.below hb3 (nl _))).mark (by decide))
   · intro listed x wx hLs hLi hS hcl hd ho next hn
     have e30 : x.tmps[30]?.getD undef = .tuple #[str (withK t a).1, .int .i64 (withK t a).2] := ev_at (hd { on := 9, ground := .data } (by simp) rfl _ 30 rfl rfl);clear hd ho hcl;unfold Oper.wp;simp only [execOp];simp [go_sem, e30];exact hn _ _ rfl (hS.mark (by decide))
   · intro listed x wx hLs hLi hS hcl hd ho next hn
     have e20 : x.tmps[20]?.getD undef = .tuple #[str (withK t a).1, .int .i64 (withK t a).2] := ev_at (hd { on := 10, ground := .data } (by simp) rfl _ 20 rfl rfl);clear hd ho hcl;unfold Oper.wp;simp only [execOp];simp [go_sem, e20];exact hn _ _ rfl (hS.mark (by decide))
   · intro listed x wx hLs hLi hS hcl hd ho next hn
     have e20 : x.tmps[20]?.getD undef = .tuple #[str (withK t a).1, .int .i64 (withK t a).2] := ev_at (hd { on := 10, ground := .data } (by simp) rfl _ 20 rfl rfl);clear hd ho hcl;unfold Oper.wp;simp only [execOp];simp [go_sem, e20];exact hn _ _ rfl (hS.mark (by decide))
   · intro listed x wx hLs hLi hS hcl hd ho next hn
     have e22 : x.tmps[22]?.getD undef = .slice (some ⟨g, 0, none⟩) ar.length ca := ev_at (hd { on := 1, ground := .data } (by simp) rfl _ 22 rfl rfl);have e23 : x.tmps[23]?.getD undef = .int .i64 i := ev_at (hd { on := 2, ground := .data } (by simp) rfl _ 23 rfl rfl);clear hd ho hcl;unfold Oper.wp;simp only [execOp];simp [go_sem, e22, e23, gi];exact hn _ _ rfl (hS.mark (by decide))
   · intro listed x wx hLs hLi hS hcl hd ho next hn
     have e33 : x.tmps[33]?.getD undef = .pointer (some ⟨g, i, none⟩) := ev_at (hd { on := 13, ground := .data } (by simp) rfl _ 33 rfl rfl);have e31 : x.tmps[31]?.getD undef = str (withK t a).1 := ev_at (hd { on := 11, ground := .data } (by simp) rfl _ 31 rfl rfl);have h14 : listed.getD 14 false = false := by
      have hz : 14 < listed.size := by rw [hLs]; decide
      simp [Array.getD_eq_getD_getElem?, hz] at hLi ⊢;exact hLi
     have hrw := hS.f h14;have hc := HCELL.out wx hrw;have hfz : wx.frozen? ⟨g, i, none⟩ = false := World.ownsRow.frozenAt hrw i;clear hd ho hcl;unfold Oper.wp;simp only [execOp];simp [go_sem, e31, e33, hc, hfz];have hst := World.ownsRow.stored hrw i (str (withK t a).1);rw [HSET.out] at hst;refine hn undef _ trivial ⟨?_, ?_, ?_, ?_, ?_, ?_⟩
     · exact (heap_setCell_other wx ⟨g, i, none⟩ O _ (fun e => hgO e.symm)).trans hS.o
     · exact (heap_setCell_other wx ⟨g, i, none⟩ (w.heap.size + 1) _ (by have := (hrw.lt g rfl).1; simp only; omega)).trans hS.r
     · exact hS.s.set (a := ⟨g, i, none⟩) (fun b hb e => hb.2.1 (by rw [e]; rfl)) _
     · exact hS.b.setCell (p := ⟨g, i, none⟩) (by have := (hrw.lt g rfl).1; simp only; omega) _
     · intro h; exfalso; have hz : 14 < listed.size := by rw [hLs]; decide
       simp [Array.getD_eq_getD_getElem?, hz] at h
     · intro _; exact hst.1
   · intro listed x wx hLs hLi hS hcl hd ho next hn
     have e32 : x.tmps[32]?.getD undef = .int .i64 (withK t a).2 := ev_at (hd { on := 12, ground := .data } (by simp) rfl _ 32 rfl rfl);clear hd ho hcl;unfold Oper.wp;simp only [execOp];simp [go_sem, e32];exact hn _ _ rfl (hS.mark (by decide))
   · intro x wx hdf hsz hout hS hA
     obtain ⟨listed, hall, hS⟩ := hS;have hrow := hS.t (hall 14 (by decide));have e21 : x.tmps.getD 21 undef = .pointer (some ⟨O, 1, none⟩) := hA 0 _ 21 rfl rfl;have e22 : x.tmps.getD 22 undef = .slice (some ⟨g, 0, none⟩) ar.length ca := hA 1 _ 22 rfl rfl;have e23 : x.tmps.getD 23 undef = .int .i64 i := hA 2 _ 23 rfl rfl;have e24 : x.tmps.getD 24 undef = .pointer (some ⟨O, 1, none⟩) := hA 3 _ 24 rfl rfl;have e25 : x.tmps.getD 25 undef = .slice (some ⟨g, 0, none⟩) ar.length ca := hA 4 _ 25 rfl rfl;have e26 : x.tmps.getD 26 undef = .int .i64 i := hA 5 _ 26 rfl rfl;have e27 : x.tmps.getD 27 undef = .pointer (some ⟨g, i, none⟩) := hA 6 _ 27 rfl rfl;have e28 : x.tmps.getD 28 undef = str t := hA 7 _ 28 rfl rfl;have e29 : x.tmps.getD 29 undef = str a := hA 8 _ 29 rfl rfl;have e30 : x.tmps.getD 30 undef = .tuple #[str (withK t a).1, .int .i64 (withK t a).2] := hA 9 _ 30 rfl rfl;have e20 : x.tmps.getD 20 undef = .tuple #[str (withK t a).1, .int .i64 (withK t a).2] := hA 10 _ 20 rfl rfl;have e31 : x.tmps.getD 31 undef = str (withK t a).1 := hA 11 _ 31 rfl rfl;have e32 : x.tmps.getD 32 undef = .int .i64 (withK t a).2 := hA 12 _ 32 rfl rfl;have e33 : x.tmps.getD 33 undef = .pointer (some ⟨g, i, none⟩) := hA 13 _ 33 rfl rfl;have e7 : x.tmps.getD 7 undef = .int .i64 (withK t a).2 := hA 15 _ 7 rfl rfl;have ha := act_puts hdf hsz hout;simp only [putsOf, e21, e22, e23, e24, e25, e26, e27, e28, e29, e30, e20, e31, e32, e33, e7, pz, pw] at ha;subst ha;clear hdf hsz hout hA hall e21 e22 e23 e24 e25 e26 e27 e28 e29 e30 e20 e31 e32 e33 e7;have hg6 := hS.o;have hg2 := hS.r;have hs := hS.s;have hb := hS.b;clear hS
     by_cases h0 : (withK t a).2 = 0
     · have HA2 : Hid (∀ y ∈ ar.take (i + 1), (withK y a).2 = 0) := by
        intro y hy;rw [List.take_add_one, hkt] at hy;rcases List.mem_append.1 hy with hy | hy
        · exact HPRE.out y hy
        · simp at hy
          rw [hy];exact h0
       rw [h0];clear hkt;go_wp2_with fail;exact ⟨⟨i + 1, by omega, by go_num, by go_num, hrow, hg6, hg2, hs, hb, HA2⟩, by simp only [intOf]; omega⟩
     · obtain ⟨g1, g2⟩ := nat_ne0 h0
       have HP := Lib.hid (show PK = (.zero, (withK t a).2) by rw [HPK.out, withL_bad a ar i t hkt HPRE.out h0, if_pos h0]);have bR := box4 hg2;clear hkt h0;go_wp2_with fail;refine bodyPost_ret (v := .tuple #[.agg #[.bool false, .slice none 0 0, str [], .slice none 0 0], .int .i64 (withK t a).2]) (by simp [results, Tryz.results64, go_sem, bR.1]) rfl ?_;rw [HP.out];exact ⟨_, rfl, SigV.zero _ _, Below.set4 hb (b := w.heap.size + 1) (by omega) _ _ _ _⟩
theorem put_any {D : Nat → Prop} (x : Value) (s : SigP) (a : List UInt8) (w : World) (ht : Tab w) (hx : SigV D w x s) (h1 : s.args.length ≤ 100000) (h2 : s.sigs.length ≤ 100000) (hal : a.length ≤ maxLen) :
 Calls Tryz.prog 64 #[x, str a] w fun e w' => ∃ v, e = .returned (.tuple #[v, .int .i64 (putK s a).2]) ∧ SigV (fun b => w.heap.size ≤ b) w' v (putK s a).1 ∧ Below w.heap.size w w' := by
 by_cases h : a = []
 · subst h
   have hp : putK s [] = (s, 0) := by unfold putK; rw [if_pos rfl]
   rw [hp];exact put_none x s w hx h1 h2
 · exact put_some x s a w ht hx h1 h2 hal h
end Go.Proofs.YtakgjcfkdemipaaGreatDoor
namespace Go.Proofs.YtakgjcfkdemipaaGreatDoor
open Go.RowKit
def opsC (par : Bool) : List (List UInt8) → List OpP → Bool
 | _, [] => true
 | acc, o :: l => !hasB acc o.name && (isName o.name && (saidK o.sig par && opsC par (acc ++ [o.name]) l))
theorem opsC_eq (par : Bool) : ∀ (l : List OpP) (acc : List (List UInt8)), opsC par acc l = (l.all (fun o => isName o.name && saidK o.sig par) && onceN (l.map (·.name)) && l.all (fun o => !hasB acc o.name))
 | [], acc => rfl
 | o :: l, acc => by
  have key : l.all (fun x => !hasB (acc ++ [o.name]) x.name) = (!(l.map (·.name)).contains o.name && l.all (fun x => !hasB acc x.name)) := by
   clear opsC_eq
   induction l with
   | nil => rfl
   | cons x l ih =>
    rw [List.all_cons, ih, List.map_cons, List.contains_cons, List.all_cons];have h1 : hasB (acc ++ [o.name]) x.name = (hasB acc x.name || (o.name == x.name)) := by
     unfold hasB;simp only [List.contains_eq_any_beq, List.any_append, List.any_cons, List.any_nil, Bool.or_false];rw [BEq.comm (a := x.name)]
    rw [h1];cases hasB acc x.name <;> cases (o.name == x.name) <;> cases (l.map (·.name)).contains o.name <;> simp
  rw [opsC, opsC_eq par l, key];simp only [List.all_cons, List.map_cons, onceN];cases isName o.name <;> cases saidK o.sig par <;> cases hasB acc o.name <;> cases (l.map (·.name)).contains o.name <;> cases onceN (l.map (·.name)) <;> simp
def loneC (f : FaceP) : Bool := decide (f.kind = 3) || match f.ops with
 | [o] => decide (o.name = f.name) && decide (o.sig.iter = decide (f.kind = 2))
 | _ => false
theorem faceK_eq (f : FaceP) : faceK f = (isName f.name && (decide (1 ≤ f.kind) && (decide (f.kind ≤ 3) && (neededK f.needs && ((f.par || f.needs.isEmpty) && (decide (1 ≤ f.ops.length) && (decide (f.ops.length ≤ 20) && (opsC f.par [] f.ops && loneC f)))))))) := by
 have h : f.ops.all (fun o => !hasB [] o.name) = true := by rw [List.all_eq_true]; intro o _; rfl
 rw [opsC_eq, h, Bool.and_true]
 unfold faceK loneC
 simp only [Bool.and_assoc]
 rfl
def faceE (f : FaceP) : Nat := if faceK f = true then 0 else 42
theorem faceE_no {f : FaceP} (h : faceK f = false) : faceE f = 42 := by unfold faceE; rw [h]; rfl
theorem faceE_yes {f : FaceP} (h : faceK f = true) : faceE f = 0 := by unfold faceE; rw [h]; rfl
set_option maxRecDepth 8000 in
set_option maxHeartbeats 6400000 in
theorem fcheck_start {D : Nat → Prop} (v : Value) (f : FaceP) (w : World) (ht : Tab w) (hv : FaceV D w v f) (hn : f.needs.length ≤ 100000)
 (hbad : (isName f.name && (decide (1 ≤ f.kind) && (decide (f.kind ≤ 3) && (neededK f.needs && ((f.par || f.needs.isEmpty) && (decide (1 ≤ f.ops.length) && decide (f.ops.length ≤ 20))))))) = false) :
 Calls Tryz.prog 38 #[v] w fun e w' => e = .returned (.int .i64 42) ∧ Below w.heap.size w w' := by
 obtain ⟨nv, ov, rfl, hnl, h1, h2⟩ := hv
 have HN := fun W (hW : Below w.heap.size w W) => tIsName_any f.name W (ht.below hW (nl _)) hnl
 have HD := fun W (hW : Below w.heap.size w W) => needed_any f.needs nv W (ht.below hW (nl _)) (h1.below hW (nl _)) hn
 obtain ⟨p1, c1, rfl, _⟩ := h1.shape
 obtain ⟨p2, c2, rfl, _⟩ := h2.shape
 obtain ⟨name, kind, par, needs, ops⟩ := f
 dsimp only at *
 have hB := ((Below.refl _ w).alloc (nl _) (.cells #[str name, .int .u8 kind, .bool par, .slice p1 needs.length c1, .slice p2 ops.length c2] 58))
 have hg := heap_alloc_new w (.cells #[str name, .int .u8 kind, .bool par, .slice p1 needs.length c1, .slice p2 ops.length c2] 58)
 clear h1 h2
 rcases k1 : isName name with _ | _
 · rw [k1] at HN
   clear hbad;go_enter Tryz.func38, Tryz.ntmps38;go_wp2_with (go_at_call 88; refine (HN _ hB).mono ?_; clear HN; rintro e w1 ⟨rfl, hb1⟩; have hB := hB.trans (below_less hb1 hB.size));go_ret;exact ⟨rfl, hB⟩
 rw [k1] at HN hbad
 by_cases k2 : 1 ≤ kind
 case neg =>
  have g : (kind : Int) < 1 := by omega
  clear hbad;go_enter Tryz.func38, Tryz.ntmps38;go_wp2_with (go_at_call 88; refine (HN _ hB).mono ?_; clear HN; rintro e w1 ⟨rfl, hb1⟩; have hg := kept_call hg hb1; have bx := (box5 hg).1; have hB := hB.trans (below_less hb1 hB.size));go_ret;exact ⟨rfl, hB⟩
 have g2 : ¬ (kind : Int) < 1 := by omega
 have b2 : decide ((kind : Int) < 1) = false := decide_eq_false g2
 by_cases k3 : kind ≤ 3
 case neg =>
  have g : (3 : Int) < (kind : Int) := by omega
  clear hbad;go_enter Tryz.func38, Tryz.ntmps38;go_wp2_with (go_at_call 88; refine (HN _ hB).mono ?_; clear HN; rintro e w1 ⟨rfl, hb1⟩; have hg := kept_call hg hb1; have bx := (box5 hg).1; have hB := hB.trans (below_less hb1 hB.size));go_ret;exact ⟨rfl, hB⟩
 have g3 : ¬ (3 : Int) < (kind : Int) := by omega
 have b3 : decide ((3 : Int) < (kind : Int)) = false := decide_eq_false g3
 rcases k4 : neededK needs with _ | _
 · rw [k4] at HD
   clear hbad;go_enter Tryz.func38, Tryz.ntmps38;go_wp2_with (first
    | (go_at_call 88; refine (HN _ hB).mono ?_; clear HN; rintro e w1 ⟨rfl, hb1⟩; have hg := kept_call hg hb1; have bx := (box5 hg).1; have hB := hB.trans (below_less hb1 hB.size))
    | (go_at_call 78; refine (HD _ hB).mono ?_; clear HD; rintro e w2 ⟨rfl, hb2⟩; have hg := kept_call hg hb2; have bx := (box5 hg).1; have hB := hB.trans (below_less hb2 hB.size)))
   go_ret;exact ⟨rfl, hB⟩
 rw [k4] at HD hbad
 have hbad : ((par || needs.isEmpty) && (decide (1 ≤ ops.length) && decide (ops.length ≤ 20))) = false := by simpa [k2, k3] using hbad
 rcases k5 : (par || needs.isEmpty) with _ | _
 · obtain ⟨rfl, hne⟩ : par = false ∧ needs.isEmpty = false := by simpa using k5
   have g5 : (0 : Int) < (needs.length : Int) := by
    have : needs ≠ [] := by simpa using hne
    have := List.length_pos_iff.2 this;omega
   have b5 : decide (0 < needs.length) = true := decide_eq_true (by omega);clear hbad k5 hne;go_enter Tryz.func38, Tryz.ntmps38;go_wp2_with (first
    | (go_at_call 88; refine (HN _ hB).mono ?_; clear HN; rintro e w1 ⟨rfl, hb1⟩; have hg := kept_call hg hb1; have bx := (box5 hg).1; have hB := hB.trans (below_less hb1 hB.size))
    | (go_at_call 78; refine (HD _ hB).mono ?_; clear HD; rintro e w2 ⟨rfl, hb2⟩; have hg := kept_call hg hb2; have bx := (box5 hg).1; have hB := hB.trans (below_less hb2 hB.size)))
   go_ret;exact ⟨rfl, hB⟩
 rw [k5, Bool.true_and] at hbad
 have g5 : par = true ∨ (par = false ∧ decide (0 < needs.length) = false) := by
  cases par
  · refine .inr ⟨rfl, ?_⟩
    have : needs = [] := by simpa using k5
    subst this;simp
  · exact .inl rfl
 by_cases k6 : 1 ≤ ops.length
 case neg =>
  have g : (ops.length : Int) < 1 := by omega
  have b6 : decide ((ops.length : Int) < 1) = true := decide_eq_true g;have b6' : decide (ops.length < 1) = true := decide_eq_true (by omega);clear hbad k5 k6;rcases g5 with rfl | ⟨rfl, g5⟩
  all_goals
   go_enter Tryz.func38, Tryz.ntmps38;go_wp2_with (first
    | (go_at_call 88; refine (HN _ hB).mono ?_; clear HN; rintro e w1 ⟨rfl, hb1⟩; have hg := kept_call hg hb1; have bx := (box5 hg).1; have hB := hB.trans (below_less hb1 hB.size))
    | (go_at_call 78; refine (HD _ hB).mono ?_; clear HD; rintro e w2 ⟨rfl, hb2⟩; have hg := kept_call hg hb2; have bx := (box5 hg).1; have hB := hB.trans (below_less hb2 hB.size)))
   go_ret;exact ⟨rfl, hB⟩
 case pos =>
  have g6 : ¬ (ops.length : Int) < 1 := by omega
  have g : (20 : Int) < (ops.length : Int) := by
   have : ¬ ops.length ≤ 20 := by simpa [k6] using hbad
   omega
  have b6 : decide ((ops.length : Int) < 1) = false := decide_eq_false g6;have b7 : decide ((20 : Int) < (ops.length : Int)) = true := decide_eq_true g;have b7' : decide (20 < ops.length) = true := decide_eq_true (by omega);clear hbad k5 k6;rcases g5 with rfl | ⟨rfl, g5⟩
  all_goals
   go_enter Tryz.func38, Tryz.ntmps38;go_wp2_with (first
    | (go_at_call 88; refine (HN _ hB).mono ?_; clear HN; rintro e w1 ⟨rfl, hb1⟩; have hg := kept_call hg hb1; have bx := (box5 hg).1; have hB := hB.trans (below_less hb1 hB.size))
    | (go_at_call 78; refine (HD _ hB).mono ?_; clear HD; rintro e w2 ⟨rfl, hb2⟩; have hg := kept_call hg hb2; have bx := (box5 hg).1; have hB := hB.trans (below_less hb2 hB.size)))
   go_ret;exact ⟨rfl, hB⟩
end Go.Proofs.YtakgjcfkdemipaaGreatDoor
namespace Go.Proofs.YtakgjcfkdemipaaGreatDoor
open Go.RowKit Go.Maps
theorem names_small {t : List UInt8} (h : (checkK t).1 = 0) : (namesK t).2 = 0 ∧ (namesK t).1.length ≤ 100 ∧ ∀ n ∈ (namesK t).1, n.length ≤ 100 := by
 rcases hq : checkK t with ⟨c, T⟩
 rw [hq] at h
 simp only at h
 subst h
 obtain ⟨o1, e1, l1, _⟩ := checkK_ok hq
 have hn : namesK t = (sortU (namF T.ins), 0) := by unfold namesK; rw [hq, if_pos rfl]
 rw [hn]
 refine ⟨rfl, ?_, fun n hm => ?_⟩
 · simp only [sortU, List.length_mergeSort]
   refine Nat.le_trans (onceB_len _) ?_;unfold namF;rw [List.length_map];refine Nat.le_trans (List.length_filter_le _ _) ?_;have := o1.ins_len;rw [e1] at this;omega
 · simp only [sortU, List.mem_mergeSort, onceB_mem] at hm
   unfold namF at hm;obtain ⟨u, hu, rfl⟩ := List.mem_map.1 hm;obtain ⟨hu, hk⟩ := List.mem_filter.1 hu;obtain ⟨k1, k2, _⟩ := o1.ins_all hu;obtain ⟨k, nm, sub⟩ := u;simp only [decide_eq_true_eq] at hk;subst hk;have h' : Wf none (.cons [] 7 nm sub .nil) := k1;cases h' with
   | word _ h3 => omega
   | rcd _ _ _ hk2 => omega
   | nam n hn => have := name_small hn; simp only; omega
   | app n a hn h => have := name_small hn; simp only; omega
theorem below_grown {w w' : World} (h : Below w.heap.size w w') (row : Option Nat) : w.grownBy w' row := ⟨h.os, h.tape, h.output, h.size, fun k hk _ => h.block k hk⟩
theorem grown_refl (w : World) (row : Option Nat) : w.grownBy w row := ⟨rfl, rfl, rfl, nl _, fun _ _ _ => rfl⟩
theorem grown_trans {a b c : World} {row : Option Nat} (h : a.grownBy b row) (k : b.grownBy c row) : a.grownBy c row :=
 ⟨k.os.trans h.os, k.tape.trans h.tape, k.output.trans h.output, Nat.le_trans h.size k.size, fun i hi hn => (k.block i (Nat.lt_of_lt_of_le hi h.size) hn).trans (h.block i hi hn)⟩
theorem SetMap.grown {w w' : World} {b : Nat} {acc : List (List UInt8)} (h : SetMap w b acc) (hb : Below w.heap.size w w') : SetMap w' b acc := h.kept (below_grown hb none) (by simp)
theorem checkK_len' {s : List UInt8} (h : (checkK s).1 = 0) : s.length ≤ 100 := (checkK_ok (t := (checkK s).2) (Prod.ext h rfl)).2.2.1
def nmK (s : SigP) : List (List UInt8) := (typesK s).flatMap fun t => (namesK t).1
set_option maxRecDepth 8000 in
set_option maxHeartbeats 12800000 in
theorem note_any {D : Nat → Prop} (x : Value) (s : SigP) (B M : Nat) (acc : List (List UInt8)) (w : World) (HT : ∀ W, w.grownBy W (some M) → Tab W) (hx : SigV D w x s) (hbx : w.heap[B]? = some (.cells #[.map (some M)] 112 (0, 0))) (hs : SetMap w M acc) (h1 : s.args.length ≤ 1000) (hal : acc.length ≤ 100000) (hty : ∀ t ∈ typesK s, (checkK t).1 = 0) :
 Calls Tryz.prog 100 #[x, .pointer (some ⟨B, 0, none⟩)] w fun e w' => e = .returned (.tuple #[]) ∧ SetMap w' M (acc ++ nmK s) ∧ w.grownBy w' (some M) := by
 have hMl := hs.lt
 have hBl := heap_lt hbx
 have hBM : B ≠ M := by
  rintro rfl;obtain ⟨es, clock, h, _⟩ := hs;rw [hbx] at h;cases h
 obtain ⟨a, g, rfl, hsl, hSa, hSg⟩ := hx
 have hA := (Below.refl _ w).alloc (nl _) (.cells #[.bool s.iter, a, str s.res, g] 36)
 have hox := (box4 (heap_alloc_new w (.cells #[.bool s.iter, a, str s.res, g] 36))).1
 have HC := types_any (D := D) _ s _ ⟨a, g, rfl, hsl, hSa.below hA (nl _), hSg.below hA (nl _)⟩ (by omega)
 have hsA := hs.grown hA
 obtain ⟨pa, ca, rfl, _⟩ := hSa.shape
 obtain ⟨pg, cg, rfl, _⟩ := hSg.shape
 have HT := Lib.hid HT
 have gA := below_grown hA (some M)
 have hbA := heap_up (.cells #[.bool s.iter, .slice pa s.args.length ca, str s.res, .slice pg s.sigs.length cg] 36) hbx
 have hsz : w.heap.size < (w.alloc (.cells #[.bool s.iter, .slice pa s.args.length ca, str s.res, .slice pg s.sigs.length cg] 36)).heap.size := by simp
 clear hSa hSg hs
 have hnm : nmK s = (typesK s).flatMap fun t => (namesK t).1 := rfl
 have hTl : (typesK s).length ≤ 1001 := by
  unfold typesK;rw [List.length_append];split <;> simp <;> omega
 have hTs := fun t ht => checkK_len' (hty t ht)
 generalize nmK s = NM at *
 generalize typesK s = TS at *
 go_enter Tryz.func100, Tryz.ntmps100
 go_wp2_with (go_at_call 92; refine HC.mono ?_; clear HC; rintro e w1 ⟨tv, rfl, hTy, hb1⟩; obtain ⟨pt, ct, rfl, _⟩ := hTy.shape)
 have g1 := grown_trans gA (below_grown hb1 (some M))
 have hs1 := hsA.grown hb1
 have hb1x := kept_call hbA hb1
 have hsz1 := hb1.size
 clear hsA hbA hA hox gA
 go_loopw [12] (fun y wx => ∃ i : Nat, i ≤ TS.length ∧ y = .int .i64 i ∧ SetMap wx M (acc ++ (TS.take i).flatMap fun t => (namesK t).1) ∧ w1.grownBy wx (some M)) (fun y _ => TS.length - (intOf y).toNat)
 case atStart => exact ⟨0, Nat.zero_le _, by go_num, by simpa using hs1, grown_refl _ _⟩
 case round =>
  clear hs1;obtain ⟨i, hi, rfl, hset, hgr⟩ := hrel
  by_cases hlt : i < TS.length
  case neg =>
   have hie : i = TS.length := by omega
   subst hie;rw [List.take_length] at hset;have HS := Lib.hid (hnm ▸ hset);clear hset hnm;go_wp2_with fail
   go_end0
   exact ⟨rfl, HS.out, grown_trans g1 hgr⟩
  case pos =>
   obtain ⟨t, ht⟩ : ∃ t, TS[i]? = some t := ⟨_, List.getElem?_eq_getElem hlt⟩
   have htm := List.mem_of_getElem? ht;have hTr := hTy.agree (w' := wr) (fun b hb hl => hgr.block b hl (fun e => by injection e with e; omega));obtain ⟨bt, ot, rfl, _, hct⟩ := hTr.at ht;have hbr := (hgr.block B (heap_lt hb1x) (fun e => hBM (Option.some.inj e))).trans hb1x;have hbc := (cells_at hbr 0).trans rfl;obtain ⟨_, hnl, hns⟩ := names_small (hty t htm);have HK := knames_any t (by have := hTs t htm; unfold maxLen; omega) wr (HT.out _ (grown_trans g1 hgr));unfold InsidePost at HK;have hal2 : (acc ++ (TS.take i).flatMap fun t => (namesK t).1).length ≤ 300000 := by
    rw [List.length_append];have h2 : ∀ l : List (List UInt8), (∀ t ∈ l, (checkK t).1 = 0) → (l.flatMap fun t => (namesK t).1).length ≤ l.length * 100 := by
     intro l
     induction l with
     | nil => simp
     | cons x l ih =>
      intro h;have h3 := (names_small (h x (by simp))).2.1;have h4 := ih fun y hy => h y (by simp [hy])
      rw [List.flatMap_cons, List.length_append, List.length_cons, Nat.succ_mul];omega
    have h3 := h2 (TS.take i) fun y hy => hty y (List.mem_of_mem_take hy)
    rw [List.length_take] at h3;have : min i TS.length ≤ 1001 := by omega
    have := Nat.mul_le_mul_right 100 this;omega
   have HA := Lib.hid (show (acc ++ (TS.take i).flatMap fun t => (namesK t).1) ++ (namesK t).1 = acc ++ (TS.take (i + 1)).flatMap fun t => (namesK t).1 by
    rw [List.take_add_one, ht, Option.toList_some, List.flatMap_append, List.append_assoc, List.flatMap_singleton])
   generalize (acc ++ (TS.take i).flatMap fun t => (namesK t).1) = A0 at *;generalize namesK t = NK at *;obtain ⟨NL, NE⟩ := NK;dsimp only at HK hnl hns HA;clear ht htm hTr hTs hty hnm;go_wp2_with (go_at_call 101; refine HK.mono ?_; clear HK; rintro e w3 ⟨nv, rfl, hrow, hb3⟩; obtain ⟨pn, cn, rfl⟩ := row_shape hrow);have hs3 := hset.grown hb3;have hb3x := kept_call hbr hb3;have gr3 := grown_trans hgr (below_grown hb3 (some M));have hsz3 := hb3.size;have hszr := hgr.size;clear hset hbc hbr;go_loopw [23] (fun y wx => ∃ j : Nat, j ≤ NL.length ∧ y = .int .i64 j ∧ SetMap wx M (A0 ++ NL.take j) ∧ w3.grownBy wx (some M)) (fun y _ => NL.length - (intOf y).toNat)
   case atStart => exact ⟨0, Nat.zero_le _, by go_num, by simpa using hs3, grown_refl _ _⟩
   case round =>
    clear hs3;obtain ⟨j, hj, rfl, hsetj, hgj⟩ := hrel
    by_cases hlj : j < NL.length
    case neg =>
     have hje : j = NL.length := by omega
     subst hje;rw [List.take_length] at hsetj;have HS := Lib.hid (HA.out ▸ hsetj);clear hsetj HA;go_wp2_with fail;exact ⟨⟨i + 1, hlt, by go_num, HS.out, grown_trans gr3 hgj⟩, by simp only [intOf]; omega⟩
    case pos =>
     obtain ⟨nm, hn⟩ : ∃ nm, NL[j]? = some nm := ⟨_, List.getElem?_eq_getElem hlj⟩
     have hnml := hns nm (List.mem_of_getElem? hn);have hown : ∀ b, (Value.slice pn NL.length cn).ownBlock = some b → M ≠ b := fun b e => by have := (hrow.lt b e).1; omega
     have hrowj := ownsRow_of_block hrow (fun b e => hgj.block b (ownsRow_lt hrow e) (fun e' => hown b e (Option.some.inj e').symm));have hbj := (hgj.block B (heap_lt hb3x) (fun e => hBM (Option.some.inj e))).trans hb3x;have hbc := (cells_at hbj 0).trans rfl;have HAj := Lib.hid (show (A0 ++ NL.take j) ++ [nm] = A0 ++ NL.take (j + 1) by rw [List.take_add_one, hn, List.append_assoc]; rfl);have hajl : (A0 ++ NL.take j).length < maxLen := by rw [List.length_append, List.length_take]; unfold maxLen; omega
     obtain ⟨bn, rfl⟩ : ∃ b, pn = some ⟨b, 0, none⟩ := by
      rcases hrow.2 with ⟨e, _⟩ | ⟨g, cap, cur, e, _⟩
      · injection e with e1 e2 e3; omega
      · injection e with e1; exact ⟨g, e1⟩
     have hcn := hrowj.cells (g := bn) rfl j (str nm) (by unfold strsC; rw [List.getElem?_map, hn]; rfl);rw [show (⟨bn, 0, none⟩ : Addr).add j = ⟨bn, 0 + j, none⟩ from by unfold Addr.add; simp; omega] at hcn;rw [Nat.zero_add] at hcn;generalize A0 ++ NL.take j = A1 at *;clear hn hrowj hown hrow;go_wp2_with (at_mapUpdate; refine wpList_set_add _ rfl _ _ _ rfl M A1 rfl hsetj hajl nm rfl rfl (by unfold maxLen; omega) ?_; intro w5 hset5 hgr5);exact ⟨⟨j + 1, hlj, by go_num, HAj.out ▸ hset5, grown_trans hgj hgr5⟩, by simp only [intOf]; omega⟩
end Go.Proofs.YtakgjcfkdemipaaGreatDoor
namespace Go.Proofs.YtakgjcfkdemipaaGreatDoor
open Go.RowKit
theorem isName_len {s : List UInt8} (h : isName s = true) : s.length ≤ 12 := by
 cases s with
 | nil => simp
 | cons c r =>
  simp only [isName, Bool.and_eq_true, decide_eq_true_eq] at h;exact h.1.1.1
theorem joinC_le2 {B : Nat} : ∀ l : List (List UInt8), (∀ s ∈ l, s.length ≤ B) → (joinC l).length ≤ l.length * (B + 1)
 | [], _ => by simp [joinC]
 | [a], h => by
  have := h a (by simp);simp [joinC]; omega
 | a :: b :: l, h => by
  have h1 := h a (by simp);have h2 := joinC_le2 (b :: l) (fun s hs => h s (by simp at hs ⊢; right; exact hs));rw [joinC, List.length_append, List.length_cons];simp only [List.length_cons (a := a), Nat.succ_mul] at h2 ⊢;omega
theorem asc_names : ∀ {l : List (List UInt8)}, ascK l = true → ∀ s ∈ l, isName s = true
 | [], _ => fun s h => by cases h
 | [a], h => fun s hs => by
  rw [List.mem_singleton.1 hs]; exact h
 | a :: b :: l, h => fun s hs => by
  rw [ascK] at h;simp only [Bool.and_eq_true] at h;rcases List.mem_cons.1 hs with rfl | hs
  · exact h.1.1
  · exact asc_names h.2 s hs
theorem checkK_len {s : List UInt8} (h : (checkK s).1 = 0) : s.length ≤ 100 :=
 (checkK_ok (t := (checkK s).2) (Prod.ext h rfl)).2.2.1
structure SigLe (s : SigP) : Prop where
 a : (joinC s.args).length ≤ 1000
 r : s.res.length ≤ 100
 g : (joinC s.sigs).length ≤ 100
 an : s.args.length ≤ 6
 gn : s.sigs.length ≤ 6
theorem said_le {s : SigP} {o : Bool} (h : saidK s o = true) : SigLe s := by
 obtain ⟨h1, h2, h3, _, h5⟩ := saidK_parts h
 have ha := joinC_le2 (B := 100) s.args fun t ht => checkK_len (h5 t (by unfold typesK; simp [ht])).1
 have hg := joinC_le2 (B := 12) s.sigs fun t ht => isName_len (asc_names h3 t ht)
 have m1 := Nat.mul_le_mul_right 101 h1
 have m2 := Nat.mul_le_mul_right 13 h2
 refine ⟨by omega, ?_, by omega, h1, h2⟩
 by_cases hr : s.res = []
 · rw [hr]; simp
 · exact checkK_len (h5 s.res (by unfold typesK; simp [hr])).1
theorem line_le {wd : List UInt8} {o : OpP} (hw : wd.length ≤ 10) (hn : o.name.length ≤ 12) (hs : SigLe o.sig) : (lineT wd o).length ≤ 2000 := by
 have h1 := hs.a
 have h2 := hs.r
 have h3 := hs.g
 unfold lineT sigT
 rcases o.sig.iter with _ | _ <;> by_cases hr : o.sig.res = [] <;> by_cases hg : o.sig.sigs = [] <;> simp [hr, hg] <;> omega
theorem lines_le {wd : List UInt8} (hw : wd.length ≤ 10) : ∀ l : List OpP, (∀ o ∈ l, o.name.length ≤ 12 ∧ SigLe o.sig) → (l.flatMap (lineT wd)).length ≤ l.length * 2000
 | [], _ => by simp
 | o :: l, h => by
  have h1 := line_le hw (h o (by simp)).1 (h o (by simp)).2;have h2 := lines_le hw l fun x hx => h x (by simp [hx])
  rw [List.flatMap_cons, List.length_append, List.length_cons, Nat.succ_mul];omega
theorem join_flat : ∀ ss : List (List UInt8), Lib.join ss [] = ss.flatten
 | [] => rfl
 | [a] => by simp [Lib.join]
 | a :: b :: l => by
  have := join_flat (b :: l);rw [List.flatten_cons, ← this];simp [Lib.join, List.intercalate]
theorem join_ss {D : Nat → Prop} (ss : List (List UInt8)) (sep : List UInt8) (v : Value) (w : World) (h : SS D w v ss) (hlen : (Lib.join ss sep).length ≤ 140737488355328) (hn : ss.length ≤ 140737488355328) :
 Calls Tryz.prog 165 #[v, str sep] w fun e w' => e = .returned (str (Lib.join ss sep)) ∧ Below w.heap.size w w' := by
 obtain ⟨p, c, rfl, hc, _, _, h4⟩ := h
 rcases h4 with rfl | ⟨b, o, rfl, _, hlt, hcell⟩
 · refine (Tryz.strings_Join_none p c ⟨sep.toArray⟩ w).mono ?_
   rintro e w' ⟨rfl, rfl⟩;exact ⟨rfl, Below.refl _ _⟩
 · have hm : (ss.map fun s => (⟨s.toArray⟩ : ByteArray)).map (·.data.toList) = ss := by
    rw [List.map_map];exact (List.map_congr_left fun _ _ => rfl).trans (List.map_id ss)
   have hj : Lib.join ((ss.map fun s => (⟨s.toArray⟩ : ByteArray)).map (·.data.toList)) (⟨sep.toArray⟩ : ByteArray).data.toList = Lib.join ss sep := by rw [hm]
   have := Tryz.strings_Join b o c (ss.map fun s => ⟨s.toArray⟩) ⟨sep.toArray⟩ w ?_ hlt (by simpa using hn) (by simpa using hc) (by rw [hj]; exact hlen)
   · rw [hj, List.length_map] at this
     exact this
   · intro j x hx
     rw [List.getElem?_map, Option.map_eq_some_iff] at hx;obtain ⟨s, hs, rfl⟩ := hx;obtain ⟨hj, rfl⟩ := List.getElem?_eq_some_iff.1 hs;exact hcell j hj
end Go.Proofs.YtakgjcfkdemipaaGreatDoor
