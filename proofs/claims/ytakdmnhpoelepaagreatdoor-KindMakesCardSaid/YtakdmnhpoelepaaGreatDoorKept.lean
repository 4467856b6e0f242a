/-
  Contracts: argusref03.Same; the statements' own examples (arguslaw03.kept). Condition: the variable strings.asciiSpace.
  Contract: the statements' own examples (arguslaw03.kept). Condition: the variable strings.asciiSpace.
  Contract: whether texts are short enough (arguslaw03.short). No condition.
-/
import Derived.Test.YtakdmnhpoelepaaGreatDoorKMade
import Derived.Test.YtakdmnhpoelepaaGreatDoorKNames
import Derived.Test.YtakdmnhpoelepaaGreatDoorKMatch
import Derived.RegionTactic
import Derived.ChangeAlike
namespace Go.Proofs.YtakdmnhpoelepaaGreatDoor
open Go.RowKit

theorem drop_at {α : Type} {l : List α} {k : Nat} {x : α} (h : l[k]? = some x) : l.drop k = x :: l.drop (k + 1) := by
  obtain ⟨hj, e⟩ := List.getElem?_eq_some_iff.1 h
  rw [List.drop_eq_getElem_cons hj, e]
theorem Strs.sh {w : World} {v : Value} {ss : List (List UInt8)} (h : Strs w v ss) : ∃ p c, v = .slice p ss.length c := by
  rcases h.shape with ⟨rfl, rfl⟩ | ⟨b, o, c, rfl, _⟩
  · exact ⟨none, 0, rfl⟩
  · exact ⟨_, _, rfl⟩
theorem Strs.at {w : World} {p : Option Addr} {n c : Nat} {ss : List (List UInt8)} (h : Strs w (.slice p n c) ss) {k : Nat} {x : List UInt8} (hk : ss[k]? = some x) : ∃ b o, p = some ⟨b, o, none⟩ ∧ w.cell? ⟨b, o + k, none⟩ = some (str x) := by
  obtain ⟨hj, e⟩ := List.getElem?_eq_some_iff.1 hk
  rcases h.shape with ⟨h1, rfl⟩ | ⟨b, o, c', h1, _, h3⟩
  · simp at hj
  · injection h1 with h1
    exact ⟨b, o, h1, by rw [h3 k hj, e]⟩
set_option maxRecDepth 4000 in
set_option maxHeartbeats 3200000 in
theorem same_any (a b : List (List UInt8)) (v u : Value) (w : World) (hv : Strs w v a) (hu : Strs w u b) (ha : a.length ≤ maxLen) :
    Calls Tryz.prog 23 #[v, u] w fun e w' => e = .returned (.bool (a == b)) ∧ Below w.heap.size w w' := by
  obtain ⟨p, c, rfl⟩ := hv.sh
  obtain ⟨q, d, rfl⟩ := hu.sh
  unfold maxLen at ha
  by_cases hl : a.length = b.length
  case neg =>
    have hx : ((a.length : Int) != (b.length : Int)) = true := by rw [bne_iff_ne]; omega
    have hs := Lib.hid (show (a == b) = false by rw [beq_eq_false_iff_ne]; intro e; exact hl (by rw [e]))
    go_enter Tryz.func23, Tryz.ntmps23
    go_wp2_with fail
    go_ret
    exact ⟨ret_bool hs.out.symm, Below.refl _ _⟩
  case pos =>
    rw [← hl] at hu ⊢
    have HL := Lib.hid hl
    clear hl
    go_enter Tryz.func23, Tryz.ntmps23
    go_wp2_with fail
    go_loopw [5] (fun x wx => ∃ k : Nat, k ≤ a.length ∧ x = .int .i64 k ∧ Hid ((a == b) = (a.drop k == b.drop k)) ∧ Below w.heap.size w wx) (fun x _ => a.length - (intOf x).toNat)
    case atStart => exact ⟨0, Nat.zero_le _, by go_num, rfl, Below.refl _ _⟩
    case round =>
      obtain ⟨k, hk, rfl, hx, hbx⟩ := hrel
      by_cases hlt : k < a.length
      case neg =>
        have hs := Lib.hid (show (a == b) = true by rw [hx, List.drop_eq_nil_of_le (by omega), List.drop_eq_nil_of_le (by rw [← HL.out]; omega)]; rfl)
        go_wp2_with fail
        go_ret
        exact ⟨ret_bool hs.out.symm, hbx⟩
      case pos =>
        obtain ⟨x, hkx⟩ : ∃ x, a[k]? = some x := ⟨_, List.getElem?_eq_getElem hlt⟩
        obtain ⟨y, hky⟩ : ∃ y, b[k]? = some y := ⟨_, List.getElem?_eq_getElem (by rw [← HL.out]; exact hlt)⟩
        have hda : a.drop k = x :: a.drop (k + 1) := drop_at hkx
        have hdb : b.drop k = y :: b.drop (k + 1) := drop_at hky
        obtain ⟨b1, o1, rfl, c1⟩ := (hv.below hbx (Nat.le_refl _)).at hkx
        obtain ⟨b2, o2, rfl, c2⟩ := (hu.below hbx (Nat.le_refl _)).at hky
        rw [hda, hdb] at hx
        rcases he : (x == y) with _ | _
        · have hs := Lib.hid (show (a == b) = false by rw [hx]; simp only [List.cons_beq_cons, he, Bool.false_and])
          have he2 : (x != y) = true := by simpa [bne] using he
          clear hx hkx hky hda hdb
          go_upto_region 6 with fail
          go_region
          go_wp2_with fail
          go_ret
          exact ⟨ret_bool hs.out.symm, hbx.drew⟩
        · have hs := Lib.hid (show (a == b) = (a.drop (k + 1) == b.drop (k + 1)) by rw [hx]; simp only [List.cons_beq_cons, he, Bool.true_and])
          have he2 : (x != y) = false := by simpa [bne] using he
          clear hx hkx hky hda hdb
          go_upto_region 6 with fail
          go_region
          go_wp2_with fail
          exact ⟨⟨k + 1, hlt, by go_num, hs, hbx.drew⟩, by simp only [intOf]; omega⟩
theorem kv_with : withK [114, 101, 99, 111, 114, 100, 91, 97, 58, 63, 116, 44, 98, 58, 97, 114, 114, 97, 121, 91, 63, 116, 93, 93] [115, 101, 116, 91, 105, 110, 116, 93] = ([114, 101, 99, 111, 114, 100, 91, 97, 58, 115, 101, 116, 91, 105, 110, 116, 93, 44, 98, 58, 97, 114, 114, 97, 121, 91, 115, 101, 116, 91, 105, 110, 116, 93, 93, 93], 0) := by decide +kernel
theorem kv_match : matchK [97, 114, 114, 97, 121, 91, 63, 116, 93] [97, 114, 114, 97, 121, 91, 115, 101, 116, 91, 105, 110, 116, 93, 93] = ([115, 101, 116, 91, 105, 110, 116, 93], true, 0) := by decide +kernel
theorem kv_inside : insideK [114, 101, 99, 111, 114, 100, 91, 97, 58, 97, 114, 114, 97, 121, 91, 105, 110, 116, 93, 44, 98, 58, 105, 110, 116, 93] = ([[114, 101, 99, 111, 114, 100, 91, 97, 58, 97, 114, 114, 97, 121, 91, 105, 110, 116, 93, 44, 98, 58, 105, 110, 116, 93], [97, 114, 114, 97, 121, 91, 105, 110, 116, 93], [105, 110, 116]], 0) := by decide +kernel
theorem sort_two {α : Type} (le : α → α → Bool) (x y : α) : [x, y].mergeSort le = if le x y then [x, y] else [y, x] := by
  rw [List.mergeSort]
  simp [List.MergeSort.Internal.splitInTwo, List.merge]
  done
theorem kv_names : namesK [115, 101, 116, 91, 109, 97, 112, 91, 63, 116, 93, 93] = ([[109, 97, 112], [115, 101, 116]], 0) := by
  have h1 : (checkK [115, 101, 116, 91, 109, 97, 112, 91, 63, 116, 93, 93]).1 = 0 := by decide +kernel
  have h2 : onceB (namF (checkK [115, 101, 116, 91, 109, 97, 112, 91, 63, 116, 93, 93]).2.ins) = [[115, 101, 116], [109, 97, 112]] := by decide +kernel
  unfold namesK sortU
  rw [if_pos h1, h2, sort_two]
  decide +kernel
theorem kv_record : madeK 5 [([98], [105, 110, 116]), ([97], [63, 116])] = ([114, 101, 99, 111, 114, 100, 91, 97, 58, 63, 116, 44, 98, 58, 105, 110, 116, 93], 0) := by
  have h1 : sortN (treesOf [([98], [105, 110, 116]), ([97], [63, 116])]) = [([97], ⟨8, [], .nil⟩), ([98], ⟨1, [], .nil⟩)] := by
    unfold sortN treesOf
    rw [List.map_cons, List.map_cons, List.map_nil, sort_two]
    kernel_rfl
  unfold madeK
  rw [h1]
  decide +kernel
theorem kv_kind : (checkK [115, 101, 116, 91, 63, 116, 93]).2.k = 7 ∧ (checkK [115, 101, 116, 91, 63, 116, 93]).1 = 0 := by decide +kernel
theorem kv_check : (checkK [105, 110, 116, 91, 105, 110, 116, 93]).1 = 4 := by decide +kernel
theorem kx_with (w : World) (ht : Tab w) : Calls Tryz.prog 15 #[str [114, 101, 99, 111, 114, 100, 91, 97, 58, 63, 116, 44, 98, 58, 97, 114, 114, 97, 121, 91, 63, 116, 93, 93], str [115, 101, 116, 91, 105, 110, 116, 93]] w fun e w' => e = .returned (.tuple #[str [114, 101, 99, 111, 114, 100, 91, 97, 58, 115, 101, 116, 91, 105, 110, 116, 93, 44, 98, 58, 97, 114, 114, 97, 121, 91, 115, 101, 116, 91, 105, 110, 116, 93, 93, 93], .int .i64 0]) ∧ Below w.heap.size w w' := by
  have h := kwith_any [114, 101, 99, 111, 114, 100, 91, 97, 58, 63, 116, 44, 98, 58, 97, 114, 114, 97, 121, 91, 63, 116, 93, 93] [115, 101, 116, 91, 105, 110, 116, 93] (by decide) (by decide) w ht
  rw [kv_with] at h
  exact h
theorem kx_match (w : World) (ht : Tab w) : Calls Tryz.prog 17 #[str [97, 114, 114, 97, 121, 91, 63, 116, 93], str [97, 114, 114, 97, 121, 91, 115, 101, 116, 91, 105, 110, 116, 93, 93]] w fun e w' => e = .returned (.tuple #[str [115, 101, 116, 91, 105, 110, 116, 93], .bool true, .int .i64 0]) ∧ Below w.heap.size w w' := by
  have h := kmatch_any [97, 114, 114, 97, 121, 91, 63, 116, 93] [97, 114, 114, 97, 121, 91, 115, 101, 116, 91, 105, 110, 116, 93, 93] (by decide) (by decide) w ht
  unfold MatchPost at h
  rw [kv_match] at h
  exact h
theorem kx_inside (w : World) (ht : Tab w) : Calls Tryz.prog 19 #[str [114, 101, 99, 111, 114, 100, 91, 97, 58, 97, 114, 114, 97, 121, 91, 105, 110, 116, 93, 44, 98, 58, 105, 110, 116, 93]] w fun e w' => ∃ v, e = .returned (.tuple #[v, .int .i64 0]) ∧ Strs w' v [[114, 101, 99, 111, 114, 100, 91, 97, 58, 97, 114, 114, 97, 121, 91, 105, 110, 116, 93, 44, 98, 58, 105, 110, 116, 93], [97, 114, 114, 97, 121, 91, 105, 110, 116, 93], [105, 110, 116]] ∧ Below w.heap.size w w' := by
  have h := kinside_any [114, 101, 99, 111, 114, 100, 91, 97, 58, 97, 114, 114, 97, 121, 91, 105, 110, 116, 93, 44, 98, 58, 105, 110, 116, 93] (by decide) w ht
  unfold InsidePost at h
  rw [kv_inside] at h
  exact h.mono fun e w' ⟨v, h1, h2, h3⟩ => ⟨v, h1, Sl.of_own h2, h3⟩
theorem kx_names (w : World) (ht : Tab w) : Calls Tryz.prog 21 #[str [115, 101, 116, 91, 109, 97, 112, 91, 63, 116, 93, 93]] w fun e w' => ∃ v, e = .returned (.tuple #[v, .int .i64 0]) ∧ Strs w' v [[109, 97, 112], [115, 101, 116]] ∧ Below w.heap.size w w' := by
  have h := knames_any [115, 101, 116, 91, 109, 97, 112, 91, 63, 116, 93, 93] (by decide) w ht
  unfold InsidePost at h
  rw [kv_names] at h
  exact h.mono fun e w' ⟨v, h1, h2, h3⟩ => ⟨v, h1, Sl.of_own h2, h3⟩
theorem kx_record (v : Value) (w : World) (ht : Tab w) (hv : Pts w v [([98], [105, 110, 116]), ([97], [63, 116])]) : Calls Tryz.prog 37 #[v] w fun e w' => e = .returned (.tuple #[str [114, 101, 99, 111, 114, 100, 91, 97, 58, 63, 116, 44, 98, 58, 105, 110, 116, 93], .int .i64 0]) ∧ Below w.heap.size w w' := by
  have h := krecord_any _ v w ht hv (by decide) (by decide)
  rw [kv_record] at h
  exact h
theorem kx_kind (w : World) (ht : Tab w) : Calls Tryz.prog 28 #[str [115, 101, 116, 91, 63, 116, 93]] w fun e w' => e = .returned (.tuple #[.int .u8 7, .int .i64 0]) ∧ Below w.heap.size w w' := by
  have h := kkind_any [115, 101, 116, 91, 63, 116, 93] (by decide) w ht
  rw [kv_kind.1, kv_kind.2] at h
  exact h
theorem kx_check (w : World) (ht : Tab w) : Calls Tryz.prog 24 #[str [105, 110, 116, 91, 105, 110, 116, 93]] w fun e w' => e = .returned (.int .i64 4) ∧ Below w.heap.size w w' := by
  have h := kcheck_any [105, 110, 116, 91, 105, 110, 116, 93] (by decide) w ht
  rw [kv_check] at h
  exact h
theorem kx_same (a : List (List UInt8)) (v u : Value) (w : World) (hv : Strs w v a) (hu : Strs w u a) (ha : a.length ≤ maxLen) : Calls Tryz.prog 23 #[v, u] w fun e w' => e = .returned (.bool true) ∧ Below w.heap.size w w' := by
  have h := same_any a a v u w hv hu ha
  rw [show (a == a) = true by simp] at h
  exact h
theorem str_lit3 (w : World) (c : Nat) : Strs (w.alloc (.cells #[Value.string ⟨#[114, 101, 99, 111, 114, 100, 91, 97, 58, 97, 114, 114, 97, 121, 91, 105, 110, 116, 93, 44, 98, 58, 105, 110, 116, 93]⟩, Value.string ⟨#[97, 114, 114, 97, 121, 91, 105, 110, 116, 93]⟩, Value.string ⟨#[105, 110, 116]⟩] 9)) (.slice (some ⟨w.heap.size, 0, none⟩) 3 c) [[114, 101, 99, 111, 114, 100, 91, 97, 58, 97, 114, 114, 97, 121, 91, 105, 110, 116, 93, 44, 98, 58, 105, 110, 116, 93], [97, 114, 114, 97, 121, 91, 105, 110, 116, 93], [105, 110, 116]] := strs_new w [[114, 101, 99, 111, 114, 100, 91, 97, 58, 97, 114, 114, 97, 121, 91, 105, 110, 116, 93, 44, 98, 58, 105, 110, 116, 93], [97, 114, 114, 97, 121, 91, 105, 110, 116, 93], [105, 110, 116]] _ _ c (by decide)
theorem str_lit2 (w : World) (c : Nat) : Strs (w.alloc (.cells #[Value.string ⟨#[109, 97, 112]⟩, Value.string ⟨#[115, 101, 116]⟩] 9)) (.slice (some ⟨w.heap.size, 0, none⟩) 2 c) [[109, 97, 112], [115, 101, 116]] := strs_new w [[109, 97, 112], [115, 101, 116]] _ _ c (by decide)
theorem pts_two (x y : List UInt8 × List UInt8) (w : World) (c : Nat) (t : TypeId) : Pts (w.alloc (.cells #[str x.1, str x.2, str y.1, str y.2] t)) (.slice (some ⟨w.heap.size, 0, none⟩) 2 c) [x, y] := by
  have h := heap_alloc_new w (.cells #[str x.1, str x.2, str y.1, str y.2] t)
  refine .inr ⟨w.heap.size, 0, c, rfl, by simp, ?_⟩
  intro j hj
  have hj2 : j < 2 := hj
  match j, hj2 with
  | 0, _ => exact ⟨(cells_at h 0).trans rfl, (cells_at h 1).trans rfl⟩
  | 1, _ => exact ⟨(cells_at h 2).trans rfl, (cells_at h 3).trans rfl⟩
end Go.Proofs.YtakdmnhpoelepaaGreatDoor

namespace Go.Proofs.YtakdmnhpoelepaaGreatDoor
open Go.RowKit

set_option maxRecDepth 4000 in
set_option maxHeartbeats 6400000 in
theorem kept_any (w : World) (ht : Tab w) : Calls Tryz.prog 14 #[] w fun e w' => e = .returned (.bool true) ∧ Below w.heap.size w w' := by
  go_enter Tryz.func14, Tryz.ntmps14
  go_wp2_with (first
    | (go_at_call 15; refine (kx_with _ ht).mono ?_; rintro e w1 ⟨rfl, hb1⟩)
    | (go_at_call 17; refine (kx_match _ (ht.below hb1 (Nat.le_refl _))).mono ?_; rintro e w2 ⟨rfl, hb2'⟩; have hb2 := hb1.trans (below_less hb2' hb1.size))
    | (go_at_call 19; refine (kx_inside _ (ht.below hb2 (Nat.le_refl _))).mono ?_; rintro e w3 ⟨v3, rfl, hv3, hb3'⟩; have hb3 := hb2.trans (below_less hb3' hb2.size))
    | (go_at_call 21; refine (kx_names _ (ht.below hb3 (Nat.le_refl _))).mono ?_; rintro e w4 ⟨v4, rfl, hv4, hb4'⟩; have hb4 := hb3.trans (below_less hb4' hb3.size); have hv34 := hv3.below hb4' (Nat.le_refl _))
    | (go_at_call 37; refine (kx_record _ _ (ht.below (hb4.alloc hb4.size _) (Nat.le_refl _)) (pts_two ([98], [105, 110, 116]) ([97], [63, 116]) w4 2 _)).mono ?_; rintro e w5 ⟨rfl, hb5'⟩; have hb45 := ((Below.refl _ w4).alloc (Nat.le_refl _) _).trans (below_less hb5' (by simp)); have hb5 := hb4.trans (below_less hb45 hb4.size); have hv35 := hv34.below hb45 (Nat.le_refl _); have hv45 := hv4.below hb45 (Nat.le_refl _))
    | (go_at_call 28; refine (kx_kind _ (ht.below hb5 (Nat.le_refl _))).mono ?_; rintro e w6 ⟨rfl, hb6'⟩; have hb6 := hb5.trans (below_less hb6' hb5.size); have hv36 := hv35.below hb6' (Nat.le_refl _); have hv46 := hv45.below hb6' (Nat.le_refl _))
    | (go_at_call 23; refine (kx_same [[109, 97, 112], [115, 101, 116]] v4 _ _ (hv47.below ((Below.refl _ w7).alloc (Nat.le_refl _) _) (Nat.le_refl _)) (str_lit2 w7 2) (by decide)).mono ?_; rintro e w8 ⟨rfl, hb8'⟩; have hb78 := ((Below.refl _ w7).alloc (Nat.le_refl _) _).trans (below_less hb8' (by simp)); have hb8 := hb7.trans (below_less hb78 hb7.size))
    | (go_at_call 23; refine (kx_same [[114, 101, 99, 111, 114, 100, 91, 97, 58, 97, 114, 114, 97, 121, 91, 105, 110, 116, 93, 44, 98, 58, 105, 110, 116, 93], [97, 114, 114, 97, 121, 91, 105, 110, 116, 93], [105, 110, 116]] v3 _ _ (hv36.below ((Below.refl _ w6).alloc (Nat.le_refl _) _) (Nat.le_refl _)) (str_lit3 w6 3) (by decide)).mono ?_; rintro e w7 ⟨rfl, hb7'⟩; have hb67 := ((Below.refl _ w6).alloc (Nat.le_refl _) _).trans (below_less hb7' (by simp)); have hb7 := hb6.trans (below_less hb67 hb6.size); have hv47 := hv46.below hb67 (Nat.le_refl _))
    | (go_at_call 24; refine (kx_check _ (ht.below hb8 (Nat.le_refl _))).mono ?_; rintro e w9 ⟨rfl, hb9'⟩; have hb9 := hb8.trans (below_less hb9' hb8.size)))
  go_ret
  exact ⟨rfl, hb9⟩
end Go.Proofs.YtakdmnhpoelepaaGreatDoor

namespace Go.Proofs.YtakdmnhpoelepaaGreatDoor
open Go.RowKit

set_option maxRecDepth 4000 in
set_option maxHeartbeats 3200000 in
theorem short_any (a : List (List UInt8)) (v : Value) (w : World) (hv : Strs w v a) (ha : a.length ≤ 12) :
    Calls Tryz.prog 13 #[v] w fun e w' => e = .returned (.bool (a.all fun s => decide (s.length ≤ 400))) ∧ Below w.heap.size w w' := by
  obtain ⟨p, c, rfl⟩ := hv.sh
  go_enter Tryz.func13, Tryz.ntmps13
  go_wp2_with fail
  go_loopw [3] (fun x wx => ∃ k : Nat, k ≤ a.length ∧ x = .int .i64 k ∧ Hid ((a.all fun s => decide (s.length ≤ 400)) = (a.drop k).all fun s => decide (s.length ≤ 400)) ∧ Below w.heap.size w wx) (fun x _ => a.length - (intOf x).toNat)
  case atStart => exact ⟨0, Nat.zero_le _, by go_num, rfl, Below.refl _ _⟩
  case round =>
    obtain ⟨k, hk, rfl, hx, hbx⟩ := hrel
    by_cases hlt : k < a.length
    case neg =>
      have hs := Lib.hid (show (a.all fun s => decide (s.length ≤ 400)) = true by rw [hx, List.drop_eq_nil_of_le (by omega)]; rfl)
      have ha2 : (a.length : Int) ≤ 12 := by omega
      go_wp2_with fail
      go_ret
      exact ⟨ret_bool hs.out.symm, hbx⟩
    case pos =>
      obtain ⟨x, hkx⟩ : ∃ x, a[k]? = some x := ⟨_, List.getElem?_eq_getElem hlt⟩
      have hda : a.drop k = x :: a.drop (k + 1) := drop_at hkx
      obtain ⟨b1, o1, rfl, c1⟩ := (hv.below hbx (Nat.le_refl _)).at hkx
      rw [hda, List.all_cons] at hx
      by_cases h4 : 400 < x.length
      · have hs := Lib.hid (show (a.all fun s => decide (s.length ≤ 400)) = false by rw [hx, decide_eq_false (by omega)]; rfl)
        have h4' : (400 : Int) < (x.length : Int) := by omega
        clear hx hkx hda
        go_wp2_with fail
        go_ret
        exact ⟨ret_bool hs.out.symm, hbx⟩
      · have hs := Lib.hid (show (a.all fun s => decide (s.length ≤ 400)) = ((a.drop (k + 1)).all fun s => decide (s.length ≤ 400)) by rw [hx, decide_eq_true (by omega)]; rfl)
        have h4' : ¬ (400 : Int) < (x.length : Int) := by omega
        clear hx hkx hda
        go_wp2_with fail
        exact ⟨⟨k + 1, hlt, by go_num, hs, hbx⟩, by simp only [intOf]; omega⟩
end Go.Proofs.YtakdmnhpoelepaaGreatDoor
