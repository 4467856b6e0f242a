/-
  Contracts: the reference's Inside, Names (argusref03), in the words of the program's contracts. Condition: the texts' length.
  The walk of the statement KindInside: it answers true. Condition: the variable strings.asciiSpace; the texts' bound.
-/
import Derived.Test.YtakdmnhpoelepaaGreatDoorRIns
import Derived.Laws.AppendOwnNone
import Derived.Maps.AppendAt
namespace Go.Proofs.YtakdmnhpoelepaaGreatDoor
open Go.RowKit

set_option maxRecDepth 4000 in
theorem rinside_any (s : List UInt8) (hm : s.length ≤ maxLen) (w : World) :
    Calls Tryz.prog 20 #[str s] w fun e w' => ∃ v, e = .returned (.tuple #[v, .int .i64 (insideK s).2]) ∧ Strs w' v (insideK s).1 ∧ Below w.heap.size w w' := by
  rcases hq : checkK s with ⟨c, T⟩
  by_cases hc : c = 0
  · subst hc
    rw [show insideK s = (insF T.ins, 0) by unfold insideK; rw [hq]; rfl]
    exact rinside_good s T hq w
  · rw [show insideK s = ([], c) by unfold insideK; rw [hq, if_neg hc]]
    have hC := rcheck_any s hm w
    rw [hq] at hC
    obtain ⟨g1, g2⟩ := nat_ne0 hc
    clear hq hc
    go_enter Tryz.func20, Tryz.ntmps20
    go_wp2_with (go_at_call 32; refine hC.mono ?_; clear hC; rintro e w1 ⟨rfl, hb1⟩)
    go_ret2
    exact ⟨_, rfl, Sl.nil _, hb1⟩
/-- The names among some types' texts. -/
def namesT (l : List (List UInt8)) : List (List UInt8) := (l.filter fun t => decide (kindT t = 7)).map fun t => t.take (cutN t)
theorem namesT_snoc (l : List (List UInt8)) (t : List UInt8) : namesT (l ++ [t]) = namesT l ++ (if kindT t = 7 then [t.take (cutN t)] else []) := by
  unfold namesT
  rw [List.filter_append, List.map_append]
  congr 1
  by_cases h : kindT t = 7 <;> simp [h]
theorem Tr.ok.name {t : Tr} (h : t.ok) (hk : t.k = 7) : t.txt.take (cutN t.txt) = t.n := by
  obtain ⟨k, n, sub⟩ := t
  obtain rfl : k = 7 := hk
  have h' : Wf none (.cons [] 7 n sub .nil) := h
  rw [Tr.txt_eq, Fo.one, Fo.tx_one]
  exact (cutN_word (wordK_cut h' (by decide)) (br_cut _)).1
theorem namesT_ins {T : Tr} (h : T.ok) (s : List UInt8) : s ∈ namesT (insF T.ins) ↔ s ∈ namF T.ins := by
  unfold namesT namF
  simp only [List.mem_map, List.mem_filter, decide_eq_true_eq, insF_once, onceB_mem]
  constructor
  · rintro ⟨_, ⟨⟨u, hu, rfl⟩, h2⟩, rfl⟩
    have ho := (h.ins_all hu).1
    rw [ho.kindT] at h2
    exact ⟨u, ⟨hu, h2⟩, (ho.name h2).symm⟩
  · rintro ⟨u, ⟨hu, h2⟩, rfl⟩
    have ho := (h.ins_all hu).1
    exact ⟨u.txt, ⟨⟨u, hu, rfl⟩, by rw [ho.kindT]; exact h2⟩, ho.name h2⟩
theorem hasB_mem {l : List (List UInt8)} {s : List UInt8} : hasB l s = true ↔ s ∈ l := by unfold hasB; rw [List.contains_iff_mem]
theorem put_place {acc : List (List UInt8)} {s : List UInt8} {k : Nat} (ha : asc acc) (hn : hasB acc s = false) (hk : k ≤ acc.length) (hhi : ∀ j (hj : j < acc.length), k ≤ j → Op.bytesLess s acc[j] = true)
    (hlo : k = 0 ∨ ∃ h : k - 1 < acc.length, Op.bytesLess s acc[k - 1] = false) : asc (acc.take k ++ s :: acc.drop k) := by
  refine asc_put ha hk (fun j hj hjk => ?_) hhi
  rcases hlo with rfl | ⟨h, hlo⟩
  · omega
  · have hne : ¬ s ∈ acc := fun h => by rw [hasB_mem.2 h] at hn; simp at hn
    have h1 : Op.bytesLess acc[k - 1] s = true := by
      have := less_total _ _ hlo
      rw [Bool.or_eq_true] at this
      rcases this with h2 | h2
      · exact h2
      · have h3 : acc[k - 1] = s := by simpa using h2
        exact absurd (h3 ▸ List.getElem_mem h) hne
    by_cases hj1 : j = k - 1
    · subst hj1; exact h1
    · exact less_trans _ _ _ (List.pairwise_iff_getElem.1 ha j (k - 1) hj h (by omega)) h1
/-- What is kept between rounds. -/
structure NamR (w wr : World) (l : List (List UInt8)) (i : Nat) (o : Value) (acc : List (List UInt8)) : Prop where
  len : acc.length ≤ i
  row : wr.ownsRow w.heap.size 9 1 o acc.length (strsC acc)
  asc : asc acc
  mem : ∀ s, s ∈ acc ↔ s ∈ namesT (l.take i)
  bel : Below w.heap.size w wr
theorem NamR.same {w wr wr' : World} {l : List (List UInt8)} {i : Nat} {o : Value} {acc : List (List UInt8)} {t : List UInt8} (h : NamR w wr l i o acc) (ht : l[i]? = some t) (hn : kindT t ≠ 7 ∨ hasB acc (t.take (cutN t)) = true) (hb : Below wr.heap.size wr wr') : NamR w wr' l (i + 1) o acc := by
  refine ⟨by have := h.len; omega, ownsRow_below h.row hb (Nat.le_refl _), h.asc, fun s => ?_, h.bel.trans (below_less hb h.bel.size)⟩
  rw [take_snoc' _ _ _ ht, namesT_snoc, h.mem]
  by_cases hk : kindT t = 7
  · have hm := hasB_mem.1 (hn.resolve_left (by simpa using hk))
    rw [h.mem] at hm
    rw [if_pos hk]
    simp only [List.mem_append, List.mem_singleton]
    exact ⟨.inl, fun h => h.elim id fun h => h ▸ hm⟩
  · rw [if_neg hk]; simp
theorem NamR.more {w wr wr' : World} {l : List (List UInt8)} {i k : Nat} {o o' : Value} {acc : List (List UInt8)} {t : List UInt8} (h : NamR w wr l i o acc) (ht : l[i]? = some t) (hk7 : kindT t = 7) (hk : k ≤ acc.length) (ha : Proofs.YtakdmnhpoelepaaGreatDoor.asc (acc.take k ++ t.take (cutN t) :: acc.drop k))
    (hr : wr'.ownsRow w.heap.size 9 1 o' (acc.length + 1) (strsC (acc.take k ++ t.take (cutN t) :: acc.drop k))) (hb : Below w.heap.size w wr') : NamR w wr' l (i + 1) o' (acc.take k ++ t.take (cutN t) :: acc.drop k) := by
  have hl : (acc.take k ++ t.take (cutN t) :: acc.drop k).length = acc.length + 1 := by simp; omega
  refine ⟨by have := h.len; omega, by rw [hl]; exact hr, ha, fun s => ?_, hb⟩
  rw [put_mem, take_snoc' _ _ _ ht, namesT_snoc, if_pos hk7, h.mem]
  simp only [List.mem_append, List.mem_singleton]
  constructor
  · rintro (h | h)
    · exact .inr h
    · exact .inl h
  · rintro (h | h)
    · exact .inr h
    · exact .inl h

theorem own_shape {w : World} {base : Nat} {e : TypeId} {p : Option Addr} {n c : Nat} {xs : List (List UInt8)} (h : w.ownsRow base e 1 (.slice p n c) xs.length (strsC xs)) : (p = none ∧ n = 0 ∧ c = 0 ∧ xs = []) ∨ ∃ g, p = some ⟨g, 0, none⟩ ∧ g < w.heap.size ∧ n ≤ c := by
  rcases h.2 with ⟨h1, h0⟩ | ⟨g, cap, cur, h1, _, h3, h4, _⟩
  · injection h1 with h1 h2 h3
    exact .inl ⟨h1, h2, h3, List.length_eq_zero_iff.1 h0⟩
  · injection h1 with h1 h2 h5
    exact .inr ⟨g, h1, ownsRow_lt h (by rw [h1]; rfl), by omega⟩
theorem putC (acc : List (List UInt8)) (nm : List UInt8) (k : Nat) : ((strsC acc).take k ++ [str nm]) ++ (strsC acc).drop k = strsC (acc.take k ++ nm :: acc.drop k) := by
  simp [strsC]
/-- Three appends that begin with a new block leave all that was there. -/
theorem three_below {wq w6 w7 w8 : World} {o o2 : Obj} {v1 v2 : Value} (hg6 : (wq.alloc o).grownBy w6 (some wq.heap.size)) (hat6 : v1.ownBlock = some wq.heap.size ∨ v1.ownBlock = some (wq.alloc o).heap.size)
    (hg7 : (w6.alloc o2).grownBy w7 v1.ownBlock) (hat7 : v2.ownBlock = v1.ownBlock ∨ v2.ownBlock = some (w6.alloc o2).heap.size) (hg8 : w7.grownBy w8 v2.ownBlock) : Below wq.heap.size wq w8 := by
  have b6 : Below wq.heap.size wq w6 := ((Below.refl wq.heap.size wq).alloc (Nat.le_refl _) o).grown hg6 (by simp) (fun b e => by injection e with e; omega)
  have l1 : ∀ b, v1.ownBlock = some b → wq.heap.size ≤ b := fun b e => by
    rcases hat6 with h | h
    · rw [h] at e; injection e with e; omega
    · rw [h] at e; injection e with e; simp at e; omega
  have b7 : Below wq.heap.size wq w7 := (b6.alloc b6.size o2).grown hg7 (by have := b6.size; simp; omega) l1
  exact b7.grown hg8 b7.size fun b e => by
    rcases hat7 with h | h
    · exact l1 b (h ▸ e)
    · rw [h] at e; injection e with e; have := b6.size; simp at e; omega
/-- The row that was there is there behind the first two. -/
theorem two_row {wq w6 w7 : World} {o o2 : Obj} {v1 : Value} {base : Nat} {e : TypeId} {g n c : Nat} {xs : List Value} (hown : wq.ownsRow base e 1 (.slice (some ⟨g, 0, none⟩) n c) n xs) (hg : g < wq.heap.size) (hg6 : (wq.alloc o).grownBy w6 (some wq.heap.size)) (hat6 : v1.ownBlock = some wq.heap.size ∨ v1.ownBlock = some (wq.alloc o).heap.size)
    (hg7 : (w6.alloc o2).grownBy w7 v1.ownBlock) : w7.ownsRow base e 1 (.slice (some ⟨g, 0, none⟩) n c) n xs := by
  refine ownsRow_of_block hown fun b hb => ?_
  injection hb with hb
  subst hb
  have h6 : w6.heap[g]? = wq.heap[g]? := (hg6.block g (by simp; omega) (fun e => by injection e with e; omega)).trans (Below.heap_alloc _ _ g hg)
  have hs6 : g < w6.heap.size := by have := hg6.size; simp at this; omega
  refine (hg7.block g (by simp; omega) fun e => ?_).trans ((Below.heap_alloc _ _ g hs6).trans h6)
  rcases hat6 with h | h
  · rw [h] at e; injection e with e; omega
  · rw [h] at e; injection e with e; simp at e; omega
theorem take_cells {w : World} {base : Nat} {e : TypeId} {g n c : Nat} {xs : List Value} (h : w.ownsRow base e 1 (.slice (some ⟨g, 0, none⟩) n c) n xs) (k : Nat) : ∀ j u, (xs.take k)[j]? = some u → w.cell? ((⟨g, 0, none⟩ : Addr).add j) = some u := fun j u hj => by
  refine h.cells (g := g) rfl j u ?_
  rw [List.getElem?_take] at hj
  split at hj
  · exact hj
  · simp at hj
theorem drop_cells {w : World} {base : Nat} {e : TypeId} {g n c : Nat} {xs : List Value} (h : w.ownsRow base e 1 (.slice (some ⟨g, 0, none⟩) n c) n xs) (k : Nat) : ∀ j u, (xs.drop k)[j]? = some u → w.cell? ((⟨g, k, none⟩ : Addr).add j) = some u := fun j u hj => by
  rw [List.getElem?_drop] at hj
  have := h.cells (g := g) rfl (k + j) u hj
  have e : (⟨g, k, none⟩ : Addr).add j = (⟨g, 0, none⟩ : Addr).add (k + j) := by
    unfold Addr.add
    by_cases hj : j = 0
    · subst hj
      by_cases hk : k = 0 <;> simp [hk]
    · simp [hj]
  rw [e]; exact this
theorem one_cells (acc : List (List UInt8)) (k : Nat) : (∀ u ∈ (strsC acc).take k, u.oneCell' = true) ∧ (∀ u ∈ (strsC acc).drop k, u.oneCell' = true) := by
  have h : ∀ u ∈ strsC acc, u.oneCell' = true := fun u hu => by
    obtain ⟨x, _, rfl⟩ := List.mem_map.1 hu
    rfl
  exact ⟨fun u hu => h u (List.mem_of_mem_take hu), fun u hu => h u (List.mem_of_mem_drop hu)⟩

set_option maxRecDepth 8000 in
set_option maxHeartbeats 6400000 in
theorem rnames_good (s : List UInt8) (T : Tr) (hs : checkK s = (0, T)) (w : World) :
    Calls Tryz.prog 22 #[str s] w fun e w' => ∃ v, e = .returned (.tuple #[v, .int .i64 0]) ∧ Strs w' v (sortU (namF T.ins)) ∧ Below w.heap.size w w' := by
  obtain ⟨o1, e1, l1, _⟩ := checkK_ok hs
  have hI := rinside_good s T hs w
  have hlen := insF_len T.ins
  have hle2 := o1.ins_len
  rw [e1] at hle2
  have hl : (insF T.ins).length ≤ 100 := by omega
  have hshort : ∀ t ∈ insF T.ins, t.length ≤ 100 := by
    intro t ht
    rw [insF_once, onceB_mem] at ht
    obtain ⟨u, hu, rfl⟩ := List.mem_map.1 ht
    have := (o1.ins_all hu).2.1
    rw [e1] at this
    omega
  have hend : ∀ acc, asc acc → (∀ s, s ∈ acc ↔ s ∈ namesT (insF T.ins)) → acc = sortU (namF T.ins) := fun acc ha hm => asc_sortU ha fun s => (hm s).trans (namesT_ins o1 s)
  generalize sortU (namF T.ins) = tot at hend ⊢
  generalize insF T.ins = l at hI hl hshort hend
  have HEND := Lib.hid hend
  have HSH := Lib.hid hshort
  obtain ⟨i0, hi0, hz0, hz1, hz2⟩ := info_parts infoStr
  clear hs o1 e1 hlen hle2 hend hshort
  go_enter Tryz.func22, Tryz.ntmps22
  go_wp2_with (go_at_call 20; refine hI.mono ?_; clear hI; rintro e w1 ⟨v, rfl, hv, hb1⟩; obtain ⟨pv, cv, rfl⟩ := hv.sh)
  go_loopw [6, 7] (fun o y wr => ∃ (i : Nat) (acc : List (List UInt8)), i ≤ l.length ∧ y = .int .i64 i ∧ NamR w wr l i o acc ∧ Below w1.heap.size w1 wr) (fun _ y _ => l.length - (intOf y).toNat)
  case atStart => exact ⟨0, [], Nat.zero_le _, by go_num, ⟨by simp, by simpa [strsC] using World.ownsRow_nil _ _ _ _, List.Pairwise.nil, by simp [namesT], hb1⟩, Below.refl _ _⟩
  case round =>
    clear hb1
    obtain ⟨i, acc, hi, rfl, hR, hb⟩ := hrel
    have ha := hR.len
    have hown := hR.row
    obtain ⟨po, co, rfl⟩ := row_shape hown
    by_cases hlt : i < l.length
    case neg =>
      have HS : Hid (acc = tot) := HEND.out acc hR.asc fun s => by
        have := hR.mem s
        rw [List.take_of_length_le (by omega)] at this
        exact this
      obtain rfl : acc = tot := HS.out
      have hb9 := hR.bel
      go_wp2_with fail
      go_ret2
      exact ⟨_, rfl, Sl.of_own (by simpa [strsC] using hown), hb9⟩
    case pos =>
      obtain ⟨t, hkt⟩ : ∃ t, l[i]? = some t := ⟨_, List.getElem?_eq_getElem hlt⟩
      have htl := HSH.out t (List.mem_of_getElem? hkt)
      have hvx := hv.below hb (Nat.le_refl _)
      obtain ⟨b1, o1, rfl, c1⟩ := hvx.at hkt
      have hcl := cutN_le t
      have HKT := Lib.hid hkt
      have HRR := Lib.hid hR
      have hst : Strs wr _ acc := Sl.of_own (by simpa [strsC] using hown)
      clear hkt hR hvx
      go_upto_region 8 with fail
      go_quiet ((go_at_call 59; refine Calls.quiet_of_same ((cut_any _ _ (by unfold maxLen; omega)).mono fun e w' h => ⟨h.1, h.2.symm⟩)))
      have hbq := blwN (Below.refl wr.heap.size wr) nq
      have c1 := Below.keep hbq c1
      have hst := hst.below hbq (Nat.le_refl _)
      have hown := ownsRow_below hown hbq (Nat.le_refl _)
      generalize wr.drewN nq = wq at hbq c1 hst hown ⊢
      have hmt : t.length ≤ maxLen := by unfold maxLen; omega
      have hK := fun W => rkind0_any t hmt W
      rcases hq : hasB acc (t.take (cutN t)) with _ | _
      case true =>
        have HQ := Lib.hid hq
        have HS := Lib.hid (HRR.out.same HKT.out (.inr hq) hbq)
        have HB2 := Lib.hid (hb.trans (below_less hbq hb.size))
        have hk : ((kindT t : Int) != 7) = true ∨ ((kindT t : Int) != 7) = false := by cases ((kindT t : Int) != 7) <;> simp
        clear hq
        generalize kindT t = KK at hK hk
        rcases hk with hk | hk
        all_goals
          go_wp2_with (first
            | (go_at_call 60; (with_reducible refine (rhas_at hst HQ.out).mono ?_); rintro e w4 ⟨rfl, rfl⟩)
            | (go_at_call 63; refine (hK _).mono ?_; rintro e w5 ⟨rfl, rfl⟩))
          exact ⟨⟨i + 1, acc, hlt, by go_num, HS.out, HB2.out⟩, by simp only [intOf]; omega⟩
      case false =>
        have HQ := Lib.hid hq
        by_cases hk7 : kindT t = 7
        case neg =>
          have HS := Lib.hid (HRR.out.same HKT.out (.inl hk7) hbq)
          have HB2 := Lib.hid (hb.trans (below_less hbq hb.size))
          have hk : ((kindT t : Int) != 7) = true := by rw [bne_iff_ne]; omega
          clear hq hk7
          generalize kindT t = KK at hK hk
          go_wp2_with (first
            | (go_at_call 60; (with_reducible refine (rhas_at hst HQ.out).mono ?_); rintro e w4 ⟨rfl, rfl⟩)
            | (go_at_call 63; refine (hK _).mono ?_; rintro e w5 ⟨rfl, rfl⟩))
          exact ⟨⟨i + 1, acc, hlt, by go_num, HS.out, HB2.out⟩, by simp only [intOf]; omega⟩
        case pos =>
          have HK7 := Lib.hid hk7
          rw [hk7] at hK
          clear hq hk7
          go_wp2_with (first
            | (go_at_call 60; (with_reducible refine (rhas_at hst HQ.out).mono ?_); rintro e w4 ⟨rfl, rfl⟩)
            | (go_at_call 63; refine (hK _).mono ?_; rintro e w5 ⟨rfl, rfl⟩))
          have hkA : ∀ k, k ≤ acc.length → ((strsC acc).take k).length = k * 1 ∧ ((strsC acc).drop k).length = (acc.length - k) * 1 := fun k hk => by simp [strsC]; omega
          have HKA := Lib.hid hkA
          clear hkA
          rcases own_shape hown with ⟨rfl, _, rfl, rfl⟩ | ⟨g, rfl, hgl, hcap⟩
          case inl =>
            have HP := Lib.hid (put_place HRR.out.asc HQ.out (Nat.zero_le _) (fun j hj _ => absurd hj (by simp)) (.inl rfl))
            have hlit : (wq.alloc (.cells #[] 9)).ownsRow w.heap.size 9 1 (.slice (some ⟨wq.heap.size, 0, none⟩) 0 0) 0 [] := World.ownsRow_lit wq #[] 0 (by have := HRR.out.bel.size; have := hbq.size; omega) (by decide) rfl
            refine wp_loop_rounds 1 ?_
            rw [rounds_succ]
            go_wp2_with (first
              | (at_builtin; refine wpList_append_own_none rfl _ _ 30 rfl w.heap.size 9 i0 1 Tryz.underlying30 hi0 _ _ _ rfl hlit rfl ?_)
              | (at_builtin; refine wpList_append_own_at _ rfl _ _ 30 rfl w.heap.size 9 i0 (.string ⟨#[]⟩) 1 16 Tryz.underlying30 hi0 hz0 hz1 hz2 rfl (by decide) _ _ _ rfl (hlit.alloc _) ⟨wq.heap.size + 1, 0, none⟩ 1 1 [str (List.take (cutN t) t)] rfl rfl (by have := cell_one_new (wq.alloc (.cells #[] 9)) (str (List.take (cutN t) t)) 9; rw [World.size_alloc] at this; exact this) (fun x hx => by simp at hx; subst hx; rfl) (by decide) (by omega) (by have := HRR.out.bel.size; have := hbq.size; simp only [World.size_alloc]; omega) ?_; intro v2 w7 hown7 hgr7 _ _)
              | (at_builtin; refine wpList_append_own_none rfl _ _ 30 rfl w.heap.size 9 i0 1 Tryz.underlying30 hi0 _ _ _ rfl hown7 rfl ?_))
            have hbn : Below wq.heap.size wq w7 := (((Below.refl wq.heap.size wq).alloc (Nat.le_refl _) (.cells #[] 9)).alloc (by simp) (.cells #[str (List.take (cutN t) t)] 9)).grown hgr7 (by simp; omega) (fun b e => by have e2 : some wq.heap.size = some b := e; injection e2 with e2; omega)
            have hbw := hbq.trans (below_less hbn hbq.size)
            exact ⟨⟨i + 1, _, hlt, by go_num, HRR.out.more HKT.out HK7.out (Nat.zero_le _) HP.out hown7 (HRR.out.bel.trans (below_less hbw HRR.out.bel.size)), hb.trans (below_less hbw hb.size)⟩, by simp only [intOf]; omega⟩
          case inr =>
          go_loop [10] (fun y => ∃ k : Nat, k ≤ acc.length ∧ y = .int .i64 k ∧ Hid (∀ j (hj : j < acc.length), k ≤ j → Op.bytesLess (List.take (cutN t) t) acc[j] = true)) (fun y => (intOf y).toNat)
          case atStart => exact ⟨acc.length, Nat.le_refl _, rfl, fun j hj h => by omega⟩
          case round =>
            obtain ⟨k, hk, rfl, HHI⟩ := hrel
            cases k with
            | zero =>
              have HP := Lib.hid (put_place HRR.out.asc HQ.out (Nat.zero_le _) HHI.out (.inl rfl))
              have hhh := hown.alloc (.cells #[] 9)
              go_wp2_with (first
                | (at_builtin; refine wpList_append_own_at _ rfl _ _ 30 rfl w.heap.size 9 i0 (.string ⟨#[]⟩) 1 16 Tryz.underlying30 hi0 hz0 hz1 hz2 rfl (by decide) (.slice (some ⟨wq.heap.size, 0, none⟩) 0 0) 0 [] rfl (World.ownsRow_lit wq #[] 0 (by have := HRR.out.bel.size; have := hbq.size; omega) (by decide) rfl) ⟨g, 0, none⟩ 0 co ((strsC acc).take 0) rfl (HKA.out _ hk).1 (take_cells hhh _) (one_cells acc _).1 (by unfold maxLen; omega) (by omega) (by have := HRR.out.bel.size; have := hbq.size; simp; omega) ?_; intro v1 w6 hown6 hgr6 _ hat6; rw [Nat.zero_add, List.nil_append] at hown6; obtain ⟨p6, c6, rfl⟩ := row_shape hown6)
                | (at_builtin; refine wpList_append_own_at _ rfl _ _ 30 rfl w.heap.size 9 i0 (.string ⟨#[]⟩) 1 16 Tryz.underlying30 hi0 hz0 hz1 hz2 rfl (by decide) _ _ _ rfl (hown6.alloc _) ⟨w6.heap.size, 0, none⟩ 1 1 [str (List.take (cutN t) t)] rfl rfl (cell_one_new _ _ _) (fun x hx => by simp at hx; subst hx; rfl) (by unfold maxLen; omega) (by omega) (by have := HRR.out.bel.size; have := hbq.size; have e6 := hgr6.size; simp only [World.size_alloc] at e6 ⊢; omega) ?_; intro v2 w7 hown7 hgr7 _ hat7; obtain ⟨p7, c7, rfl⟩ := row_shape hown7; have hrow7 := two_row hown hgl hgr6 hat6 hgr7)
                | (at_builtin; refine wpList_append_own_at _ rfl _ _ 30 rfl w.heap.size 9 i0 (.string ⟨#[]⟩) 1 16 Tryz.underlying30 hi0 hz0 hz1 hz2 rfl (by decide) _ _ _ rfl hown7 ⟨g, 0, none⟩ acc.length co ((strsC acc).drop 0) rfl (by simp [strsC]) (drop_cells hrow7 _) (one_cells acc _).2 (by unfold maxLen; omega) (by omega) (by have := HRR.out.bel.size; have := hbq.size; have e6 := hgr6.size; have e7 := hgr7.size; simp only [World.size_alloc] at e6 e7; omega) ?_; intro v3 w8 hown8 hgr8 _ _))
              have hbn := three_below hgr6 hat6 hgr7 hat7 hgr8
              have hbw := hbq.trans (below_less hbn hbq.size)
              refine ⟨⟨i + 1, _, hlt, by go_num, HRR.out.more HKT.out HK7.out hk HP.out ?_ (HRR.out.bel.trans (below_less hbw HRR.out.bel.size)), hb.trans (below_less hbw hb.size)⟩, by simp only [intOf]; omega⟩
              rw [← putC]
              rw [show acc.length + 1 = 0 + 1 + acc.length from by omega]
              exact hown8
            | succ j =>
              have hj : j < acc.length := by omega
              obtain ⟨b2, o2, hbo, c2⟩ := hst.at (List.getElem?_eq_getElem hj)
              injection hbo with hbo
              injection hbo with hb2 ho2
              subst hb2 ho2
              rw [Nat.zero_add] at c2
              have hne : (acc[j] == List.take (cutN t) t) = false := by
                rw [beq_eq_false_iff_ne]
                intro e
                have := hasB_mem.2 (e ▸ List.getElem_mem hj)
                rw [HQ.out] at this
                simp at this
              have HNE := Lib.hid hne
              clear hne
              rcases hls : Op.bytesLess acc[j] (List.take (cutN t) t) with _ | _
              · have hup : Op.bytesLess (List.take (cutN t) t) acc[j] = true := by
                  have := less_total _ _ hls
                  rw [Bool.or_eq_true] at this
                  rcases this with h | h
                  · exact h
                  · have e : List.take (cutN t) t = acc[j] := by simpa using h
                    have := HNE.out
                    rw [e] at this
                    simp at this
                have HS : Hid (∀ i (hi : i < acc.length), j ≤ i → Op.bytesLess (List.take (cutN t) t) acc[i] = true) := fun i hi hji => by
                  by_cases h : i = j
                  · subst h; exact hup
                  · exact HHI.out i hi (by omega)
                have hne := HNE.out
                clear hup
                go_wp2_with fail
                go_round
                case rel => exact ⟨j, by omega, by go_num, HS⟩
                case measure => simp [intOf]
              · have HP := Lib.hid (put_place HRR.out.asc HQ.out hk HHI.out (.inr ⟨hj, less_asymm _ _ hls⟩))
                by_cases hco : co = j + 1
                · subst hco
                  have hnl : acc.length = j + 1 := by omega
                  have HNL : Hid ((strsC acc).drop (j + 1) = []) := by show _ = _; simp [strsC]; omega
                  have HL := Lib.hid hnl
                  clear hnl
                  have hhh := hown.alloc (.cells #[] 9)
                  go_wp2_with (first
                    | (at_builtin; refine wpList_append_own_at _ rfl _ _ 30 rfl w.heap.size 9 i0 (.string ⟨#[]⟩) 1 16 Tryz.underlying30 hi0 hz0 hz1 hz2 rfl (by decide) (.slice (some ⟨wq.heap.size, 0, none⟩) 0 0) 0 [] rfl (World.ownsRow_lit wq #[] 0 (by have := HRR.out.bel.size; have := hbq.size; omega) (by decide) rfl) ⟨g, 0, none⟩ (j + 1) (j + 1) ((strsC acc).take (j + 1)) rfl (HKA.out _ hk).1 (take_cells hhh _) (one_cells acc _).1 (by unfold maxLen; omega) (by omega) (by have := HRR.out.bel.size; have := hbq.size; simp; omega) ?_; intro v1 w6 hown6 hgr6 _ hat6; rw [Nat.zero_add, List.nil_append] at hown6; obtain ⟨p6, c6, rfl⟩ := row_shape hown6)
                    | (at_builtin; refine wpList_append_own_at _ rfl _ _ 30 rfl w.heap.size 9 i0 (.string ⟨#[]⟩) 1 16 Tryz.underlying30 hi0 hz0 hz1 hz2 rfl (by decide) _ _ _ rfl (hown6.alloc _) ⟨w6.heap.size, 0, none⟩ 1 1 [str (List.take (cutN t) t)] rfl rfl (cell_one_new _ _ _) (fun x hx => by simp at hx; subst hx; rfl) (by unfold maxLen; omega) (by omega) (by have := HRR.out.bel.size; have := hbq.size; have e6 := hgr6.size; simp only [World.size_alloc] at e6 ⊢; omega) ?_; intro v2 w7 hown7 hgr7 _ hat7; obtain ⟨p7, c7, rfl⟩ := row_shape hown7; have hrow7 := two_row hown hgl hgr6 hat6 hgr7)
                    | (at_builtin; refine wpList_append_own_at _ rfl _ _ 30 rfl w.heap.size 9 i0 (.string ⟨#[]⟩) 1 16 Tryz.underlying30 hi0 hz0 hz1 hz2 rfl (by decide) _ _ _ rfl hown7 ⟨g, 0, none⟩ 0 0 [] rfl rfl (fun x u hx => by simp at hx) (fun x hx => by simp at hx) (by unfold maxLen; omega) (by omega) (by have := HRR.out.bel.size; have := hbq.size; have e6 := hgr6.size; have e7 := hgr7.size; simp only [World.size_alloc] at e6 e7; omega) ?_; intro v3 w8 hown8 hgr8 _ _))
                  have hbn := three_below hgr6 hat6 hgr7 hat7 hgr8
                  have hbw := hbq.trans (below_less hbn hbq.size)
                  refine ⟨⟨i + 1, _, hlt, by go_num, HRR.out.more HKT.out HK7.out hk HP.out ?_ (HRR.out.bel.trans (below_less hbw HRR.out.bel.size)), hb.trans (below_less hbw hb.size)⟩, by simp only [intOf]; omega⟩
                  rw [← putC, HNL.out]
                  rw [show acc.length + 1 = j + 1 + 1 + 0 from by rw [HL.out]]
                  exact hown8
                · have hco' : j + 1 < co := by omega
                  have hhh := hown.alloc (.cells #[] 9)
                  go_wp2_with (first
                    | (at_builtin; refine wpList_append_own_at _ rfl _ _ 30 rfl w.heap.size 9 i0 (.string ⟨#[]⟩) 1 16 Tryz.underlying30 hi0 hz0 hz1 hz2 rfl (by decide) (.slice (some ⟨wq.heap.size, 0, none⟩) 0 0) 0 [] rfl (World.ownsRow_lit wq #[] 0 (by have := HRR.out.bel.size; have := hbq.size; omega) (by decide) rfl) ⟨g, 0, none⟩ (j + 1) co ((strsC acc).take (j + 1)) rfl (HKA.out _ hk).1 (take_cells hhh _) (one_cells acc _).1 (by unfold maxLen; omega) (by omega) (by have := HRR.out.bel.size; have := hbq.size; simp; omega) ?_; intro v1 w6 hown6 hgr6 _ hat6; rw [Nat.zero_add, List.nil_append] at hown6; obtain ⟨p6, c6, rfl⟩ := row_shape hown6)
                    | (at_builtin; refine wpList_append_own_at _ rfl _ _ 30 rfl w.heap.size 9 i0 (.string ⟨#[]⟩) 1 16 Tryz.underlying30 hi0 hz0 hz1 hz2 rfl (by decide) _ _ _ rfl (hown6.alloc _) ⟨w6.heap.size, 0, none⟩ 1 1 [str (List.take (cutN t) t)] rfl rfl (cell_one_new _ _ _) (fun x hx => by simp at hx; subst hx; rfl) (by unfold maxLen; omega) (by omega) (by have := HRR.out.bel.size; have := hbq.size; have e6 := hgr6.size; simp only [World.size_alloc] at e6 ⊢; omega) ?_; intro v2 w7 hown7 hgr7 _ hat7; obtain ⟨p7, c7, rfl⟩ := row_shape hown7; have hrow7 := two_row hown hgl hgr6 hat6 hgr7)
                    | (at_builtin; refine wpList_append_own_at _ rfl _ _ 30 rfl w.heap.size 9 i0 (.string ⟨#[]⟩) 1 16 Tryz.underlying30 hi0 hz0 hz1 hz2 rfl (by decide) _ _ _ rfl hown7 ⟨g, j + 1, none⟩ (acc.length - (j + 1)) (co - (j + 1)) ((strsC acc).drop (j + 1)) rfl (HKA.out _ hk).2 (drop_cells hrow7 _) (one_cells acc _).2 (by unfold maxLen; omega) (by omega) (by have := HRR.out.bel.size; have := hbq.size; have e6 := hgr6.size; have e7 := hgr7.size; simp only [World.size_alloc] at e6 e7; omega) ?_; intro v3 w8 hown8 hgr8 _ _))
                  have hbn := three_below hgr6 hat6 hgr7 hat7 hgr8
                  have hbw := hbq.trans (below_less hbn hbq.size)
                  refine ⟨⟨i + 1, _, hlt, by go_num, HRR.out.more HKT.out HK7.out hk HP.out ?_ (HRR.out.bel.trans (below_less hbw HRR.out.bel.size)), hb.trans (below_less hbw hb.size)⟩, by simp only [intOf]; omega⟩
                  rw [← putC]
                  rw [show acc.length + 1 = (j + 1) + 1 + (acc.length - (j + 1)) from by omega]
                  exact hown8
end Go.Proofs.YtakdmnhpoelepaaGreatDoor

namespace Go.Proofs.YtakdmnhpoelepaaGreatDoor
open Go.RowKit

theorem rnames_any (s : List UInt8) (hm : s.length ≤ maxLen) (w : World) :
    Calls Tryz.prog 22 #[str s] w fun e w' => ∃ v, e = .returned (.tuple #[v, .int .i64 (namesK s).2]) ∧ Strs w' v (namesK s).1 ∧ Below w.heap.size w w' := by
  rcases hq : checkK s with ⟨c, T⟩
  by_cases hc : c = 0
  · subst hc
    rw [show namesK s = (sortU (namF T.ins), 0) by unfold namesK; rw [hq]; rfl]
    exact rnames_good s T hq w
  · have hI := rinside_any s hm w
    rw [show insideK s = ([], c) by unfold insideK; rw [hq, if_neg hc]] at hI
    rw [show namesK s = ([], c) by unfold namesK; rw [hq, if_neg hc]]
    obtain ⟨g1, g2⟩ := nat_ne0 hc
    clear hq hc
    go_enter Tryz.func22, Tryz.ntmps22
    go_wp2_with (go_at_call 20; refine hI.mono ?_; clear hI; rintro e w1 ⟨v, rfl, hv, hb1⟩; obtain ⟨pv, cv, rfl⟩ := hv.sh)
    go_ret2
    exact ⟨_, rfl, Sl.nil _, hb1⟩
/-- A list is answered. -/
def AnsL (f : FuncId) (args : Array Value) (l : List (List UInt8)) (c : Nat) : Prop := ∀ W, Tab W → Calls Tryz.prog f args W fun e w' => ∃ v, e = .returned (.tuple #[v, .int .i64 c]) ∧ Strs w' v l ∧ Below W.heap.size W w'
theorem aNames {s : List UInt8} (hs : s.length ≤ 400) : AnsL 21 #[str s] (namesK s).1 (namesK s).2 := fun W hW =>
  (knames_any s (small400 hs) W hW).mono fun e w' ⟨v, k1, k2, k3⟩ => ⟨v, k1, Sl.of_own (by simpa [strsC] using k2), k3⟩
theorem aInside {s : List UInt8} (hs : s.length ≤ 400) : AnsL 19 #[str s] (insideK s).1 (insideK s).2 := fun W hW =>
  (kinside_any s (small400 hs) W hW).mono fun e w' ⟨v, k1, k2, k3⟩ => ⟨v, k1, Sl.of_own (by simpa [strsC] using k2), k3⟩
theorem aRNames {s : List UInt8} (hs : s.length ≤ 400) : AnsL 22 #[str s] (namesK s).1 (namesK s).2 := fun W _ => rnames_any s (small400 hs) W
theorem aRInside {s : List UInt8} (hs : s.length ≤ 400) : AnsL 20 #[str s] (insideK s).1 (insideK s).2 := fun W _ => rinside_any s (small400 hs) W
theorem insideK_len (s : List UInt8) : (insideK s).1.length ≤ 100 := by
  rcases hq : checkK s with ⟨c, T⟩
  by_cases hc : c = 0
  · subst hc
    obtain ⟨r, h1, h2, _⟩ := insideK_list hq
    rw [h1]; exact h2
  · rw [show insideK s = ([], c) by unfold insideK; rw [hq, if_neg hc]]; simp
theorem namesK_len (s : List UInt8) : (namesK s).1.length ≤ 100 := by
  rcases hq : checkK s with ⟨c, T⟩
  by_cases hc : c = 0
  · subst hc
    obtain ⟨o1, e1, l1, _⟩ := checkK_ok hq
    rw [show namesK s = (sortU (namF T.ins), 0) by unfold namesK; rw [hq]; rfl]
    have h1 : (sortU (namF T.ins)).length = (onceB (namF T.ins)).length := by unfold sortU; exact List.length_mergeSort _
    have h2 := onceB_len (namF T.ins)
    have h3 : (namF T.ins).length ≤ T.ins.length := by unfold namF; rw [List.length_map]; exact List.length_filter_le _ _
    have h4 := o1.ins_len
    rw [e1] at h4
    show (sortU (namF T.ins)).length ≤ 100
    omega
  · rw [show namesK s = ([], c) by unfold namesK; rw [hq, if_neg hc]]; simp

theorem wi_long (t : List UInt8) (w : World) (ht : Tab w) (h : decide (t.length ≤ 400) = false) :
    Calls Tryz.prog 4 #[str t] w fun e w' => e = .returned (.bool true) ∧ Below w.heap.size w w' := by
  have hs := short1 t w false h
  go_enter Tryz.func4, Tryz.ntmps4
  go_wp2_with (first
    | (go_at_call 13; refine hs.mono ?_; clear hs; rintro e wk ⟨rfl, hbk⟩; have hB := hbk)
    | (go_at_call 14; refine (aKept _ (ht.below hB (Nat.le_refl _))).mono ?_; rintro e wk ⟨rfl, hbk⟩; have hB := hB.trans (below_less hbk hB.size)))
  go_ret
  exact ⟨rfl, hB⟩
set_option maxRecDepth 4000 in
theorem wi_good (t : List UInt8) (L M : List (List UInt8)) (c d : Nat) (w : World) (ht : Tab w) (h : decide (t.length ≤ 400) = true) (hL : L.length ≤ 100) (hM : M.length ≤ 100)
    (h1 : AnsL 19 #[str t] L c) (k1 : AnsL 20 #[str t] L c) (h2 : AnsL 21 #[str t] M d) (k2 : AnsL 22 #[str t] M d) :
    Calls Tryz.prog 4 #[str t] w fun e w' => e = .returned (.bool true) ∧ Below w.heap.size w w' := by
  have hs := short1 t w true h
  have hLm : L.length ≤ maxLen := by unfold maxLen; omega
  have hMm : M.length ≤ maxLen := by unfold maxLen; omega
  go_enter Tryz.func4, Tryz.ntmps4
  go_wp2_with (first
    | (go_at_call 13; refine hs.mono ?_; clear hs; rintro e wk ⟨rfl, hbk⟩; have hB := hbk)
    | (go_at_call 19; refine (h1 _ (ht.below hB (Nat.le_refl _))).mono ?_; clear h1; rintro e w1 ⟨v1, rfl, hv1, hb1⟩; obtain ⟨p1, c1, rfl⟩ := hv1.sh; have hB := hB.trans (below_less hb1 hB.size))
    | (go_at_call 20; refine (k1 _ (ht.below hB (Nat.le_refl _))).mono ?_; clear k1; rintro e w2 ⟨v2, rfl, hv2, hb2⟩; obtain ⟨p2, c2, rfl⟩ := hv2.sh; have hv1 := hv1.below hb2 (Nat.le_refl _); have hB := hB.trans (below_less hb2 hB.size))
    | (go_at_call 21; refine (h2 _ (ht.below hB (Nat.le_refl _))).mono ?_; clear h2; rintro e w3 ⟨v3, rfl, hv3, hb3⟩; obtain ⟨p3, c3, rfl⟩ := hv3.sh; have hv1 := hv1.below hb3 (Nat.le_refl _); have hv2 := hv2.below hb3 (Nat.le_refl _); have hB := hB.trans (below_less hb3 hB.size))
    | (go_at_call 22; refine (k2 _ (ht.below hB (Nat.le_refl _))).mono ?_; clear k2; rintro e w4 ⟨v4, rfl, hv4, hb4⟩; obtain ⟨p4, c4, rfl⟩ := hv4.sh; have hv1 := hv1.below hb4 (Nat.le_refl _); have hv2 := hv2.below hb4 (Nat.le_refl _); have hv3 := hv3.below hb4 (Nat.le_refl _); have hB := hB.trans (below_less hb4 hB.size))
    | (go_at_call 14; refine (aKept _ (ht.below hB (Nat.le_refl _))).mono ?_; rintro e w5 ⟨rfl, hb5⟩; have hv1 := hv1.below hb5 (Nat.le_refl _); have hv2 := hv2.below hb5 (Nat.le_refl _); have hv3 := hv3.below hb5 (Nat.le_refl _); have hv4 := hv4.below hb5 (Nat.le_refl _); have hB := hB.trans (below_less hb5 hB.size))
    | (go_at_call 23; (with_reducible refine (kx_same L _ _ _ hv1 hv2 hLm).mono ?_); rintro e w6 ⟨rfl, hb6⟩; have hv3 := hv3.below hb6 (Nat.le_refl _); have hv4 := hv4.below hb6 (Nat.le_refl _); have hB := hB.trans (below_less hb6 hB.size))
    | (go_at_call 23; (with_reducible refine (kx_same M _ _ _ hv3 hv4 hMm).mono ?_); rintro e w7 ⟨rfl, hb7⟩; have hB := hB.trans (below_less hb7 hB.size)))
  go_ret
  exact ⟨rfl, hB⟩
/-- KindInside answers true. -/
theorem winside (t : List UInt8) (w : World) (ht : Tab w) : Calls Tryz.prog 4 #[str t] w fun e w' => e = .returned (.bool true) ∧ Below w.heap.size w w' := by
  rcases h : decide (t.length ≤ 400) with _ | _
  · exact wi_long t w ht h
  · have lt : t.length ≤ 400 := by simpa using h
    exact wi_good t _ _ _ _ w ht h (insideK_len t) (namesK_len t) (aInside lt) (aRInside lt) (aNames lt) (aRNames lt)
end Go.Proofs.YtakdmnhpoelepaaGreatDoor
