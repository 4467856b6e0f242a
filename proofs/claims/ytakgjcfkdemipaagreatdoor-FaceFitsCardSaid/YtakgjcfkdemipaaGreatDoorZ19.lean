/-
  Faces, signatures, needs and operations in memory: what a slice value or a struct value holds; kept where the world only grows. No condition.
-/
import Derived.Test.YtakgjcfkdemipaaGreatDoorZn
import Derived.Test.YtakgjcfkdemipaaGreatDoorZ1
namespace Go.Proofs.YtakgjcfkdemipaaGreatDoor
open Go.RowKit
theorem fdrop_at {α : Type} {l : List α} {k : Nat} {x : α} (h : l[k]? = some x) : l.drop k = x :: l.drop (k + 1) := by
 obtain ⟨hj, e⟩ := List.getElem?_eq_some_iff.1 h
 rw [List.drop_eq_getElem_cons hj, e]
def SS (D : Nat → Prop) (w : World) (v : Value) (ss : List (List UInt8)) : Prop :=
 ∃ p c, v = .slice p ss.length c ∧ ss.length ≤ c ∧ ss.length ≤ maxLen ∧ (∀ s ∈ ss, s.length ≤ maxLen) ∧ (ss = [] ∨ ∃ b o, p = some ⟨b, o, none⟩ ∧ D b ∧ b < w.heap.size ∧ ∀ j (h : j < ss.length), w.cell? ⟨b, o + j, none⟩ = some (str ss[j]))
theorem SS.shape {D : Nat → Prop} {w : World} {v : Value} {ss : List (List UInt8)} (h : SS D w v ss) : ∃ p c, v = .slice p ss.length c ∧ ss.length ≤ c ∧ ss.length ≤ maxLen ∧ ∀ s ∈ ss, s.length ≤ maxLen := by
 obtain ⟨p, c, h1, h2, h3, h4, _⟩ := h
 exact ⟨p, c, h1, h2, h3, h4⟩
theorem SS.le {D : Nat → Prop} {w : World} {v : Value} {ss : List (List UInt8)} (h : SS D w v ss) : ∀ s ∈ ss, s.length ≤ maxLen := by
 obtain ⟨p, c, _, _, _, h4, _⟩ := h
 exact h4
theorem SS.at {D : Nat → Prop} {w : World} {p : Option Addr} {n c : Nat} {ss : List (List UInt8)} (h : SS D w (.slice p n c) ss) {k : Nat} {x : List UInt8} (hk : ss[k]? = some x) : ∃ b o, p = some ⟨b, o, none⟩ ∧ D b ∧ w.cell? ⟨b, o + k, none⟩ = some (str x) := by
 obtain ⟨hj, e⟩ := List.getElem?_eq_some_iff.1 hk
 obtain ⟨p', c', h1, _, _, _, h4⟩ := h
 injection h1 with h1
 subst h1
 rcases h4 with rfl | ⟨b, o, e1, h5, _, h6⟩
 · simp at hj
 · exact ⟨b, o, e1, h5, by rw [h6 k hj, e]⟩
theorem SS.below {D : Nat → Prop} {K : Nat} {w w' : World} {v : Value} {ss : List (List UInt8)} (h : SS D w v ss) (hb : Below K w w') (hK : w.heap.size ≤ K) : SS D w' v ss := by
 obtain ⟨p, c, h1, h2, h3, hl, h4⟩ := h
 refine ⟨p, c, h1, h2, h3, hl, ?_⟩
 rcases h4 with h4 | ⟨b, o, e1, h5, h6, h7⟩
 · exact .inl h4
 · exact .inr ⟨b, o, e1, h5, Nat.lt_of_lt_of_le h6 hb.size, fun j hj => by rw [hb.cell (by show b < K; omega)]; exact h7 j hj⟩
theorem SS.mono {D D' : Nat → Prop} {w : World} {v : Value} {ss : List (List UInt8)} (h : SS D w v ss) (hD : ∀ b, D b → D' b) : SS D' w v ss := by
 obtain ⟨p, c, h1, h2, h3, hl, h4⟩ := h
 refine ⟨p, c, h1, h2, h3, hl, ?_⟩
 rcases h4 with h4 | ⟨b, o, e1, h5, h6, h7⟩
 · exact .inl h4
 · exact .inr ⟨b, o, e1, hD _ h5, h6, h7⟩
theorem SS.set {D : Nat → Prop} {w : World} {v : Value} {ss : List (List UInt8)} (h : SS D w v ss) {a : Addr} (ha : ∀ b, D b → b ≠ a.block) (u : Value) : SS D (w.setCell a u) v ss := by
 obtain ⟨p, c, h1, h2, h3, hl, h4⟩ := h
 refine ⟨p, c, h1, h2, h3, hl, ?_⟩
 rcases h4 with h4 | ⟨b, o, e1, h5, h6, h7⟩
 · exact .inl h4
 · refine .inr ⟨b, o, e1, h5, by simpa [World.setCell] using h6, fun j hj => ?_⟩
   rw [World.cell?_of_block (w := w) (heap_setCell_other w a _ u (ha b h5))];exact h7 j hj
theorem lt_agree {w w' : World} {b : Nat} (h : w'.heap[b]? = w.heap[b]?) (hb : b < w.heap.size) : b < w'.heap.size := by
 rw [Array.getElem?_eq_getElem hb] at h
 exact (Array.getElem?_eq_some_iff.1 h).1
theorem SS.agree {D : Nat → Prop} {w w' : World} {v : Value} {ss : List (List UInt8)} (h : SS D w v ss) (hk : ∀ b, D b → b < w.heap.size → w'.heap[b]? = w.heap[b]?) : SS D w' v ss := by
 obtain ⟨p, c, h1, h2, h3, hl, h4⟩ := h
 refine ⟨p, c, h1, h2, h3, hl, ?_⟩
 rcases h4 with h4 | ⟨b, o, e1, h5, h6, h7⟩
 · exact .inl h4
 · refine .inr ⟨b, o, e1, h5, lt_agree (hk b h5 h6) h6, fun j hj => ?_⟩
   rw [World.cell?_of_block (w := w) (a := ⟨b, o + j, none⟩) (hk b h5 h6)];exact h7 j hj
theorem SS.fresh {D : Nat → Prop} {w : World} {v : Value} {ss : List (List UInt8)} (h : SS D w v ss) : SS (fun b => D b ∧ b < w.heap.size) w v ss := by
 obtain ⟨p, c, h1, h2, h3, hl, h4⟩ := h
 refine ⟨p, c, h1, h2, h3, hl, ?_⟩
 rcases h4 with h4 | ⟨b, o, e1, h5, h6, h7⟩
 · exact .inl h4
 · exact .inr ⟨b, o, e1, ⟨h5, h6⟩, h6, h7⟩
theorem SS.nil (D : Nat → Prop) (w : World) (p : Option Addr) (c : Nat) : SS D w (.slice p 0 c) [] := ⟨p, c, rfl, Nat.zero_le _, Nat.zero_le _, (fun _ h => by cases h), .inl rfl⟩
theorem SS.new (D : Nat → Prop) (w : World) (hB : D w.heap.size) (ss : List (List UInt8)) (t : TypeId) (z : Nat × Nat) (h : ss.length ≤ maxLen) (hl : ∀ s ∈ ss, s.length ≤ maxLen) : SS D (w.alloc (.cells (strsC ss).toArray t z)) (.slice (some ⟨w.heap.size, 0, none⟩) ss.length ss.length) ss := by
 refine ⟨_, _, rfl, nl _, h, hl, .inr ⟨w.heap.size, 0, rfl, hB, by simp, fun j hj => ?_⟩⟩
 have hh := heap_alloc_new w (.cells (strsC ss).toArray t z)
 rw [Nat.zero_add]
 refine (cells_at hh j).trans ?_
 simp [strsC, hj]
theorem SS.newAt {D : Nat → Prop} {n : Nat} {w : World} (hn : w.heap.size = n) (hB : D n) (ss : List (List UInt8)) (t : TypeId) (z : Nat × Nat) (h : ss.length ≤ maxLen) (hl : ∀ s ∈ ss, s.length ≤ maxLen) : SS D (w.alloc (.cells (strsC ss).toArray t z)) (.slice (some ⟨n, 0, none⟩) ss.length ss.length) ss := by
 subst hn
 exact SS.new D w hB ss t z h hl
theorem SS.of_own {w : World} {base : Nat} {e : TypeId} {v : Value} {ss : List (List UInt8)} (h : w.ownsRow base e 1 v ss.length (strsC ss)) (hl : ∀ s ∈ ss, s.length ≤ maxLen) {D : Nat → Prop} (hD : ∀ b, v.ownBlock = some b → D b) : SS D w v ss := by
 have hlt := fun b e => ownsRow_lt h (b := b) e
 rcases h.2 with ⟨rfl, h0⟩ | ⟨g, cap, cur, rfl, hg, hh, h1, h2, h3, h4⟩
 · have e0 : ss = [] := List.length_eq_zero_iff.1 (by omega)
   subst e0;exact SS.nil _ _ _ _
 · refine ⟨_, _, rfl, by omega, by omega, hl, .inr ⟨g, 0, rfl, hD g rfl, hlt g rfl, fun j hj => ?_⟩⟩
   have := h.cells (g := g) rfl j _ (strsC_get ss j hj)
   rwa [show (⟨g, 0, none⟩ : Addr).add j = ⟨g, 0 + j, none⟩ from by unfold Addr.add; simp; omega] at this
def SigV (D : Nat → Prop) (w : World) (v : Value) (x : SigP) : Prop :=
 ∃ a s, v = .agg #[.bool x.iter, a, str x.res, s] ∧ x.res.length ≤ maxLen ∧ SS D w a x.args ∧ SS D w s x.sigs
theorem SigV.below {D : Nat → Prop} {K : Nat} {w w' : World} {v : Value} {x : SigP} (h : SigV D w v x) (hb : Below K w w') (hK : w.heap.size ≤ K) : SigV D w' v x := by
 obtain ⟨a, s, h1, h4, h2, h3⟩ := h
 exact ⟨a, s, h1, h4, h2.below hb hK, h3.below hb hK⟩
theorem SigV.mono {D D' : Nat → Prop} {w : World} {v : Value} {x : SigP} (h : SigV D w v x) (hD : ∀ b, D b → D' b) : SigV D' w v x := by
 obtain ⟨a, s, h1, h4, h2, h3⟩ := h
 exact ⟨a, s, h1, h4, h2.mono hD, h3.mono hD⟩
theorem SigV.zero (D : Nat → Prop) (w : World) : SigV D w (.agg #[.bool false, .slice none 0 0, str [], .slice none 0 0]) .zero := ⟨_, _, rfl, Nat.zero_le _, SS.nil _ _ _ _, SS.nil _ _ _ _⟩
def OpLe (x : OpP) : Prop := x.name.length ≤ maxLen ∧ x.sig.res.length ≤ maxLen
def OpsM (D : Nat → Prop) (w : World) (v : Value) (l : List OpP) : Prop :=
 ∃ p c, v = .slice p l.length c ∧ l.length ≤ c ∧ l.length ≤ maxLen ∧ (∀ x ∈ l, OpLe x) ∧ (l = [] ∨ ∃ b o, p = some ⟨b, o, none⟩ ∧ D b ∧ b < w.heap.size ∧ ∀ j (h : j < l.length), ∃ a s, SS D w a l[j].sig.args ∧ SS D w s l[j].sig.sigs ∧
  w.cell? ⟨b, o + j * 5, none⟩ = some (str l[j].name) ∧ w.cell? ⟨b, o + j * 5 + 1, none⟩ = some (.bool l[j].sig.iter) ∧ w.cell? ⟨b, o + j * 5 + 2, none⟩ = some a ∧ w.cell? ⟨b, o + j * 5 + 3, none⟩ = some (str l[j].sig.res) ∧ w.cell? ⟨b, o + j * 5 + 4, none⟩ = some s)
theorem OpsM.shape {D : Nat → Prop} {w : World} {v : Value} {l : List OpP} (h : OpsM D w v l) : ∃ p c, v = .slice p l.length c ∧ l.length ≤ c ∧ l.length ≤ maxLen ∧ ∀ x ∈ l, OpLe x := by
 obtain ⟨p, c, h1, h2, h3, h4, _⟩ := h
 exact ⟨p, c, h1, h2, h3, h4⟩
theorem OpsM.at {D : Nat → Prop} {w : World} {p : Option Addr} {n c : Nat} {l : List OpP} (h : OpsM D w (.slice p n c) l) {k : Nat} {x : OpP} (hk : l[k]? = some x) : ∃ b o a s, p = some ⟨b, o, none⟩ ∧ D b ∧ OpLe x ∧ SS D w a x.sig.args ∧ SS D w s x.sig.sigs ∧
 w.cell? ⟨b, o + k * 5, none⟩ = some (str x.name) ∧ w.cell? ⟨b, o + k * 5 + 1, none⟩ = some (.bool x.sig.iter) ∧ w.cell? ⟨b, o + k * 5 + 2, none⟩ = some a ∧ w.cell? ⟨b, o + k * 5 + 3, none⟩ = some (str x.sig.res) ∧ w.cell? ⟨b, o + k * 5 + 4, none⟩ = some s := by
 obtain ⟨hj, e⟩ := List.getElem?_eq_some_iff.1 hk
 obtain ⟨p', c', h1, _, _, hl, h4⟩ := h
 have hx := hl x (List.mem_of_getElem? hk)
 injection h1 with h1
 subst h1
 rcases h4 with rfl | ⟨b, o, e1, h5, _, h6⟩
 · simp at hj
 · obtain ⟨a, s, h7, h8, h9⟩ := h6 k hj
   rw [e] at h7 h8 h9;exact ⟨b, o, a, s, e1, h5, hx, h7, h8, h9⟩
theorem OpsM.below {D : Nat → Prop} {K : Nat} {w w' : World} {v : Value} {l : List OpP} (h : OpsM D w v l) (hb : Below K w w') (hK : w.heap.size ≤ K) : OpsM D w' v l := by
 obtain ⟨p, c, h1, h2, h3, hl, h4⟩ := h
 refine ⟨p, c, h1, h2, h3, hl, ?_⟩
 rcases h4 with h4 | ⟨b, o, e1, h5, h6, h7⟩
 · exact .inl h4
 · refine .inr ⟨b, o, e1, h5, Nat.lt_of_lt_of_le h6 hb.size, fun j hj => ?_⟩
   obtain ⟨a, s, k1, k2, k3⟩ := h7 j hj;have hc : ∀ i, w'.cell? ⟨b, i, none⟩ = w.cell? ⟨b, i, none⟩ := fun i => hb.cell (by show b < K; omega)
   exact ⟨a, s, k1.below hb hK, k2.below hb hK, by rw [hc, hc, hc, hc, hc]; exact k3⟩
theorem OpsM.mono {D D' : Nat → Prop} {w : World} {v : Value} {l : List OpP} (h : OpsM D w v l) (hD : ∀ b, D b → D' b) : OpsM D' w v l := by
 obtain ⟨p, c, h1, h2, h3, hl, h4⟩ := h
 refine ⟨p, c, h1, h2, h3, hl, ?_⟩
 rcases h4 with h4 | ⟨b, o, e1, h5, h6, h7⟩
 · exact .inl h4
 · refine .inr ⟨b, o, e1, hD _ h5, h6, fun j hj => ?_⟩
   obtain ⟨a, s, k1, k2, k3⟩ := h7 j hj;exact ⟨a, s, k1.mono hD, k2.mono hD, k3⟩
theorem OpsM.agree {D : Nat → Prop} {w w' : World} {v : Value} {l : List OpP} (h : OpsM D w v l) (hk : ∀ b, D b → b < w.heap.size → w'.heap[b]? = w.heap[b]?) : OpsM D w' v l := by
 obtain ⟨p, c, h1, h2, h3, hl, h4⟩ := h
 refine ⟨p, c, h1, h2, h3, hl, ?_⟩
 rcases h4 with h4 | ⟨b, o, e1, h5, h6, h7⟩
 · exact .inl h4
 · refine .inr ⟨b, o, e1, h5, lt_agree (hk b h5 h6) h6, fun j hj => ?_⟩
   obtain ⟨x, s, k1, k2, k3⟩ := h7 j hj;have hc : ∀ i, w'.cell? ⟨b, i, none⟩ = w.cell? ⟨b, i, none⟩ := fun i => World.cell?_of_block (w := w) (a := ⟨b, i, none⟩) (hk b h5 h6)
   exact ⟨x, s, k1.agree hk, k2.agree hk, by rw [hc, hc, hc, hc, hc]; exact k3⟩
theorem OpsM.fresh {D : Nat → Prop} {w : World} {v : Value} {l : List OpP} (h : OpsM D w v l) : OpsM (fun b => D b ∧ b < w.heap.size) w v l := by
 obtain ⟨p, c, h1, h2, h3, hl, h4⟩ := h
 refine ⟨p, c, h1, h2, h3, hl, ?_⟩
 rcases h4 with h4 | ⟨b, o, e1, h5, h6, h7⟩
 · exact .inl h4
 · refine .inr ⟨b, o, e1, ⟨h5, h6⟩, h6, fun j hj => ?_⟩
   obtain ⟨a, s, k1, k2, k3⟩ := h7 j hj;exact ⟨a, s, k1.fresh, k2.fresh, k3⟩
theorem OpsM.set {D : Nat → Prop} {w : World} {v : Value} {l : List OpP} (h : OpsM D w v l) {a : Addr} (ha : ∀ b, D b → b ≠ a.block) (u : Value) : OpsM D (w.setCell a u) v l := by
 obtain ⟨p, c, h1, h2, h3, hl, h4⟩ := h
 refine ⟨p, c, h1, h2, h3, hl, ?_⟩
 rcases h4 with h4 | ⟨b, o, e1, h5, h6, h7⟩
 · exact .inl h4
 · refine .inr ⟨b, o, e1, h5, by simpa [World.setCell] using h6, fun j hj => ?_⟩
   obtain ⟨x, s, k1, k2, k3⟩ := h7 j hj;have hc : ∀ i, (w.setCell a u).cell? ⟨b, i, none⟩ = w.cell? ⟨b, i, none⟩ := fun i => World.cell?_of_block (w := w) (heap_setCell_other w a _ u (ha b h5))
   exact ⟨x, s, k1.set ha u, k2.set ha u, by rw [hc, hc, hc, hc, hc]; exact k3⟩
theorem OpsM.nil (D : Nat → Prop) (w : World) (p : Option Addr) (c : Nat) : OpsM D w (.slice p 0 c) [] := ⟨p, c, rfl, Nat.zero_le _, Nat.zero_le _, (fun _ h => by cases h), .inl rfl⟩
def OpsC (D : Nat → Prop) (w : World) : List Value → List OpP → Prop
 | cs, [] => cs = []
 | cs, x :: l => ∃ a s r, cs = str x.name :: .bool x.sig.iter :: a :: str x.sig.res :: s :: r ∧ OpLe x ∧ SS D w a x.sig.args ∧ SS D w s x.sig.sigs ∧ OpsC D w r l
theorem OpsC.below {D : Nat → Prop} {K : Nat} {w w' : World} (hb : Below K w w') (hK : w.heap.size ≤ K) : ∀ {l : List OpP} {cs : List Value}, OpsC D w cs l → OpsC D w' cs l
 | [], _, h => h
 | _ :: _, _, ⟨a, s, r, h1, h0, h2, h3, h4⟩ => ⟨a, s, r, h1, h0, h2.below hb hK, h3.below hb hK, OpsC.below hb hK h4⟩
theorem OpsC.le {D : Nat → Prop} {w : World} : ∀ {l : List OpP} {cs : List Value}, OpsC D w cs l → ∀ x ∈ l, OpLe x
 | [], _, _ => fun x h => by cases h
 | y :: l, _, ⟨_, _, _, _, h0, _, _, h4⟩ => fun x h => by
  rcases List.mem_cons.1 h with rfl | h
  · exact h0
  · exact OpsC.le h4 x h
theorem OpsC.mono0 {D D' : Nat → Prop} {w : World} (hD : ∀ b, D b → D' b) : ∀ {l : List OpP} {cs : List Value}, OpsC D w cs l → OpsC D' w cs l
 | [], _, h => h
 | _ :: _, _, ⟨a, s, r, h1, h0, h2, h3, h4⟩ => ⟨a, s, r, h1, h0, h2.mono hD, h3.mono hD, OpsC.mono0 hD h4⟩
theorem OpsC.mono {D D' : Nat → Prop} {w : World} {l : List OpP} {cs : List Value} (h : OpsC D w cs l) (hD : ∀ b, D b → D' b) : OpsC D' w cs l := OpsC.mono0 hD h
theorem OpsC.get {D : Nat → Prop} {w : World} : ∀ {l : List OpP} {cs : List Value}, OpsC D w cs l → ∀ j (h : j < l.length), ∃ a s, SS D w a l[j].sig.args ∧ SS D w s l[j].sig.sigs ∧
 cs[j * 5]? = some (str l[j].name) ∧ cs[j * 5 + 1]? = some (.bool l[j].sig.iter) ∧ cs[j * 5 + 2]? = some a ∧ cs[j * 5 + 3]? = some (str l[j].sig.res) ∧ cs[j * 5 + 4]? = some s
 | [], _, _ => fun j h => by simp at h
 | x :: l, _, ⟨a, s, r, h1, _, h2, h3, h4⟩ => fun j h => by
  subst h1;cases j with
  | zero => exact ⟨a, s, h2, h3, rfl, rfl, rfl, rfl, rfl⟩
  | succ j =>
   have hj : j < l.length := by simpa using h
   obtain ⟨a', s', k1, k2, k3, k4, k5, k6, k7⟩ := OpsC.get h4 j hj;have e : (j + 1) * 5 = j * 5 + 1 + 1 + 1 + 1 + 1 := by omega
   refine ⟨a', s', k1, k2, ?_⟩;rw [e];exact ⟨by simpa using k3, by simpa using k4, by simpa using k5, by simpa using k6, by simpa using k7⟩
theorem OpsC.append {D : Nat → Prop} {w : World} {k : List OpP} {ds : List Value} (hk : OpsC D w ds k) : ∀ {l : List OpP} {cs : List Value}, OpsC D w cs l → OpsC D w (cs ++ ds) (l ++ k)
 | [], _, h => by rw [show _ = _ from h]; exact hk
 | _ :: _, _, ⟨a', s', r, h1, k0, k2, k3, k4⟩ => by subst h1; exact ⟨a', s', _, rfl, k0, k2, k3, OpsC.append hk k4⟩
theorem OpsM.of_own {w : World} {base : Nat} {e : TypeId} {v : Value} {l : List OpP} {cs : List Value} (h : w.ownsRow base e 5 v l.length cs) {D : Nat → Prop} (hD : ∀ b, v.ownBlock = some b → D b) (hc : OpsC D w cs l) : OpsM D w v l := by
 have hlt := fun b e => ownsRow_lt h (b := b) e
 rcases h.2 with ⟨rfl, h0⟩ | ⟨g, cap, cur, rfl, hg, hh, h1, h2, h3, h4⟩
 · have e0 : l = [] := List.length_eq_zero_iff.1 (by omega)
   subst e0;exact OpsM.nil _ _ _ _
 · refine ⟨_, _, rfl, by omega, by omega, hc.le, .inr ⟨g, 0, rfl, hD g rfl, hlt g rfl, fun j hj => ?_⟩⟩
   obtain ⟨a, s, k1, k2, k3, k4, k5, k6, k7⟩ := hc.get j hj;have hcell : ∀ i u, cs[i]? = some u → w.cell? ⟨g, 0 + i, none⟩ = some u := fun i u hu => by
    have := h.cells (g := g) rfl i u hu
    rwa [show (⟨g, 0, none⟩ : Addr).add i = ⟨g, 0 + i, none⟩ from by unfold Addr.add; simp; omega] at this
   exact ⟨a, s, k1, k2, hcell _ _ k3, hcell _ _ k4, hcell _ _ k5, hcell _ _ k6, hcell _ _ k7⟩
theorem OpsM.new {D : Nat → Prop} (w : World) (hB : D w.heap.size) {l : List OpP} {cs : List Value} (t : TypeId) (z : Nat × Nat) (hm : l.length ≤ maxLen) (hc : OpsC D w cs l) : OpsM D (w.alloc (.cells cs.toArray t z)) (.slice (some ⟨w.heap.size, 0, none⟩) l.length l.length) l := by
 have hb := (Below.refl _ w).alloc (nl _) (.cells cs.toArray t z)
 refine ⟨_, _, rfl, nl _, hm, hc.le, .inr ⟨w.heap.size, 0, rfl, hB, by simp, fun j hj => ?_⟩⟩
 obtain ⟨a, s, k1, k2, k3, k4, k5, k6, k7⟩ := hc.get j hj
 have hh := heap_alloc_new w (.cells cs.toArray t z)
 have hcell : ∀ i u, cs[i]? = some u → (w.alloc (.cells cs.toArray t z)).cell? ⟨w.heap.size, 0 + i, none⟩ = some u := fun i u hu => by
  rw [Nat.zero_add];refine (cells_at hh i).trans ?_
  simpa using hu
 exact ⟨a, s, k1.below hb (nl _), k2.below hb (nl _), hcell _ _ k3, hcell _ _ k4, hcell _ _ k5, hcell _ _ k6, hcell _ _ k7⟩
def FaceV (D : Nat → Prop) (w : World) (v : Value) (f : FaceP) : Prop :=
 ∃ n o, v = .agg #[str f.name, .int .u8 f.kind, .bool f.par, n, o] ∧ f.name.length ≤ maxLen ∧ OpsM D w n f.needs ∧ OpsM D w o f.ops
theorem FaceV.below {D : Nat → Prop} {K : Nat} {w w' : World} {v : Value} {f : FaceP} (h : FaceV D w v f) (hb : Below K w w') (hK : w.heap.size ≤ K) : FaceV D w' v f := by
 obtain ⟨n, o, h1, h0, h2, h3⟩ := h
 exact ⟨n, o, h1, h0, h2.below hb hK, h3.below hb hK⟩
theorem FaceV.mono {D D' : Nat → Prop} {w : World} {v : Value} {f : FaceP} (h : FaceV D w v f) (hD : ∀ b, D b → D' b) : FaceV D' w v f := by
 obtain ⟨n, o, h1, h0, h2, h3⟩ := h
 exact ⟨n, o, h1, h0, h2.mono hD, h3.mono hD⟩
theorem FaceV.set {D : Nat → Prop} {w : World} {v : Value} {f : FaceP} (h : FaceV D w v f) {a : Addr} (ha : ∀ b, D b → b ≠ a.block) (u : Value) : FaceV D (w.setCell a u) v f := by
 obtain ⟨n, o, h1, h0, h2, h3⟩ := h
 exact ⟨n, o, h1, h0, h2.set ha u, h3.set ha u⟩
theorem FaceV.agree {D : Nat → Prop} {w w' : World} {v : Value} {f : FaceP} (h : FaceV D w v f) (hk : ∀ b, D b → b < w.heap.size → w'.heap[b]? = w.heap[b]?) : FaceV D w' v f := by
 obtain ⟨n, o, h1, h0, h2, h3⟩ := h
 exact ⟨n, o, h1, h0, h2.agree hk, h3.agree hk⟩
theorem FaceV.fresh {D : Nat → Prop} {w : World} {v : Value} {f : FaceP} (h : FaceV D w v f) : FaceV (fun b => D b ∧ b < w.heap.size) w v f := by
 obtain ⟨n, o, h1, h0, h2, h3⟩ := h
 exact ⟨n, o, h1, h0, h2.fresh, h3.fresh⟩
def FacesM (D : Nat → Prop) (w : World) (v : Value) (l : List FaceP) : Prop :=
 ∃ p c, v = .slice p l.length c ∧ l.length ≤ c ∧ l.length ≤ maxLen ∧ (∀ f ∈ l, f.name.length ≤ maxLen) ∧ (l = [] ∨ ∃ b o, p = some ⟨b, o, none⟩ ∧ D b ∧ b < w.heap.size ∧ ∀ j (h : j < l.length), ∃ n q, OpsM D w n l[j].needs ∧ OpsM D w q l[j].ops ∧
  w.cell? ⟨b, o + j * 5, none⟩ = some (str l[j].name) ∧ w.cell? ⟨b, o + j * 5 + 1, none⟩ = some (.int .u8 l[j].kind) ∧ w.cell? ⟨b, o + j * 5 + 2, none⟩ = some (.bool l[j].par) ∧ w.cell? ⟨b, o + j * 5 + 3, none⟩ = some n ∧ w.cell? ⟨b, o + j * 5 + 4, none⟩ = some q)
theorem FacesM.shape {D : Nat → Prop} {w : World} {v : Value} {l : List FaceP} (h : FacesM D w v l) : ∃ p c, v = .slice p l.length c ∧ l.length ≤ c ∧ l.length ≤ maxLen ∧ ∀ f ∈ l, f.name.length ≤ maxLen := by
 obtain ⟨p, c, h1, h2, h3, h4, _⟩ := h
 exact ⟨p, c, h1, h2, h3, h4⟩
theorem FacesM.at {D : Nat → Prop} {w : World} {p : Option Addr} {n c : Nat} {l : List FaceP} (h : FacesM D w (.slice p n c) l) {k : Nat} {x : FaceP} (hk : l[k]? = some x) : ∃ b o nv ov, p = some ⟨b, o, none⟩ ∧ D b ∧ x.name.length ≤ maxLen ∧ OpsM D w nv x.needs ∧ OpsM D w ov x.ops ∧
 w.cell? ⟨b, o + k * 5, none⟩ = some (str x.name) ∧ w.cell? ⟨b, o + k * 5 + 1, none⟩ = some (.int .u8 x.kind) ∧ w.cell? ⟨b, o + k * 5 + 2, none⟩ = some (.bool x.par) ∧ w.cell? ⟨b, o + k * 5 + 3, none⟩ = some nv ∧ w.cell? ⟨b, o + k * 5 + 4, none⟩ = some ov := by
 obtain ⟨hj, e⟩ := List.getElem?_eq_some_iff.1 hk
 obtain ⟨p', c', h1, _, _, hl, h4⟩ := h
 have hx := hl x (List.mem_of_getElem? hk)
 injection h1 with h1
 subst h1
 rcases h4 with rfl | ⟨b, o, e1, h5, _, h6⟩
 · simp at hj
 · obtain ⟨a, s, h7, h8, h9⟩ := h6 k hj
   rw [e] at h7 h8 h9;exact ⟨b, o, a, s, e1, h5, hx, h7, h8, h9⟩
theorem FacesM.below {D : Nat → Prop} {K : Nat} {w w' : World} {v : Value} {l : List FaceP} (h : FacesM D w v l) (hb : Below K w w') (hK : w.heap.size ≤ K) : FacesM D w' v l := by
 obtain ⟨p, c, h1, h2, h3, hl, h4⟩ := h
 refine ⟨p, c, h1, h2, h3, hl, ?_⟩
 rcases h4 with h4 | ⟨b, o, e1, h5, h6, h7⟩
 · exact .inl h4
 · refine .inr ⟨b, o, e1, h5, Nat.lt_of_lt_of_le h6 hb.size, fun j hj => ?_⟩
   obtain ⟨a, s, k1, k2, k3⟩ := h7 j hj;have hc : ∀ i, w'.cell? ⟨b, i, none⟩ = w.cell? ⟨b, i, none⟩ := fun i => hb.cell (by show b < K; omega)
   exact ⟨a, s, k1.below hb hK, k2.below hb hK, by rw [hc, hc, hc, hc, hc]; exact k3⟩
theorem FacesM.nil (D : Nat → Prop) (w : World) (p : Option Addr) (c : Nat) : FacesM D w (.slice p 0 c) [] := ⟨p, c, rfl, Nat.zero_le _, Nat.zero_le _, (fun _ h => by cases h), .inl rfl⟩
end Go.Proofs.YtakgjcfkdemipaaGreatDoor
