/-
  The closure with which the program reads a type (kind.read$3): the loop over parts: what holds at its head (plain).
-/
import Derived.Test.YtakdmnhpoelepaaGreatDoorKRead1
import Derived.Test.YtakdmnhpoelepaaGreatDoorRRead
namespace Go.Proofs.YtakdmnhpoelepaaGreatDoor
open Go.RowKit

theorem FoV.shape {w : World} {D : Nat → Prop} {fo : Fo} {v : Value} (h : FoV w D fo v) : ∃ p c, v = .slice p fo.len c ∧ (fo.len ≠ 0 → ∃ g, p = some ⟨g, 0, none⟩ ∧ D g ∧ g < w.heap.size ∧ fo.len ≤ c ∧ w.cell? ⟨g, (fo.len - 1) * 4, none⟩ = some (str fo.last)) := by
  obtain ⟨sc, h1, h2, h3⟩ := h
  rcases h1.2 with ⟨rfl, hz⟩ | ⟨g, cap, cur, rfl, _, _, h4, _⟩
  · exact ⟨none, 0, by rw [hz], fun hne => absurd hz hne⟩
  · refine ⟨some ⟨g, 0, none⟩, cap, rfl, fun hne => ⟨g, rfl, h2 g rfl, ownsRow_lt h1 rfl, h4, ?_⟩⟩
    have := h1.cells (g := g) rfl _ _ (FoC.last fo sc h3 hne)
    simp only [Addr.add] at this
    split at this
    · rename_i e; rw [e]; exact this
    · simpa using this

theorem int_zero {n : Nat} (h : n = 0) : ((n : Int) == 0) = true := by subst h; rfl
theorem int_not_zero {n : Nat} (h : n ≠ 0) : ((n : Int) == 0) = false := by rw [beq_eq_false_iff_ne]; omega
theorem wrap_pred {n : Nat} (h : n ≠ 0) (hm : n ≤ 1000) : IntKind.i64.wrap ((n : Int) - 1) = ((n - 1 : Nat) : Int) := by rw [IntKind.wrap_i64]; omega
/-- The slice value v holds parts; no part's own parts lie in its row. -/
def FoR (w : World) (D : Nat → Prop) (fo : Fo) (v : Value) : Prop := ∃ sc, w.ownsRow 0 63 4 v fo.len sc ∧ (∀ b, v.ownBlock = some b → D b) ∧ FoC w (fun b => D b ∧ v.ownBlock ≠ some b) fo sc
theorem FoR.foV {w : World} {D : Nat → Prop} {fo : Fo} {v : Value} (h : FoR w D fo v) : FoV w D fo v := by
  obtain ⟨sc, h1, h2, h3⟩ := h
  exact ⟨sc, h1, h2, h3.mono fun b hb _ => hb.1⟩
theorem FoR.nil (w : World) (D : Nat → Prop) : FoR w D .nil (.slice none 0 0) := ⟨[], World.ownsRow_nil _ _ _ _, by intro b h; simp [Value.ownBlock] at h, rfl⟩
theorem FoR.kept {w w' : World} {D : Nat → Prop} (hb : ∀ b, D b → b < w.heap.size → w'.heap[b]? = w.heap[b]?) {fo : Fo} {v : Value} (h : FoR w D fo v) : FoR w' D fo v := by
  obtain ⟨sc, h1, h2, h3⟩ := h
  exact ⟨sc, ownsRow_of_block h1 (fun b e => hb b (h2 b e) (ownsRow_lt h1 e)), h2, h3.kept fun b hD => hb b hD.1⟩
theorem FoR.mono {w : World} {D D' : Nat → Prop} (hD : ∀ b, D b → b < w.heap.size → D' b) {fo : Fo} {v : Value} (h : FoR w D fo v) : FoR w D' fo v := by
  obtain ⟨sc, h1, h2, h3⟩ := h
  exact ⟨sc, h1, fun b e => hD b (h2 b e) (ownsRow_lt h1 e), h3.mono fun b hb hlt => ⟨hD b hb.1 hlt, hb.2⟩⟩
/-- A part more, behind an append. -/
theorem FoR.grow {W W' : World} {D : Nat → Prop} {fo sub : Fo} {v v' vt : Value} {sc : List Value} {pn n : List UInt8} {k : Nat} (h2 : ∀ b, v.ownBlock = some b → D b) (h3 : FoC W (fun b => D b ∧ v.ownBlock ≠ some b) fo sc)
    (ht : FoV W (fun b => D b ∧ v.ownBlock ≠ some b) sub vt) (hN : D W.heap.size) (h' : W'.ownsRow 0 63 4 v' (fo.len + 1) (sc ++ [str pn, .int .u8 k, str n, vt])) (hg : W.grownBy W' v.ownBlock)
    (ho : v'.ownBlock = v.ownBlock ∨ v'.ownBlock = some W.heap.size) : FoR W' D (fo.app (.cons pn k n sub .nil)) v' := by
  refine ⟨_, by rw [Fo.len_app]; exact h', ?_, ?_⟩
  · intro b hb
    rcases ho with ho | ho
    · exact h2 b (ho ▸ hb)
    · rw [ho] at hb
      injection hb with hb
      exact hb ▸ hN
  · have hall := (FoC.single (pn := pn) (k := k) (n := n) ht).app fo sc h3
    refine ((hall.mono (D' := fun b => D b ∧ v'.ownBlock ≠ some b ∧ v.ownBlock ≠ some b) fun b hb hlt => ⟨hb.1, ?_, hb.2⟩).kept (w' := W') fun b hb hlt => hg.block b hlt (fun e => hb.2.2 e.symm)).mono fun b hb _ => ⟨hb.1, hb.2.1⟩
    rcases ho with ho | ho
    · rw [ho]; exact hb.2
    · rw [ho]
      intro e
      injection e with e
      omega
theorem row_shape {w : World} {base : Nat} {e : TypeId} {size n : Nat} {v : Value} {xs : List Value} (h : w.ownsRow base e size v n xs) : ∃ p c, v = .slice p n c := by
  rcases h.2 with ⟨rfl, rfl⟩ | ⟨g, cap, cur, rfl, _⟩
  · exact ⟨none, 0, rfl⟩
  · exact ⟨some ⟨g, 0, none⟩, cap, rfl⟩
theorem infoPart : (Tryz.prog.info? 63).map (fun i => (i.zero, i.size, i.bytes)) = some (some (.agg #[.string ⟨#[]⟩, .int .u8 0, .string ⟨#[]⟩, .slice none 0 0]), 4, 64) := by kernel_rfl
theorem underPart : Tryz.prog.underlying 55 = some (.slice 63) := by kernel_rfl
theorem fo_zero {fo : Fo} (h : fo.len = 0) : fo = .nil := by
  cases fo with
  | nil => rfl
  | cons => simp [Fo.len] at h

/-- At the head of the loop: the parts dn are read, u is left. -/
structure Lp (w : World) (R Nd X rb B1 KN : Nat) (nm s2 : List UInt8) (wr : World) (dn : Fo) (u : List UInt8) : Prop where
  st : St w wr R Nd X rb u
  lo : w.heap.size < B1
  len : dn.len + u.length ≤ s2.length
  row : ∃ v, wr.heap[B1]? = some (.cells #[.int .u8 KN, str nm, v] 57 (0, 0)) ∧ FoR wr (fun b => B1 < b) dn v
  eq : Hid (parseP [] s2 = (parseP dn.last u).map fun p => (dn.app p.1, p.2))

section
variable {w wr : World} {R Nd X rb B1 KN : Nat} {nm s2 : List UInt8} {dn : Fo} {u : List UInt8}
theorem Lp.no_parse (h : Lp w R Nd X rb B1 KN nm s2 wr dn u) (hn : parseP dn.last u = none) : parseP [] s2 = none := by
  rw [h.eq.out, hn]; rfl
theorem Lp.start (h : St w wr R Nd X rb s2) (hB : w.heap.size < B1) (hx : wr.heap[B1]? = some (.cells #[.int .u8 KN, str nm, .slice none 0 0] 57 (0, 0))) : Lp w R Nd X rb B1 KN nm s2 wr .nil s2 := by
  refine ⟨h, hB, by simp [Fo.len], ⟨_, hx, FoR.nil wr _⟩, ?_⟩
  show parseP [] s2 = (parseP [] s2).map _
  rcases parseP [] s2 with _ | ⟨a, b⟩
  · rfl
  · rfl
/-- The part's name may stand there. -/
def okName (dn : Fo) (n : List UInt8) : Prop := isName n = true ∧ (dn.len = 0 ∨ Op.bytesLess dn.last n = true)
theorem okName_iff {dn : Fo} {n : List UInt8} : okName dn n ↔ (isName n = true ∧ Op.bytesLess dn.last n = true) := by
  unfold okName
  constructor
  · rintro ⟨h1, h2⟩
    refine ⟨h1, ?_⟩
    rcases h2 with h2 | h2
    · rw [fo_zero h2]
      have := name_pos h1
      cases n with
      | nil => simp at this
      | cons => rfl
    · exact h2
  · rintro ⟨h1, h2⟩
    exact ⟨h1, .inr h2⟩
theorem round_bad (h : ¬ okName dn (u.take (cutN u))) : parseP dn.last u = none := parseP_bad fun e => h (okName_iff.2 e)
theorem round_ok (h : okName dn (u.take (cutN u))) {u2 : List UInt8} (hb : u.drop (cutN u) = 58 :: u2) :
    parseP dn.last u = match parseT u2 with
      | some (t, r) => match r with
        | 44 :: r2 => match parseP (u.take (cutN u)) r2 with
          | some (fo, r3) => some (.cons (u.take (cutN u)) t.k t.n t.sub fo, r3)
          | none => none
        | _ => some (.cons (u.take (cutN u)) t.k t.n t.sub .nil, r)
      | none => none := parseP_ok (okName_iff.1 h).1 (okName_iff.1 h).2 hb
/-- One more part. -/
def Fo.snoc (dn : Fo) (n : List UInt8) (t : Tr) : Fo := dn.app (.cons n t.k t.n t.sub .nil)
theorem Fo.len_snoc (dn : Fo) (n : List UInt8) (t : Tr) : (dn.snoc n t).len = dn.len + 1 := by unfold Fo.snoc; rw [Fo.len_app]; rfl
theorem Fo.last_snoc' (dn : Fo) (n : List UInt8) (t : Tr) : (dn.snoc n t).last = n := Fo.last_snoc _ _ _ _ _
theorem Lp.end_eq (h : Lp w R Nd X rb B1 KN nm s2 wr dn u) (hn : okName dn (u.take (cutN u))) {u2 r : List UInt8} {t : Tr} (hb : u.drop (cutN u) = 58 :: u2) (hq : parseT u2 = some (t, r)) (hr : ∀ r', r ≠ 44 :: r') : parseP [] s2 = some (dn.snoc (u.take (cutN u)) t, r) := by
  rw [h.eq.out, round_ok hn hb, hq]
  simp only
  rfl
theorem Lp.step_eq (h : Lp w R Nd X rb B1 KN nm s2 wr dn u) (hn : okName dn (u.take (cutN u))) {u2 r : List UInt8} {t : Tr} (hb : u.drop (cutN u) = 58 :: u2) (hq : parseT u2 = some (t, 44 :: r)) : parseP [] s2 = (parseP (dn.snoc (u.take (cutN u)) t).last r).map fun p => ((dn.snoc (u.take (cutN u)) t).app p.1, p.2) := by
  rw [h.eq.out, round_ok hn hb, hq, Fo.last_snoc']
  simp only
  rcases parseP (u.take (cutN u)) r with _ | ⟨fo, r3⟩
  · rfl
  · simp only [Option.map_some, Option.some.injEq, Prod.mk.injEq, and_true]
    unfold Fo.snoc
    rw [Fo.app_assoc]
    rfl
end
end Go.Proofs.YtakdmnhpoelepaaGreatDoor
