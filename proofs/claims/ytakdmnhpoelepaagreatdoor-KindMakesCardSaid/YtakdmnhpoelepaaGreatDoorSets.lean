/-
  A set of texts that the call itself makes (map[string]bool, only true is stored): made, stored into, looked up. No condition but the bounds that the laws ask.
-/
import Derived.Test.YtakdmnhpoelepaaGreatDoorPlain0
import Derived.Maps.OwnOps
import Derived.Maps.OwnSet
import Derived.Maps.StringElems
namespace Go.Proofs.YtakdmnhpoelepaaGreatDoor
open Go.RowKit Go.Maps

theorem plainElem_bool_inv {H : Type} {P : Program} {e : TypeId} (he : P.underlying e = some .bool) {v : Value} {z : DataW H × List MemPlace} (h : plainElem P e v = some z) : ∃ a, v = .bool a ∧ z = (.lit (.bool a), []) := by
  unfold plainElem at h
  rw [he] at h
  cases v <;> simp at h
  exact ⟨_, rfl, h.symm⟩

theorem atKey_fold (u z : DataW Unit) (k : Lit) : ∀ (acc : List Lit) (m : DataW Unit), IsMap m → (∀ x ∈ acc, WideAt.IsKeyLit x) → (acc.foldl (fun m x => m.put x u) m).atKey k z = if acc.any (fun x => x.sameKey k) then u else m.atKey k z
  | [], m, _, _ => by simp
  | x :: acc, m, hm, h => by
    have hx := h x (by simp)
    rw [List.foldl_cons, atKey_fold u z k acc _ (hm.put x u) (fun y hy => h y (by simp [hy])), List.any_cons]
    by_cases hk : x.sameKey k = true
    · have e := WideAt.sameKey_eq hk
      subst e
      rw [atKey_put_same hm hx]
      simp [hk]
    · have hne : k ≠ x := fun e => hk (by rw [e]; exact WideAt.sameKey_self hx)
      rw [atKey_put_other hne]
      simp [hk]

/-- The texts of a set as keys. -/
def keysOf (acc : List (List UInt8)) : List Lit := acc.map Lit.string
theorem keysOf_lit (acc : List (List UInt8)) : ∀ x ∈ keysOf acc, WideAt.IsKeyLit x := by
  intro x hx
  simp [keysOf] at hx
  obtain ⟨a, _, rfl⟩ := hx
  trivial
theorem keysOf_any (acc : List (List UInt8)) (k : List UInt8) : (keysOf acc).any (fun x => x.sameKey (.string k)) = acc.contains k := by
  induction acc with
  | nil => rfl
  | cons a acc ih =>
    have hs : (Lit.string a).sameKey (.string k) = (k == a) := by
      by_cases h : a = k
      · subst h; simp [Lit.sameKey]
      · rw [sameKey_ne (by simpa using h)]; simp [Ne.symm h]
    rw [keysOf, List.map_cons, List.any_cons, ← keysOf, ih, List.contains_cons, hs]

/-- Block b is a set of just the texts of acc. -/
def SetMap (w : World) (b : Nat) (acc : List (List UInt8)) : Prop :=
  w.ownsMap Tryz.prog 9 (plainElem (H := Unit) Tryz.prog 4) b acc.length (setOf (.lit (.bool true)) (keysOf acc))

theorem SetMap.made (w : World) : SetMap (w.alloc (.map #[] 0)) w.heap.size [] := World.ownsMap_made w _ _ _
theorem SetMap.kept {w w' : World} {b : Nat} {acc : List (List UInt8)} {row : Option Nat} (h : SetMap w b acc) (hg : w.grownBy w' row) (hne : some b ≠ row) : SetMap w' b acc := World.ownsMap.kept h hg hne
theorem SetMap.lt {w : World} {b : Nat} {acc : List (List UInt8)} (h : SetMap w b acc) : b < w.heap.size := World.ownsMap.lt h
theorem SetMap.of_block {w w' : World} {b : Nat} {acc : List (List UInt8)} (h : SetMap w b acc) (hb : w'.heap[b]? = w.heap[b]?) : SetMap w' b acc := by
  obtain ⟨es, clock, h1, rest⟩ := h
  exact ⟨es, clock, hb.trans h1, rest⟩

theorem zeroBool (w : World) : (zeroValue 4).run Tryz.prog w = .ok (.bool false) w := by kernel_rfl

/-- 'set[k]': whether k is in it. -/
theorem SetMap.look {w : World} {b : Nat} {acc : List (List UInt8)} (h : SetMap w b acc) {k : List UInt8} (hk : k.length ≤ maxLen) :
    (Instr.lookup 70 (.map (some b)) (str k) false).run Tryz.prog w = .ok (.bool (hasB acc k)) w := by
  obtain ⟨v, ps, hrun, hv⟩ := World.ownsMap.lookup h (string_keyed Tryz.underlying9) Tryz.underlying70 (zeroBool w) (plainElem_bool Tryz.underlying4 false) (WideMaps.keyOf_string_mk (s := ⟨k.toArray⟩) Tryz.underlying9 (by simpa [ByteArray.size] using hk))
  obtain ⟨a, rfl, hz⟩ := plainElem_bool_inv Tryz.underlying4 hv
  simp only [Prod.mk.injEq] at hz
  have h1 := hz.1
  simp only [setOf] at h1
  rw [atKey_fold _ _ _ _ _ isMap_empty (keysOf_lit acc), keysOf_any] at h1
  rw [hrun]
  unfold hasB
  cases hc : acc.contains k <;> (rw [hc] at h1; simp [DataW.atKey] at h1; rw [h1])

/-- 'set[k] = true'. -/
theorem wpList_set_add (w : World) {ops : Array Oper} {rest : List Oper} {o : Oper} {a : Act} {Q : Exit → Act → World → Prop}
    (hg : o.guard = none) (m x v : Operand) (hop : o.op = Op.mapUpdate 70 m x v) (b : Nat) (acc : List (List UInt8))
    (hm : a.eval m = .map (some b)) (hown : SetMap w b acc) (hn : acc.length < maxLen) (k : List UInt8) (hx : a.eval x = str k) (hv : a.eval v = .bool true) (hk : k.length ≤ maxLen)
    (hK : ∀ w', SetMap w' b (acc ++ [k]) → w.grownBy w' (some b) → wpList Tryz.prog ops Q rest (a.put o.dst undef) w') :
    wpList Tryz.prog ops Q (o :: rest) a w := by
  refine wpList_mapUpdate_own w hg m x v _ hop _ _ (string_keyed Tryz.underlying9) Tryz.underlying70 _ b acc.length _ hm hown hn _ _ _ hx hv (WideMaps.keyOf_string_mk (s := ⟨k.toArray⟩) Tryz.underlying9 (by simpa [ByteArray.size] using hk)) (.lit (.bool true)) [] (plainElem_bool Tryz.underlying4 true) ?_
  intro w' h1 h2
  refine hK w' ?_ h2
  unfold SetMap
  rw [show keysOf (acc ++ [k]) = keysOf acc ++ [Lit.string k] from by simp [keysOf], setOf_snoc, List.length_append]
  exact h1
end Go.Proofs.YtakdmnhpoelepaaGreatDoor
