/-
  The statement FaceOrder, its first part of the layer face: for every input it answers true, and each argument reads as it did. The two package-level variables that it may read (unicode.White_Space, strings.asciiSpace) hold what the program's text lays in them: the card ties that to the text.
-/
import Derived.Test.YtakgjcfkdemipaaGreatDoorZ41
import Derived.Test.YtakgjcfkdemipaaGreatDoorZ42
import Derived.Deep.SlicePairs
import Derived.Carry
namespace Go.Proofs.YtakgjcfkdemipaaGreatDoor.faceOrder
open Go.ChangeShapes Go.WideShapes Go.ChangeAt Go.RowKit Go.Deep

theorem laidOutP : laidOutB Tryz.prog = true := by kernel_rfl
theorem face_of {H : Type} {enc : TypeId × Value → H} {W : World} {cs : Array Value} {d : DataW H} {p : List MemPlace} (h : DataW.Trod enc Tryz.prog W 0 (fun _ => true) true 58 (.agg cs) d p) (hs : cs.size = Tryz.prog.cellsOf 58) : ∃ f, FaceV Any W (.agg cs) f := by
  obtain ⟨fuel, hf⟩ := h
  obtain ⟨l⟩ := cs
  have h5 : l.length = 5 := hs.trans (by kernel_rfl)
  match l, h5 with
  | [c0, c1, c2, c3, c4], _ =>
    obtain ⟨f, e0, e1, e2, hl, hn, ho⟩ := face_open (show DataW.trod enc Tryz.prog W 0 (fun _ => true) true fuel 58 [c0, c1, c2, c3, c4] = some (d, p) from hf)
    exact ⟨f, c3, c4, by rw [e0, e1, e2], hl, hn, ho⟩
set_option maxRecDepth 100000 in
theorem contract (H : Type) (enc : TypeId × Value → H) (W : World) (base : Nat) (args : Array Value) (ds gs : List (DataW H)) (before : List MemPlace)
    (hval : ∀ (j : Nat) t v, Tryz.f12.params[j]? = some t → args[j]? = some v → Value.okWide Tryz.prog W .any base t v)
    (hW : DataW.Whole enc Tryz.prog Tryz.f12.params.toList Rows.faceOrderSpec.vars false W args.toList ds gs before) (hL : laidMetH Tryz.prog laid2 W) :
    Calls Tryz.prog 12 args W fun e W' => ∃ v, e = .returned v ∧ Rows.faceOrderSpec.post enc Tryz.prog Tryz.f12 false true false false W args v W' := by
  have hW' := hW
  obtain ⟨p, q, hA0, hV, rfl, hfz, hnd⟩ := hW
  have hA : DataW.TrodAll enc Tryz.prog W 0 (fun _ => true) true Tryz.f12.params.toList args.toList ds p := hA0
  rw [Tryz.params12] at hA hval
  obtain ⟨v0, v1, v2, d0, d1, d2, p0, p1, p2, rfl, rfl, rfl, h0, h1, h2⟩ := trodAll_three hA
  obtain ⟨rfl, rfl⟩ := trodVars_none hV
  obtain ⟨cs0, rfl, z0⟩ := okWide_struct Tryz.underlying58 (hval 0 58 v0 rfl rfl)
  obtain ⟨x0, X0⟩ := face_of h0 z0
  obtain ⟨cs1, rfl, z1⟩ := okWide_struct Tryz.underlying58 (hval 1 58 v1 rfl rfl)
  obtain ⟨x1, X1⟩ := face_of h1 z1
  obtain ⟨cs2, rfl, z2⟩ := okWide_struct Tryz.underlying58 (hval 2 58 v2 rfl rfl)
  obtain ⟨x2, X2⟩ := face_of h2 z2
  have hlt : ∀ x ∈ p0 ++ (p1 ++ p2), x.block < W.heap.size := fun x hx => by simpa using hW'.lt x (by simpa using hx)
  have walk := order_any x0 x1 x2 _ _ _ W (tab_of_laid hL) X0 X1 X2
  refine walk.mono fun e W' ⟨he, hb⟩ => ?_
  subst he
  refine ⟨_, rfl, _, _, _, [], p0 ++ (p1 ++ p2), [], by simpa using hW', ?_, ?_, ?_, hb.frame _, fun h => by cases h⟩
  · exact trodAll_mk1 (shut_bool Tryz.underlying4 true)
  · exact trodAll_mk3 (Below.trod laidOutP (by kernel_rfl) (of_decide_eq_true (by kernel_rfl)) h0 hb (fun x hx => hlt x (by simp [hx]))) (Below.trod laidOutP (by kernel_rfl) (of_decide_eq_true (by kernel_rfl)) h1 hb (fun x hx => hlt x (by simp [hx]))) (Below.trod laidOutP (by kernel_rfl) (of_decide_eq_true (by kernel_rfl)) h2 hb (fun x hx => hlt x (by simp [hx])))
  · rfl

/-- A world for the witness. -/
theorem reads (os : Os) {H : Type} (enc : TypeId × Value → H) : ∃ places, DataW.whole enc Tryz.prog ((World.doorLaid Tryz.prog 400 os).forCall (fun _ _ => 0) ⟨#[], #[.agg #[.string ⟨#[]⟩, .int .u8 0, .bool false, .slice none 0 0, .slice none 0 0], .agg #[.string ⟨#[]⟩, .int .u8 0, .bool false, .slice none 0 0, .slice none 0 0], .agg #[.string ⟨#[]⟩, .int .u8 0, .bool false, .slice none 0 0, .slice none 0 0]], []⟩).memory Tryz.f12.params.toList Rows.faceOrderSpec.vars false (#[.agg #[.string ⟨#[]⟩, .int .u8 0, .bool false, .slice none 0 0, .slice none 0 0], .agg #[.string ⟨#[]⟩, .int .u8 0, .bool false, .slice none 0 0, .slice none 0 0], .agg #[.string ⟨#[]⟩, .int .u8 0, .bool false, .slice none 0 0, .slice none 0 0]] : Array Value).toList 8 = some ([.agg [.lit (.string []), .lit (.int .u8 0), .lit (.bool false), .nil, .nil], .agg [.lit (.string []), .lit (.int .u8 0), .lit (.bool false), .nil, .nil], .agg [.lit (.string []), .lit (.int .u8 0), .lit (.bool false), .nil, .nil]], [], places) :=
  ⟨[], by kernel_rfl⟩

set_option maxRecDepth 100000 in
theorem lifted (os : Os) (started : os.Started) (H : Type) (enc : TypeId × Value → H) (F : Stop.Interp) :
    ReturnsInHanded {} Tryz.checked os 12 .any ((OpenSpec.ofChange Rows.faceOrderSpec).preRow enc Tryz.prog Tryz.f12 Rows.faceOrderRow.domain false Rows.faceOrderRow.laid) (((OpenSpec.ofChange Rows.faceOrderSpec).at F).post enc Tryz.prog Tryz.f12 false true false false) := by
  obtain ⟨places, hx⟩ := reads os enc
  refine returnsInHanded_of_row (C := Tryz.checked) (s := OpenSpec.ofChange Rows.faceOrderSpec) own started (by kernel_rfl) Tryz.func12
    (witness_row_atRef (enc := enc) (C := Tryz.checked) false (World.doorLaid Tryz.prog 400 os) #[.agg #[.string ⟨#[]⟩, .int .u8 0, .bool false, .slice none 0 0, .slice none 0 0], .agg #[.string ⟨#[]⟩, .int .u8 0, .bool false, .slice none 0 0, .slice none 0 0], .agg #[.string ⟨#[]⟩, .int .u8 0, .bool false, .slice none 0 0, .slice none 0 0]] rfl (by kernel_rfl) (by kernel_rfl) (by kernel_rfl)
      (OpenSpec.preRow_of_cond 8 hx (by kernel_rfl) (fun k hk => by cases hk) (by kernel_rfl) (door_met os _))) ?_
  intro W base args ds gs before hval hW _ _ _ hL _ _
  exact contract H enc W base args ds gs before hval hW hL
end Go.Proofs.YtakgjcfkdemipaaGreatDoor.faceOrder
