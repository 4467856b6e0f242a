/-
  The statement FaceReplaces of the layer face: for every input it answers true, and each argument reads as it did. The two package-level variables that it may read (unicode.White_Space, strings.asciiSpace) hold what the program's text lays in them: the card ties that to the text.
-/
import Derived.Test.YtakgjcfkdemipaaGreatDoorY39
import Derived.Test.YtakgjcfkdemipaaGreatDoorY40
import Derived.Test.YtakgjcfkdemipaaGreatDoorY41
import Derived.Deep.SlicePairs
import Derived.Carry
namespace Go.Proofs.YtakgjcfkdemipaaGreatDoor.faceReplaces
open Go.ChangeShapes Go.WideShapes Go.ChangeAt Go.RowKit Go.Deep

theorem laidOutP : laidOutB Tryz.prog = true := by kernel_rfl
theorem face_of {H : Type} {enc : TypeId × Value → H} {W : World} {cs : Array Value} {d : DataW H} {p : List MemPlace} (h : DataW.Trod enc Tryz.prog W 0 (fun _ => true) true 58 (.agg cs) d p) (hs : cs.size = Tryz.prog.cellsOf 58) : ∃ f, FaceV Any W (.agg cs) f := by
  obtain ⟨fuel, hf⟩ := h
  obtain ⟨l⟩ := cs
  have h5 : l.length = 5 := hs.trans (by kernel_rfl)
  match l, h5 with
  | [c0, c1, c2, c3, c4], _ =>
    obtain ⟨f, e0, e1, e2, hl, hn, ho⟩ := face_open (show DataW.trod enc Tryz.prog W 0 (fun _ => true) true fuel 58 [c0, c1, c2, c3, c4] = some (d, p) from hf)
    exact ⟨f, c3, c4, by rw [e0, e1, e2], hl, hn, ho⟩
theorem faces_of {H : Type} {enc : TypeId × Value → H} {W : World} {a : Option Addr} {n c : Nat} {d : DataW H} {p : List MemPlace} (h : DataW.Trod enc Tryz.prog W 0 (fun _ => true) true 22 (.slice a n c) d p) : ∃ l, FacesM Any W (.slice a n c) l := by
  obtain ⟨fuel, hf⟩ := h
  exact faces_open (show DataW.trod enc Tryz.prog W 0 (fun _ => true) true fuel 22 [.slice a n c] = some (d, p) from hf)
theorem needs_of {H : Type} {enc : TypeId × Value → H} {W : World} {a : Option Addr} {n c : Nat} {d : DataW H} {p : List MemPlace} (h : DataW.Trod enc Tryz.prog W 0 (fun _ => true) true 23 (.slice a n c) d p) : ∃ l, OpsM Any W (.slice a n c) l := by
  obtain ⟨fuel, hf⟩ := h
  exact needs_open (show DataW.trod enc Tryz.prog W 0 (fun _ => true) true fuel 23 [.slice a n c] = some (d, p) from hf)
set_option maxRecDepth 100000 in
theorem contract (H : Type) (enc : TypeId × Value → H) (W : World) (base : Nat) (args : Array Value) (ds gs : List (DataW H)) (before : List MemPlace)
    (hval : ∀ (j : Nat) t v, Tryz.f13.params[j]? = some t → args[j]? = some v → Value.okWide Tryz.prog W .any base t v)
    (hW : DataW.Whole enc Tryz.prog Tryz.f13.params.toList Rows.faceReplacesSpec.vars false W args.toList ds gs before) (hL : laidMetH Tryz.prog laid2 W) :
    Calls Tryz.prog 13 args W fun e W' => ∃ v, e = .returned v ∧ Rows.faceReplacesSpec.post enc Tryz.prog Tryz.f13 false true false false W args v W' := by
  have hW' := hW
  obtain ⟨p, q, hA0, hV, rfl, hfz, hnd⟩ := hW
  have hA : DataW.TrodAll enc Tryz.prog W 0 (fun _ => true) true Tryz.f13.params.toList args.toList ds p := hA0
  rw [Tryz.params13] at hA hval
  obtain ⟨v0, v1, v2, v3, v4, d0, d1, d2, d3, d4, p0, p1, p2, p3, p4, rfl, rfl, rfl, h0, h1, h2, h3, h4⟩ := trodAll_five hA
  obtain ⟨rfl, rfl⟩ := trodVars_none hV
  obtain ⟨a0, n0, c0, rfl⟩ := okWide_slice Tryz.underlying22 (hval 0 22 v0 rfl rfl)
  obtain ⟨x0, X0⟩ := faces_of h0
  obtain ⟨b1, rfl, rfl, rfl, sb1⟩ := open_int Tryz.underlying3 (hval 1 3 v1 rfl rfl) h1
  obtain ⟨cs2, rfl, z2⟩ := okWide_struct Tryz.underlying58 (hval 2 58 v2 rfl rfl)
  obtain ⟨x2, X2⟩ := face_of h2 z2
  obtain ⟨a3, n3, c3, rfl⟩ := okWide_slice Tryz.underlying23 (hval 3 23 v3 rfl rfl)
  obtain ⟨x3, X3⟩ := needs_of h3
  obtain ⟨a4, rfl, rfl, rfl, s4⟩ := Go.ChangeMaps.open_string Tryz.underlying9 (hval 4 9 v4 rfl rfl) h4
  have hlt : ∀ x ∈ p0 ++ ([] ++ (p2 ++ (p3 ++ []))), x.block < W.heap.size := fun x hx => by simpa using hW'.lt x (by simpa using hx)
  have walk := repllaw_any x0 b1 x2 x3 a4.data.toList _ _ _ W (tab_of_laid hL) X0 X2 X3 s4
  refine walk.mono fun e W' ⟨he, hb⟩ => ?_
  subst he
  refine ⟨_, rfl, _, _, _, [], p0 ++ ([] ++ (p2 ++ (p3 ++ []))), [], by simpa using hW', ?_, ?_, ?_, hb.frame _, fun h => by cases h⟩
  · exact trodAll_mk1 (shut_bool Tryz.underlying4 true)
  · exact trodAll_mk5 (Below.trod laidOutP (by kernel_rfl) (of_decide_eq_true (by kernel_rfl)) h0 hb (fun x hx => hlt x (by simp [hx]))) (shut_int Tryz.underlying3 sb1) (Below.trod laidOutP (by kernel_rfl) (of_decide_eq_true (by kernel_rfl)) h2 hb (fun x hx => hlt x (by simp [hx]))) (Below.trod laidOutP (by kernel_rfl) (of_decide_eq_true (by kernel_rfl)) h3 hb (fun x hx => hlt x (by simp [hx]))) (Go.ChangeMaps.shut_string Tryz.underlying9 s4)
  · rfl

/-- A world for the witness. -/
theorem reads (os : Os) {H : Type} (enc : TypeId × Value → H) : ∃ places, DataW.whole enc Tryz.prog ((World.doorLaid Tryz.prog 400 os).forCall (fun _ _ => 0) ⟨#[], #[.slice none 0 0, .int .i64 0, .agg #[.string ⟨#[]⟩, .int .u8 0, .bool false, .slice none 0 0, .slice none 0 0], .slice none 0 0, .string ⟨#[]⟩], []⟩).memory Tryz.f13.params.toList Rows.faceReplacesSpec.vars false (#[.slice none 0 0, .int .i64 0, .agg #[.string ⟨#[]⟩, .int .u8 0, .bool false, .slice none 0 0, .slice none 0 0], .slice none 0 0, .string ⟨#[]⟩] : Array Value).toList 8 = some ([.nil, .lit (.int .i64 0), .agg [.lit (.string []), .lit (.int .u8 0), .lit (.bool false), .nil, .nil], .nil, .lit (.string [])], [], places) :=
  ⟨[], by kernel_rfl⟩

set_option maxRecDepth 100000 in
theorem lifted (os : Os) (started : os.Started) (H : Type) (enc : TypeId × Value → H) (F : Stop.Interp) :
    ReturnsInHanded {} Tryz.checked os 13 .any ((OpenSpec.ofChange Rows.faceReplacesSpec).preRow enc Tryz.prog Tryz.f13 Rows.faceReplacesRow.domain false Rows.faceReplacesRow.laid) (((OpenSpec.ofChange Rows.faceReplacesSpec).at F).post enc Tryz.prog Tryz.f13 false true false false) := by
  obtain ⟨places, hx⟩ := reads os enc
  refine returnsInHanded_of_row (C := Tryz.checked) (s := OpenSpec.ofChange Rows.faceReplacesSpec) own started (by kernel_rfl) Tryz.func13
    (witness_row_atRef (enc := enc) (C := Tryz.checked) false (World.doorLaid Tryz.prog 400 os) #[.slice none 0 0, .int .i64 0, .agg #[.string ⟨#[]⟩, .int .u8 0, .bool false, .slice none 0 0, .slice none 0 0], .slice none 0 0, .string ⟨#[]⟩] rfl (by kernel_rfl) (by kernel_rfl) (by kernel_rfl)
      (OpenSpec.preRow_of_cond 8 hx (by kernel_rfl) (fun k hk => by cases hk) (by kernel_rfl) (door_met os _))) ?_
  intro W base args ds gs before hval hW _ _ _ hL _ _
  exact contract H enc W base args ds gs before hval hW hL
end Go.Proofs.YtakgjcfkdemipaaGreatDoor.faceReplaces
