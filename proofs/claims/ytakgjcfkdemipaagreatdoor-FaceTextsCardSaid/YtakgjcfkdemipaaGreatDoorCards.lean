/-
  DERIVED. GIVEN WITH THE SEED: THE CARDS: each row of YtakgjcfkdemipaaGreatDoorRows.lean that lists a variable, with what it lists TIED to the program's text (the seventh form; the later family's looks); each row that meets fmt, with fmt's text TOLD by the authors' own Lean function (tested against real Go, not proved from fmt's source: count such statements apart). THE CARD IS WHAT COUNTS. Prove the row's statement (the work); the ties are given (YtakgjcfkdemipaaGreatDoorTie.lean); close each card by the builder's one call (the guide's Derived/Test/ToyasCard.lean, 'card_holds'). Laid BY PROGRAM, IN A SANDBOX (cutbox-door.mjs). By AI agents, Wed Nov 11 2026. No macro, syntax, notation, axiom, sorry.
-/
import Derived.Test.YtakgjcfkdemipaaGreatDoorRows
import GoSem.ClaimSeven
namespace Go.Proofs.YtakgjcfkdemipaaGreatDoor
namespace Rows

/-- THE TIED CARD OF 'arguslaw04.FaceGoods'. -/
def faceGoodsCard : Claim7 := { stood := { row := faceGoodsRow, standIns := [], harness := (true, "ab525ea8bcb0a8d7c7643948e0f2265366154a5598133de423f31d677c0301ea"), looks := true }, kinds := [], alts := [], laidByText := true, laidKinds := [.listed, .data], laidTests := true, laidLooks := .later }
def FaceGoodsCardSaid : Prop := Claim7.holds Tryz.pinned (.plain (OpenSpec.ofChange faceGoodsSpec)) faceGoodsCard

/-- THE TIED CARD OF 'arguslaw04.FaceOps'. -/
def faceOpsCard : Claim7 := { stood := { row := faceOpsRow, standIns := [], harness := (true, "ab525ea8bcb0a8d7c7643948e0f2265366154a5598133de423f31d677c0301ea"), looks := true }, kinds := [], alts := [], laidByText := true, laidKinds := [.listed, .data], laidTests := true, laidLooks := .later }
def FaceOpsCardSaid : Prop := Claim7.holds Tryz.pinned (.plain (OpenSpec.ofChange faceOpsSpec)) faceOpsCard

/-- THE TIED CARD OF 'arguslaw04.FaceSigs'. -/
def faceSigsCard : Claim7 := { stood := { row := faceSigsRow, standIns := [], harness := (true, "ab525ea8bcb0a8d7c7643948e0f2265366154a5598133de423f31d677c0301ea"), looks := true }, kinds := [], alts := [], laidByText := true, laidKinds := [.listed, .data], laidTests := true, laidLooks := .later }
def FaceSigsCardSaid : Prop := Claim7.holds Tryz.pinned (.plain (OpenSpec.ofChange faceSigsSpec)) faceSigsCard

/-- THE TIED CARD OF 'arguslaw04.FaceTypes'. -/
def faceTypesCard : Claim7 := { stood := { row := faceTypesRow, standIns := [], harness := (true, "ab525ea8bcb0a8d7c7643948e0f2265366154a5598133de423f31d677c0301ea"), looks := true }, kinds := [], alts := [], laidByText := true, laidKinds := [.listed, .data], laidTests := true, laidLooks := .later }
def FaceTypesCardSaid : Prop := Claim7.holds Tryz.pinned (.plain (OpenSpec.ofChange faceTypesSpec)) faceTypesCard

/-- THE TIED CARD OF 'arguslaw04.FacePuts'. -/
def facePutsCard : Claim7 := { stood := { row := facePutsRow, standIns := [], harness := (true, "ab525ea8bcb0a8d7c7643948e0f2265366154a5598133de423f31d677c0301ea"), looks := true }, kinds := [], alts := [], laidByText := true, laidKinds := [.listed, .data], laidTests := true, laidLooks := .later }
def FacePutsCardSaid : Prop := Claim7.holds Tryz.pinned (.plain (OpenSpec.ofChange facePutsSpec)) facePutsCard

/-- THE TIED CARD OF 'arguslaw04.FaceFits'. -/
def faceFitsCard : Claim7 := { stood := { row := faceFitsRow, standIns := [], harness := (true, "ab525ea8bcb0a8d7c7643948e0f2265366154a5598133de423f31d677c0301ea"), looks := true }, kinds := [], alts := [], laidByText := true, laidKinds := [.listed, .data], laidTests := true, laidLooks := .later }
def FaceFitsCardSaid : Prop := Claim7.holds Tryz.pinned (.plain (OpenSpec.ofChange faceFitsSpec)) faceFitsCard

/-- THE TIED CARD OF 'arguslaw04.FaceChecks'. -/
def faceChecksCard : Claim7 := { stood := { row := faceChecksRow, standIns := [], harness := (true, "ab525ea8bcb0a8d7c7643948e0f2265366154a5598133de423f31d677c0301ea"), looks := true }, kinds := [], alts := [], laidByText := true, laidKinds := [.listed, .data], laidTests := true, laidLooks := .later }
def FaceChecksCardSaid : Prop := Claim7.holds Tryz.pinned (.plain (OpenSpec.ofChange faceChecksSpec)) faceChecksCard

/-- THE TIED CARD OF 'arguslaw04.FaceMemory'. -/
def faceMemoryCard : Claim7 := { stood := { row := faceMemoryRow, standIns := [], harness := (true, "ab525ea8bcb0a8d7c7643948e0f2265366154a5598133de423f31d677c0301ea"), looks := true }, kinds := [], alts := [], laidByText := true, laidKinds := [.listed, .data], laidTests := true, laidLooks := .later }
def FaceMemoryCardSaid : Prop := Claim7.holds Tryz.pinned (.plain (OpenSpec.ofChange faceMemorySpec)) faceMemoryCard

/-- THE TIED CARD OF 'arguslaw04.FaceExtends'. -/
def faceExtendsCard : Claim7 := { stood := { row := faceExtendsRow, standIns := [], harness := (true, "ab525ea8bcb0a8d7c7643948e0f2265366154a5598133de423f31d677c0301ea"), looks := true }, kinds := [], alts := [], laidByText := true, laidKinds := [.listed, .data], laidTests := true, laidLooks := .later }
def FaceExtendsCardSaid : Prop := Claim7.holds Tryz.pinned (.plain (OpenSpec.ofChange faceExtendsSpec)) faceExtendsCard

/-- THE TIED CARD OF 'arguslaw04.FaceOrder'. -/
def faceOrderCard : Claim7 := { stood := { row := faceOrderRow, standIns := [], harness := (true, "ab525ea8bcb0a8d7c7643948e0f2265366154a5598133de423f31d677c0301ea"), looks := true }, kinds := [], alts := [], laidByText := true, laidKinds := [.listed, .data], laidTests := true, laidLooks := .later }
def FaceOrderCardSaid : Prop := Claim7.holds Tryz.pinned (.plain (OpenSpec.ofChange faceOrderSpec)) faceOrderCard

/-- THE TIED CARD OF 'arguslaw04.FaceReplaces'. -/
def faceReplacesCard : Claim7 := { stood := { row := faceReplacesRow, standIns := [], harness := (true, "ab525ea8bcb0a8d7c7643948e0f2265366154a5598133de423f31d677c0301ea"), looks := true }, kinds := [], alts := [], laidByText := true, laidKinds := [.listed, .data], laidTests := true, laidLooks := .later }
def FaceReplacesCardSaid : Prop := Claim7.holds Tryz.pinned (.plain (OpenSpec.ofChange faceReplacesSpec)) faceReplacesCard

/-- THE TIED CARD OF 'arguslaw04.FaceTexts'. -/
def faceTextsCard : Claim7 := { stood := { row := faceTextsRow, standIns := [], harness := (true, "ab525ea8bcb0a8d7c7643948e0f2265366154a5598133de423f31d677c0301ea"), looks := true }, kinds := [], alts := [], laidByText := true, laidKinds := [.data, .listed, .data, .pinned], laidTests := true, laidLooks := .later }
def FaceTextsCardSaid : Prop := Claim7.holds Tryz.pinned (.plain (OpenSpec.ofChange faceTextsSpec)) faceTextsCard

/-- THE SECOND FORM's CARD OF 'arguslaw04.FaceGoods'. -/
def faceGoodsUptoCard : Claim7 := { stood := { row := faceGoodsUptoRow, standIns := [], harness := (true, "ab525ea8bcb0a8d7c7643948e0f2265366154a5598133de423f31d677c0301ea"), looks := true }, kinds := [], alts := [], laidByText := true, laidKinds := [.listed, .data], laidTests := true, laidLooks := .later }
def FaceGoodsUptoCardSaid : Prop := Claim7.holds Tryz.pinned (.plain (OpenSpec.upto faceGoodsSpec)) faceGoodsUptoCard

/-- THE SECOND FORM's CARD OF 'arguslaw04.FaceOps'. -/
def faceOpsUptoCard : Claim7 := { stood := { row := faceOpsUptoRow, standIns := [], harness := (true, "ab525ea8bcb0a8d7c7643948e0f2265366154a5598133de423f31d677c0301ea"), looks := true }, kinds := [], alts := [], laidByText := true, laidKinds := [.listed, .data], laidTests := true, laidLooks := .later }
def FaceOpsUptoCardSaid : Prop := Claim7.holds Tryz.pinned (.plain (OpenSpec.upto faceOpsSpec)) faceOpsUptoCard

/-- THE SECOND FORM's CARD OF 'arguslaw04.FaceSigs'. -/
def faceSigsUptoCard : Claim7 := { stood := { row := faceSigsUptoRow, standIns := [], harness := (true, "ab525ea8bcb0a8d7c7643948e0f2265366154a5598133de423f31d677c0301ea"), looks := true }, kinds := [], alts := [], laidByText := true, laidKinds := [.listed, .data], laidTests := true, laidLooks := .later }
def FaceSigsUptoCardSaid : Prop := Claim7.holds Tryz.pinned (.plain (OpenSpec.upto faceSigsSpec)) faceSigsUptoCard

/-- THE SECOND FORM's CARD OF 'arguslaw04.FaceTypes'. -/
def faceTypesUptoCard : Claim7 := { stood := { row := faceTypesUptoRow, standIns := [], harness := (true, "ab525ea8bcb0a8d7c7643948e0f2265366154a5598133de423f31d677c0301ea"), looks := true }, kinds := [], alts := [], laidByText := true, laidKinds := [.listed, .data], laidTests := true, laidLooks := .later }
def FaceTypesUptoCardSaid : Prop := Claim7.holds Tryz.pinned (.plain (OpenSpec.upto faceTypesSpec)) faceTypesUptoCard

/-- THE SECOND FORM's CARD OF 'arguslaw04.FacePuts'. -/
def facePutsUptoCard : Claim7 := { stood := { row := facePutsUptoRow, standIns := [], harness := (true, "ab525ea8bcb0a8d7c7643948e0f2265366154a5598133de423f31d677c0301ea"), looks := true }, kinds := [], alts := [], laidByText := true, laidKinds := [.listed, .data], laidTests := true, laidLooks := .later }
def FacePutsUptoCardSaid : Prop := Claim7.holds Tryz.pinned (.plain (OpenSpec.upto facePutsSpec)) facePutsUptoCard

/-- THE SECOND FORM's CARD OF 'arguslaw04.FaceFits'. -/
def faceFitsUptoCard : Claim7 := { stood := { row := faceFitsUptoRow, standIns := [], harness := (true, "ab525ea8bcb0a8d7c7643948e0f2265366154a5598133de423f31d677c0301ea"), looks := true }, kinds := [], alts := [], laidByText := true, laidKinds := [.listed, .data], laidTests := true, laidLooks := .later }
def FaceFitsUptoCardSaid : Prop := Claim7.holds Tryz.pinned (.plain (OpenSpec.upto faceFitsSpec)) faceFitsUptoCard

/-- THE SECOND FORM's CARD OF 'arguslaw04.FaceChecks'. -/
def faceChecksUptoCard : Claim7 := { stood := { row := faceChecksUptoRow, standIns := [], harness := (true, "ab525ea8bcb0a8d7c7643948e0f2265366154a5598133de423f31d677c0301ea"), looks := true }, kinds := [], alts := [], laidByText := true, laidKinds := [.listed, .data], laidTests := true, laidLooks := .later }
def FaceChecksUptoCardSaid : Prop := Claim7.holds Tryz.pinned (.plain (OpenSpec.upto faceChecksSpec)) faceChecksUptoCard

/-- THE SECOND FORM's CARD OF 'arguslaw04.FaceMemory'. -/
def faceMemoryUptoCard : Claim7 := { stood := { row := faceMemoryUptoRow, standIns := [], harness := (true, "ab525ea8bcb0a8d7c7643948e0f2265366154a5598133de423f31d677c0301ea"), looks := true }, kinds := [], alts := [], laidByText := true, laidKinds := [.listed, .data], laidTests := true, laidLooks := .later }
def FaceMemoryUptoCardSaid : Prop := Claim7.holds Tryz.pinned (.plain (OpenSpec.upto faceMemorySpec)) faceMemoryUptoCard

/-- THE SECOND FORM's CARD OF 'arguslaw04.FaceExtends'. -/
def faceExtendsUptoCard : Claim7 := { stood := { row := faceExtendsUptoRow, standIns := [], harness := (true, "ab525ea8bcb0a8d7c7643948e0f2265366154a5598133de423f31d677c0301ea"), looks := true }, kinds := [], alts := [], laidByText := true, laidKinds := [.listed, .data], laidTests := true, laidLooks := .later }
def FaceExtendsUptoCardSaid : Prop := Claim7.holds Tryz.pinned (.plain (OpenSpec.upto faceExtendsSpec)) faceExtendsUptoCard

/-- THE SECOND FORM's CARD OF 'arguslaw04.FaceOrder'. -/
def faceOrderUptoCard : Claim7 := { stood := { row := faceOrderUptoRow, standIns := [], harness := (true, "ab525ea8bcb0a8d7c7643948e0f2265366154a5598133de423f31d677c0301ea"), looks := true }, kinds := [], alts := [], laidByText := true, laidKinds := [.listed, .data], laidTests := true, laidLooks := .later }
def FaceOrderUptoCardSaid : Prop := Claim7.holds Tryz.pinned (.plain (OpenSpec.upto faceOrderSpec)) faceOrderUptoCard

/-- THE SECOND FORM's CARD OF 'arguslaw04.FaceReplaces'. -/
def faceReplacesUptoCard : Claim7 := { stood := { row := faceReplacesUptoRow, standIns := [], harness := (true, "ab525ea8bcb0a8d7c7643948e0f2265366154a5598133de423f31d677c0301ea"), looks := true }, kinds := [], alts := [], laidByText := true, laidKinds := [.listed, .data], laidTests := true, laidLooks := .later }
def FaceReplacesUptoCardSaid : Prop := Claim7.holds Tryz.pinned (.plain (OpenSpec.upto faceReplacesSpec)) faceReplacesUptoCard

/-- THE SECOND FORM's CARD OF 'arguslaw04.FaceTexts'. -/
def faceTextsUptoCard : Claim7 := { stood := { row := faceTextsUptoRow, standIns := [], harness := (true, "ab525ea8bcb0a8d7c7643948e0f2265366154a5598133de423f31d677c0301ea"), looks := true }, kinds := [], alts := [], laidByText := true, laidKinds := [.data, .listed, .data, .pinned], laidTests := true, laidLooks := .later }
def FaceTextsUptoCardSaid : Prop := Claim7.holds Tryz.pinned (.plain (OpenSpec.upto faceTextsSpec)) faceTextsUptoCard
end Rows
end Go.Proofs.YtakgjcfkdemipaaGreatDoor
