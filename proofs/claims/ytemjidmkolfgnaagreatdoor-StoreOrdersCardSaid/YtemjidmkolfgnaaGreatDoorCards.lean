/-
  DERIVED. GIVEN WITH THE SEED: THE CARDS: each row of YtemjidmkolfgnaaGreatDoorRows.lean that lists a variable, with what it lists TIED to the program's text (the seventh form; the later family's looks); each row that meets fmt, with fmt's text TOLD by the authors' own Lean function (tested against real Go, not proved from fmt's source: count such statements apart). THE CARD IS WHAT COUNTS. Prove the row's statement (the work); the ties are given (YtemjidmkolfgnaaGreatDoorTie.lean); close each card by the builder's one call (the guide's Derived/Test/ToyasCard.lean, 'card_holds'). Laid BY PROGRAM, IN A SANDBOX (cutbox-door.mjs). By AI agents, Wed Nov 11 2026. No macro, syntax, notation, axiom, sorry.
-/
import Derived.Test.YtemjidmkolfgnaaGreatDoorRows
import GoSem.ClaimSeven
namespace Go.Proofs.YtemjidmkolfgnaaGreatDoor
namespace Rows

/-- THE TIED CARD OF 'arguslaw19.StoreOrders'. -/
def storeOrdersCard : Claim7 := { stood := { row := storeOrdersRow, standIns := [], harness := (true, "1f4880076903ccf5151b6e6ec9b9c1f87183b68bedf0a64dd16016eb22f7689e"), looks := true }, kinds := [], alts := [], laidByText := true, laidKinds := [.data, .listed, .data, .pinned], laidTests := true, laidLooks := .later }
def StoreOrdersCardSaid : Prop := Claim7.holds Tryz.pinned (.plain (OpenSpec.ofChange storeOrdersSpec)) storeOrdersCard

/-- THE TIED CARD OF 'arguslaw19.StoreMemory'. -/
def storeMemoryCard : Claim7 := { stood := { row := storeMemoryRow, standIns := [], harness := (true, "1f4880076903ccf5151b6e6ec9b9c1f87183b68bedf0a64dd16016eb22f7689e"), looks := true }, kinds := [], alts := [], laidByText := true, laidKinds := [.data, .listed, .data, .pinned], laidTests := true, laidLooks := .later }
def StoreMemoryCardSaid : Prop := Claim7.holds Tryz.pinned (.plain (OpenSpec.ofChange storeMemorySpec)) storeMemoryCard

/-- THE TIED CARD OF 'arguslaw19.StorePuts'. -/
def storePutsCard : Claim7 := { stood := { row := storePutsRow, standIns := [], harness := (true, "1f4880076903ccf5151b6e6ec9b9c1f87183b68bedf0a64dd16016eb22f7689e"), looks := true }, kinds := [], alts := [], laidByText := true, laidKinds := [.data, .listed, .data, .pinned], laidTests := true, laidLooks := .later }
def StorePutsCardSaid : Prop := Claim7.holds Tryz.pinned (.plain (OpenSpec.ofChange storePutsSpec)) storePutsCard

/-- THE TIED CARD OF 'arguslaw19.StoreDisk'. -/
def storeDiskCard : Claim7 := { stood := { row := storeDiskRow, standIns := [], harness := (true, "1f4880076903ccf5151b6e6ec9b9c1f87183b68bedf0a64dd16016eb22f7689e"), looks := true }, kinds := [], alts := [], laidByText := true, laidKinds := [.data, .listed, .data, .pinned], laidTests := true, laidLooks := .later }
def StoreDiskCardSaid : Prop := Claim7.holds Tryz.pinned (.plain (OpenSpec.ofChange storeDiskSpec)) storeDiskCard

/-- THE TIED CARD OF 'arguslaw19.StoreFresh'. -/
def storeFreshCard : Claim7 := { stood := { row := storeFreshRow, standIns := [], harness := (true, "1f4880076903ccf5151b6e6ec9b9c1f87183b68bedf0a64dd16016eb22f7689e"), looks := true }, kinds := [], alts := [], laidByText := true, laidKinds := [.data, .listed, .data, .pinned], laidTests := true, laidLooks := .later }
def StoreFreshCardSaid : Prop := Claim7.holds Tryz.pinned (.plain (OpenSpec.ofChange storeFreshSpec)) storeFreshCard

/-- THE TIED CARD OF 'arguslaw19.StoreKeeps'. -/
def storeKeepsCard : Claim7 := { stood := { row := storeKeepsRow, standIns := [], harness := (true, "1f4880076903ccf5151b6e6ec9b9c1f87183b68bedf0a64dd16016eb22f7689e"), looks := true }, kinds := [], alts := [], laidByText := true, laidKinds := [.data, .listed, .data, .pinned], laidTests := true, laidLooks := .later }
def StoreKeepsCardSaid : Prop := Claim7.holds Tryz.pinned (.plain (OpenSpec.ofChange storeKeepsSpec)) storeKeepsCard

/-- THE TIED CARD OF 'arguslaw19.StoreNil'. -/
def storeNilCard : Claim7 := { stood := { row := storeNilRow, standIns := [], harness := (true, "1f4880076903ccf5151b6e6ec9b9c1f87183b68bedf0a64dd16016eb22f7689e"), looks := true }, kinds := [], alts := [], laidByText := true, laidKinds := [.data, .listed, .data, .pinned], laidTests := true, laidLooks := .later }
def StoreNilCardSaid : Prop := Claim7.holds Tryz.pinned (.plain (OpenSpec.ofChange storeNilSpec)) storeNilCard

/-- THE TIED CARD OF 'arguslaw19.StoreDurable'. -/
def storeDurableCard : Claim7 := { stood := { row := storeDurableRow, standIns := [], harness := (true, "1f4880076903ccf5151b6e6ec9b9c1f87183b68bedf0a64dd16016eb22f7689e"), looks := true }, kinds := [], alts := [], laidByText := true, laidKinds := [.data, .listed, .data, .pinned], laidTests := true, laidLooks := .later }
def StoreDurableCardSaid : Prop := Claim7.holds Tryz.pinned (.plain (OpenSpec.ofChange storeDurableSpec)) storeDurableCard

/-- THE SECOND FORM's CARD OF 'arguslaw19.StoreOrders'. -/
def storeOrdersUptoCard : Claim7 := { stood := { row := storeOrdersUptoRow, standIns := [], harness := (true, "1f4880076903ccf5151b6e6ec9b9c1f87183b68bedf0a64dd16016eb22f7689e"), looks := true }, kinds := [], alts := [], laidByText := true, laidKinds := [.data, .listed, .data, .pinned], laidTests := true, laidLooks := .later }
def StoreOrdersUptoCardSaid : Prop := Claim7.holds Tryz.pinned (.plain (OpenSpec.upto storeOrdersSpec)) storeOrdersUptoCard

/-- THE SECOND FORM's CARD OF 'arguslaw19.StoreMemory'. -/
def storeMemoryUptoCard : Claim7 := { stood := { row := storeMemoryUptoRow, standIns := [], harness := (true, "1f4880076903ccf5151b6e6ec9b9c1f87183b68bedf0a64dd16016eb22f7689e"), looks := true }, kinds := [], alts := [], laidByText := true, laidKinds := [.data, .listed, .data, .pinned], laidTests := true, laidLooks := .later }
def StoreMemoryUptoCardSaid : Prop := Claim7.holds Tryz.pinned (.plain (OpenSpec.upto storeMemorySpec)) storeMemoryUptoCard

/-- THE SECOND FORM's CARD OF 'arguslaw19.StorePuts'. -/
def storePutsUptoCard : Claim7 := { stood := { row := storePutsUptoRow, standIns := [], harness := (true, "1f4880076903ccf5151b6e6ec9b9c1f87183b68bedf0a64dd16016eb22f7689e"), looks := true }, kinds := [], alts := [], laidByText := true, laidKinds := [.data, .listed, .data, .pinned], laidTests := true, laidLooks := .later }
def StorePutsUptoCardSaid : Prop := Claim7.holds Tryz.pinned (.plain (OpenSpec.upto storePutsSpec)) storePutsUptoCard

/-- THE SECOND FORM's CARD OF 'arguslaw19.StoreDisk'. -/
def storeDiskUptoCard : Claim7 := { stood := { row := storeDiskUptoRow, standIns := [], harness := (true, "1f4880076903ccf5151b6e6ec9b9c1f87183b68bedf0a64dd16016eb22f7689e"), looks := true }, kinds := [], alts := [], laidByText := true, laidKinds := [.data, .listed, .data, .pinned], laidTests := true, laidLooks := .later }
def StoreDiskUptoCardSaid : Prop := Claim7.holds Tryz.pinned (.plain (OpenSpec.upto storeDiskSpec)) storeDiskUptoCard

/-- THE SECOND FORM's CARD OF 'arguslaw19.StoreFresh'. -/
def storeFreshUptoCard : Claim7 := { stood := { row := storeFreshUptoRow, standIns := [], harness := (true, "1f4880076903ccf5151b6e6ec9b9c1f87183b68bedf0a64dd16016eb22f7689e"), looks := true }, kinds := [], alts := [], laidByText := true, laidKinds := [.data, .listed, .data, .pinned], laidTests := true, laidLooks := .later }
def StoreFreshUptoCardSaid : Prop := Claim7.holds Tryz.pinned (.plain (OpenSpec.upto storeFreshSpec)) storeFreshUptoCard

/-- THE SECOND FORM's CARD OF 'arguslaw19.StoreKeeps'. -/
def storeKeepsUptoCard : Claim7 := { stood := { row := storeKeepsUptoRow, standIns := [], harness := (true, "1f4880076903ccf5151b6e6ec9b9c1f87183b68bedf0a64dd16016eb22f7689e"), looks := true }, kinds := [], alts := [], laidByText := true, laidKinds := [.data, .listed, .data, .pinned], laidTests := true, laidLooks := .later }
def StoreKeepsUptoCardSaid : Prop := Claim7.holds Tryz.pinned (.plain (OpenSpec.upto storeKeepsSpec)) storeKeepsUptoCard

/-- THE SECOND FORM's CARD OF 'arguslaw19.StoreNil'. -/
def storeNilUptoCard : Claim7 := { stood := { row := storeNilUptoRow, standIns := [], harness := (true, "1f4880076903ccf5151b6e6ec9b9c1f87183b68bedf0a64dd16016eb22f7689e"), looks := true }, kinds := [], alts := [], laidByText := true, laidKinds := [.data, .listed, .data, .pinned], laidTests := true, laidLooks := .later }
def StoreNilUptoCardSaid : Prop := Claim7.holds Tryz.pinned (.plain (OpenSpec.upto storeNilSpec)) storeNilUptoCard

/-- THE SECOND FORM's CARD OF 'arguslaw19.StoreDurable'. -/
def storeDurableUptoCard : Claim7 := { stood := { row := storeDurableUptoRow, standIns := [], harness := (true, "1f4880076903ccf5151b6e6ec9b9c1f87183b68bedf0a64dd16016eb22f7689e"), looks := true }, kinds := [], alts := [], laidByText := true, laidKinds := [.data, .listed, .data, .pinned], laidTests := true, laidLooks := .later }
def StoreDurableUptoCardSaid : Prop := Claim7.holds Tryz.pinned (.plain (OpenSpec.upto storeDurableSpec)) storeDurableUptoCard
end Rows
end Go.Proofs.YtemjidmkolfgnaaGreatDoor
