/-
  DERIVED. GIVEN WITH THE SEED: THE CARDS: each row of YteflcmmandlknaaGreatDoorRows.lean that lists a variable, with what it lists TIED to the program's text (the seventh form; the later family's looks); each row that meets fmt, with fmt's text TOLD by the authors' own Lean function (tested against real Go, not proved from fmt's source: count such statements apart). THE CARD IS WHAT COUNTS. Prove the row's statement (the work); the ties are given (YteflcmmandlknaaGreatDoorTie.lean); close each card by the builder's one call (the guide's Derived/Test/ToyasCard.lean, 'card_holds'). Laid BY PROGRAM, IN A SANDBOX (cutbox-door.mjs). By AI agents, Wed Nov 11 2026. No macro, syntax, notation, axiom, sorry.
-/
import Derived.Test.YteflcmmandlknaaGreatDoorRows
import GoSem.ClaimSeven
namespace Go.Proofs.YteflcmmandlknaaGreatDoor
namespace Rows

/-- THE TIED CARD OF 'ddilaw03.PrefixReads'. -/
def prefixReadsCard : Claim7 := { stood := { row := prefixReadsRow, standIns := [], harness := (true, "10a89bbbf6f7e3e80dd0c33d14d5459f0d7e3d6743a2f8af2026ac4e8890b728"), looks := true }, kinds := [], alts := [], laidByText := true, laidKinds := [.data, .data, .data, .data, .sentinel, .sentinel, .pinned], laidTests := true, laidLooks := .later }
def PrefixReadsCardSaid : Prop := Claim7.holds Tryz.pinned (.plain (OpenSpec.ofChange prefixReadsSpec)) prefixReadsCard

/-- THE TIED CARD OF 'ddilaw03.PrefixParts'. -/
def prefixPartsCard : Claim7 := { stood := { row := prefixPartsRow, standIns := [], harness := (true, "10a89bbbf6f7e3e80dd0c33d14d5459f0d7e3d6743a2f8af2026ac4e8890b728"), looks := true }, kinds := [], alts := [], laidByText := true, laidKinds := [.data, .data, .data, .data, .sentinel, .sentinel, .pinned], laidTests := true, laidLooks := .later }
def PrefixPartsCardSaid : Prop := Claim7.holds Tryz.pinned (.plain (OpenSpec.ofChange prefixPartsSpec)) prefixPartsCard

/-- THE TIED CARD OF 'ddilaw03.PrefixCovers'. -/
def prefixCoversCard : Claim7 := { stood := { row := prefixCoversRow, standIns := [], harness := (true, "10a89bbbf6f7e3e80dd0c33d14d5459f0d7e3d6743a2f8af2026ac4e8890b728"), looks := true }, kinds := [], alts := [], laidByText := true, laidKinds := [.data, .data, .data, .data, .sentinel, .sentinel, .pinned], laidTests := true, laidLooks := .later }
def PrefixCoversCardSaid : Prop := Claim7.holds Tryz.pinned (.plain (OpenSpec.ofChange prefixCoversSpec)) prefixCoversCard

/-- THE TIED CARD OF 'ddilaw03.PrefixTells'. -/
def prefixTellsCard : Claim7 := { stood := { row := prefixTellsRow, standIns := [], harness := (true, "10a89bbbf6f7e3e80dd0c33d14d5459f0d7e3d6743a2f8af2026ac4e8890b728"), looks := true }, kinds := [], alts := [], laidByText := true, laidKinds := [.data, .data, .data, .data, .sentinel, .sentinel, .pinned], laidTests := true, laidLooks := .later }
def PrefixTellsCardSaid : Prop := Claim7.holds Tryz.pinned (.plain (OpenSpec.ofChange prefixTellsSpec)) prefixTellsCard

/-- THE SECOND FORM's CARD OF 'ddilaw03.PrefixReads'. -/
def prefixReadsUptoCard : Claim7 := { stood := { row := prefixReadsUptoRow, standIns := [], harness := (true, "10a89bbbf6f7e3e80dd0c33d14d5459f0d7e3d6743a2f8af2026ac4e8890b728"), looks := true }, kinds := [], alts := [], laidByText := true, laidKinds := [.data, .data, .data, .data, .sentinel, .sentinel, .pinned], laidTests := true, laidLooks := .later }
def PrefixReadsUptoCardSaid : Prop := Claim7.holds Tryz.pinned (.plain (OpenSpec.upto prefixReadsSpec)) prefixReadsUptoCard

/-- THE SECOND FORM's CARD OF 'ddilaw03.PrefixParts'. -/
def prefixPartsUptoCard : Claim7 := { stood := { row := prefixPartsUptoRow, standIns := [], harness := (true, "10a89bbbf6f7e3e80dd0c33d14d5459f0d7e3d6743a2f8af2026ac4e8890b728"), looks := true }, kinds := [], alts := [], laidByText := true, laidKinds := [.data, .data, .data, .data, .sentinel, .sentinel, .pinned], laidTests := true, laidLooks := .later }
def PrefixPartsUptoCardSaid : Prop := Claim7.holds Tryz.pinned (.plain (OpenSpec.upto prefixPartsSpec)) prefixPartsUptoCard

/-- THE SECOND FORM's CARD OF 'ddilaw03.PrefixCovers'. -/
def prefixCoversUptoCard : Claim7 := { stood := { row := prefixCoversUptoRow, standIns := [], harness := (true, "10a89bbbf6f7e3e80dd0c33d14d5459f0d7e3d6743a2f8af2026ac4e8890b728"), looks := true }, kinds := [], alts := [], laidByText := true, laidKinds := [.data, .data, .data, .data, .sentinel, .sentinel, .pinned], laidTests := true, laidLooks := .later }
def PrefixCoversUptoCardSaid : Prop := Claim7.holds Tryz.pinned (.plain (OpenSpec.upto prefixCoversSpec)) prefixCoversUptoCard

/-- THE SECOND FORM's CARD OF 'ddilaw03.PrefixTells'. -/
def prefixTellsUptoCard : Claim7 := { stood := { row := prefixTellsUptoRow, standIns := [], harness := (true, "10a89bbbf6f7e3e80dd0c33d14d5459f0d7e3d6743a2f8af2026ac4e8890b728"), looks := true }, kinds := [], alts := [], laidByText := true, laidKinds := [.data, .data, .data, .data, .sentinel, .sentinel, .pinned], laidTests := true, laidLooks := .later }
def PrefixTellsUptoCardSaid : Prop := Claim7.holds Tryz.pinned (.plain (OpenSpec.upto prefixTellsSpec)) prefixTellsUptoCard
end Rows
end Go.Proofs.YteflcmmandlknaaGreatDoor
