/-
  DERIVED. GIVEN WITH THE SEED: THE CARDS: each row of YtaehonmfoanloaaDoorRows.lean that lists a variable, with what it lists TIED to the program's text (the seventh form; the later family's looks); each row that meets fmt, with fmt's text TOLD by the authors' own Lean function (tested against real Go, not proved from fmt's source: count such statements apart). THE CARD IS WHAT COUNTS. Prove the row's statement (the work); the ties are given (YtaehonmfoanloaaDoorTie.lean); close each card by the builder's one call (the guide's Derived/Test/ToyasCard.lean, 'card_holds'). Laid BY PROGRAM, IN A SANDBOX (cutbox-door.mjs). By AI agents, Wed Nov 11 2026. No macro, syntax, notation, axiom, sorry.
-/
import Derived.Test.YtaehonmfoanloaaDoorRows
import GoSem.ClaimSeven
namespace Go.Proofs.YtaehonmfoanloaaDoor
namespace Rows

/-- THE TIED CARD OF 'ddilaw05.RdataCompares'. -/
def rdataComparesCard : Claim7 := { stood := { row := rdataComparesRow, standIns := [], harness := (true, "ec26516fe8d787cc7b90b925f63785f2afc7cf6df178d3491f2bd6a7759f3e8b"), looks := true }, kinds := [], alts := [], laidByText := true, laidKinds := [.data, .pinned], laidTests := true, laidLooks := .later }
def RdataComparesCardSaid : Prop := Claim7.holds Tryd.pinned (.plain (OpenSpec.ofChange rdataComparesSpec)) rdataComparesCard

/-- THE TIED CARD OF 'ddilaw05.RdataOrder'. -/
def rdataOrderCard : Claim7 := { stood := { row := rdataOrderRow, standIns := [], harness := (true, "ec26516fe8d787cc7b90b925f63785f2afc7cf6df178d3491f2bd6a7759f3e8b"), looks := true }, kinds := [], alts := [], laidByText := true, laidKinds := [.data, .pinned], laidTests := true, laidLooks := .later }
def RdataOrderCardSaid : Prop := Claim7.holds Tryd.pinned (.plain (OpenSpec.ofChange rdataOrderSpec)) rdataOrderCard

/-- THE TIED CARD OF 'ddilaw05.RdataWires'. -/
def rdataWiresCard : Claim7 := { stood := { row := rdataWiresRow, standIns := [], harness := (true, "ec26516fe8d787cc7b90b925f63785f2afc7cf6df178d3491f2bd6a7759f3e8b"), looks := true }, kinds := [], alts := [], laidByText := true, laidKinds := [.data, .pinned], laidTests := true, laidLooks := .later }
def RdataWiresCardSaid : Prop := Claim7.holds Tryd.pinned (.plain (OpenSpec.ofChange rdataWiresSpec)) rdataWiresCard

/-- THE TIED CARD OF 'ddilaw05.RdataReads'. -/
def rdataReadsCard : Claim7 := { stood := { row := rdataReadsRow, standIns := [], harness := (true, "ec26516fe8d787cc7b90b925f63785f2afc7cf6df178d3491f2bd6a7759f3e8b"), looks := true }, kinds := [], alts := [], laidByText := true, laidKinds := [.data, .pinned], laidTests := true, laidLooks := .later }
def RdataReadsCardSaid : Prop := Claim7.holds Tryd.pinned (.plain (OpenSpec.ofChange rdataReadsSpec)) rdataReadsCard

/-- THE TIED CARD OF 'ddilaw05.RdataBack'. -/
def rdataBackCard : Claim7 := { stood := { row := rdataBackRow, standIns := [], harness := (true, "ec26516fe8d787cc7b90b925f63785f2afc7cf6df178d3491f2bd6a7759f3e8b"), looks := true }, kinds := [], alts := [], laidByText := true, laidKinds := [.data, .pinned], laidTests := true, laidLooks := .later }
def RdataBackCardSaid : Prop := Claim7.holds Tryd.pinned (.plain (OpenSpec.ofChange rdataBackSpec)) rdataBackCard

/-- THE TIED CARD OF 'ddilaw05.RdataAgain'. -/
def rdataAgainCard : Claim7 := { stood := { row := rdataAgainRow, standIns := [], harness := (true, "ec26516fe8d787cc7b90b925f63785f2afc7cf6df178d3491f2bd6a7759f3e8b"), looks := true }, kinds := [], alts := [], laidByText := true, laidKinds := [.data, .pinned], laidTests := true, laidLooks := .later }
def RdataAgainCardSaid : Prop := Claim7.holds Tryd.pinned (.plain (OpenSpec.ofChange rdataAgainSpec)) rdataAgainCard

/-- THE TIED CARD OF 'ddilaw05.RdataCut'. -/
def rdataCutCard : Claim7 := { stood := { row := rdataCutRow, standIns := [], harness := (true, "ec26516fe8d787cc7b90b925f63785f2afc7cf6df178d3491f2bd6a7759f3e8b"), looks := true }, kinds := [], alts := [], laidByText := true, laidKinds := [.data, .pinned], laidTests := true, laidLooks := .later }
def RdataCutCardSaid : Prop := Claim7.holds Tryd.pinned (.plain (OpenSpec.ofChange rdataCutSpec)) rdataCutCard

/-- THE SECOND FORM's CARD OF 'ddilaw05.RdataCompares'. -/
def rdataComparesUptoCard : Claim7 := { stood := { row := rdataComparesUptoRow, standIns := [], harness := (true, "ec26516fe8d787cc7b90b925f63785f2afc7cf6df178d3491f2bd6a7759f3e8b"), looks := true }, kinds := [], alts := [], laidByText := true, laidKinds := [.data, .pinned], laidTests := true, laidLooks := .later }
def RdataComparesUptoCardSaid : Prop := Claim7.holds Tryd.pinned (.plain (OpenSpec.upto rdataComparesSpec)) rdataComparesUptoCard

/-- THE SECOND FORM's CARD OF 'ddilaw05.RdataOrder'. -/
def rdataOrderUptoCard : Claim7 := { stood := { row := rdataOrderUptoRow, standIns := [], harness := (true, "ec26516fe8d787cc7b90b925f63785f2afc7cf6df178d3491f2bd6a7759f3e8b"), looks := true }, kinds := [], alts := [], laidByText := true, laidKinds := [.data, .pinned], laidTests := true, laidLooks := .later }
def RdataOrderUptoCardSaid : Prop := Claim7.holds Tryd.pinned (.plain (OpenSpec.upto rdataOrderSpec)) rdataOrderUptoCard

/-- THE SECOND FORM's CARD OF 'ddilaw05.RdataWires'. -/
def rdataWiresUptoCard : Claim7 := { stood := { row := rdataWiresUptoRow, standIns := [], harness := (true, "ec26516fe8d787cc7b90b925f63785f2afc7cf6df178d3491f2bd6a7759f3e8b"), looks := true }, kinds := [], alts := [], laidByText := true, laidKinds := [.data, .pinned], laidTests := true, laidLooks := .later }
def RdataWiresUptoCardSaid : Prop := Claim7.holds Tryd.pinned (.plain (OpenSpec.upto rdataWiresSpec)) rdataWiresUptoCard

/-- THE SECOND FORM's CARD OF 'ddilaw05.RdataReads'. -/
def rdataReadsUptoCard : Claim7 := { stood := { row := rdataReadsUptoRow, standIns := [], harness := (true, "ec26516fe8d787cc7b90b925f63785f2afc7cf6df178d3491f2bd6a7759f3e8b"), looks := true }, kinds := [], alts := [], laidByText := true, laidKinds := [.data, .pinned], laidTests := true, laidLooks := .later }
def RdataReadsUptoCardSaid : Prop := Claim7.holds Tryd.pinned (.plain (OpenSpec.upto rdataReadsSpec)) rdataReadsUptoCard

/-- THE SECOND FORM's CARD OF 'ddilaw05.RdataBack'. -/
def rdataBackUptoCard : Claim7 := { stood := { row := rdataBackUptoRow, standIns := [], harness := (true, "ec26516fe8d787cc7b90b925f63785f2afc7cf6df178d3491f2bd6a7759f3e8b"), looks := true }, kinds := [], alts := [], laidByText := true, laidKinds := [.data, .pinned], laidTests := true, laidLooks := .later }
def RdataBackUptoCardSaid : Prop := Claim7.holds Tryd.pinned (.plain (OpenSpec.upto rdataBackSpec)) rdataBackUptoCard

/-- THE SECOND FORM's CARD OF 'ddilaw05.RdataAgain'. -/
def rdataAgainUptoCard : Claim7 := { stood := { row := rdataAgainUptoRow, standIns := [], harness := (true, "ec26516fe8d787cc7b90b925f63785f2afc7cf6df178d3491f2bd6a7759f3e8b"), looks := true }, kinds := [], alts := [], laidByText := true, laidKinds := [.data, .pinned], laidTests := true, laidLooks := .later }
def RdataAgainUptoCardSaid : Prop := Claim7.holds Tryd.pinned (.plain (OpenSpec.upto rdataAgainSpec)) rdataAgainUptoCard

/-- THE SECOND FORM's CARD OF 'ddilaw05.RdataCut'. -/
def rdataCutUptoCard : Claim7 := { stood := { row := rdataCutUptoRow, standIns := [], harness := (true, "ec26516fe8d787cc7b90b925f63785f2afc7cf6df178d3491f2bd6a7759f3e8b"), looks := true }, kinds := [], alts := [], laidByText := true, laidKinds := [.data, .pinned], laidTests := true, laidLooks := .later }
def RdataCutUptoCardSaid : Prop := Claim7.holds Tryd.pinned (.plain (OpenSpec.upto rdataCutSpec)) rdataCutUptoCard
end Rows
end Go.Proofs.YtaehonmfoanloaaDoor
