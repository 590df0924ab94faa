/-
  DERIVED. GIVEN WITH THE SEED: THE CARDS: each row of YteflcmmandlknaaDoorRows.lean that lists a variable, with what it lists TIED to the program's text (the seventh form; the later family's looks); each row that meets fmt, with fmt's text TOLD by the authors' own Lean function (tested against real Go, not proved from fmt's source: count such statements apart). THE CARD IS WHAT COUNTS. Prove the row's statement (the work); the ties are given (YteflcmmandlknaaDoorTie.lean); close each card by the builder's one call (the guide's Derived/Test/ToyasCard.lean, 'card_holds'). Laid BY PROGRAM, IN A SANDBOX (cutbox-door.mjs). By AI agents, Wed Nov 11 2026. No macro, syntax, notation, axiom, sorry.
-/
import Derived.Test.YteflcmmandlknaaDoorRows
import GoSem.ClaimSeven
namespace Go.Proofs.YteflcmmandlknaaDoor
namespace Rows

/-- THE TIED CARD OF 'ddilaw03.PrefixBack'. -/
def prefixBackCard : Claim7 := { stood := { row := prefixBackRow, standIns := [], harness := (true, "9e4d4259594171193099c9e8047fda21a047ce89f55b673e151f006c195a3c59"), looks := true }, kinds := [], alts := [], laidByText := true, laidKinds := [.data, .data, .data, .data, .sentinel, .sentinel, .pinned], laidTests := true, laidLooks := .later }
def PrefixBackCardSaid : Prop := Claim7.holds Tryd.pinned (.plain (OpenSpec.ofChange prefixBackSpec)) prefixBackCard

/-- THE TIED CARD OF 'ddilaw03.PrefixZones'. -/
def prefixZonesCard : Claim7 := { stood := { row := prefixZonesRow, standIns := [], harness := (true, "9e4d4259594171193099c9e8047fda21a047ce89f55b673e151f006c195a3c59"), looks := true }, kinds := [], alts := [], laidByText := true, laidKinds := [.data, .data, .data, .data, .sentinel, .sentinel, .pinned], laidTests := true, laidLooks := .later }
def PrefixZonesCardSaid : Prop := Claim7.holds Tryd.pinned (.plain (OpenSpec.ofChange prefixZonesSpec)) prefixZonesCard

/-- THE TIED CARD OF 'ddilaw03.PrefixTree'. -/
def prefixTreeCard : Claim7 := { stood := { row := prefixTreeRow, standIns := [], harness := (true, "9e4d4259594171193099c9e8047fda21a047ce89f55b673e151f006c195a3c59"), looks := true }, kinds := [], alts := [], laidByText := true, laidKinds := [.data, .data, .data, .data, .sentinel, .sentinel, .pinned], laidTests := true, laidLooks := .later }
def PrefixTreeCardSaid : Prop := Claim7.holds Tryd.pinned (.plain (OpenSpec.ofChange prefixTreeSpec)) prefixTreeCard

/-- THE TIED CARD OF 'ddilaw03.PrefixHalves'. -/
def prefixHalvesCard : Claim7 := { stood := { row := prefixHalvesRow, standIns := [], harness := (true, "9e4d4259594171193099c9e8047fda21a047ce89f55b673e151f006c195a3c59"), looks := true }, kinds := [], alts := [], laidByText := true, laidKinds := [.data, .data, .data, .data, .sentinel, .sentinel, .pinned], laidTests := true, laidLooks := .later }
def PrefixHalvesCardSaid : Prop := Claim7.holds Tryd.pinned (.plain (OpenSpec.ofChange prefixHalvesSpec)) prefixHalvesCard

/-- THE TIED CARD OF 'ddilaw03.PrefixWhole'. -/
def prefixWholeCard : Claim7 := { stood := { row := prefixWholeRow, standIns := [], harness := (true, "9e4d4259594171193099c9e8047fda21a047ce89f55b673e151f006c195a3c59"), looks := true }, kinds := [], alts := [], laidByText := true, laidKinds := [.data, .data, .data, .data, .sentinel, .sentinel, .pinned], laidTests := true, laidLooks := .later }
def PrefixWholeCardSaid : Prop := Claim7.holds Tryd.pinned (.plain (OpenSpec.ofChange prefixWholeSpec)) prefixWholeCard

/-- THE SECOND FORM's CARD OF 'ddilaw03.PrefixBack'. -/
def prefixBackUptoCard : Claim7 := { stood := { row := prefixBackUptoRow, standIns := [], harness := (true, "9e4d4259594171193099c9e8047fda21a047ce89f55b673e151f006c195a3c59"), looks := true }, kinds := [], alts := [], laidByText := true, laidKinds := [.data, .data, .data, .data, .sentinel, .sentinel, .pinned], laidTests := true, laidLooks := .later }
def PrefixBackUptoCardSaid : Prop := Claim7.holds Tryd.pinned (.plain (OpenSpec.upto prefixBackSpec)) prefixBackUptoCard

/-- THE SECOND FORM's CARD OF 'ddilaw03.PrefixZones'. -/
def prefixZonesUptoCard : Claim7 := { stood := { row := prefixZonesUptoRow, standIns := [], harness := (true, "9e4d4259594171193099c9e8047fda21a047ce89f55b673e151f006c195a3c59"), looks := true }, kinds := [], alts := [], laidByText := true, laidKinds := [.data, .data, .data, .data, .sentinel, .sentinel, .pinned], laidTests := true, laidLooks := .later }
def PrefixZonesUptoCardSaid : Prop := Claim7.holds Tryd.pinned (.plain (OpenSpec.upto prefixZonesSpec)) prefixZonesUptoCard

/-- THE SECOND FORM's CARD OF 'ddilaw03.PrefixTree'. -/
def prefixTreeUptoCard : Claim7 := { stood := { row := prefixTreeUptoRow, standIns := [], harness := (true, "9e4d4259594171193099c9e8047fda21a047ce89f55b673e151f006c195a3c59"), looks := true }, kinds := [], alts := [], laidByText := true, laidKinds := [.data, .data, .data, .data, .sentinel, .sentinel, .pinned], laidTests := true, laidLooks := .later }
def PrefixTreeUptoCardSaid : Prop := Claim7.holds Tryd.pinned (.plain (OpenSpec.upto prefixTreeSpec)) prefixTreeUptoCard

/-- THE SECOND FORM's CARD OF 'ddilaw03.PrefixHalves'. -/
def prefixHalvesUptoCard : Claim7 := { stood := { row := prefixHalvesUptoRow, standIns := [], harness := (true, "9e4d4259594171193099c9e8047fda21a047ce89f55b673e151f006c195a3c59"), looks := true }, kinds := [], alts := [], laidByText := true, laidKinds := [.data, .data, .data, .data, .sentinel, .sentinel, .pinned], laidTests := true, laidLooks := .later }
def PrefixHalvesUptoCardSaid : Prop := Claim7.holds Tryd.pinned (.plain (OpenSpec.upto prefixHalvesSpec)) prefixHalvesUptoCard

/-- THE SECOND FORM's CARD OF 'ddilaw03.PrefixWhole'. -/
def prefixWholeUptoCard : Claim7 := { stood := { row := prefixWholeUptoRow, standIns := [], harness := (true, "9e4d4259594171193099c9e8047fda21a047ce89f55b673e151f006c195a3c59"), looks := true }, kinds := [], alts := [], laidByText := true, laidKinds := [.data, .data, .data, .data, .sentinel, .sentinel, .pinned], laidTests := true, laidLooks := .later }
def PrefixWholeUptoCardSaid : Prop := Claim7.holds Tryd.pinned (.plain (OpenSpec.upto prefixWholeSpec)) prefixWholeUptoCard
end Rows
end Go.Proofs.YteflcmmandlknaaDoor
