/-
  DERIVED. GIVEN WITH THE SEED: THE CARDS: each row of YtmkgjibmfabbdaaDoorRows.lean that lists a variable, with what it lists TIED to the program's text (the seventh form; the later family's looks); each row that meets fmt, with fmt's text TOLD by the authors' own Lean function (tested against real Go, not proved from fmt's source: count such statements apart). THE CARD IS WHAT COUNTS. Prove the row's statement (the work); the ties are given (YtmkgjibmfabbdaaDoorTie.lean); close each card by the builder's one call (the guide's Derived/Test/ToyasCard.lean, 'card_holds'). Laid BY PROGRAM, IN A SANDBOX (cutbox-door.mjs). By AI agents, Wed Nov 11 2026. No macro, syntax, notation, axiom, sorry.
-/
import Derived.Test.YtmkgjibmfabbdaaDoorRows
import GoSem.ClaimSeven
namespace Go.Proofs.YtmkgjibmfabbdaaDoor
namespace Rows

/-- THE TIED CARD OF 'ddilaw02.AddrPrint'. -/
def addrPrintCard : Claim7 := { stood := { row := addrPrintRow, standIns := [], harness := (true, "06b76d0536a462110cb9383478b1b6f2ee6c28094aaa5373e3f53c405ed02a0d"), looks := false }, kinds := [], alts := [], laidByText := true, laidKinds := [.data, .data, .data], laidTests := true, laidLooks := .later }
def AddrPrintCardSaid : Prop := Claim7.holds Tryd.pinned (.plain (OpenSpec.ofChange addrPrintSpec)) addrPrintCard

/-- THE TIED CARD OF 'ddilaw02.AddrParse'. -/
def addrParseCard : Claim7 := { stood := { row := addrParseRow, standIns := [], harness := (true, "06b76d0536a462110cb9383478b1b6f2ee6c28094aaa5373e3f53c405ed02a0d"), looks := false }, kinds := [], alts := [], laidByText := true, laidKinds := [.data, .pinned], laidTests := true, laidLooks := .later }
def AddrParseCardSaid : Prop := Claim7.holds Tryd.pinned (.plain (OpenSpec.ofChange addrParseSpec)) addrParseCard

/-- THE SECOND FORM's CARD OF 'ddilaw02.AddrPrint'. -/
def addrPrintUptoCard : Claim7 := { stood := { row := addrPrintUptoRow, standIns := [], harness := (true, "06b76d0536a462110cb9383478b1b6f2ee6c28094aaa5373e3f53c405ed02a0d"), looks := false }, kinds := [], alts := [], laidByText := true, laidKinds := [.data, .data, .data], laidTests := true, laidLooks := .later }
def AddrPrintUptoCardSaid : Prop := Claim7.holds Tryd.pinned (.plain (OpenSpec.upto addrPrintSpec)) addrPrintUptoCard

/-- THE SECOND FORM's CARD OF 'ddilaw02.AddrParse'. -/
def addrParseUptoCard : Claim7 := { stood := { row := addrParseUptoRow, standIns := [], harness := (true, "06b76d0536a462110cb9383478b1b6f2ee6c28094aaa5373e3f53c405ed02a0d"), looks := false }, kinds := [], alts := [], laidByText := true, laidKinds := [.data, .pinned], laidTests := true, laidLooks := .later }
def AddrParseUptoCardSaid : Prop := Claim7.holds Tryd.pinned (.plain (OpenSpec.upto addrParseSpec)) addrParseUptoCard
end Rows
end Go.Proofs.YtmkgjibmfabbdaaDoor
