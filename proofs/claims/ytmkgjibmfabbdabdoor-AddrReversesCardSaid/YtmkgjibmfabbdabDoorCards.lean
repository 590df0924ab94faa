/-
  DERIVED. GIVEN WITH THE SEED: THE CARDS: each row of YtmkgjibmfabbdabDoorRows.lean that lists a variable, with what it lists TIED to the program's text (the seventh form; the later family's looks); each row that meets fmt, with fmt's text TOLD by the authors' own Lean function (tested against real Go, not proved from fmt's source: count such statements apart). THE CARD IS WHAT COUNTS. Prove the row's statement (the work); the ties are given (YtmkgjibmfabbdabDoorTie.lean); close each card by the builder's one call (the guide's Derived/Test/ToyasCard.lean, 'card_holds'). Laid BY PROGRAM, IN A SANDBOX (cutbox-door.mjs). By AI agents, Wed Nov 11 2026. No macro, syntax, notation, axiom, sorry.
-/
import Derived.Test.YtmkgjibmfabbdabDoorRows
import GoSem.ClaimSeven
namespace Go.Proofs.YtmkgjibmfabbdabDoor
namespace Rows

/-- THE TIED CARD OF 'ddilaw02.AddrReverses'. -/
def addrReversesCard : Claim7 := { stood := { row := addrReversesRow, standIns := [], harness := (true, "8f28e960f94c03731d22646476d1af42d9585b8683749f686a231fa1dcb51775"), looks := false }, kinds := [], alts := [], laidByText := true, laidKinds := [.data, .data, .data, .data, .pinned], laidTests := true, laidLooks := .later }
def AddrReversesCardSaid : Prop := Claim7.holds Tryd.pinned (.plain (OpenSpec.ofChange addrReversesSpec)) addrReversesCard

/-- THE TIED CARD OF 'ddilaw02.AddrBack'. -/
def addrBackCard : Claim7 := { stood := { row := addrBackRow, standIns := [], harness := (true, "8f28e960f94c03731d22646476d1af42d9585b8683749f686a231fa1dcb51775"), looks := false }, kinds := [], alts := [], laidByText := true, laidKinds := [.data, .data, .data, .data, .pinned], laidTests := true, laidLooks := .later }
def AddrBackCardSaid : Prop := Claim7.holds Tryd.pinned (.plain (OpenSpec.ofChange addrBackSpec)) addrBackCard

/-- THE TIED CARD OF 'ddilaw02.AddrTexts'. -/
def addrTextsCard : Claim7 := { stood := { row := addrTextsRow, standIns := [], harness := (true, "8f28e960f94c03731d22646476d1af42d9585b8683749f686a231fa1dcb51775"), looks := false }, kinds := [], alts := [], laidByText := true, laidKinds := [.data, .data, .data, .data, .pinned], laidTests := true, laidLooks := .later }
def AddrTextsCardSaid : Prop := Claim7.holds Tryd.pinned (.plain (OpenSpec.ofChange addrTextsSpec)) addrTextsCard

/-- THE SECOND FORM's CARD OF 'ddilaw02.AddrReverses'. -/
def addrReversesUptoCard : Claim7 := { stood := { row := addrReversesUptoRow, standIns := [], harness := (true, "8f28e960f94c03731d22646476d1af42d9585b8683749f686a231fa1dcb51775"), looks := false }, kinds := [], alts := [], laidByText := true, laidKinds := [.data, .data, .data, .data, .pinned], laidTests := true, laidLooks := .later }
def AddrReversesUptoCardSaid : Prop := Claim7.holds Tryd.pinned (.plain (OpenSpec.upto addrReversesSpec)) addrReversesUptoCard

/-- THE SECOND FORM's CARD OF 'ddilaw02.AddrBack'. -/
def addrBackUptoCard : Claim7 := { stood := { row := addrBackUptoRow, standIns := [], harness := (true, "8f28e960f94c03731d22646476d1af42d9585b8683749f686a231fa1dcb51775"), looks := false }, kinds := [], alts := [], laidByText := true, laidKinds := [.data, .data, .data, .data, .pinned], laidTests := true, laidLooks := .later }
def AddrBackUptoCardSaid : Prop := Claim7.holds Tryd.pinned (.plain (OpenSpec.upto addrBackSpec)) addrBackUptoCard

/-- THE SECOND FORM's CARD OF 'ddilaw02.AddrTexts'. -/
def addrTextsUptoCard : Claim7 := { stood := { row := addrTextsUptoRow, standIns := [], harness := (true, "8f28e960f94c03731d22646476d1af42d9585b8683749f686a231fa1dcb51775"), looks := false }, kinds := [], alts := [], laidByText := true, laidKinds := [.data, .data, .data, .data, .pinned], laidTests := true, laidLooks := .later }
def AddrTextsUptoCardSaid : Prop := Claim7.holds Tryd.pinned (.plain (OpenSpec.upto addrTextsSpec)) addrTextsUptoCard
end Rows
end Go.Proofs.YtmkgjibmfabbdabDoor
