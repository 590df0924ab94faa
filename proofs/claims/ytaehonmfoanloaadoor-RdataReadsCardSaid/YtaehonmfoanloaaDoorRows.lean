/-
  NARROWER THAN 'FOR EVERY INPUT', by the rows' own cells (each row's printed sentence says how): RdataCompares: laid · RdataOrder: laid · RdataWires: laid · RdataReads: laid · RdataBack: laid · RdataAgain: laid · RdataCut: laid.
  DERIVED. THE GIVEN ROWS OF THIS SEAT. 7 by the template 'for every input the law returns true; each argument reads behind the call as it read before'; 0 by the template 'total and deterministic' (their statements: YtaehonmfoanloaaDoorTotals.lean).
  GIVEN WITH THE SEED: the statements are not yours to turn. If you find one false, say at which input.
  Laid BY PROGRAM, IN A SANDBOX (cutbox-rows.mjs): the forced cells as the released guide's own fill.sh prints them over the translation f351ce36b8fbc314… (all of the seat's roots in one cut). By AI agents, Wed Nov 11 2026. No macro, syntax, notation, axiom, sorry.
-/
import Derived.Test.YtaehonmfoanloaaDoorChecked
import GoSem.PinnedTables
import GoSem.Claim
import GoSem.ClaimJoined
import GoSem.ClaimMapViews
import Derived.JoinedTies
import Derived.KernelRfl
namespace Go.Proofs.YtaehonmfoanloaaDoor
/- THE CELL 'sum', in the pinned program and in every row, IS THE sha256 OF THE DUMP (.gsa) THAT YtaehonmfoanloaaDoorProg.lean LOADS. Nothing in Lean hashes anything: it is a label: what it is worth is what the hold of that sum in a sandbox is worth. -/
noncomputable def Tryd.pinned : Pinned := { name := "ytaehonmfoanloaadoor", sum := "f351ce36b8fbc31458ed014a9bba2bafd4d8dbd62d85dd92eafe46ed61b5425c", checked := Tryd.checked }
namespace Rows
def none {H : Type} : Left H := { results := [], args := [] }

/- WHAT THE LISTED PACKAGE-LEVEL VARIABLES READ AS WHEN THE CALL BEGINS. Each datum BY PROGRAM (the guide's laid-datum.mjs) off the statement by which the dump's own 'gosem.cut.vars' lays the variable. In a bare row this is a premise. The card (YtaehonmfoanloaaDoorCards.lean) ties it to the program's text. -/
def laid_unicode_utf8_acceptRanges {H : Type} : DataW H := .agg [.agg [.lit (.int .u8 128), .lit (.int .u8 191)], .agg [.lit (.int .u8 160), .lit (.int .u8 191)], .agg [.lit (.int .u8 128), .lit (.int .u8 159)], .agg [.lit (.int .u8 144), .lit (.int .u8 191)], .agg [.lit (.int .u8 128), .lit (.int .u8 143)], .agg [.lit (.int .u8 0), .lit (.int .u8 0)], .agg [.lit (.int .u8 0), .lit (.int .u8 0)], .agg [.lit (.int .u8 0), .lit (.int .u8 0)], .agg [.lit (.int .u8 0), .lit (.int .u8 0)], .agg [.lit (.int .u8 0), .lit (.int .u8 0)], .agg [.lit (.int .u8 0), .lit (.int .u8 0)], .agg [.lit (.int .u8 0), .lit (.int .u8 0)], .agg [.lit (.int .u8 0), .lit (.int .u8 0)], .agg [.lit (.int .u8 0), .lit (.int .u8 0)], .agg [.lit (.int .u8 0), .lit (.int .u8 0)], .agg [.lit (.int .u8 0), .lit (.int .u8 0)]]
/-- One of Go's own tables, pinned by name: the form's constant. -/
def laid_unicode_utf8_first : DataW Unit := Go.Pinned.utf8First

/-- 'ddilaw05.RdataCompares': WHATEVER THE INPUT: true; the input reads as it did. -/
def rdataComparesSpec : ChangeSpec := { name := "rdataCompares", fn := fun _ => fun
  | [d1, d2, d3] => { results := [.lit (.bool true)], args := [d1, d2, d3] }
  | _ => none }
def rdataComparesRow : OpenClaim := { program := "ytaehonmfoanloaadoor", sum := "f351ce36b8fbc31458ed014a9bba2bafd4d8dbd62d85dd92eafe46ed61b5425c", func := "ddi/ddilaw05.RdataCompares", spec := "rdataCompares", inPlace := ["internal/bytealg.CountString", "internal/bytealg.IndexByteString", "internal/bytealg.IndexString", "internal/bytealg.abigen_runtime_cmpstring"], named := ["unicode/utf8.first", "unicode/utf8.acceptRanges", "internal/bytealg.MaxLen"], apart := false, laid := [("unicode/utf8.acceptRanges", laid_unicode_utf8_acceptRanges), ("unicode/utf8.first", laid_unicode_utf8_first)] }
def RdataComparesSaid : Prop := rdataComparesRow.holds Tryd.pinned (OpenSpec.ofChange rdataComparesSpec)

/-- ITS FALSE NEIGHBOUR: 'it returns false'. Refute it at one input. -/
def rdataComparesWrong : ChangeSpec := { name := "rdataCompares", fn := fun _ => fun
  | [d1, d2, d3] => { results := [.lit (.bool false)], args := [d1, d2, d3] }
  | _ => none }
def RdataComparesWrongFalsely : Prop := rdataComparesRow.holds Tryd.pinned (OpenSpec.ofChange rdataComparesWrong)

/-- 'ddilaw05.RdataOrder': WHATEVER THE INPUT: true; the input reads as it did. -/
def rdataOrderSpec : ChangeSpec := { name := "rdataOrder", fn := fun _ => fun
  | [d1, d2] => { results := [.lit (.bool true)], args := [d1, d2] }
  | _ => none }
def rdataOrderRow : OpenClaim := { program := "ytaehonmfoanloaadoor", sum := "f351ce36b8fbc31458ed014a9bba2bafd4d8dbd62d85dd92eafe46ed61b5425c", func := "ddi/ddilaw05.RdataOrder", spec := "rdataOrder", inPlace := ["internal/bytealg.CountString", "internal/bytealg.IndexByteString", "internal/bytealg.IndexString", "internal/bytealg.abigen_runtime_cmpstring"], named := ["unicode/utf8.first", "unicode/utf8.acceptRanges", "internal/bytealg.MaxLen"], apart := false, laid := [("unicode/utf8.acceptRanges", laid_unicode_utf8_acceptRanges), ("unicode/utf8.first", laid_unicode_utf8_first)] }
def RdataOrderSaid : Prop := rdataOrderRow.holds Tryd.pinned (OpenSpec.ofChange rdataOrderSpec)

/-- ITS FALSE NEIGHBOUR: 'it returns false'. Refute it at one input. -/
def rdataOrderWrong : ChangeSpec := { name := "rdataOrder", fn := fun _ => fun
  | [d1, d2] => { results := [.lit (.bool false)], args := [d1, d2] }
  | _ => none }
def RdataOrderWrongFalsely : Prop := rdataOrderRow.holds Tryd.pinned (OpenSpec.ofChange rdataOrderWrong)

/-- 'ddilaw05.RdataWires': WHATEVER THE INPUT: true; the input reads as it did. -/
def rdataWiresSpec : ChangeSpec := { name := "rdataWires", fn := fun _ => fun
  | [d1, d2] => { results := [.lit (.bool true)], args := [d1, d2] }
  | _ => none }
def rdataWiresRow : OpenClaim := { program := "ytaehonmfoanloaadoor", sum := "f351ce36b8fbc31458ed014a9bba2bafd4d8dbd62d85dd92eafe46ed61b5425c", func := "ddi/ddilaw05.RdataWires", spec := "rdataWires", inPlace := ["internal/bytealg.CountString", "internal/bytealg.IndexByteString", "internal/bytealg.IndexString"], unfollowed := true, recurses := true, named := ["unicode/utf8.first", "unicode/utf8.acceptRanges", "internal/bytealg.MaxLen"], apart := false, laid := [("unicode/utf8.acceptRanges", laid_unicode_utf8_acceptRanges), ("unicode/utf8.first", laid_unicode_utf8_first)] }
def RdataWiresSaid : Prop := rdataWiresRow.holds Tryd.pinned (OpenSpec.ofChange rdataWiresSpec)

/-- ITS FALSE NEIGHBOUR: 'it returns false'. Refute it at one input. -/
def rdataWiresWrong : ChangeSpec := { name := "rdataWires", fn := fun _ => fun
  | [d1, d2] => { results := [.lit (.bool false)], args := [d1, d2] }
  | _ => none }
def RdataWiresWrongFalsely : Prop := rdataWiresRow.holds Tryd.pinned (OpenSpec.ofChange rdataWiresWrong)

/-- 'ddilaw05.RdataReads': WHATEVER THE INPUT: true; the input reads as it did. -/
def rdataReadsSpec : ChangeSpec := { name := "rdataReads", fn := fun _ => fun
  | [d1, d2] => { results := [.lit (.bool true)], args := [d1, d2] }
  | _ => none }
def rdataReadsRow : OpenClaim := { program := "ytaehonmfoanloaadoor", sum := "f351ce36b8fbc31458ed014a9bba2bafd4d8dbd62d85dd92eafe46ed61b5425c", func := "ddi/ddilaw05.RdataReads", spec := "rdataReads", inPlace := ["internal/bytealg.CountString", "internal/bytealg.IndexByteString", "internal/bytealg.IndexString"], unfollowed := true, recurses := true, named := ["unicode/utf8.first", "unicode/utf8.acceptRanges", "internal/bytealg.MaxLen"], apart := false, laid := [("unicode/utf8.acceptRanges", laid_unicode_utf8_acceptRanges), ("unicode/utf8.first", laid_unicode_utf8_first)] }
def RdataReadsSaid : Prop := rdataReadsRow.holds Tryd.pinned (OpenSpec.ofChange rdataReadsSpec)

/-- ITS FALSE NEIGHBOUR: 'it returns false'. Refute it at one input. -/
def rdataReadsWrong : ChangeSpec := { name := "rdataReads", fn := fun _ => fun
  | [d1, d2] => { results := [.lit (.bool false)], args := [d1, d2] }
  | _ => none }
def RdataReadsWrongFalsely : Prop := rdataReadsRow.holds Tryd.pinned (OpenSpec.ofChange rdataReadsWrong)

/-- 'ddilaw05.RdataBack': WHATEVER THE INPUT: true; the input reads as it did. -/
def rdataBackSpec : ChangeSpec := { name := "rdataBack", fn := fun _ => fun
  | [d1, d2] => { results := [.lit (.bool true)], args := [d1, d2] }
  | _ => none }
def rdataBackRow : OpenClaim := { program := "ytaehonmfoanloaadoor", sum := "f351ce36b8fbc31458ed014a9bba2bafd4d8dbd62d85dd92eafe46ed61b5425c", func := "ddi/ddilaw05.RdataBack", spec := "rdataBack", inPlace := ["internal/bytealg.CountString", "internal/bytealg.IndexByteString", "internal/bytealg.IndexString"], unfollowed := true, recurses := true, named := ["unicode/utf8.first", "unicode/utf8.acceptRanges", "internal/bytealg.MaxLen"], apart := false, laid := [("unicode/utf8.acceptRanges", laid_unicode_utf8_acceptRanges), ("unicode/utf8.first", laid_unicode_utf8_first)] }
def RdataBackSaid : Prop := rdataBackRow.holds Tryd.pinned (OpenSpec.ofChange rdataBackSpec)

/-- ITS FALSE NEIGHBOUR: 'it returns false'. Refute it at one input. -/
def rdataBackWrong : ChangeSpec := { name := "rdataBack", fn := fun _ => fun
  | [d1, d2] => { results := [.lit (.bool false)], args := [d1, d2] }
  | _ => none }
def RdataBackWrongFalsely : Prop := rdataBackRow.holds Tryd.pinned (OpenSpec.ofChange rdataBackWrong)

/-- 'ddilaw05.RdataAgain': WHATEVER THE INPUT: true; the input reads as it did. -/
def rdataAgainSpec : ChangeSpec := { name := "rdataAgain", fn := fun _ => fun
  | [d1, d2] => { results := [.lit (.bool true)], args := [d1, d2] }
  | _ => none }
def rdataAgainRow : OpenClaim := { program := "ytaehonmfoanloaadoor", sum := "f351ce36b8fbc31458ed014a9bba2bafd4d8dbd62d85dd92eafe46ed61b5425c", func := "ddi/ddilaw05.RdataAgain", spec := "rdataAgain", inPlace := ["internal/bytealg.CountString", "internal/bytealg.IndexByteString", "internal/bytealg.IndexString"], unfollowed := true, recurses := true, named := ["unicode/utf8.first", "unicode/utf8.acceptRanges", "internal/bytealg.MaxLen"], apart := false, laid := [("unicode/utf8.acceptRanges", laid_unicode_utf8_acceptRanges), ("unicode/utf8.first", laid_unicode_utf8_first)] }
def RdataAgainSaid : Prop := rdataAgainRow.holds Tryd.pinned (OpenSpec.ofChange rdataAgainSpec)

/-- ITS FALSE NEIGHBOUR: 'it returns false'. Refute it at one input. -/
def rdataAgainWrong : ChangeSpec := { name := "rdataAgain", fn := fun _ => fun
  | [d1, d2] => { results := [.lit (.bool false)], args := [d1, d2] }
  | _ => none }
def RdataAgainWrongFalsely : Prop := rdataAgainRow.holds Tryd.pinned (OpenSpec.ofChange rdataAgainWrong)

/-- 'ddilaw05.RdataCut': WHATEVER THE INPUT: true; the input reads as it did. -/
def rdataCutSpec : ChangeSpec := { name := "rdataCut", fn := fun _ => fun
  | [d1, d2, d3] => { results := [.lit (.bool true)], args := [d1, d2, d3] }
  | _ => none }
def rdataCutRow : OpenClaim := { program := "ytaehonmfoanloaadoor", sum := "f351ce36b8fbc31458ed014a9bba2bafd4d8dbd62d85dd92eafe46ed61b5425c", func := "ddi/ddilaw05.RdataCut", spec := "rdataCut", inPlace := ["internal/bytealg.CountString", "internal/bytealg.IndexByteString", "internal/bytealg.IndexString"], unfollowed := true, recurses := true, named := ["unicode/utf8.first", "unicode/utf8.acceptRanges", "internal/bytealg.MaxLen"], apart := false, laid := [("unicode/utf8.acceptRanges", laid_unicode_utf8_acceptRanges), ("unicode/utf8.first", laid_unicode_utf8_first)] }
def RdataCutSaid : Prop := rdataCutRow.holds Tryd.pinned (OpenSpec.ofChange rdataCutSpec)

/-- ITS FALSE NEIGHBOUR: 'it returns false'. Refute it at one input. -/
def rdataCutWrong : ChangeSpec := { name := "rdataCut", fn := fun _ => fun
  | [d1, d2, d3] => { results := [.lit (.bool false)], args := [d1, d2, d3] }
  | _ => none }
def RdataCutWrongFalsely : Prop := rdataCutRow.holds Tryd.pinned (OpenSpec.ofChange rdataCutWrong)

/- THE SECOND FORM. 'bulk': how many values and letters a reading holds, each counted each time it is reached (what is shared counts as often as it is met; a slice's spare places count too). A statement '..UptoSaid' is the law's where the arguments, and the package variables that the reading takes, are together of bulk at most 1048576: NARROWER than '..Said'. Prove '..Said' where nothing that the law and all that it calls make is longer than what came in: it says more and counts as full. Else prove '..UptoSaid'. A law counts once. -/
mutual
def uptoBulk {H : Type} : DataW H → Nat
  | .lit (.string bytes) => bytes.length + 1
  | .lit _ => 1
  | .nil => 1
  | .ptr d => uptoBulk d + 1
  | .slice elems spare => uptoBulkAll elems + uptoBulkAll spare + 1
  | .agg parts => uptoBulkAll parts + 1
  | .iface _ d => uptoBulk d + 1
  | .map entries => uptoBulkEntries entries + 1
  | .held _ => 1
def uptoBulkAll {H : Type} : List (DataW H) → Nat
  | [] => 0
  | d :: r => uptoBulk d + uptoBulkAll r
def uptoBulkEntries {H : Type} : List (Lit × DataW H) → Nat
  | [] => 0
  | x :: r => uptoBulkEntry x + uptoBulkEntries r
def uptoBulkEntry {H : Type} : Lit × DataW H → Nat
  | (.string bytes, d) => bytes.length + uptoBulk d + 1
  | (_, d) => uptoBulk d + 1
 end
def uptoSmall : (H : Type) → List (DataW H) → Bool := fun _ ds => decide (uptoBulkAll ds ≤ 1048576)
def OpenSpec.upto (s : _root_.Go.ChangeSpec) : _root_.Go.OpenSpec := { _root_.Go.OpenSpec.ofChange s with cond := some uptoSmall }

/-- 'ddilaw05.RdataCompares', WHERE WHAT IT READS IS OF BULK AT MOST 1048576: true; the input reads as it did. -/
def rdataComparesUptoRow : OpenClaim := { program := "ytaehonmfoanloaadoor", sum := "f351ce36b8fbc31458ed014a9bba2bafd4d8dbd62d85dd92eafe46ed61b5425c", func := "ddi/ddilaw05.RdataCompares", spec := "rdataCompares", inPlace := ["internal/bytealg.CountString", "internal/bytealg.IndexByteString", "internal/bytealg.IndexString", "internal/bytealg.abigen_runtime_cmpstring"], named := ["unicode/utf8.first", "unicode/utf8.acceptRanges", "internal/bytealg.MaxLen"], apart := false, laid := [("unicode/utf8.acceptRanges", laid_unicode_utf8_acceptRanges), ("unicode/utf8.first", laid_unicode_utf8_first)], narrowed := true }
def RdataComparesUptoSaid : Prop := rdataComparesUptoRow.holds Tryd.pinned (OpenSpec.upto rdataComparesSpec)

/-- 'ddilaw05.RdataOrder', WHERE WHAT IT READS IS OF BULK AT MOST 1048576: true; the input reads as it did. -/
def rdataOrderUptoRow : OpenClaim := { program := "ytaehonmfoanloaadoor", sum := "f351ce36b8fbc31458ed014a9bba2bafd4d8dbd62d85dd92eafe46ed61b5425c", func := "ddi/ddilaw05.RdataOrder", spec := "rdataOrder", inPlace := ["internal/bytealg.CountString", "internal/bytealg.IndexByteString", "internal/bytealg.IndexString", "internal/bytealg.abigen_runtime_cmpstring"], named := ["unicode/utf8.first", "unicode/utf8.acceptRanges", "internal/bytealg.MaxLen"], apart := false, laid := [("unicode/utf8.acceptRanges", laid_unicode_utf8_acceptRanges), ("unicode/utf8.first", laid_unicode_utf8_first)], narrowed := true }
def RdataOrderUptoSaid : Prop := rdataOrderUptoRow.holds Tryd.pinned (OpenSpec.upto rdataOrderSpec)

/-- 'ddilaw05.RdataWires', WHERE WHAT IT READS IS OF BULK AT MOST 1048576: true; the input reads as it did. -/
def rdataWiresUptoRow : OpenClaim := { program := "ytaehonmfoanloaadoor", sum := "f351ce36b8fbc31458ed014a9bba2bafd4d8dbd62d85dd92eafe46ed61b5425c", func := "ddi/ddilaw05.RdataWires", spec := "rdataWires", inPlace := ["internal/bytealg.CountString", "internal/bytealg.IndexByteString", "internal/bytealg.IndexString"], unfollowed := true, recurses := true, named := ["unicode/utf8.first", "unicode/utf8.acceptRanges", "internal/bytealg.MaxLen"], apart := false, laid := [("unicode/utf8.acceptRanges", laid_unicode_utf8_acceptRanges), ("unicode/utf8.first", laid_unicode_utf8_first)], narrowed := true }
def RdataWiresUptoSaid : Prop := rdataWiresUptoRow.holds Tryd.pinned (OpenSpec.upto rdataWiresSpec)

/-- 'ddilaw05.RdataReads', WHERE WHAT IT READS IS OF BULK AT MOST 1048576: true; the input reads as it did. -/
def rdataReadsUptoRow : OpenClaim := { program := "ytaehonmfoanloaadoor", sum := "f351ce36b8fbc31458ed014a9bba2bafd4d8dbd62d85dd92eafe46ed61b5425c", func := "ddi/ddilaw05.RdataReads", spec := "rdataReads", inPlace := ["internal/bytealg.CountString", "internal/bytealg.IndexByteString", "internal/bytealg.IndexString"], unfollowed := true, recurses := true, named := ["unicode/utf8.first", "unicode/utf8.acceptRanges", "internal/bytealg.MaxLen"], apart := false, laid := [("unicode/utf8.acceptRanges", laid_unicode_utf8_acceptRanges), ("unicode/utf8.first", laid_unicode_utf8_first)], narrowed := true }
def RdataReadsUptoSaid : Prop := rdataReadsUptoRow.holds Tryd.pinned (OpenSpec.upto rdataReadsSpec)

/-- 'ddilaw05.RdataBack', WHERE WHAT IT READS IS OF BULK AT MOST 1048576: true; the input reads as it did. -/
def rdataBackUptoRow : OpenClaim := { program := "ytaehonmfoanloaadoor", sum := "f351ce36b8fbc31458ed014a9bba2bafd4d8dbd62d85dd92eafe46ed61b5425c", func := "ddi/ddilaw05.RdataBack", spec := "rdataBack", inPlace := ["internal/bytealg.CountString", "internal/bytealg.IndexByteString", "internal/bytealg.IndexString"], unfollowed := true, recurses := true, named := ["unicode/utf8.first", "unicode/utf8.acceptRanges", "internal/bytealg.MaxLen"], apart := false, laid := [("unicode/utf8.acceptRanges", laid_unicode_utf8_acceptRanges), ("unicode/utf8.first", laid_unicode_utf8_first)], narrowed := true }
def RdataBackUptoSaid : Prop := rdataBackUptoRow.holds Tryd.pinned (OpenSpec.upto rdataBackSpec)

/-- 'ddilaw05.RdataAgain', WHERE WHAT IT READS IS OF BULK AT MOST 1048576: true; the input reads as it did. -/
def rdataAgainUptoRow : OpenClaim := { program := "ytaehonmfoanloaadoor", sum := "f351ce36b8fbc31458ed014a9bba2bafd4d8dbd62d85dd92eafe46ed61b5425c", func := "ddi/ddilaw05.RdataAgain", spec := "rdataAgain", inPlace := ["internal/bytealg.CountString", "internal/bytealg.IndexByteString", "internal/bytealg.IndexString"], unfollowed := true, recurses := true, named := ["unicode/utf8.first", "unicode/utf8.acceptRanges", "internal/bytealg.MaxLen"], apart := false, laid := [("unicode/utf8.acceptRanges", laid_unicode_utf8_acceptRanges), ("unicode/utf8.first", laid_unicode_utf8_first)], narrowed := true }
def RdataAgainUptoSaid : Prop := rdataAgainUptoRow.holds Tryd.pinned (OpenSpec.upto rdataAgainSpec)

/-- 'ddilaw05.RdataCut', WHERE WHAT IT READS IS OF BULK AT MOST 1048576: true; the input reads as it did. -/
def rdataCutUptoRow : OpenClaim := { program := "ytaehonmfoanloaadoor", sum := "f351ce36b8fbc31458ed014a9bba2bafd4d8dbd62d85dd92eafe46ed61b5425c", func := "ddi/ddilaw05.RdataCut", spec := "rdataCut", inPlace := ["internal/bytealg.CountString", "internal/bytealg.IndexByteString", "internal/bytealg.IndexString"], unfollowed := true, recurses := true, named := ["unicode/utf8.first", "unicode/utf8.acceptRanges", "internal/bytealg.MaxLen"], apart := false, laid := [("unicode/utf8.acceptRanges", laid_unicode_utf8_acceptRanges), ("unicode/utf8.first", laid_unicode_utf8_first)], narrowed := true }
def RdataCutUptoSaid : Prop := rdataCutUptoRow.holds Tryd.pinned (OpenSpec.upto rdataCutSpec)

end Rows
end Go.Proofs.YtaehonmfoanloaaDoor
