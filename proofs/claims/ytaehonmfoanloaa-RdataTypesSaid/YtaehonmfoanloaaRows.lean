/-
  No cell of these rows narrows 'for every input' (looked for: loops, veiled, ifaces, maps, wideKeys, modest, calm, conditions, laid).
  DERIVED. THE GIVEN ROWS OF THIS SEAT. 3 by the template 'for every input the law returns true; each argument reads behind the call as it read before'; 0 by the template 'total and deterministic' (their statements: YtaehonmfoanloaaTotals.lean).
  GIVEN WITH THE SEED: the statements are not yours to turn. If you find one false, say at which input.
  Laid BY PROGRAM, IN A SANDBOX (cutbox-rows.mjs): the forced cells as the released guide's own fill.sh prints them over the translation 1be83036d41b22cf… (all of the seat's roots in one cut). By AI agents, Wed Nov 11 2026. No macro, syntax, notation, axiom, sorry.
-/
import Derived.Test.YtaehonmfoanloaaChecked
import GoSem.Claim
import GoSem.ClaimJoined
import GoSem.ClaimMapViews
import Derived.JoinedTies
import Derived.KernelRfl
namespace Go.Proofs.Ytaehonmfoanloaa
/- THE CELL 'sum', in the pinned program and in every row, IS THE sha256 OF THE DUMP (.gsa) THAT YtaehonmfoanloaaProg.lean LOADS. Nothing in Lean hashes anything: it is a label: what it is worth is what the hold of that sum in a sandbox is worth. -/
noncomputable def Try.pinned : Pinned := { name := "ytaehonmfoanloaa", sum := "1be83036d41b22cfb285b53f99f2ce16c565d58df1dda84478963bbd22093790", checked := Try.checked }
namespace Rows
def none {H : Type} : Left H := { results := [], args := [] }

/-- 'ddilaw05.RdataTypes': WHATEVER THE INPUT: true; the input reads as it did. -/
def rdataTypesSpec : ChangeSpec := { name := "rdataTypes", fn := fun _ => fun
  | [d1, d2] => { results := [.lit (.bool true)], args := [d1, d2] }
  | _ => none }
def rdataTypesRow : OpenClaim := { program := "ytaehonmfoanloaa", sum := "1be83036d41b22cfb285b53f99f2ce16c565d58df1dda84478963bbd22093790", func := "ddi/ddilaw05.RdataTypes", spec := "rdataTypes", apart := false }
def RdataTypesSaid : Prop := rdataTypesRow.holds Try.pinned (OpenSpec.ofChange rdataTypesSpec)

/-- ITS FALSE NEIGHBOUR: 'it returns false'. Refute it at one input. -/
def rdataTypesWrong : ChangeSpec := { name := "rdataTypes", fn := fun _ => fun
  | [d1, d2] => { results := [.lit (.bool false)], args := [d1, d2] }
  | _ => none }
def RdataTypesWrongFalsely : Prop := rdataTypesRow.holds Try.pinned (OpenSpec.ofChange rdataTypesWrong)

/-- 'ddilaw05.RdataSets': WHATEVER THE INPUT: true; the input reads as it did. -/
def rdataSetsSpec : ChangeSpec := { name := "rdataSets", fn := fun _ => fun
  | [d1, d2] => { results := [.lit (.bool true)], args := [d1, d2] }
  | _ => none }
def rdataSetsRow : OpenClaim := { program := "ytaehonmfoanloaa", sum := "1be83036d41b22cfb285b53f99f2ce16c565d58df1dda84478963bbd22093790", func := "ddi/ddilaw05.RdataSets", spec := "rdataSets", apart := false }
def RdataSetsSaid : Prop := rdataSetsRow.holds Try.pinned (OpenSpec.ofChange rdataSetsSpec)

/-- ITS FALSE NEIGHBOUR: 'it returns false'. Refute it at one input. -/
def rdataSetsWrong : ChangeSpec := { name := "rdataSets", fn := fun _ => fun
  | [d1, d2] => { results := [.lit (.bool false)], args := [d1, d2] }
  | _ => none }
def RdataSetsWrongFalsely : Prop := rdataSetsRow.holds Try.pinned (OpenSpec.ofChange rdataSetsWrong)

/-- 'ddilaw05.RdataLists': WHATEVER THE INPUT: true; the input reads as it did. -/
def rdataListsSpec : ChangeSpec := { name := "rdataLists", fn := fun _ => fun
  | [d1, d2] => { results := [.lit (.bool true)], args := [d1, d2] }
  | _ => none }
def rdataListsRow : OpenClaim := { program := "ytaehonmfoanloaa", sum := "1be83036d41b22cfb285b53f99f2ce16c565d58df1dda84478963bbd22093790", func := "ddi/ddilaw05.RdataLists", spec := "rdataLists", apart := false }
def RdataListsSaid : Prop := rdataListsRow.holds Try.pinned (OpenSpec.ofChange rdataListsSpec)

/-- ITS FALSE NEIGHBOUR: 'it returns false'. Refute it at one input. -/
def rdataListsWrong : ChangeSpec := { name := "rdataLists", fn := fun _ => fun
  | [d1, d2] => { results := [.lit (.bool false)], args := [d1, d2] }
  | _ => none }
def RdataListsWrongFalsely : Prop := rdataListsRow.holds Try.pinned (OpenSpec.ofChange rdataListsWrong)

/- THE SECOND FORM. 'bulk': how many values and letters a reading holds, each counted each time it is reached (what is shared counts as often as it is met; a slice's spare places count too). A statement '..UptoSaid' is the law's where the arguments, and the package variables that the reading takes, are together of bulk at most 1048576: NARROWER than '..Said'. Prove '..Said' where nothing that the law and all that it calls make is longer than what came in: it says more and counts as full. Else prove '..UptoSaid'. A law counts once. -/
mutual
def uptoBulk {H : Type} : DataW H → Nat
  | .lit (.string bytes) => bytes.length + 1
  | .lit _ => 1
  | .nil => 1
  | .ptr d => uptoBulk d + 1
  | .slice elems spare => uptoBulkAll elems + uptoBulkAll spare + 1
  | .agg parts => uptoBulkAll parts + 1
  | .iface _ d => uptoBulk d + 1
  | .map entries => uptoBulkEntries entries + 1
  | .held _ => 1
def uptoBulkAll {H : Type} : List (DataW H) → Nat
  | [] => 0
  | d :: r => uptoBulk d + uptoBulkAll r
def uptoBulkEntries {H : Type} : List (Lit × DataW H) → Nat
  | [] => 0
  | x :: r => uptoBulkEntry x + uptoBulkEntries r
def uptoBulkEntry {H : Type} : Lit × DataW H → Nat
  | (.string bytes, d) => bytes.length + uptoBulk d + 1
  | (_, d) => uptoBulk d + 1
 end
def uptoSmall : (H : Type) → List (DataW H) → Bool := fun _ ds => decide (uptoBulkAll ds ≤ 1048576)
def OpenSpec.upto (s : _root_.Go.ChangeSpec) : _root_.Go.OpenSpec := { _root_.Go.OpenSpec.ofChange s with cond := some uptoSmall }

/-- 'ddilaw05.RdataTypes', WHERE WHAT IT READS IS OF BULK AT MOST 1048576: true; the input reads as it did. -/
def rdataTypesUptoRow : OpenClaim := { program := "ytaehonmfoanloaa", sum := "1be83036d41b22cfb285b53f99f2ce16c565d58df1dda84478963bbd22093790", func := "ddi/ddilaw05.RdataTypes", spec := "rdataTypes", apart := false, narrowed := true }
def RdataTypesUptoSaid : Prop := rdataTypesUptoRow.holds Try.pinned (OpenSpec.upto rdataTypesSpec)

/-- 'ddilaw05.RdataSets', WHERE WHAT IT READS IS OF BULK AT MOST 1048576: true; the input reads as it did. -/
def rdataSetsUptoRow : OpenClaim := { program := "ytaehonmfoanloaa", sum := "1be83036d41b22cfb285b53f99f2ce16c565d58df1dda84478963bbd22093790", func := "ddi/ddilaw05.RdataSets", spec := "rdataSets", apart := false, narrowed := true }
def RdataSetsUptoSaid : Prop := rdataSetsUptoRow.holds Try.pinned (OpenSpec.upto rdataSetsSpec)

/-- 'ddilaw05.RdataLists', WHERE WHAT IT READS IS OF BULK AT MOST 1048576: true; the input reads as it did. -/
def rdataListsUptoRow : OpenClaim := { program := "ytaehonmfoanloaa", sum := "1be83036d41b22cfb285b53f99f2ce16c565d58df1dda84478963bbd22093790", func := "ddi/ddilaw05.RdataLists", spec := "rdataLists", apart := false, narrowed := true }
def RdataListsUptoSaid : Prop := rdataListsUptoRow.holds Try.pinned (OpenSpec.upto rdataListsSpec)

end Rows
end Go.Proofs.Ytaehonmfoanloaa
