/-
  No cell of these rows narrows 'for every input' (looked for: loops, veiled, ifaces, maps, wideKeys, modest, calm, conditions, laid).
  DERIVED. THE GIVEN ROWS OF THIS SEAT. 4 by the template 'for every input the law returns true; each argument reads behind the call as it read before'; 0 by the template 'total and deterministic' (their statements: YtmkgjibmfabbdaaTotals.lean).
  GIVEN WITH THE SEED: the statements are not yours to turn. If you find one false, say at which input.
  Laid BY PROGRAM, IN A SANDBOX (cutbox-rows.mjs): the forced cells as the released guide's own fill.sh prints them over the translation 4c1fa9e363319f1b… (all of the seat's roots in one cut). By AI agents, Wed Nov 11 2026. No macro, syntax, notation, axiom, sorry.
-/
import Derived.Test.YtmkgjibmfabbdaaChecked
import GoSem.Claim
import GoSem.ClaimJoined
import GoSem.ClaimMapViews
import Derived.JoinedTies
import Derived.KernelRfl
namespace Go.Proofs.Ytmkgjibmfabbdaa
/- THE CELL 'sum', in the pinned program and in every row, IS THE sha256 OF THE DUMP (.gsa) THAT YtmkgjibmfabbdaaProg.lean LOADS. Nothing in Lean hashes anything: it is a label: what it is worth is what the hold of that sum in a sandbox is worth. -/
noncomputable def Try.pinned : Pinned := { name := "ytmkgjibmfabbdaa", sum := "4c1fa9e363319f1b64f205b4d195c68511172e58290fdadee0a9a69c082e9f39", checked := Try.checked }
namespace Rows
def none {H : Type} : Left H := { results := [], args := [] }

/-- 'ddilaw02.AddrOrder': WHATEVER THE INPUT: true; the input reads as it did. -/
def addrOrderSpec : ChangeSpec := { name := "addrOrder", fn := fun _ => fun
  | [d] => { results := [.lit (.bool true)], args := [d] }
  | _ => none }
def addrOrderRow : OpenClaim := { program := "ytmkgjibmfabbdaa", sum := "4c1fa9e363319f1b64f205b4d195c68511172e58290fdadee0a9a69c082e9f39", func := "ddi/ddilaw02.AddrOrder", spec := "addrOrder", apart := false }
def AddrOrderSaid : Prop := addrOrderRow.holds Try.pinned (OpenSpec.ofChange addrOrderSpec)

/-- ITS FALSE NEIGHBOUR: 'it returns false'. Refute it at one input. -/
def addrOrderWrong : ChangeSpec := { name := "addrOrder", fn := fun _ => fun
  | [d] => { results := [.lit (.bool false)], args := [d] }
  | _ => none }
def AddrOrderWrongFalsely : Prop := addrOrderRow.holds Try.pinned (OpenSpec.ofChange addrOrderWrong)

/-- 'ddilaw02.AddrBytes': WHATEVER THE INPUT: true; the input reads as it did. -/
def addrBytesSpec : ChangeSpec := { name := "addrBytes", fn := fun _ => fun
  | [d1, d2] => { results := [.lit (.bool true)], args := [d1, d2] }
  | _ => none }
def addrBytesRow : OpenClaim := { program := "ytmkgjibmfabbdaa", sum := "4c1fa9e363319f1b64f205b4d195c68511172e58290fdadee0a9a69c082e9f39", func := "ddi/ddilaw02.AddrBytes", spec := "addrBytes", apart := false }
def AddrBytesSaid : Prop := addrBytesRow.holds Try.pinned (OpenSpec.ofChange addrBytesSpec)

/-- ITS FALSE NEIGHBOUR: 'it returns false'. Refute it at one input. -/
def addrBytesWrong : ChangeSpec := { name := "addrBytes", fn := fun _ => fun
  | [d1, d2] => { results := [.lit (.bool false)], args := [d1, d2] }
  | _ => none }
def AddrBytesWrongFalsely : Prop := addrBytesRow.holds Try.pinned (OpenSpec.ofChange addrBytesWrong)

/-- 'ddilaw02.AddrCounts': WHATEVER THE INPUT: true; the input reads as it did. -/
def addrCountsSpec : ChangeSpec := { name := "addrCounts", fn := fun _ => fun
  | [d1, d2, d3] => { results := [.lit (.bool true)], args := [d1, d2, d3] }
  | _ => none }
def addrCountsRow : OpenClaim := { program := "ytmkgjibmfabbdaa", sum := "4c1fa9e363319f1b64f205b4d195c68511172e58290fdadee0a9a69c082e9f39", func := "ddi/ddilaw02.AddrCounts", spec := "addrCounts", inPlace := ["math/bits.Add64", "math/bits.Sub64"], apart := false }
def AddrCountsSaid : Prop := addrCountsRow.holds Try.pinned (OpenSpec.ofChange addrCountsSpec)

/-- ITS FALSE NEIGHBOUR: 'it returns false'. Refute it at one input. -/
def addrCountsWrong : ChangeSpec := { name := "addrCounts", fn := fun _ => fun
  | [d1, d2, d3] => { results := [.lit (.bool false)], args := [d1, d2, d3] }
  | _ => none }
def AddrCountsWrongFalsely : Prop := addrCountsRow.holds Try.pinned (OpenSpec.ofChange addrCountsWrong)

/-- 'ddilaw02.AddrSteps': WHATEVER THE INPUT: true; the input reads as it did. -/
def addrStepsSpec : ChangeSpec := { name := "addrSteps", fn := fun _ => fun
  | [d1, d2, d3] => { results := [.lit (.bool true)], args := [d1, d2, d3] }
  | _ => none }
def addrStepsRow : OpenClaim := { program := "ytmkgjibmfabbdaa", sum := "4c1fa9e363319f1b64f205b4d195c68511172e58290fdadee0a9a69c082e9f39", func := "ddi/ddilaw02.AddrSteps", spec := "addrSteps", inPlace := ["math/bits.Sub64", "math/bits.Add64"], apart := false }
def AddrStepsSaid : Prop := addrStepsRow.holds Try.pinned (OpenSpec.ofChange addrStepsSpec)

/-- ITS FALSE NEIGHBOUR: 'it returns false'. Refute it at one input. -/
def addrStepsWrong : ChangeSpec := { name := "addrSteps", fn := fun _ => fun
  | [d1, d2, d3] => { results := [.lit (.bool false)], args := [d1, d2, d3] }
  | _ => none }
def AddrStepsWrongFalsely : Prop := addrStepsRow.holds Try.pinned (OpenSpec.ofChange addrStepsWrong)

/- THE SECOND FORM. 'bulk': how many values and letters a reading holds, each counted each time it is reached (what is shared counts as often as it is met; a slice's spare places count too). A statement '..UptoSaid' is the law's where the arguments, and the package variables that the reading takes, are together of bulk at most 1048576: NARROWER than '..Said'. Prove '..Said' where nothing that the law and all that it calls make is longer than what came in: it says more and counts as full. Else prove '..UptoSaid'. A law counts once. -/
mutual
def uptoBulk {H : Type} : DataW H → Nat
  | .lit (.string bytes) => bytes.length + 1
  | .lit _ => 1
  | .nil => 1
  | .ptr d => uptoBulk d + 1
  | .slice elems spare => uptoBulkAll elems + uptoBulkAll spare + 1
  | .agg parts => uptoBulkAll parts + 1
  | .iface _ d => uptoBulk d + 1
  | .map entries => uptoBulkEntries entries + 1
  | .held _ => 1
def uptoBulkAll {H : Type} : List (DataW H) → Nat
  | [] => 0
  | d :: r => uptoBulk d + uptoBulkAll r
def uptoBulkEntries {H : Type} : List (Lit × DataW H) → Nat
  | [] => 0
  | x :: r => uptoBulkEntry x + uptoBulkEntries r
def uptoBulkEntry {H : Type} : Lit × DataW H → Nat
  | (.string bytes, d) => bytes.length + uptoBulk d + 1
  | (_, d) => uptoBulk d + 1
 end
def uptoSmall : (H : Type) → List (DataW H) → Bool := fun _ ds => decide (uptoBulkAll ds ≤ 1048576)
def OpenSpec.upto (s : _root_.Go.ChangeSpec) : _root_.Go.OpenSpec := { _root_.Go.OpenSpec.ofChange s with cond := some uptoSmall }

/-- 'ddilaw02.AddrOrder', WHERE WHAT IT READS IS OF BULK AT MOST 1048576: true; the input reads as it did. -/
def addrOrderUptoRow : OpenClaim := { program := "ytmkgjibmfabbdaa", sum := "4c1fa9e363319f1b64f205b4d195c68511172e58290fdadee0a9a69c082e9f39", func := "ddi/ddilaw02.AddrOrder", spec := "addrOrder", apart := false, narrowed := true }
def AddrOrderUptoSaid : Prop := addrOrderUptoRow.holds Try.pinned (OpenSpec.upto addrOrderSpec)

/-- 'ddilaw02.AddrBytes', WHERE WHAT IT READS IS OF BULK AT MOST 1048576: true; the input reads as it did. -/
def addrBytesUptoRow : OpenClaim := { program := "ytmkgjibmfabbdaa", sum := "4c1fa9e363319f1b64f205b4d195c68511172e58290fdadee0a9a69c082e9f39", func := "ddi/ddilaw02.AddrBytes", spec := "addrBytes", apart := false, narrowed := true }
def AddrBytesUptoSaid : Prop := addrBytesUptoRow.holds Try.pinned (OpenSpec.upto addrBytesSpec)

/-- 'ddilaw02.AddrCounts', WHERE WHAT IT READS IS OF BULK AT MOST 1048576: true; the input reads as it did. -/
def addrCountsUptoRow : OpenClaim := { program := "ytmkgjibmfabbdaa", sum := "4c1fa9e363319f1b64f205b4d195c68511172e58290fdadee0a9a69c082e9f39", func := "ddi/ddilaw02.AddrCounts", spec := "addrCounts", inPlace := ["math/bits.Add64", "math/bits.Sub64"], apart := false, narrowed := true }
def AddrCountsUptoSaid : Prop := addrCountsUptoRow.holds Try.pinned (OpenSpec.upto addrCountsSpec)

/-- 'ddilaw02.AddrSteps', WHERE WHAT IT READS IS OF BULK AT MOST 1048576: true; the input reads as it did. -/
def addrStepsUptoRow : OpenClaim := { program := "ytmkgjibmfabbdaa", sum := "4c1fa9e363319f1b64f205b4d195c68511172e58290fdadee0a9a69c082e9f39", func := "ddi/ddilaw02.AddrSteps", spec := "addrSteps", inPlace := ["math/bits.Sub64", "math/bits.Add64"], apart := false, narrowed := true }
def AddrStepsUptoSaid : Prop := addrStepsUptoRow.holds Try.pinned (OpenSpec.upto addrStepsSpec)

end Rows
end Go.Proofs.Ytmkgjibmfabbdaa
