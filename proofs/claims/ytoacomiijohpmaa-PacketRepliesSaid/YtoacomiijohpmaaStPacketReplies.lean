/-
  The plain statement of the law PacketReplies: what its printed function answers. Conditions: the sizes and ranges that its arguments have.
-/
import Derived.Test.YtoacomiijohpmaaPx6
import Derived.Test.YtoacomiijohpmaaOpen
namespace Go.Proofs.Ytoacomiijohpmaa
open Go.RowKit Go.Proofs.YtoacomiijohpmaaW.PrintWords Go.Proofs.YtoacomiijohpmaaW.PrintLast
/-- The sizes and ranges in a value of the struct type 34. -/
def StPacketReplies.B34 (x : P.S34) : Prop := True ∧ (Lit.int .u64 x.f1).wf = true ∧ (Lit.int .u64 x.f2).wf = true
/-- The sizes and ranges in a value of the struct type 36. -/
def StPacketReplies.B36 (x : P.S36) : Prop := StPacketReplies.B34 x.f0 ∧ x.f1.size ≤ 140737488351232 ∧ x.f2.size ≤ 140737488351232 ∧ x.f3.size ≤ 140737488351232 ∧ (Lit.int .i64 x.f4).wf = true ∧ (Lit.int .i64 x.f5).wf = true ∧ (Lit.int .i64 x.f6).wf = true ∧ (Lit.int .i64 x.f7).wf = true ∧ (Lit.int .i64 x.f8).wf = true ∧ (Lit.int .i64 x.f9).wf = true ∧ (Lit.int .u64 x.f10).wf = true
/-- The sizes and ranges in a value of the struct type 38. -/
def StPacketReplies.B38 (x : P.S38) : Prop := x.f0.size ≤ 140737488351232 ∧ (Lit.int .i64 x.f1).wf = true ∧ (Lit.int .i64 x.f2).wf = true ∧ StPacketReplies.B36 x.f3
def StPacketReplies.Pure : Prop := ∀ (a0_0 : Int) (a0_1 : Int) (a0_2 : Int) (a0_3 : Bool) (a0_4 : Bool) (a0_5 : Bool) (a0_6 : Bool) (a0_7 : Bool) (a0_8 : Bool) (a0_9 : Bool) (a0_10 : Bool) (a0_11 : Int) (a0_12 : ByteArray) (a0_13 : Int) (l0_14 : List (P.S38)) (l0_15 : List (P.S38)) (l0_16 : List (P.S38)) (a1 : Int), (Lit.int .i64 a0_0).wf = true → (Lit.int .i64 a0_1).wf = true → (Lit.int .i64 a0_2).wf = true → (Lit.int .i64 a0_11).wf = true → a0_12.size ≤ 140737488351232 → (Lit.int .i64 a0_13).wf = true → (Open.SliceB (Try.prog.bytesOf 38) StPacketReplies.B38) l0_14 → (Open.SliceB (Try.prog.bytesOf 38) StPacketReplies.B38) l0_15 → (Open.SliceB (Try.prog.bytesOf 38) StPacketReplies.B38) l0_16 → (Lit.int .i64 a1).wf = true → ∃ k, P.ddilaw08_PacketReplies.f k a0_0 a0_1 a0_2 a0_3 a0_4 a0_5 a0_6 a0_7 a0_8 a0_9 a0_10 a0_11 a0_12 a0_13 l0_14 l0_15 l0_16 a1 = some true
end Go.Proofs.Ytoacomiijohpmaa
