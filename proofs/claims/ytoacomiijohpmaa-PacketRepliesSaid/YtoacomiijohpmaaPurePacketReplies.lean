/-
  Reply and Space of package packet answer what their references answer: the plain statement of PacketReplies. Conditions: none beyond the row's.
-/
import Derived.Test.YtoacomiijohpmaaStPacketReplies
namespace Go.Proofs.Ytoacomiijohpmaa.Pure
open Go.RowKit Go.Proofs.YtoacomiijohpmaaW.PrintWords Go.Proofs.Ytoacomiijohpmaa.P
theorem records_nil (k : Nat) : ddilaw08_records.f (k + 1) [] [] = some true := by
  simp [ddilaw08_records.f, ddilaw08_records.l0]
theorem same_refl (k : Nat) (a0 a1 a2 : Int) (b3 b4 b5 b6 b7 b8 b9 b10 : Bool) (a11 : Int) (s : ByteArray) (a13 : Int) :
    ddilaw08_same.f (k + 3) a0 a1 a2 b3 b4 b5 b6 b7 b8 b9 b10 a11 s a13 [] [] [] a0 a1 a2 b3 b4 b5 b6 b7 b8 b9 b10 a11 s a13 [] [] [] = some true := by
  simp [ddilaw08_same.f, ddilaw08_same.j0, ddilaw08_same.j1, records_nil]
theorem reply_eq (a0 a1 a2 : Int) (b3 b4 b5 b6 b7 b8 b9 b10 : Bool) (a11 : Int) (s : ByteArray) (a13 : Int) (x y z : List S38) (c : Int) :
    packet_Reply.f a0 a1 a2 b3 b4 b5 b6 b7 b8 b9 b10 a11 s a13 x y z c = some (a0, a1, c, true, false, false, b6, false, false, b9, b10, if a11 = 0 then 0 else 1232, s, a13, [], [], []) := by
  unfold packet_Reply.f
  split <;> simp_all
theorem ref_reply_eq (a0 a1 a2 : Int) (b3 b4 b5 b6 b7 b8 b9 b10 : Bool) (a11 : Int) (s : ByteArray) (a13 : Int) (x y z : List S38) (c : Int) :
    ddiref08_Reply.f a0 a1 a2 b3 b4 b5 b6 b7 b8 b9 b10 a11 s a13 x y z c = some (a0, a1, c, true, false, false, b6, false, false, b9, b10, if a11 = 0 then 0 else 1232, s, a13, [], [], []) := by
  unfold ddiref08_Reply.f
  split <;> simp_all
theorem space_eq (a0 a1 a2 : Int) (b3 b4 b5 b6 b7 b8 b9 b10 : Bool) (a11 : Int) (s : ByteArray) (a13 : Int) (x y z : List S38) :
    packet_Space.f a0 a1 a2 b3 b4 b5 b6 b7 b8 b9 b10 a11 s a13 x y z = ddiref08_Space.f a0 a1 a2 b3 b4 b5 b6 b7 b8 b9 b10 a11 s a13 x y z := by
  unfold packet_Space.f ddiref08_Space.f mx
  repeat' split
  all_goals first | rfl | (exfalso; omega) | (congr 1; omega)
theorem space_some (a0 a1 a2 : Int) (b3 b4 b5 b6 b7 b8 b9 b10 : Bool) (a11 : Int) (s : ByteArray) (a13 : Int) (x y z : List S38) :
    ddiref08_Space.f a0 a1 a2 b3 b4 b5 b6 b7 b8 b9 b10 a11 s a13 x y z = some (mx 512 a11) :=
  (space_eq a0 a1 a2 b3 b4 b5 b6 b7 b8 b9 b10 a11 s a13 x y z).symm.trans rfl
theorem PacketReplies : StPacketReplies.Pure := by
  intro a0 a1 a2 b3 b4 b5 b6 b7 b8 b9 b10 a11 s a13 x y z c _ _ _ _ _ _ _ _ _ _
  refine ⟨5, ?_⟩
  have h0 : mx 512 0 = 512 := rfl
  simp only [ddilaw08_PacketReplies.f, ddilaw08_PacketReplies.j0, reply_eq, ref_reply_eq, space_eq, space_some, h0, Option.bind_some]
  simp [same_refl 1]
end Go.Proofs.Ytoacomiijohpmaa.Pure
