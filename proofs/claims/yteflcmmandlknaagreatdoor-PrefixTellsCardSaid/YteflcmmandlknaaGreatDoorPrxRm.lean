/-
  What the order of the reference answers, told with numbers. Conditions: each theorem's own.
-/
import Derived.Test.YteflcmmandlknaaGreatDoorPAx14
import Derived.Test.YteflcmmandlknaaGreatDoorPrxR
namespace Go.Proofs.YteflcmmandlknaaGreatDoor.PrxR
open Go.RowKit Go.Proofs.YteflcmmandlknaaGreatDoorW.PrintWords Go.Proofs.YteflcmmandlknaaGreatDoor.Num Go.Proofs.YteflcmmandlknaaGreatDoor.Bits Go.Proofs.YteflcmmandlknaaGreatDoor.PrxN Go.Proofs.YteflcmmandlknaaGreatDoor.PrxS Go.Proofs.YteflcmmandlknaaGreatDoor.PrxT Go.Proofs.YteflcmmandlknaaGreatDoor.PA
set_option linter.unusedVariables false
set_option linter.unusedSimpArgs false
set_option maxRecDepth 100000

theorem RcmpA_eq (v : Bool) (N : Nat) (v' : Bool) (M : Nat) : ddiref02_Compare.f v (iH N) (iL N) v' (iH M) (iL M) = some (cmpA v N v' M) := by
  unfold ddiref02_Compare.f cmpA
  cases v <;> cases v' <;> simp
  all_goals
    unfold iH iL
    by_cases c : ((N / 18446744073709551616 : Nat) : Int) = ((M / 18446744073709551616 : Nat) : Int)
    · rw [c]
      simp
      by_cases d : N < M
      · rw [if_pos d, if_pos (by omega)]
      · rw [if_neg d, if_neg (by omega)]
        by_cases e : M < N
        · rw [if_pos e, if_pos (by omega)]
        · rw [if_neg e, if_neg (by omega)]
    · rw [if_neg (by omega)]
      by_cases d : N < M
      · rw [if_pos d, if_pos (by omega)]
      · rw [if_neg d, if_neg (by omega), if_pos (by omega)]
end Go.Proofs.YteflcmmandlknaaGreatDoor.PrxR
