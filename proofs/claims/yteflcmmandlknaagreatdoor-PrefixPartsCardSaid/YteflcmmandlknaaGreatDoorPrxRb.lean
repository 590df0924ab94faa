/-
  What the bounds of the reference answer, told with numbers. Conditions: each theorem's own.
-/
import Derived.Test.YteflcmmandlknaaGreatDoorPAx17
import Derived.Test.YteflcmmandlknaaGreatDoorPrxR
namespace Go.Proofs.YteflcmmandlknaaGreatDoor.PrxR
open Go.RowKit Go.Proofs.YteflcmmandlknaaGreatDoorW.PrintWords Go.Proofs.YteflcmmandlknaaGreatDoor.Num Go.Proofs.YteflcmmandlknaaGreatDoor.Bits Go.Proofs.YteflcmmandlknaaGreatDoor.PrxN Go.Proofs.YteflcmmandlknaaGreatDoor.PrxS Go.Proofs.YteflcmmandlknaaGreatDoor.PrxT Go.Proofs.YteflcmmandlknaaGreatDoor.PA
set_option linter.unusedVariables false
set_option linter.unusedSimpArgs false
set_option maxRecDepth 100000

theorem RBounds_ev (v : Bool) (N : Nat) (b : Int) (h : N < M128) : Ev (fun k => ddiref03_Bounds.f k v (iH N) (iL N) b) (BoundsS v N b) := by
  have hL := L_le v
  unfold ddiref03_Bounds.f BoundsS
  refine Ev.bind (RValid_ev v N b h) ?_
  by_cases c1 : VP v N b
  · rw [if_pos c1]
    refine ev_if_pos (decide_eq_true c1) (ev_bind_const (long_eq v) ?_)
    obtain ⟨h1, h2, h3, h4⟩ := c1
    obtain ⟨n, rfl⟩ : ∃ n : Nat, b = (n : Int) := ⟨b.toNat, by omega⟩
    have hn : n ≤ L v := by omega
    rw [w_len hn]
    refine Ev.bind (ones_ev (L v - n) (by omega)) ?_
    rw [Int.toNat_natCast] at h4
    have hp : 0 < 2 ^ (L v - n) := Nat.pow_pos (by decide)
    obtain ⟨a1, a2⟩ := add_i (k := L v - n) (m := 2 ^ (L v - n) - 1) h (by omega) h4 (by omega)
    refine ev_const ?_
    show some (v, iH N, iL N, v, IntKind.u64.wrap (iH N + iH (2 ^ (L v - n) - 1)), IntKind.u64.wrap (iL N + iL (2 ^ (L v - n) - 1)), true) = _
    rw [a1, a2]
    unfold lastN
    rw [Int.toNat_natCast]
  · rw [if_neg c1]
    refine ev_if_neg (by rw [decide_eq_false c1]; decide) ?_
    exact Ev.now _
end Go.Proofs.YteflcmmandlknaaGreatDoor.PrxR
