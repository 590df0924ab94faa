/-
  What the size of the reference answers, told with numbers. Conditions: each theorem's own.
-/
import Derived.Test.YteflcmmandlknaaGreatDoorPAx18
import Derived.Test.YteflcmmandlknaaGreatDoorPrxR
namespace Go.Proofs.YteflcmmandlknaaGreatDoor.PrxR
open Go.RowKit Go.Proofs.YteflcmmandlknaaGreatDoorW.PrintWords Go.Proofs.YteflcmmandlknaaGreatDoor.Num Go.Proofs.YteflcmmandlknaaGreatDoor.Bits Go.Proofs.YteflcmmandlknaaGreatDoor.PrxN Go.Proofs.YteflcmmandlknaaGreatDoor.PrxS Go.Proofs.YteflcmmandlknaaGreatDoor.PrxT Go.Proofs.YteflcmmandlknaaGreatDoor.PA
set_option linter.unusedVariables false
set_option linter.unusedSimpArgs false
set_option maxRecDepth 100000

theorem RSize_ev (v : Bool) (N : Nat) (b : Int) (h : N < M128) : Ev (fun k => ddiref03_Size.f k v (iH N) (iL N) b) (SizeS v N b) := by
  have hL := L_le v
  have hbad : ¬ (VP v N b ∧ L v - b.toNat < 64) → Ev (fun k => ddiref03_Size.j0 k true v (iH N) (iL N) b) (SizeS v N b) := fun q => by
    have e : SizeS v N b = _ := if_neg q
    rw [e]
    refine Ev.step (fun k => by rw [ddiref03_Size.j0]) ?_
    refine ev_if_pos rfl ?_
    exact Ev.now _
  unfold ddiref03_Size.f
  refine Ev.bind (RValid_ev v N b h) ?_
  by_cases c1 : VP v N b
  · refine ev_if_pos (decide_eq_true c1) (ev_bind_const (long_eq v) ?_)
    obtain ⟨h1, h2, h3, h4⟩ := id c1
    obtain ⟨n, rfl⟩ : ∃ n : Nat, b = (n : Int) := ⟨b.toNat, by omega⟩
    have hn : n ≤ L v := by omega
    rw [w_len hn]
    by_cases c2 : ((L v - n : Nat) : Int) > 63
    · rw [decide_eq_true c2]
      refine hbad (fun q => ?_)
      have := q.2
      rw [Int.toNat_natCast] at this
      omega
    · rw [decide_eq_false c2]
      refine Ev.step (fun k => by rw [ddiref03_Size.j0]) ?_
      refine ev_if_neg (by decide) (ev_bind_const (long_eq v) ?_)
      rw [w_len hn]
      refine Ev.bind (ones_ev (L v - n) (by omega)) ?_
      have e : SizeS v N (n : Int) = _ := if_pos ⟨c1, by rw [Int.toNat_natCast]; omega⟩
      rw [e, Int.toNat_natCast]
      refine ev_const ?_
      show some (IntKind.u64.wrap (iL (2 ^ (L v - n) - 1) + 1), true) = _
      have hlt := two_pow_lt (show L v - n < 64 by omega)
      have hp : 0 < 2 ^ (L v - n) := Nat.pow_pos (by decide)
      have ew : IntKind.u64.wrap (iL (2 ^ (L v - n) - 1) + 1) = ((2 ^ (L v - n) : Nat) : Int) := by
        rw [wrap_u64]
        unfold iL
        generalize 2 ^ (L v - n) = p at *
        omega
      rw [ew]
  · exact ev_if_neg (by rw [decide_eq_false c1]; decide) (hbad (fun q => c1 q.1))
end Go.Proofs.YteflcmmandlknaaGreatDoor.PrxR
