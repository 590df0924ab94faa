/-
  What Of, Contains, Within, Overlap and Compare of the program answer, told with numbers. Conditions: each theorem's own.
-/
import Derived.Test.YteflcmmandlknaaGreatDoorPAx14
import Derived.Test.YteflcmmandlknaaGreatDoorPAx15
import Derived.Test.YteflcmmandlknaaGreatDoorPrxS
namespace Go.Proofs.YteflcmmandlknaaGreatDoor.PrxS
open Go.RowKit Go.Proofs.YteflcmmandlknaaGreatDoorW.PrintWords Go.Proofs.YteflcmmandlknaaGreatDoor.Num Go.Proofs.YteflcmmandlknaaGreatDoor.Bits Go.Proofs.YteflcmmandlknaaGreatDoor.PrxN Go.Proofs.YteflcmmandlknaaGreatDoor.PA
set_option linter.unusedVariables false
set_option linter.unusedSimpArgs false

theorem Of_eq (v : Bool) (N : Nat) (b : Int) (h : N < M128) : prefix_Of.f v (iH N) (iL N) b = some (OfS v N b) := by
  unfold prefix_Of.f OfS
  rw [addr_Valid_eq v N h]
  simp only [Option.bind_some, decide_eq_true_eq]
  by_cases c1 : N < 2 ^ L v
  · rw [if_pos c1]
    by_cases c2 : b < 0
    · rw [if_pos c2, if_neg (fun q => by omega)]
    · rw [if_neg c2, length_eq]
      simp only [Option.bind_some]
      by_cases c3 : b > (L v : Int)
      · rw [if_pos c3, if_neg (fun q => by omega)]
      · rw [if_neg c3, if_pos ⟨c1, by omega, by omega⟩]
        obtain ⟨n, rfl⟩ : ∃ n : Nat, b = (n : Int) := ⟨b.toNat, by omega⟩
        rw [later_eq v n (by omega)]
        simp only [Option.bind_some]
        have hk : L v - n ≤ 128 := by have := L_le v; omega
        obtain ⟨e1, e2⟩ := andNot_i h hk
        rw [e1, e2, show (n : Int).toNat = n by omega]
  · rw [if_neg c1, if_neg (fun q => c1 q.1)]
theorem Contains_eq (v : Bool) (N : Nat) (b : Int) (v' : Bool) (M : Nat) (h : N < M128) (g : M < M128) : prefix_Contains.f v (iH N) (iL N) b v' (iH M) (iL M) = some (decide (CT v N b v' M)) := by
  unfold prefix_Contains.f
  rw [Valid_eq v N b h]
  simp only [Option.bind_some, decide_eq_true_eq]
  by_cases c1 : VP v N b
  · rw [if_pos c1]
    by_cases c2 : v = v'
    · subst c2
      rw [if_neg (by simp), Of_eq v M b g]
      simp only [Option.bind_some]
      by_cases c3 : M < 2 ^ L v
      · have e : OfS v M b = (v, iH (M - M % 2 ^ (L v - b.toNat)), iL (M - M % 2 ^ (L v - b.toNat)), b, true) := if_pos ⟨c3, c1.2.1, c1.2.2.1⟩
        rw [e]
        simp only [if_true]
        congr 1
        by_cases c4 : M - M % 2 ^ (L v - b.toNat) = N
        · rw [c4, decide_eq_true (show CT v N b v M from ⟨c1, rfl, c3, c4⟩)]
          simp
        · rw [decide_eq_false (fun q => c4 q.2.2.2)]
          simp only [beq_self_eq_true, Bool.true_and, Bool.and_true]
          cases hq : ((iH (M - M % 2 ^ (L v - b.toNat)) == iH N) && (iL (M - M % 2 ^ (L v - b.toNat)) == iL N))
          · rfl
          · simp only [Bool.and_eq_true, beq_iff_eq] at hq
            exact absurd (i_inj hq.1 hq.2) c4
      · have e : OfS v M b = (false, 0, 0, 0, false) := if_neg (fun q => c3 q.1)
        rw [e]
        simp only [Bool.false_eq_true, if_false]
        congr 1
        symm
        exact decide_eq_false (fun q => c3 q.2.2.1)
    · rw [if_pos (by simp [c2])]
      congr 1
      symm
      exact decide_eq_false (fun q => c2 q.2.1)
  · rw [if_neg c1]
    congr 1
    symm
    exact decide_eq_false (fun q => c1 q.1)
theorem Within_eq (v : Bool) (N : Nat) (b : Int) (v' : Bool) (M : Nat) (b' : Int) (h : N < M128) (g : M < M128) : prefix_Within.f v (iH N) (iL N) b v' (iH M) (iL M) b' = some (decide (WI v N b v' M b')) := by
  unfold prefix_Within.f
  rw [Valid_eq v N b h, Valid_eq v' M b' g, Contains_eq v' M b' v N g h]
  simp only [Option.bind_some, decide_eq_true_eq]
  by_cases c1 : VP v N b
  · rw [if_pos c1]
    by_cases c2 : VP v' M b'
    · rw [if_pos c2]
      by_cases c3 : b ≥ b'
      · rw [if_pos c3]
        congr 1
        apply decide_eq_decide.mpr
        exact ⟨fun q => ⟨c1, c2, c3, q⟩, fun q => q.2.2.2⟩
      · rw [if_neg c3]
        congr 1
        symm
        exact decide_eq_false (fun q => c3 q.2.2.1)
    · rw [if_neg c2]
      congr 1
      symm
      exact decide_eq_false (fun q => c2 q.2.1)
  · rw [if_neg c1]
    congr 1
    symm
    exact decide_eq_false (fun q => c1 q.1)
theorem Overlap_eq (v : Bool) (N : Nat) (b : Int) (v' : Bool) (M : Nat) (b' : Int) (h : N < M128) (g : M < M128) : prefix_Overlap.f v (iH N) (iL N) b v' (iH M) (iL M) b' = some (decide (WI v N b v' M b' ∨ WI v' M b' v N b)) := by
  unfold prefix_Overlap.f
  rw [Within_eq v N b v' M b' h g, Within_eq v' M b' v N b g h]
  simp only [Option.bind_some, decide_eq_true_eq]
  by_cases c1 : WI v N b v' M b'
  · rw [if_pos c1, decide_eq_true (Or.inl c1)]
  · rw [if_neg c1]
    congr 1
    apply decide_eq_decide.mpr
    exact ⟨Or.inr, fun q => q.resolve_left c1⟩
theorem cmpP_eq (k : Nat) (v : Bool) (N : Nat) (b : Int) (v' : Bool) (M : Nat) (b' : Int) : prefix_Compare.f (k + 1) v (iH N) (iL N) b v' (iH M) (iL M) b' = some (cmpP v N b v' M b') := by
  unfold prefix_Compare.f cmpP
  rw [cmpA_eq]
  simp only [Option.bind_some]
  by_cases h : cmpA v N v' M = 0
  · rw [if_pos h, if_pos h]
    by_cases h1 : b < b'
    · rw [if_pos h1, if_pos h1]
    · rw [if_neg h1, if_neg h1]
      by_cases h2 : b > b'
      · rw [if_pos h2, if_pos h2]
      · rw [if_neg h2, if_neg h2]
  · rw [if_neg h, if_neg h]
end Go.Proofs.YteflcmmandlknaaGreatDoor.PrxS
