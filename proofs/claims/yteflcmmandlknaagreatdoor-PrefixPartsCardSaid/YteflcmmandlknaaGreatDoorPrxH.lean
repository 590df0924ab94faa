/-
  The parts of a prefix and its halves, told with numbers. Conditions: each theorem's own.
-/
import Derived.Test.YteflcmmandlknaaGreatDoorPAx6
import Derived.Test.YteflcmmandlknaaGreatDoorPAx7
import Derived.Test.YteflcmmandlknaaGreatDoorPrxT
namespace Go.Proofs.YteflcmmandlknaaGreatDoor.PrxH
open Go.RowKit Go.Proofs.YteflcmmandlknaaGreatDoorW.PrintWords Go.Proofs.YteflcmmandlknaaGreatDoor.Num Go.Proofs.YteflcmmandlknaaGreatDoor.Bits Go.Proofs.YteflcmmandlknaaGreatDoor.PrxN Go.Proofs.YteflcmmandlknaaGreatDoor.PrxS Go.Proofs.YteflcmmandlknaaGreatDoor.PrxT Go.Proofs.YteflcmmandlknaaGreatDoor.PA
set_option linter.unusedVariables false
set_option linter.unusedSimpArgs false

theorem shl_nat (i s : Nat) (hs : s ≤ 64) : shl .u64 (i : Int) (s : Int) = ((i * 2 ^ s % 18446744073709551616 : Nat) : Int) := by
  unfold shl
  have e : min (s : Int).toNat IntKind.u64.bits = s := by
    have : IntKind.u64.bits = 64 := rfl
    rw [this]; omega
  rw [e, wrap_u64]
  have h2 : ((2 ^ s : Nat) : Int) = (2 : Int) ^ s := by simp
  rw [← h2, ← Int.natCast_mul]
  omega
/-- A number shifted into place, by its words. -/
theorem sh_hi (i s : Nat) (h : 64 ≤ s) : iH (i * 2 ^ s) = ((i * 2 ^ (s - 64) : Nat) : Int) ∧ iL (i * 2 ^ s) = 0 := by
  have e : i * 2 ^ s = (i * 2 ^ (s - 64)) * 18446744073709551616 := by
    rw [show (18446744073709551616 : Nat) = 2 ^ 64 by decide, Nat.mul_assoc, ← Nat.pow_add, show s - 64 + 64 = s by omega]
  rw [e]
  unfold iH iL
  omega
theorem sh_lo (i s : Nat) (h : s ≤ 64) : iH (i * 2 ^ s) = ((i / 2 ^ (64 - s) : Nat) : Int) ∧ iL (i * 2 ^ s) = ((i * 2 ^ s % 18446744073709551616 : Nat) : Int) := by
  have e : i * 2 ^ s / 18446744073709551616 = i / 2 ^ (64 - s) := by
    have : (18446744073709551616 : Nat) = 2 ^ (64 - s) * 2 ^ s := by
      rw [← Nat.pow_add, show 64 - s + s = 64 by omega]
    rw [this, Nat.mul_div_mul_right _ _ (Nat.pow_pos (by decide))]
  unfold iH iL
  rw [e]
  exact ⟨rfl, rfl⟩
def PartS (v : Bool) (N : Nat) (b n : Int) (i : Nat) : Bool × Int × Int × Int × Bool :=
  if VP v N b ∧ b ≤ n ∧ n ≤ (L v : Int) ∧ i < 2 ^ (n - b).toNat then (v, iH (N + i * 2 ^ (L v - n.toNat)), iL (N + i * 2 ^ (L v - n.toNat)), n, true) else (false, 0, 0, 0, false)
theorem place_lt {v : Bool} {b n : Int} {i : Nat} (h0 : 0 ≤ b) (h1 : b ≤ n) (h2 : n ≤ (L v : Int)) (hi : i < 2 ^ (n - b).toNat) : i * 2 ^ (L v - n.toNat) < 2 ^ (L v - b.toNat) := by
  have e : 2 ^ (L v - b.toNat) = 2 ^ (n - b).toNat * 2 ^ (L v - n.toNat) := by
    rw [← Nat.pow_add]
    congr 1
    omega
  rw [e]
  exact Nat.mul_lt_mul_of_pos_right hi (Nat.pow_pos (by decide))
theorem j1_eq (k : Nat) (v : Bool) (N : Nat) (b n : Int) (i : Nat) (h : N < M128) (hi : i < 18446744073709551616) (hv : VP v N b) (h1 : b ≤ n) (h2 : n ≤ (L v : Int)) (h3 : i < 2 ^ (n - b).toNat) : prefix_Part.j1 (k + 1) n (i : Int) false v (iH N) (iL N) b = some (PartS v N b n i) := by
  have hp : PartS v N b n i = (v, iH (N + i * 2 ^ (L v - n.toNat)), iL (N + i * 2 ^ (L v - n.toNat)), n, true) := if_pos ⟨hv, h1, h2, h3⟩
  rw [hp]
  have hl := place_lt hv.2.1 h1 h2 h3
  have h0 := hv.2.1
  obtain ⟨m, rfl⟩ : ∃ m : Nat, n = (m : Int) := ⟨n.toNat, by omega⟩
  have hL := L_le v
  have hk : L v - b.toNat ≤ 128 := by omega
  obtain ⟨o1, o2⟩ := or_i h hk hv.2.2.2 hl
  simp only [Int.toNat_natCast] at o1 o2 hl ⊢
  simp only [prefix_Part.j1, Bool.false_eq_true, if_false, length_eq, Option.bind_some]
  have e : IntKind.u64.wrap (wrap64 ((L v : Int) - (m : Int))) = ((L v - m : Nat) : Int) := by
    rw [u_id (by omega) (by omega)]
    omega
  rw [e]
  generalize hs : L v - m = s at *
  have hs8 : s ≤ 128 := by omega
  by_cases c1 : (s : Int) ≥ 64
  · rw [if_pos c1]
    have e2 : IntKind.u64.wrap ((s : Int) - 64) = ((s - 64 : Nat) : Int) := by
      rw [wrap_u64]
      omega
    obtain ⟨q1, q2⟩ := sh_hi i s (by omega)
    rw [e2, if_pos (by omega), shl_nat _ _ (by omega)]
    have hb : i * 2 ^ (s - 64) < 18446744073709551616 := by
      have hM : i * 2 ^ s < M128 := Nat.lt_of_lt_of_le hl (by rw [M128_eq]; exact Nat.pow_le_pow_right (by decide) hk)
      have := u64_H hM
      rw [q1] at this
      unfold U64 at this
      omega
    rw [Nat.mod_eq_of_lt hb, ← q1, o1]
    rw [q2] at o2
    rw [o2]
  · rw [if_neg c1]
    obtain ⟨q1, q2⟩ := sh_lo i s (by omega)
    by_cases c2 : (s : Int) > 0
    · have e2 : IntKind.u64.wrap (64 - (s : Int)) = ((64 - s : Nat) : Int) := by
        rw [wrap_u64]
        omega
      rw [if_pos c2, e2, if_pos (by omega), if_pos (by omega), shl_nat _ _ (by omega), shr_nat (by omega), Nat.shiftRight_eq_div_pow, ← q1, ← q2, o1, o2]
    · have : s = 0 := by omega
      subst this
      rw [if_neg c2]
      rw [Nat.pow_zero, Nat.mul_one] at q1 q2 o1 o2 ⊢
      have z1 : iH i = 0 := by unfold iH; omega
      have z2 : iL i = (i : Int) := by unfold iL; omega
      rw [z1] at o1
      rw [z2] at o2
      rw [o1, o2]
theorem Part_eq (k : Nat) (v : Bool) (N : Nat) (b n : Int) (i : Nat) (h : N < M128) (hi : i < 18446744073709551616) : prefix_Part.f (k + 2) v (iH N) (iL N) b n (i : Int) = some (PartS v N b n i) := by
  have hno : ¬ (VP v N b ∧ b ≤ n ∧ n ≤ (L v : Int) ∧ i < 2 ^ (n - b).toNat) → PartS v N b n i = (false, 0, 0, 0, false) := fun q => if_neg q
  have hbad : ∀ k, prefix_Part.j0 (k + 1) n (i : Int) true v (iH N) (iL N) b = some (false, 0, 0, 0, false) := fun k => by simp only [prefix_Part.j0, if_true]
  unfold prefix_Part.f
  rw [Valid_eq v N b h]
  simp only [Option.bind_some, decide_eq_true_eq]
  by_cases c1 : VP v N b
  · rw [if_pos c1]
    by_cases c2 : n < b
    · rw [if_pos c2, hbad, hno (fun q => by omega)]
    · rw [if_neg c2, length_eq]
      simp only [Option.bind_some]
      by_cases c3 : n > (L v : Int)
      · rw [decide_eq_true c3, hbad, hno (fun q => by omega)]
      · rw [decide_eq_false c3]
        have h0 := c1.2.1
        have hL := L_le v
        simp only [prefix_Part.j0, Bool.false_eq_true, if_false]
        rw [wrap64_id (by omega) (by omega)]
        obtain ⟨d, hd⟩ : ∃ d : Nat, n - b = (d : Int) := ⟨(n - b).toNat, by omega⟩
        have hj := j1_eq k v N b n i h hi c1 (by omega) (by omega)
        rw [hd, Int.toNat_natCast] at hj hno
        rw [hd]
        by_cases c4 : (d : Int) < 64
        · rw [if_pos c4]
          have e : IntKind.u64.wrap (d : Int) = (d : Int) := by
            rw [wrap_u64]
            omega
          rw [e, if_pos (by omega), shr_nat (by omega), Nat.shiftRight_eq_div_pow]
          by_cases c5 : i < 2 ^ d
          · have z : i / 2 ^ d = 0 := Nat.div_eq_of_lt c5
            rw [z]
            exact hj c5
          · have z : 0 < i / 2 ^ d := Nat.div_pos (by omega) (Nat.pow_pos (by decide))
            have hb : ((((i / 2 ^ d : Nat) : Int)) != 0) = true := by
              rw [bne_iff_ne]
              omega
            rw [hb, hno (fun q => c5 q.2.2.2)]
            simp only [prefix_Part.j1, if_true]
        · rw [if_neg c4]
          refine hj ?_
          have : 2 ^ 64 ≤ 2 ^ d := Nat.pow_le_pow_right (by decide) (by omega)
          have e64 : (2 : Nat) ^ 64 = 18446744073709551616 := by decide
          omega
  · rw [if_neg c1, hbad, hno (fun q => c1 q.1)]
/-- Half number i. -/
def halfN (v : Bool) (N : Nat) (b : Int) (i : Nat) : Nat := N + i * 2 ^ (L v - (b + 1).toNat)
def HalvesS (v : Bool) (N : Nat) (b : Int) : Bool × Int × Int × Int × Bool × Int × Int × Int × Bool :=
  if VP v N b ∧ b + 1 ≤ (L v : Int) then (v, iH N, iL N, b + 1, v, iH (halfN v N b 1), iL (halfN v N b 1), b + 1, true) else (false, 0, 0, 0, false, 0, 0, 0, false)
theorem Halves_eq (k : Nat) (v : Bool) (N : Nat) (b : Int) (h : N < M128) : prefix_Halves.f (k + 2) v (iH N) (iL N) b = some (HalvesS v N b) := by
  have p0 := fun n => Part_eq k v N b n 0 h (by decide)
  have p1 := fun n => Part_eq k v N b n 1 h (by decide)
  unfold prefix_Halves.f
  have e0 : ((0 : Nat) : Int) = 0 := rfl
  have e1 : ((1 : Nat) : Int) = 1 := rfl
  simp only [e0, e1] at p0 p1
  rw [p0, p1, Valid_eq v N b h]
  simp only [Option.bind_some]
  by_cases c : VP v N b ∧ b + 1 ≤ (L v : Int)
  · obtain ⟨c1, c2⟩ := c
    have h0 := c1.2.1
    have hL := L_le v
    rw [wrap64_id (by omega) (by omega)]
    have hd : (b + 1 - b).toNat = 1 := by omega
    have q0 : PartS v N b (b + 1) 0 = (v, iH N, iL N, b + 1, true) := by
      have : PartS v N b (b + 1) 0 = _ := if_pos ⟨c1, by omega, c2, by rw [hd]; decide⟩
      rw [this, Nat.zero_mul, Nat.add_zero]
    have q1 : PartS v N b (b + 1) 1 = (v, iH (halfN v N b 1), iL (halfN v N b 1), b + 1, true) := if_pos ⟨c1, by omega, c2, by rw [hd]; decide⟩
    have q2 : HalvesS v N b = _ := if_pos ⟨c1, c2⟩
    rw [q0, q1, q2, decide_eq_true c1]
    simp only [if_true]
  · have q2 : HalvesS v N b = _ := if_neg c
    rw [q2]
    by_cases c1 : VP v N b
    · have h0 := c1.2.1
      have h9 := c1.2.2.1
      have hL := L_le v
      rw [wrap64_id (by omega) (by omega)]
      have q0 : PartS v N b (b + 1) 0 = (false, 0, 0, 0, false) := if_neg (fun q => c ⟨c1, q.2.2.1⟩)
      rw [q0]
      simp only [Bool.false_eq_true, if_false]
    · have q0 : PartS v N b (wrap64 (b + 1)) 0 = (false, 0, 0, 0, false) := if_neg (fun q => c1 q.1)
      rw [q0]
      simp only [Bool.false_eq_true, if_false]
end Go.Proofs.YteflcmmandlknaaGreatDoor.PrxH
