/-
  The law PrefixHalves, told with numbers. Conditions: each theorem's own.
-/
import Derived.Test.YteflcmmandlknaaDoorPAx13
import Derived.Test.YteflcmmandlknaaDoorPAx17
import Derived.Test.YteflcmmandlknaaDoorPrxH
namespace Go.Proofs.YteflcmmandlknaaDoor.PrxHl
open Go.RowKit Go.Proofs.YteflcmmandlknaaDoorW.PrintWords Go.Proofs.YteflcmmandlknaaDoor.Num Go.Proofs.YteflcmmandlknaaDoor.Bits Go.Proofs.YteflcmmandlknaaDoor.PrxN Go.Proofs.YteflcmmandlknaaDoor.PrxS Go.Proofs.YteflcmmandlknaaDoor.PrxT Go.Proofs.YteflcmmandlknaaDoor.PrxH Go.Proofs.YteflcmmandlknaaDoor.PA
set_option linter.unusedVariables false
set_option linter.unusedSimpArgs false
set_option maxRecDepth 100000

/-- A prefix with halves: its number is q times the width of two halves. -/
theorem halves_form {v : Bool} {N : Nat} {b : Int} (h : VP v N b) (hb : b + 1 ≤ (L v : Int)) :
    ∃ s q B, L v - (b + 1).toNat = s ∧ L v - b.toNat = s + 1 ∧ B = 2 ^ s ∧ 0 < B ∧ 2 ^ (s + 1) = 2 * B ∧ N = 2 * B * q ∧ N + 2 * B ≤ 2 ^ L v := by
  obtain ⟨h1, h2, h3, h4⟩ := h
  refine ⟨L v - (b + 1).toNat, N / 2 ^ (L v - b.toNat), 2 ^ (L v - (b + 1).toNat), rfl, by omega, rfl, Nat.pow_pos (by decide), by rw [Nat.pow_succ]; omega, ?_, ?_⟩
  · have e := Nat.div_add_mod N (2 ^ (L v - b.toNat))
    rw [h4, Nat.add_zero] at e
    have e2 : 2 ^ (L v - b.toNat) = 2 * 2 ^ (L v - (b + 1).toNat) := by
      rw [show L v - b.toNat = (L v - (b + 1).toNat) + 1 by omega, Nat.pow_succ]; omega
    rw [← e2]
    exact e.symm
  · have e2 : 2 ^ (L v - b.toNat) = 2 * 2 ^ (L v - (b + 1).toNat) := by
      rw [show L v - b.toNat = (L v - (b + 1).toNat) + 1 by omega, Nat.pow_succ]; omega
    have e3 : 2 ^ L v = 2 ^ (L v - b.toNat) * 2 ^ b.toNat := by
      rw [← Nat.pow_add]; congr 1; omega
    rw [← e2]
    have e := Nat.div_add_mod N (2 ^ (L v - b.toNat))
    rw [h4, Nat.add_zero] at e
    have hlt : N / 2 ^ (L v - b.toNat) < 2 ^ b.toNat := by
      rw [Nat.div_lt_iff_lt_mul (Nat.pow_pos (by decide)), Nat.mul_comm, ← e3]
      exact h1
    rw [e3]
    generalize 2 ^ (L v - b.toNat) = p at *
    generalize N / p = q at *
    rw [← e]
    calc p * q + p = p * (q + 1) := by rw [Nat.mul_add, Nat.mul_one]
      _ ≤ p * 2 ^ b.toNat := Nat.mul_le_mul_left _ hlt
section
variable {K0 : Nat} (haw : ∀ m, K0 ≤ m → ddilaw03_awake.f m = some true)
include haw
theorem halves_no (n : Nat) (hn : K0 ≤ n) (v : Bool) (N : Nat) (b : Int) (va : Bool) (A : Nat) (g : N < M128) (h : ¬ (VP v N b ∧ b + 1 ≤ (L v : Int))) : ddilaw03_PrefixHalves.f (n + 2) v (iH N) (iL N) b va (iH A) (iL A) = some true := by
  unfold ddilaw03_PrefixHalves.f
  have e : HalvesS v N b = _ := if_neg h
  rw [Halves_eq n v N b g, e, Size_eq v N b g, Valid_eq v N b g, haw _ (by omega)]
  simp only [Option.bind_some]
  rw [if_neg (by decide), if_pos (by decide), if_pos (by decide)]
  by_cases c : VP v N b
  · rw [decide_eq_true c, if_pos rfl]
    have hb : ¬ b + 1 ≤ (L v : Int) := fun q => h ⟨c, q⟩
    have c1 := c.2.2.1
    have e2 : L v - b.toNat = 0 := by omega
    have es : SizeS v N b = (((2 ^ (L v - b.toNat) : Nat) : Int), true) := if_pos ⟨c, by omega⟩
    rw [es, e2]
    rfl
  · rw [decide_eq_false c]
    rfl
theorem halves_yes (n : Nat) (hn : K0 ≤ n) (v : Bool) (N : Nat) (b : Int) (va : Bool) (A : Nat) (g : N < M128) (ga : A < M128) (h : VP v N b) (hb : b + 1 ≤ (L v : Int)) : ddilaw03_PrefixHalves.f (n + 5) v (iH N) (iL N) b va (iH A) (iL A) = some true := by
  obtain ⟨s, q, B, e1, e2, rfl, hB, e4, hN, hle⟩ := halves_form h hb
  have hL := L_le v
  have hpL := pow_L v
  have h0 := h.2.1
  have hy : halfN v N b 1 = N + 2 ^ s := by unfold halfN; rw [e1]; omega
  have gy : N + 2 ^ s < M128 := by omega
  have hx1 : VP v N (b + 1) := ⟨h.1, by omega, hb, by rw [e1, hN, Nat.mul_comm 2, Nat.mul_assoc]; exact Nat.mul_mod_right _ _⟩
  have hy1 : VP v (N + 2 ^ s) (b + 1) := ⟨by omega, by omega, hb, by rw [e1, Nat.add_mod_right]; have := hx1.2.2.2; rwa [e1] at this⟩
  have d1 : N / 2 ^ s = 2 * q := by
    rw [hN, Nat.mul_comm 2, Nat.mul_assoc]
    exact Nat.mul_div_cancel_left _ hB
  have d2 : (N + 2 ^ s) / 2 ^ s = 2 * q + 1 := by rw [Nat.add_div_right _ hB, d1]
  have dd : ∀ M, M / 2 ^ (s + 1) = M / 2 ^ s / 2 := fun M => by rw [Nat.pow_succ, Nat.div_div_eq_div_mul]
  have eo : HalvesS v N b = (v, iH N, iL N, b + 1, v, iH (halfN v N b 1), iL (halfN v N b 1), b + 1, true) := if_pos ⟨h, hb⟩
  have o1 : ¬ WI v N (b + 1) v (N + 2 ^ s) (b + 1) := fun w => by
    rw [wi_iff hx1 hy1, e1, d1, d2] at w
    omega
  have o2 : ¬ WI v (N + 2 ^ s) (b + 1) v N (b + 1) := fun w => by
    rw [wi_iff hy1 hx1, e1, d1, d2] at w
    omega
  have w1 : WI v N (b + 1) v N b := by
    rw [wi_iff hx1 h]
    exact ⟨by omega, rfl, rfl⟩
  have w2 : WI v (N + 2 ^ s) (b + 1) v N b := by
    rw [wi_iff hy1 h, e2, dd, dd, d1, d2]
    exact ⟨by omega, rfl, by omega⟩
  have hc : cmpP v N (b + 1) v (N + 2 ^ s) (b + 1) = -1 := by
    unfold cmpP cmpA
    rw [if_pos rfl, if_pos (show N < N + 2 ^ s by omega)]
    rfl
  have c1 : CT v N (b + 1) va A ↔ v = va ∧ A < 2 ^ L v ∧ A / 2 ^ s = 2 * q := by rw [ct_iff hx1, e1, d1]
  have c2 : CT v (N + 2 ^ s) (b + 1) va A ↔ v = va ∧ A < 2 ^ L v ∧ A / 2 ^ s = 2 * q + 1 := by rw [ct_iff hy1, e1, d2]
  have c3 : CT v N b va A ↔ v = va ∧ A < 2 ^ L v ∧ A / 2 ^ s / 2 = q := by rw [ct_iff h, e2, dd, dd, d1, Nat.mul_div_cancel_left _ (by decide)]
  have hp0 : ∀ k, prefix_Part.f (k + 2) v (iH N) (iL N) b (b + 1) 0 = some (v, iH N, iL N, b + 1, true) := fun k => by
    have hd : (b + 1 - b).toNat = 1 := by omega
    have e := Part_eq k v N b (b + 1) 0 g (by decide)
    have e' : PartS v N b (b + 1) 0 = _ := if_pos ⟨h, by omega, hb, by rw [hd]; decide⟩
    rw [e', Nat.zero_mul, Nat.add_zero] at e
    exact e
  have hp1 : ∀ k, prefix_Part.f (k + 2) v (iH N) (iL N) b (b + 1) 1 = some (v, iH (N + 2 ^ s), iL (N + 2 ^ s), b + 1, true) := fun k => by
    have hd : (b + 1 - b).toNat = 1 := by omega
    have e := Part_eq k v N b (b + 1) 1 g (by decide)
    have e' : PartS v N b (b + 1) 1 = _ := if_pos ⟨h, by omega, hb, by rw [hd]; decide⟩
    rw [e', Nat.one_mul, e1] at e
    exact e
  have hp2 : ∀ k, prefix_Part.f (k + 2) v (iH N) (iL N) b (b + 1) 2 = some (false, 0, 0, 0, false) := fun k => by
    have hd : (b + 1 - b).toNat = 1 := by omega
    have e := Part_eq k v N b (b + 1) 2 g (by decide)
    have e' : PartS v N b (b + 1) 2 = _ := if_neg (fun w => by have := w.2.2.2; rw [hd] at this; exact absurd this (by decide))
    rw [e'] at e
    exact e
  have hj1 : ddilaw03_PrefixHalves.j1 (n + 4) false v (iH N) (iL N) b v (iH N) (iL N) (b + 1) v (iH (N + 2 ^ s)) (iL (N + 2 ^ s)) (b + 1) = some true := by
    simp only [ddilaw03_PrefixHalves.j1, Bool.false_eq_true, if_false]
    rw [wrap64_id (by omega) (by omega), hp0 (n + 1), hp1 (n + 1), hp2 (n + 1), Size_eq v N b g, Size_eq v N (b + 1) g, haw (n + 3) (by omega)]
    simp only [Option.bind_some, if_true, Bool.false_eq_true, if_false, beq_self_eq_true, Bool.and_self, Bool.and_true]
    by_cases k : s + 1 < 64
    · have s1 : SizeS v N b = (((2 ^ (L v - b.toNat) : Nat) : Int), true) := if_pos ⟨h, by omega⟩
      have s2 : SizeS v N (b + 1) = (((2 ^ (L v - (b + 1).toNat) : Nat) : Int), true) := if_pos ⟨hx1, by omega⟩
      rw [s1, s2, e1, e2]
      have hlt := two_pow_lt k
      simp only [if_true]
      rw [if_pos]
      rw [wrap_u64, e4]
      rw [e4] at hlt
      omega
    · have s1 : SizeS v N b = (0, false) := if_neg (fun w => by omega)
      rw [s1]
      simp only [Bool.false_eq_true, if_false]
  unfold ddilaw03_PrefixHalves.f
  rw [Halves_eq (n + 3) v N b g, eo, hy]
  simp only [Option.bind_some, if_true]
  rw [Overlap_eq v N (b + 1) v (N + 2 ^ s) (b + 1) g gy, Within_eq v N (b + 1) v N b g g, Within_eq v (N + 2 ^ s) (b + 1) v N b gy g, decide_eq_false (fun w => w.elim o1 o2), decide_eq_true w1, decide_eq_true w2, cmpP_eq, hc]
  simp only [Option.bind_some, if_true, Bool.false_eq_true, if_false]
  have hd : decide ((-1 : Int) ≥ 0) = false := by decide
  rw [hd]
  simp only [ddilaw03_PrefixHalves.j0, Bool.false_eq_true, if_false]
  rw [Contains_eq v N (b + 1) va A g ga, Contains_eq v (N + 2 ^ s) (b + 1) va A gy ga, Contains_eq v N b va A g ga]
  simp only [Option.bind_some]
  by_cases k1 : CT v N (b + 1) va A
  · have k2 : ¬ CT v (N + 2 ^ s) (b + 1) va A := fun w => by
      have a1 := (c1.mp k1).2.2
      have a2 := (c2.mp w).2.2
      omega
    have k3 : CT v N b va A := by
      obtain ⟨a1, a2, a3⟩ := c1.mp k1
      exact c3.mpr ⟨a1, a2, by omega⟩
    rw [decide_eq_true k1, decide_eq_false k2, decide_eq_true k3]
    exact hj1
  · by_cases k2 : CT v (N + 2 ^ s) (b + 1) va A
    · have k3 : CT v N b va A := by
        obtain ⟨a1, a2, a3⟩ := c2.mp k2
        exact c3.mpr ⟨a1, a2, by omega⟩
      rw [decide_eq_false k1, decide_eq_true k2, decide_eq_true k3]
      exact hj1
    · have k3 : ¬ CT v N b va A := fun w => by
        obtain ⟨a1, a2, a3⟩ := c3.mp w
        rcases (show A / 2 ^ s = 2 * q ∨ A / 2 ^ s = 2 * q + 1 by omega) with z | z
        · exact k1 (c1.mpr ⟨a1, a2, z⟩)
        · exact k2 (c2.mpr ⟨a1, a2, z⟩)
      rw [decide_eq_false k1, decide_eq_false k2, decide_eq_false k3]
      exact hj1
end
end Go.Proofs.YteflcmmandlknaaDoor.PrxHl
