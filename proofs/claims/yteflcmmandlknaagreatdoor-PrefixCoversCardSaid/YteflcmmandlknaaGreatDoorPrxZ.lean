/-
  The zero bits at the end of an address, and the address behind an address. Conditions: each theorem's own.
-/
import Derived.Test.YteflcmmandlknaaGreatDoorPAx9
import Derived.Lib.TrailingZeros
import Derived.Test.YteflcmmandlknaaGreatDoorPrxS
namespace Go.Proofs.YteflcmmandlknaaGreatDoor.PrxZ
open Go.RowKit Go.Proofs.YteflcmmandlknaaGreatDoorW.PrintWords Go.Proofs.YteflcmmandlknaaGreatDoor.Num Go.Proofs.YteflcmmandlknaaGreatDoor.PrxN Go.Proofs.YteflcmmandlknaaGreatDoor.PrxS Go.Proofs.YteflcmmandlknaaGreatDoor.PA
set_option linter.unusedVariables false
set_option linter.unusedSimpArgs false
set_option maxRecDepth 100000

theorem ctz_dvd (f x : Nat) (h0 : 0 < x) (h : x < 2 ^ f) : Lib.ctz f x < f ∧ ∀ j, x % 2 ^ j = 0 ↔ j ≤ Lib.ctz f x := by
  have e : Lib.ctz f x = Lib.ctzFrom f x := if_neg (by omega)
  obtain ⟨m, hm, hk⟩ := Lib.ctzFrom_spec f x h0 h
  rw [e]
  refine ⟨hk, fun j => ?_⟩
  generalize Lib.ctzFrom f x = k at *
  constructor
  · intro hz
    apply Nat.le_of_not_lt
    intro hlt
    obtain ⟨d, rfl⟩ : ∃ d, j = k + 1 + d := ⟨j - k - 1, by omega⟩
    have h1 : 2 ^ (k + 1) ∣ x := Nat.dvd_trans ⟨2 ^ d, by rw [← Nat.pow_add]⟩ (Nat.dvd_of_mod_eq_zero hz)
    obtain ⟨c, hc⟩ := h1
    rw [hm, Nat.pow_succ, Nat.mul_assoc] at hc
    have := Nat.eq_of_mul_eq_mul_left (Nat.pow_pos (by decide)) hc
    omega
  · intro hle
    obtain ⟨d, rfl⟩ : ∃ d, k = j + d := ⟨k - j, by omega⟩
    rw [hm, Nat.pow_add, Nat.mul_assoc]
    exact Nat.mul_mod_right _ _
theorem tz_eq (x : Nat) (h : x < 18446744073709551616) : bits_TrailingZeros64.f (x : Int) = some ((Lib.ctz 64 x : Nat) : Int) := by
  unfold bits_TrailingZeros64.f
  rw [if_pos (by omega), Int.toNat_natCast]
theorem zeros_of (v : Bool) (hi lo c d l : Int) (t1 : bits_TrailingZeros64.f lo = some c) (t2 : bits_TrailingZeros64.f hi = some d) (hl : prefix_length.f v hi lo = some l) : prefix_zeros.f v hi lo = if c = 64 then some (mn (wrap64 (c + d)) l) else some (mn c l) := by
  unfold prefix_zeros.f prefix_value.f
  show (bits_TrailingZeros64.f lo).bind _ = _
  rw [t1]
  show (if c = 64 then (bits_TrailingZeros64.f hi).bind _ else _) = _
  rw [t2, hl]
  rfl
theorem zeros_eq (v : Bool) (N : Nat) (h : N < 2 ^ L v) : ∃ z : Nat, prefix_zeros.f v (iH N) (iL N) = some (z : Int) ∧ z ≤ L v ∧ ∀ j, j ≤ L v → (N % 2 ^ j = 0 ↔ j ≤ z) := by
  have hM := pow_L v
  have hN8 : N < M128 := by omega
  have e64 : (2 : Nat) ^ 64 = 18446744073709551616 := by decide
  have hl := length_eq v (iH N) (iL N)
  have hL := L_le v
  have t1 : bits_TrailingZeros64.f (iL N) = some ((Lib.ctz 64 (N % 18446744073709551616) : Nat) : Int) := tz_eq _ (l_lt N)
  have t2 : bits_TrailingZeros64.f (iH N) = some ((Lib.ctz 64 (N / 18446744073709551616) : Nat) : Int) := tz_eq _ (h_lt hN8)
  have e0 : prefix_zeros.f v (iH N) (iL N) = if ((Lib.ctz 64 (N % 18446744073709551616) : Nat) : Int) = 64 then some (mn (wrap64 (((Lib.ctz 64 (N % 18446744073709551616) : Nat) : Int) + ((Lib.ctz 64 (N / 18446744073709551616) : Nat) : Int))) (L v : Int)) else some (mn ((Lib.ctz 64 (N % 18446744073709551616) : Nat) : Int) (L v : Int)) :=
    zeros_of _ _ _ _ _ _ t1 t2 hl
  rw [e0]
  by_cases hz : N % 18446744073709551616 = 0
  · have c1 : Lib.ctz 64 (N % 18446744073709551616) = 64 := by rw [hz]; rfl
    rw [c1, if_pos (show ((64 : Nat) : Int) = 64 from rfl)]
    by_cases hz2 : N / 18446744073709551616 = 0
    · have c2 : Lib.ctz 64 (N / 18446744073709551616) = 64 := by rw [hz2]; rfl
      have h0 : N = 0 := by omega
      rw [c2]
      refine ⟨L v, ?_, Nat.le_refl _, fun j hj => ?_⟩
      · refine congrArg some ?_
        rw [wrap64_id (by decide) (by decide)]
        unfold mn
        by_cases q : (L v : Int) < ((64 : Nat) : Int) + ((64 : Nat) : Int)
        · rw [if_pos q]
        · rw [if_neg q]; omega
      · rw [h0, Nat.zero_mod]
        exact ⟨fun _ => hj, fun _ => rfl⟩
    · obtain ⟨k1, k2⟩ := ctz_dvd 64 (N / 18446744073709551616) (by omega) (by rw [e64]; exact h_lt hN8)
      generalize Lib.ctz 64 (N / 18446744073709551616) = c at *
      have hv6 : L v = 128 := by
        cases v
        · have : (2 : Nat) ^ L false = 4294967296 := by decide
          omega
        · rfl
      refine ⟨64 + c, ?_, by omega, fun j hj => ?_⟩
      · refine congrArg some ?_
        rw [wrap64_id (by omega) (by omega)]
        unfold mn
        rw [if_neg (by omega)]
        omega
      · have e : N = N / 18446744073709551616 * 2 ^ 64 := by rw [e64]; omega
        by_cases q : j ≤ 64
        · refine ⟨fun _ => by omega, fun _ => ?_⟩
          obtain ⟨d, hd⟩ : ∃ d, 64 = j + d := ⟨64 - j, by omega⟩
          rw [e, hd, Nat.pow_add, ← Nat.mul_assoc, Nat.mul_right_comm]
          exact Nat.mul_mod_left _ _
        · obtain ⟨d, rfl⟩ : ∃ d, j = d + 64 := ⟨j - 64, by omega⟩
          rw [e, Nat.pow_add, Nat.mul_mod_mul_right]
          have := k2 d
          constructor
          · intro w
            have hp : 0 < 2 ^ 64 := by decide
            have := this.mp (by rcases Nat.mul_eq_zero.mp w with w | w; exact w; omega)
            omega
          · intro w
            rw [this.mpr (by omega), Nat.zero_mul]
  · obtain ⟨k1, k2⟩ := ctz_dvd 64 (N % 18446744073709551616) (by omega) (by rw [e64]; exact l_lt N)
    generalize Lib.ctz 64 (N % 18446744073709551616) = c at *
    rw [if_neg (by omega)]
    have hmod : ∀ j, j ≤ 64 → (N % 2 ^ j = 0 ↔ j ≤ c) := fun j hj => by
      rw [← k2 j]
      have : N % 2 ^ j = N % 18446744073709551616 % 2 ^ j := by
        rw [Nat.mod_mod_of_dvd _ (show 2 ^ j ∣ 18446744073709551616 from ⟨2 ^ (64 - j), by rw [← Nat.pow_add, show j + (64 - j) = 64 by omega]⟩)]
      rw [this]
    have hcL : c ≤ L v := by
      cases v
      · apply Nat.le_of_not_lt
        intro q
        have hL0 : L false = 32 := rfl
        have := (hmod 32 (by decide)).mpr (by omega)
        have e32 : (2 : Nat) ^ L false = 2 ^ 32 := rfl
        rw [e32] at h
        rw [Nat.mod_eq_of_lt h] at this
        subst this
        exact hz (Nat.zero_mod _)
      · have : L true = 128 := rfl
        omega
    refine ⟨c, ?_, hcL, fun j hj => ?_⟩
    · refine congrArg some ?_
      unfold mn
      by_cases q : (L v : Int) < (c : Int)
      · rw [if_pos q]; omega
      · rw [if_neg q]
    · by_cases q : j ≤ 64
      · exact hmod j q
      · refine ⟨fun w => ?_, fun w => by omega⟩
        exfalso
        have h1 : N % 2 ^ 64 = 0 := by
          have hd : 2 ^ 64 ∣ 2 ^ j := ⟨2 ^ (j - 64), by rw [← Nat.pow_add, show 64 + (j - 64) = j by omega]⟩
          exact Nat.mod_eq_zero_of_dvd (Nat.dvd_trans hd (Nat.dvd_of_mod_eq_zero w))
        rw [e64] at h1
        exact hz h1
def AddS (v : Bool) (N : Nat) : Bool × Int × Int × Bool := if N + 1 < 2 ^ L v then (v, iH (N + 1), iL (N + 1), true) else (false, 0, 0, false)
theorem Add1_eq (v : Bool) (N : Nat) (h : N < 2 ^ L v) : addr_Add.f v (iH N) (iL N) 1 = some (AddS v N) := by
  have hM := pow_L v
  have hN8 : N < M128 := by omega
  unfold addr_Add.f AddS
  rw [addr_Valid_eq v N hN8, decide_eq_true h]
  simp only [Option.bind_some, if_true]
  have eL : (iL N).toNat = N % 18446744073709551616 := by unfold iL; omega
  have eH : (iH N).toNat = N / 18446744073709551616 := by unfold iH; omega
  have ec : Ext.add64c (iL N) 1 0 = (((N % 18446744073709551616 + 1) / 18446744073709551616 : Nat) : Int) := by
    unfold Ext.add64c
    rw [eL]
    rfl
  have es : Ext.add64s (iL N) 1 0 = iL (N + 1) := by
    unfold Ext.add64s iL
    rw [show (((N % 18446744073709551616 : Nat) : Int)).toNat = N % 18446744073709551616 by omega, show (1 : Int).toNat = 1 from rfl, show (0 : Int).toNat = 0 from rfl]
    omega
  have hc1 : Ext.add64c (iL N) 1 0 ≤ 1 := by rw [ec]; omega
  have ecN : (Ext.add64c (iL N) 1 0).toNat = (N % 18446744073709551616 + 1) / 18446744073709551616 := by rw [ec]; omega
  have ed : Ext.add64c (iH N) 0 (Ext.add64c (iL N) 1 0) = (((N + 1) / 340282366920938463463374607431768211456 : Nat) : Int) := by
    unfold Ext.add64c at ecN ⊢
    rw [ecN, eH, show (0 : Int).toNat = 0 from rfl]
    omega
  have et : N + 1 < M128 → Ext.add64s (iH N) 0 (Ext.add64c (iL N) 1 0) = iH (N + 1) := fun q => by
    unfold Ext.add64s
    rw [ecN, eH, show (0 : Int).toNat = 0 from rfl]
    unfold M128 at q
    unfold iH
    omega
  rw [if_pos hc1, ed, es]
  by_cases q : N + 1 < M128
  · rw [et q, if_pos (by unfold M128 at q; omega), addr_Valid_eq v (N + 1) q]
    simp only [Option.bind_some, decide_eq_true_eq]
    by_cases q2 : N + 1 < 2 ^ L v
    · rw [if_pos q2, if_pos q2]
    · rw [if_neg q2, if_neg q2]
  · rw [if_neg (by unfold M128 at q; omega), if_neg (by omega)]
end Go.Proofs.YteflcmmandlknaaGreatDoor.PrxZ
