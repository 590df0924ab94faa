/-
  Numbers of 128 bits in two words: the low bits, what is left without them, what is set with them. Conditions: each theorem's own.
-/
import Derived.Test.YteflcmmandlknaaGreatDoorBits
namespace Go.Proofs.YteflcmmandlknaaGreatDoor.PrxN
open Go.RowKit Go.Proofs.YteflcmmandlknaaGreatDoorW.PrintWords Go.Proofs.YteflcmmandlknaaGreatDoor.Num Go.Proofs.YteflcmmandlknaaGreatDoor.Bits
set_option linter.unusedVariables false
set_option linter.unusedSimpArgs false

def W : Nat := 18446744073709551616
theorem W_eq : W = 2 ^ 64 := by decide
/-- The low k bits, in two words. -/
def lowH (k : Nat) : Nat := if k ≤ 64 then 0 else 2 ^ (k - 64) - 1
def lowL (k : Nat) : Nat := if k < 64 then 2 ^ k - 1 else 18446744073709551615
theorem lowL_and (x k : Nat) (h : x < 18446744073709551616) : x &&& lowL k = if k < 64 then x % 2 ^ k else x := by
  unfold lowL
  by_cases hk : k < 64
  · rw [if_pos hk, if_pos hk]
    exact Nat.and_two_pow_sub_one_eq_mod x k
  · rw [if_neg hk, if_neg hk]
    have := Nat.and_two_pow_sub_one_eq_mod x 64
    rw [show (2 : Nat) ^ 64 - 1 = 18446744073709551615 by decide] at this
    rw [this, Nat.mod_eq_of_lt h]
theorem lowH_and (x k : Nat) : x &&& lowH k = if k ≤ 64 then 0 else x % 2 ^ (k - 64) := by
  unfold lowH
  by_cases hk : k ≤ 64
  · rw [if_pos hk, if_pos hk, Nat.and_zero]
  · rw [if_neg hk, if_neg hk]
    exact Nat.and_two_pow_sub_one_eq_mod x _
/-- The number's low k bits, by its words. -/
theorem tot_mod (h l k : Nat) (hl : l < 18446744073709551616) : (h * 18446744073709551616 + l) % 2 ^ k = if k ≤ 64 then l % 2 ^ k else (h % 2 ^ (k - 64)) * 18446744073709551616 + l := by
  by_cases hk : k ≤ 64
  · rw [if_pos hk]
    have e : (18446744073709551616 : Nat) = 2 ^ k * 2 ^ (64 - k) := by
      rw [← Nat.pow_add, show k + (64 - k) = 64 by omega]
    rw [e, ← Nat.mul_assoc, Nat.mul_comm (h * 2 ^ k), ← Nat.mul_assoc, Nat.mul_comm (2 ^ (64 - k) * h), Nat.mul_add_mod]
  · rw [if_neg hk]
    have e : 2 ^ k = 18446744073709551616 * 2 ^ (k - 64) := by
      rw [show (18446744073709551616 : Nat) = 2 ^ 64 by decide, ← Nat.pow_add, show 64 + (k - 64) = k by omega]
    rw [e, Nat.mod_mul]
    have e1 : (h * 18446744073709551616 + l) % 18446744073709551616 = l := by omega
    have e2 : (h * 18446744073709551616 + l) / 18446744073709551616 = h := by omega
    rw [e1, e2]
    omega
theorem and_high (a k : Nat) (ha : a < 18446744073709551616) (hk : k ≤ 64) : a &&& (18446744073709551615 - (2 ^ k - 1)) = a / 2 ^ k * 2 ^ k := by
  apply Nat.eq_of_testBit_eq
  intro i
  have hp : 2 ^ k - 1 < 2 ^ 64 := by
    have : 2 ^ k ≤ 2 ^ 64 := Nat.pow_le_pow_right (by decide) hk
    have : 0 < 2 ^ k := Nat.pow_pos (by decide)
    omega
  have e : 18446744073709551615 - (2 ^ k - 1) = 2 ^ 64 - (2 ^ k - 1 + 1) := by
    rw [show (2 : Nat) ^ 64 = 18446744073709551616 by decide]
    omega
  rw [Nat.testBit_and, e, Nat.testBit_two_pow_sub_succ hp, Nat.testBit_two_pow_sub_one, Nat.testBit_mul_two_pow, Nat.testBit_div_two_pow]
  by_cases h1 : i < k
  · have hki : ¬ k ≤ i := by omega
    simp [h1, hki]
  · have hki : k ≤ i := by omega
    have hs : i - k + k = i := by omega
    by_cases h2 : i < 64
    · simp [h1, h2, hki, hs]
    · have h3 : a.testBit i = false := bit_ge ha (by omega)
      simp [h1, h2, hki, hs, h3]
/-- A low word's or. -/
theorem or_low (x j : Nat) (h : x % 2 ^ j = 0) (b : Nat) (hb : b < 2 ^ j) : x ||| b = x + b := by
  have e : x = 2 ^ j * (x / 2 ^ j) := by
    have := Nat.div_add_mod x (2 ^ j)
    omega
  rw [e, ← Nat.two_pow_add_eq_or_of_lt hb]
/-- The length of a family. -/
def L (v : Bool) : Nat := if v = true then 128 else 32
def T (hi lo : Nat) : Nat := hi * 18446744073709551616 + lo
theorem T_hi (hi lo : Nat) (h : lo < 18446744073709551616) : T hi lo / 18446744073709551616 = hi := by unfold T; omega
theorem T_lo (hi lo : Nat) (h : lo < 18446744073709551616) : T hi lo % 18446744073709551616 = lo := by unfold T; omega
theorem lowL_lt (k : Nat) : lowL k < 18446744073709551616 := by
  unfold lowL
  by_cases hk : k < 64
  · rw [if_pos hk]
    have := two_pow_lt hk
    omega
  · rw [if_neg hk]
    decide
theorem lowH_lt (k : Nat) (h : k ≤ 128) : lowH k < 18446744073709551616 := by
  unfold lowH
  by_cases hk : k ≤ 64
  · rw [if_pos hk]
    decide
  · rw [if_neg hk]
    have : 2 ^ (k - 64) ≤ 2 ^ 64 := Nat.pow_le_pow_right (by decide) (by omega)
    have h2 : (2 : Nat) ^ 64 = 18446744073709551616 := by decide
    omega
theorem low_T (k : Nat) (h : k ≤ 128) : T (lowH k) (lowL k) = 2 ^ k - 1 := by
  unfold T lowH lowL
  by_cases h1 : k < 64
  · rw [if_pos h1, if_pos (by omega)]
    omega
  · by_cases h2 : k ≤ 64
    · have : k = 64 := by omega
      subst this
      decide
    · rw [if_neg h1, if_neg h2]
      have e : 2 ^ k = 2 ^ (k - 64) * 18446744073709551616 := by
        rw [show (18446744073709551616 : Nat) = 2 ^ 64 by decide, ← Nat.pow_add, show k - 64 + 64 = k by omega]
      have : 0 < 2 ^ (k - 64) := Nat.pow_pos (by decide)
      rw [e, Nat.sub_mul]
      omega
/-- Both words' low bits are 0 exactly if the number's are. -/
theorem and_zero (hi lo k : Nat) (hl : lo < 18446744073709551616) : (hi &&& lowH k = 0 ∧ lo &&& lowL k = 0) ↔ T hi lo % 2 ^ k = 0 := by
  unfold T
  rw [tot_mod hi lo k hl, lowH_and, lowL_and lo k hl]
  by_cases h1 : k < 64
  · rw [if_pos (by omega), if_pos h1, if_pos (by omega)]
    omega
  · rw [if_neg h1]
    by_cases h2 : k ≤ 64
    · have : k = 64 := by omega
      subst this
      rw [if_pos h2, if_pos h2, show (2 : Nat) ^ 64 = 18446744073709551616 by decide]
      omega
    · rw [if_neg h2, if_neg h2]
      omega
/-- The number without its low bits, by its words. -/
theorem andNot_T (hi lo k : Nat) (hh : hi < 18446744073709551616) (hl : lo < 18446744073709551616) (hk : k ≤ 128) : T (hi &&& (18446744073709551615 - lowH k)) (lo &&& (18446744073709551615 - lowL k)) = T hi lo - T hi lo % 2 ^ k := by
  have hm := tot_mod hi lo k hl
  have all : ∀ x : Nat, x < 18446744073709551616 → x &&& 18446744073709551615 = x := fun x hx => by
    have := Nat.and_two_pow_sub_one_eq_mod x 64
    rw [show (2 : Nat) ^ 64 - 1 = 18446744073709551615 by decide] at this
    rw [this, Nat.mod_eq_of_lt hx]
  by_cases h1 : k < 64
  · have e1 : lowH k = 0 := if_pos (by omega)
    have e2 : lowL k = 2 ^ k - 1 := if_pos h1
    rw [e1, e2, Nat.sub_zero, all hi hh, and_high lo k hl (by omega)]
    unfold T
    rw [hm, if_pos (by omega)]
    have := Nat.div_add_mod lo (2 ^ k)
    have h3 : lo / 2 ^ k * 2 ^ k = 2 ^ k * (lo / 2 ^ k) := Nat.mul_comm _ _
    omega
  · by_cases h2 : k ≤ 64
    · have : k = 64 := by omega
      subst this
      rw [if_pos h2] at hm
      have e1 : lowH 64 = 0 := by decide
      have e2 : lowL 64 = 18446744073709551615 := by decide
      rw [e1, e2, Nat.sub_zero, all hi hh, Nat.sub_self, Nat.and_zero]
      unfold T
      rw [hm, show (2 : Nat) ^ 64 = 18446744073709551616 by decide]
      omega
    · rw [if_neg h2] at hm
      have e1 : lowH k = 2 ^ (k - 64) - 1 := if_neg h2
      have e2 : lowL k = 18446744073709551615 := if_neg h1
      rw [e1, e2, Nat.sub_self, Nat.and_zero, and_high hi (k - 64) hh (by omega)]
      unfold T
      rw [hm]
      have := Nat.div_add_mod hi (2 ^ (k - 64))
      have h3 : hi / 2 ^ (k - 64) * 2 ^ (k - 64) = 2 ^ (k - 64) * (hi / 2 ^ (k - 64)) := Nat.mul_comm _ _
      omega
/-- An aligned number and one below it, or'ed word by word. -/
theorem or_T (hi lo k a b : Nat) (hl : lo < 18446744073709551616) (hk : k ≤ 128) (h : T hi lo % 2 ^ k = 0) (hb : b < 18446744073709551616) (hab : T a b < 2 ^ k) : hi ||| a = hi + a ∧ lo ||| b = lo + b := by
  unfold T at h hab
  rw [tot_mod hi lo k hl] at h
  by_cases h2 : k ≤ 64
  · rw [if_pos h2] at h
    have hp : 2 ^ k ≤ 18446744073709551616 := by
      have : 2 ^ k ≤ 2 ^ 64 := Nat.pow_le_pow_right (by decide) h2
      rwa [show (2 : Nat) ^ 64 = 18446744073709551616 by decide] at this
    have ha : a = 0 := by omega
    subst ha
    exact ⟨by simp, or_low lo k h b (by omega)⟩
  · rw [if_neg h2] at h
    have h1 : hi % 2 ^ (k - 64) = 0 := by omega
    have hlo : lo = 0 := by omega
    subst hlo
    have e : 2 ^ k = 2 ^ (k - 64) * 18446744073709551616 := by
      rw [show (18446744073709551616 : Nat) = 2 ^ 64 by decide, ← Nat.pow_add, show k - 64 + 64 = k by omega]
    rw [e] at hab
    have ha : a < 2 ^ (k - 64) := by
      generalize 2 ^ (k - 64) = p at hab
      omega
    exact ⟨or_low hi (k - 64) h1 a ha, by simp⟩
end Go.Proofs.YteflcmmandlknaaGreatDoor.PrxN
