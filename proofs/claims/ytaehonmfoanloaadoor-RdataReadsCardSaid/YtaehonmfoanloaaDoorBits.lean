/-
  Bits of 64-bit numbers: or, and, shifts, by single bits. Conditions: the numbers are below 2^64.
-/
import Derived.Test.YtaehonmfoanloaaDoorNum
namespace Go.Proofs.YtaehonmfoanloaaDoor.Bits
open Go.RowKit Go.Proofs.YtaehonmfoanloaaDoorW.PrintWords Go.Proofs.YtaehonmfoanloaaDoorW.PrintMore Go.Proofs.YtaehonmfoanloaaDoor.Num
set_option linter.unusedVariables false
set_option linter.unusedSimpArgs false

theorem u64_nat {x : Int} (h : U64 x) : ∃ n : Nat, x = n ∧ n < 18446744073709551616 := by
  unfold U64 at h
  exact ⟨x.toNat, by omega, by omega⟩
theorem nat_u64 {n : Nat} (h : n < 18446744073709551616) : U64 (n : Int) := by unfold U64; omega
theorem or_nat {a b : Nat} (ha : a < 18446744073709551616) (hb : b < 18446744073709551616) : Go.bits .or .u64 (a : Int) (b : Int) = ((a ||| b : Nat) : Int) :=
  (bits_nat .u64 64 (by decide) wraps_u64 a b ha hb).2
theorem and_nat {a b : Nat} (ha : a < 18446744073709551616) (hb : b < 18446744073709551616) : Go.bits .and .u64 (a : Int) (b : Int) = ((a &&& b : Nat) : Int) :=
  (bits_nat .u64 64 (by decide) wraps_u64 a b ha hb).1
theorem andNot_nat {a b : Nat} (ha : a < 18446744073709551616) (hb : b < 18446744073709551616) : Go.bits .andNot .u64 (a : Int) (b : Int) = ((a &&& (18446744073709551615 - b) : Nat) : Int) := by
  have hp : (2 : Nat) ^ 64 = 18446744073709551616 := by decide
  have ha' : a % 2 ^ IntKind.u64.bits = a := Nat.mod_eq_of_lt ha
  have hb' : b % 2 ^ IntKind.u64.bits = b := Nat.mod_eq_of_lt hb
  have e : (BitVec.ofInt IntKind.u64.bits (a : Int) &&& ~~~BitVec.ofInt IntKind.u64.bits (b : Int)).toNat = a &&& (18446744073709551615 - b) := by
    rw [BitVec.toNat_and, BitVec.toNat_not, BitVec.ofInt_natCast, BitVec.ofInt_natCast, BitVec.toNat_ofNat, BitVec.toNat_ofNat, ha', hb']
    have : 2 ^ IntKind.u64.bits - 1 - b = 18446744073709551615 - b := rfl
    rw [this]
  show IntKind.u64.wrap ((BitVec.ofInt IntKind.u64.bits (a : Int) &&& ~~~BitVec.ofInt IntKind.u64.bits (b : Int)).toNat : Int) = _
  rw [e, wrap_u64]
  have : a &&& (18446744073709551615 - b) ≤ a := Nat.and_le_left
  omega
theorem or_lt {a b : Nat} (ha : a < 18446744073709551616) (hb : b < 18446744073709551616) : a ||| b < 18446744073709551616 := Nat.or_lt_two_pow (n := 64) ha hb
theorem two_pow_lt {t : Nat} (ht : t < 64) : 2 ^ t < 18446744073709551616 := by
  have : (2 : Nat) ^ t < 2 ^ 64 := Nat.pow_lt_pow_right (by omega) ht
  exact this
theorem shl_one {t : Nat} (ht : t < 64) : shl .u64 1 (t : Int) = ((2 ^ t : Nat) : Int) := by
  unfold shl
  have e : min (t : Int).toNat IntKind.u64.bits = t := by
    have : IntKind.u64.bits = 64 := rfl
    rw [this]; omega
  rw [e, wrap_u64, Int.one_mul]
  have := two_pow_lt ht
  have h2 : ((2 ^ t : Nat) : Int) = (2 : Int) ^ t := by simp
  rw [← h2]
  generalize 2 ^ t = n at *
  omega
theorem shr_nat {a t : Nat} (ht : t ≤ 64) : shr .u64 (a : Int) (t : Int) = ((a >>> t : Nat) : Int) := by
  unfold shr
  have e : min (t : Int).toNat IntKind.u64.bits = t := by
    have : IntKind.u64.bits = 64 := rfl
    rw [this]; omega
  rw [e, Nat.shiftRight_eq_div_pow]
  simp
theorem bit_test {a t : Nat} (ha : a < 18446744073709551616) (ht : t ≤ 64) : (Go.bits .and .u64 (shr .u64 (a : Int) (t : Int)) 1 = 1) ↔ a.testBit t = true := by
  have h1 : a >>> t < 18446744073709551616 := by
    rw [Nat.shiftRight_eq_div_pow]
    exact Nat.lt_of_le_of_lt (Nat.div_le_self _ _) ha
  rw [shr_nat ht, show (1 : Int) = ((1 : Nat) : Int) from rfl, and_nat (b := 1) h1 (by decide), Nat.testBit, Nat.and_comm 1]
  have : a >>> t &&& 1 = 0 ∨ a >>> t &&& 1 = 1 := by rw [Nat.and_one_is_mod]; exact Nat.mod_two_eq_zero_or_one _
  rcases this with h | h <;> simp [h]
theorem bit_ge {a t : Nat} (ha : a < 18446744073709551616) (ht : 64 ≤ t) : a.testBit t = false :=
  Nat.testBit_lt_two_pow (Nat.lt_of_lt_of_le ha (Nat.pow_le_pow_right (show 0 < 2 by decide) ht))
theorem andNot_bits {a b : Nat} (ha : a < 18446744073709551616) (hb : b < 18446744073709551616) (h : ∀ i, a.testBit i = true → b.testBit i = true) : Go.bits .andNot .u64 (a : Int) (b : Int) = 0 := by
  rw [andNot_nat ha hb]
  have : a &&& (18446744073709551615 - b) = 0 := by
    apply Nat.eq_of_testBit_eq
    intro i
    rw [Nat.testBit_and, Nat.zero_testBit]
    have e : 18446744073709551615 - b = 2 ^ 64 - (b + 1) := by omega
    rw [e, Nat.testBit_two_pow_sub_succ hb]
    cases ha' : a.testBit i
    · simp
    · simp [h i ha']
  rw [this]; rfl
end Go.Proofs.YtaehonmfoanloaaDoor.Bits
