/-
  Bits of sets of types. Conditions: each theorem's own.
-/
import Derived.Test.YtaehonmfoanloaaDoorHandB
import Derived.Laws.BitsAllLaws
namespace Go.Proofs.YtaehonmfoanloaaDoor.Hand
open Go.RowKit Go.Proofs.YtaehonmfoanloaaDoorW.PrintWords Go.Proofs.YtaehonmfoanloaaDoor.RdW
set_option linter.all false
theorem rev8_bit (b i : Nat) (hb : b < 256) (hi : i < 8) : (rev8 b).testBit i = b.testBit (7 - i) := by
  have : ∀ b : Fin 256, ∀ i : Fin 8, (rev8 b.val).testBit i.val = b.val.testBit (7 - i.val) := by decide +kernel
  exact this ⟨b, hb⟩ ⟨i, hi⟩
theorem bitsOf_bit : ∀ (m : List UInt8) (i : Nat) (h : i / 8 < m.length), (bitsOf m).testBit i = (m[i / 8]).toNat.testBit (7 - i % 8)
  | [], i, h => by simp at h
  | b :: r, i, h => by
    have hr := rev8_lt b.toNat
    rw [bitsOf, show rev8 b.toNat + 256 * bitsOf r = 2 ^ 8 * bitsOf r + rev8 b.toNat by omega, Nat.testBit_two_pow_mul_add _ hr]
    by_cases hi : i < 8
    · rw [if_pos hi, rev8_bit _ _ b.toNat_lt hi]
      have e : i / 8 = 0 := by omega
      have e2 : i % 8 = i := by omega
      simp only [e, e2, List.getElem_cons_zero]
    · rw [if_neg hi]
      have e : i / 8 = (i - 8) / 8 + 1 := by omega
      have e2 : i % 8 = (i - 8) % 8 := by omega
      rw [bitsOf_bit r (i - 8) (by simp only [List.length_cons] at h; omega), e2]
      simp only [e, List.getElem_cons_succ]
theorem bit_cond (b : UInt8) (j : Nat) (hj : j < 8) : (Go.bits .and .u8 ((b.toNat : Int) * 2 ^ j % 256) 128 != 0) = b.toNat.testBit (7 - j) := by
  have e : ((b.toNat : Int) * 2 ^ j % 256) = ((b.toNat * 2 ^ j % 256 : Nat) : Int) := by
    rw [Int.natCast_emod, Int.natCast_mul, Int.natCast_pow]; rfl
  rw [e]
  have h := u8_and_nat (b.toNat * 2 ^ j % 256) 128 (by omega) (by omega)
  rw [show ((128 : Nat) : Int) = 128 from rfl] at h
  rw [h]
  have hall : ∀ b : Fin 256, ∀ j : Fin 8, ((((b.val * 2 ^ j.val % 256) &&& 128 : Nat) : Int) != 0) = b.val.testBit (7 - j.val) := by decide +kernel
  exact hall ⟨b.toNat, b.toNat_lt⟩ ⟨j, hj⟩
theorem mod_step (x i : Nat) : x % 2 ^ (i + 1) = if x.testBit i = true then (x % 2 ^ i) ||| 2 ^ i else x % 2 ^ i := by
  apply Nat.eq_of_testBit_eq
  intro k
  by_cases hx : x.testBit i = true
  · rw [if_pos hx, Nat.testBit_mod_two_pow, Nat.testBit_or, Nat.testBit_mod_two_pow, Nat.testBit_two_pow]
    by_cases hk : k = i
    · subst hk; simp [hx]
    · have h1 : decide (k < i + 1) = decide (k < i) := by simp; omega
      have h2 : decide (i = k) = false := by simp; omega
      rw [h1, h2]; simp
  · rw [if_neg hx, Nat.testBit_mod_two_pow, Nat.testBit_mod_two_pow]
    by_cases hk : k = i
    · subst hk; simp [hx]
    · have h1 : decide (k < i + 1) = decide (k < i) := by simp; omega
      rw [h1]
theorem or_bit (a i : Nat) (ha : a < 2 ^ i) (hi : i < 64) : Go.bits .or .u64 (a : Int) (IntKind.u64.wrap (2 ^ i)) = ((a ||| 2 ^ i : Nat) : Int) := by
  have hp : 2 ^ i < 18446744073709551616 := by
    rw [show 18446744073709551616 = 2 ^ 64 from rfl]; exact Nat.pow_lt_pow_right (by omega) hi
  have e : IntKind.u64.wrap ((2 : Int) ^ i) = ((2 ^ i : Nat) : Int) := by
    rw [show ((2 : Int) ^ i) = ((2 ^ i : Nat) : Int) by rw [Int.natCast_pow]; rfl, IntKind.wrap_u64]; omega
  rw [e]
  exact u64_or_nat a (2 ^ i) (by omega) hp
theorem andNot_all (bits : Int) (h0 : 0 ≤ bits) (h1 : bits < 18446744073709551616) : (Go.bits .andNot .u64 bits (allT : Int) == 0) = setB bits := by
  obtain ⟨n, rfl⟩ := Int.eq_ofNat_of_zero_le h0
  have hn : n < 18446744073709551616 := by omega
  rw [u64_andNot_nat n allT hn (by decide)]
  unfold setB onlyT
  rw [Int.toNat_natCast]
  have key : (n &&& (18446744073709551615 - allT) = 0) ↔ (n &&& allT = n) := by
    have hb : ∀ k, (18446744073709551615 - allT).testBit k = (decide (k < 64) && !allT.testBit k) := by
      intro k
      have := Nat.testBit_two_pow_sub_succ (n := 64) (x := allT) (by decide) k
      rw [← this]
      rfl
    have hnk : ∀ k, ¬ k < 64 → n.testBit k = false := fun k hk => Nat.testBit_lt_two_pow (Nat.lt_of_lt_of_le hn (by rw [show 18446744073709551616 = 2 ^ 64 from rfl]; exact Nat.pow_le_pow_right (by omega) (by omega)))
    constructor
    · intro h
      apply Nat.eq_of_testBit_eq
      intro k
      have hk := congrArg (fun z => Nat.testBit z k) h
      simp only [Nat.testBit_and, hb, Nat.zero_testBit] at hk
      rw [Nat.testBit_and]
      by_cases h64 : k < 64
      · cases hx : n.testBit k <;> cases hy : allT.testBit k <;> simp_all
      · rw [hnk k h64]; rfl
    · intro h
      apply Nat.eq_of_testBit_eq
      intro k
      have hk := congrArg (fun z => Nat.testBit z k) h
      simp only [Nat.testBit_and] at hk
      rw [Nat.testBit_and, hb, Nat.zero_testBit]
      cases hx : n.testBit k <;> cases hy : allT.testBit k <;> simp_all
  rw [Bool.eq_iff_iff]
  simp only [beq_iff_eq]
  rw [← key]
  omega
end Go.Proofs.YtaehonmfoanloaaDoor.Hand
