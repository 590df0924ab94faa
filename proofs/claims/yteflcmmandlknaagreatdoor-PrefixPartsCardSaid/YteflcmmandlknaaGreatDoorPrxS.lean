/-
  What the package prefix (layer 3) answers, told with numbers of 128 bits. Conditions: each theorem's own.
-/
import Derived.Test.YteflcmmandlknaaGreatDoorPAx4
import Derived.Test.YteflcmmandlknaaGreatDoorPAx7
import Derived.Test.YteflcmmandlknaaGreatDoorPAx8
import Derived.Test.YteflcmmandlknaaGreatDoorPrxN
namespace Go.Proofs.YteflcmmandlknaaGreatDoor.PrxS
open Go.RowKit Go.Proofs.YteflcmmandlknaaGreatDoorW.PrintWords Go.Proofs.YteflcmmandlknaaGreatDoor.Num Go.Proofs.YteflcmmandlknaaGreatDoor.Bits Go.Proofs.YteflcmmandlknaaGreatDoor.PrxN Go.Proofs.YteflcmmandlknaaGreatDoor.PA
set_option linter.unusedVariables false
set_option linter.unusedSimpArgs false

def iH (N : Nat) : Int := ((N / 18446744073709551616 : Nat) : Int)
def iL (N : Nat) : Int := ((N % 18446744073709551616 : Nat) : Int)
def M128 : Nat := 340282366920938463463374607431768211456
theorem M128_eq : M128 = 2 ^ 128 := by decide
theorem to_N {hi lo : Int} (h : U64 hi) (g : U64 lo) : ∃ N : Nat, N < M128 ∧ hi = iH N ∧ lo = iL N := by
  unfold U64 at h g
  refine ⟨hi.toNat * 18446744073709551616 + lo.toNat, ?_, ?_, ?_⟩
  · unfold M128
    omega
  · unfold iH
    omega
  · unfold iL
    omega
theorem h_lt {N : Nat} (h : N < M128) : N / 18446744073709551616 < 18446744073709551616 := by unfold M128 at h; omega
theorem l_lt (N : Nat) : N % 18446744073709551616 < 18446744073709551616 := by omega
theorem u64_H {N : Nat} (h : N < M128) : U64 (iH N) := by unfold U64 iH; unfold M128 at h; omega
theorem u64_L (N : Nat) : U64 (iL N) := by unfold U64 iL; omega
theorem T_self (N : Nat) : T (N / 18446744073709551616) (N % 18446744073709551616) = N := by unfold T; omega
theorem i_inj {N M : Nat} (h : iH N = iH M) (g : iL N = iL M) : N = M := by unfold iH at h; unfold iL at g; omega
theorem pow_L (v : Bool) : 2 ^ L v ≤ M128 := by cases v <;> decide
theorem L_le (v : Bool) : L v ≤ 128 := by cases v <;> decide

theorem addr_Valid_eq (v : Bool) (N : Nat) (h : N < M128) : addr_Valid.f v (iH N) (iL N) = some (decide (N < 2 ^ L v)) := by
  unfold addr_Valid.f iH iL
  unfold M128 at h
  cases v
  · have e : (2 : Nat) ^ L false = 4294967296 := by decide
    rw [e]
    simp only [Bool.false_eq_true, if_false]
    by_cases h0 : ((N / 18446744073709551616 : Nat) : Int) = 0
    · rw [if_pos h0]
      congr 1
      apply decide_eq_decide.mpr
      omega
    · rw [if_neg h0]
      congr 1
      symm
      apply decide_eq_false
      omega
  · have e : (2 : Nat) ^ L true = 340282366920938463463374607431768211456 := by decide
    rw [e, if_pos rfl]
    congr 1
    symm
    exact decide_eq_true h
theorem length_eq (v : Bool) (x y : Int) : prefix_length.f v x y = some (L v : Int) := by
  cases v <;> rfl
theorem shl_mask (k : Nat) (hk : k ≤ 64) : IntKind.u64.wrap (shl .u64 1 (k : Int) - 1) = (lowL k : Int) := by
  unfold lowL
  by_cases h : k < 64
  · rw [shl_one h, if_pos h, wrap_u64]
    have := two_pow_lt h
    have h0 : 0 < 2 ^ k := Nat.pow_pos (by decide)
    generalize 2 ^ k = p at *
    omega
  · have : k = 64 := by omega
    subst this
    decide
theorem u_id {x : Int} (h0 : 0 ≤ x) (h1 : x ≤ 128) : IntKind.u64.wrap (wrap64 x) = x := by
  rw [wrap64_id (by omega) (by omega), wrap_u64]
  omega
theorem later_eq (v : Bool) (n : Nat) (h : n ≤ L v) : prefix_later.f v (n : Int) = some ((lowH (L v - n) : Int), (lowL (L v - n) : Int)) := by
  unfold prefix_later.f
  cases v
  · have hL : L false = 32 := rfl
    rw [hL] at h ⊢
    rw [if_neg (by decide), u_id (by omega) (by omega), if_pos (by omega)]
    have e : (32 - (n : Int)) = ((32 - n : Nat) : Int) := by omega
    rw [e, shl_mask _ (by omega)]
    have : lowH (32 - n) = 0 := if_pos (by omega)
    rw [this]
    rfl
  · have hL : L true = 128 := rfl
    rw [hL] at h ⊢
    rw [if_pos rfl]
    by_cases c : (n : Int) ≥ 64
    · rw [if_pos c, u_id (by omega) (by omega), if_pos (by omega)]
      have e : (128 - (n : Int)) = ((128 - n : Nat) : Int) := by omega
      rw [e, shl_mask _ (by omega)]
      have : lowH (128 - n) = 0 := if_pos (by omega)
      rw [this]
      rfl
    · rw [if_neg c, u_id (by omega) (by omega), if_pos (by omega)]
      have e : (64 - (n : Int)) = ((64 - n : Nat) : Int) := by omega
      rw [e, shl_mask _ (by omega)]
      have e1 : lowH (128 - n) = lowL (64 - n) := by
        unfold lowH lowL
        by_cases c2 : n = 0
        · subst c2
          decide
        · rw [if_neg (by omega), if_pos (by omega), show 128 - n - 64 = 64 - n by omega]
      have e2 : lowL (128 - n) = 18446744073709551615 := if_neg (by omega)
      rw [e1, e2]
      rfl
/-- Is it a prefix? -/
def VP (v : Bool) (N : Nat) (b : Int) : Prop := N < 2 ^ L v ∧ 0 ≤ b ∧ b ≤ (L v : Int) ∧ N % 2 ^ (L v - b.toNat) = 0
instance (v : Bool) (N : Nat) (b : Int) : Decidable (VP v N b) := by unfold VP; infer_instance
theorem and_i {N k : Nat} (h : N < M128) (hk : k ≤ 128) : Go.bits .and .u64 (iH N) (lowH k : Int) = ((N / 18446744073709551616 &&& lowH k : Nat) : Int) ∧ Go.bits .and .u64 (iL N) (lowL k : Int) = ((N % 18446744073709551616 &&& lowL k : Nat) : Int) :=
  ⟨and_nat (h_lt h) (lowH_lt k hk), and_nat (l_lt N) (lowL_lt k)⟩
theorem Valid_eq (v : Bool) (N : Nat) (b : Int) (h : N < M128) : prefix_Valid.f v (iH N) (iL N) b = some (decide (VP v N b)) := by
  unfold prefix_Valid.f
  rw [addr_Valid_eq v N h]
  simp only [Option.bind_some, decide_eq_true_eq]
  by_cases c1 : N < 2 ^ L v
  · rw [if_pos c1]
    by_cases c2 : b < 0
    · rw [if_pos c2]
      congr 1
      symm
      apply decide_eq_false
      rintro ⟨_, h2, _⟩
      omega
    · rw [if_neg c2, length_eq]
      simp only [Option.bind_some]
      by_cases c3 : b > (L v : Int)
      · rw [if_pos c3]
        congr 1
        symm
        apply decide_eq_false
        rintro ⟨_, _, h3, _⟩
        omega
      · rw [if_neg c3]
        obtain ⟨n, rfl⟩ : ∃ n : Nat, b = (n : Int) := ⟨b.toNat, by omega⟩
        have hn : n ≤ L v := by omega
        rw [later_eq v n hn]
        simp only [Option.bind_some]
        have hk : L v - n ≤ 128 := by have := L_le v; omega
        obtain ⟨e1, e2⟩ := and_i h hk
        rw [e1, e2]
        have hz := and_zero (N / 18446744073709551616) (N % 18446744073709551616) (L v - n) (l_lt N)
        rw [T_self] at hz
        have hv : VP v N (n : Int) ↔ N % 2 ^ (L v - n) = 0 := by
          unfold VP
          rw [show (n : Int).toNat = n by omega]
          exact ⟨fun q => q.2.2.2, fun q => ⟨c1, by omega, by omega, q⟩⟩
        by_cases d1 : N / 18446744073709551616 &&& lowH (L v - n) = 0
        · rw [if_pos (by omega)]
          congr 1
          by_cases d2 : N % 18446744073709551616 &&& lowL (L v - n) = 0
          · rw [d2, decide_eq_true (hv.mpr (hz.mp ⟨d1, d2⟩))]
            rfl
          · rw [decide_eq_false (fun q => d2 (hz.mpr (hv.mp q)).2)]
            apply beq_false_of_ne
            omega
        · rw [if_neg (by omega), decide_eq_false (fun q => d1 (hz.mpr (hv.mp q)).1)]
  · rw [if_neg c1]
    congr 1
    symm
    apply decide_eq_false
    rintro ⟨h1, _⟩
    exact c1 h1
theorem andNot_i {N k : Nat} (h : N < M128) (hk : k ≤ 128) : Go.bits .andNot .u64 (iH N) (lowH k : Int) = iH (N - N % 2 ^ k) ∧ Go.bits .andNot .u64 (iL N) (lowL k : Int) = iL (N - N % 2 ^ k) := by
  have e1 : Go.bits .andNot .u64 (iH N) (lowH k : Int) = _ := andNot_nat (h_lt h) (lowH_lt k hk)
  have e2 : Go.bits .andNot .u64 (iL N) (lowL k : Int) = _ := andNot_nat (l_lt N) (lowL_lt k)
  have hT := andNot_T (N / 18446744073709551616) (N % 18446744073709551616) k (h_lt h) (l_lt N) hk
  rw [T_self] at hT
  have b1 : N % 18446744073709551616 &&& (18446744073709551615 - lowL k) < 18446744073709551616 := Nat.lt_of_le_of_lt Nat.and_le_left (l_lt N)
  rw [e1, e2, ← hT]
  unfold iH iL
  rw [T_hi _ _ b1, T_lo _ _ b1]
  exact ⟨rfl, rfl⟩
def OfS (v : Bool) (N : Nat) (n : Int) : Bool × Int × Int × Int × Bool :=
  if N < 2 ^ L v ∧ 0 ≤ n ∧ n ≤ (L v : Int) then (v, iH (N - N % 2 ^ (L v - n.toNat)), iL (N - N % 2 ^ (L v - n.toNat)), n, true) else (false, 0, 0, 0, false)
/-- Does the prefix have the address? -/
def CT (v : Bool) (N : Nat) (b : Int) (v' : Bool) (M : Nat) : Prop := VP v N b ∧ v = v' ∧ M < 2 ^ L v ∧ M - M % 2 ^ (L v - b.toNat) = N
instance (v : Bool) (N : Nat) (b : Int) (v' : Bool) (M : Nat) : Decidable (CT v N b v' M) := by unfold CT; infer_instance
/-- Does the prefix lie in the other one? -/
def WI (v : Bool) (N : Nat) (b : Int) (v' : Bool) (N' : Nat) (b' : Int) : Prop := VP v N b ∧ VP v' N' b' ∧ b ≥ b' ∧ CT v' N' b' v N
instance (v : Bool) (N : Nat) (b : Int) (v' : Bool) (M : Nat) (b' : Int) : Decidable (WI v N b v' M b') := by unfold WI; infer_instance
/-- The order of addresses, and of prefixes. -/
def cmpA (v : Bool) (N : Nat) (v' : Bool) (M : Nat) : Int := if v = v' then (if N < M then -1 else if M < N then 1 else 0) else if v' then -1 else 1
def cmpP (v : Bool) (N : Nat) (b : Int) (v' : Bool) (M : Nat) (b' : Int) : Int := if cmpA v N v' M = 0 then (if b < b' then -1 else if b > b' then 1 else 0) else cmpA v N v' M
theorem addr_number_eq (a b : Int) : addr_number.f a b = some (if a < b then -1 else if b < a then 1 else 0) := by
  unfold addr_number.f
  by_cases h : a < b
  · simp [h]
  · by_cases g : b < a <;> simp [h, g]
theorem cmpA_eq (k : Nat) (v : Bool) (N : Nat) (v' : Bool) (M : Nat) : addr_Compare.f (k + 1) v (iH N) (iL N) v' (iH M) (iL M) = some (cmpA v N v' M) := by
  unfold addr_Compare.f cmpA
  simp only [addr_Compare.j0, addr_number_eq, Option.bind_some]
  cases v <;> cases v' <;> simp
  all_goals
    unfold iH iL
    by_cases c : ((N / 18446744073709551616 : Nat) : Int) = ((M / 18446744073709551616 : Nat) : Int)
    · rw [c]
      simp
      by_cases d : N < M
      · rw [if_pos d, if_pos (by omega)]
      · rw [if_neg d, if_neg (by omega)]
        by_cases e : M < N
        · rw [if_pos e, if_pos (by omega)]
        · rw [if_neg e, if_neg (by omega)]
    · rw [if_neg (by omega)]
      by_cases d : N < M
      · rw [if_pos d, if_pos (by omega)]
      · rw [if_neg d, if_neg (by omega), if_pos (by omega), if_pos (by omega)]
/-- The last number of a prefix. -/
def lastN (v : Bool) (N : Nat) (b : Int) : Nat := N + (2 ^ (L v - b.toNat) - 1)
def BoundsS (v : Bool) (N : Nat) (b : Int) : Bool × Int × Int × Bool × Int × Int × Bool :=
  if VP v N b then (v, iH N, iL N, v, iH (lastN v N b), iL (lastN v N b), true) else (false, 0, 0, false, 0, 0, false)
theorem or_i {N k m : Nat} (h : N < M128) (hk : k ≤ 128) (hz : N % 2 ^ k = 0) (hm : m < 2 ^ k) : Go.bits .or .u64 (iH N) (iH m) = iH (N + m) ∧ Go.bits .or .u64 (iL N) (iL m) = iL (N + m) := by
  have hm8 : m < M128 := Nat.lt_of_lt_of_le hm (by rw [M128_eq]; exact Nat.pow_le_pow_right (by decide) hk)
  have e1 : Go.bits .or .u64 (iH N) (iH m) = _ := or_nat (h_lt h) (h_lt hm8)
  have e2 : Go.bits .or .u64 (iL N) (iL m) = _ := or_nat (l_lt N) (l_lt m)
  obtain ⟨o1, o2⟩ := or_T (N / 18446744073709551616) (N % 18446744073709551616) k (m / 18446744073709551616) (m % 18446744073709551616) (l_lt N) hk (by rw [T_self]; exact hz) (l_lt m) (by rw [T_self]; exact hm)
  have b2 : N % 18446744073709551616 ||| m % 18446744073709551616 < 18446744073709551616 := or_lt (l_lt N) (l_lt m)
  rw [e1, e2]
  rw [o2] at b2
  rw [o1, o2]
  unfold iH iL
  omega
theorem low_i (k : Nat) (hk : k ≤ 128) : (lowH k : Int) = iH (2 ^ k - 1) ∧ (lowL k : Int) = iL (2 ^ k - 1) := by
  rw [← low_T k hk]
  unfold iH iL
  rw [T_hi _ _ (lowL_lt k), T_lo _ _ (lowL_lt k)]
  exact ⟨rfl, rfl⟩
theorem Bounds_eq (v : Bool) (N : Nat) (b : Int) (h : N < M128) : prefix_Bounds.f v (iH N) (iL N) b = some (BoundsS v N b) := by
  unfold prefix_Bounds.f BoundsS
  rw [Valid_eq v N b h]
  simp only [Option.bind_some, decide_eq_true_eq]
  by_cases c1 : VP v N b
  · rw [if_pos c1, if_pos c1]
    obtain ⟨h1, h2, h3, h4⟩ := c1
    obtain ⟨n, rfl⟩ : ∃ n : Nat, b = (n : Int) := ⟨b.toNat, by omega⟩
    have hn : n ≤ L v := by omega
    rw [later_eq v n hn]
    simp only [Option.bind_some]
    rw [show (n : Int).toNat = n by omega] at h4
    have hk : L v - n ≤ 128 := by have := L_le v; omega
    have hp : 0 < 2 ^ (L v - n) := Nat.pow_pos (by decide)
    obtain ⟨l1, l2⟩ := low_i (L v - n) hk
    obtain ⟨o1, o2⟩ := or_i (m := 2 ^ (L v - n) - 1) h hk h4 (by omega)
    rw [l1, l2, o1, o2]
    unfold lastN
    rw [show (n : Int).toNat = n by omega]
  · rw [if_neg c1, if_neg c1]
def SizeS (v : Bool) (N : Nat) (b : Int) : Int × Bool := if VP v N b ∧ L v - b.toNat < 64 then (((2 ^ (L v - b.toNat) : Nat) : Int), true) else (0, false)
theorem Size_eq (v : Bool) (N : Nat) (b : Int) (h : N < M128) : prefix_Size.f v (iH N) (iL N) b = some (SizeS v N b) := by
  unfold prefix_Size.f SizeS
  rw [Valid_eq v N b h]
  simp only [Option.bind_some, decide_eq_true_eq]
  by_cases c1 : VP v N b
  · rw [if_pos c1, length_eq]
    simp only [Option.bind_some]
    have hL := L_le v
    obtain ⟨h1, h2, h3, h4⟩ := id c1
    rw [wrap64_id (by omega) (by omega)]
    by_cases c2 : (L v : Int) - b ≥ 64
    · rw [if_pos c2, if_neg (fun q => by omega)]
    · rw [if_neg c2]
      have e : IntKind.u64.wrap ((L v : Int) - b) = ((L v - b.toNat : Nat) : Int) := by
        rw [wrap_u64]
        omega
      have hs : VP v N b ∧ L v - b.toNat < 64 := ⟨c1, by omega⟩
      rw [e, if_pos (show (0 : Int) ≤ ((L v - b.toNat : Nat) : Int) by omega), shl_one hs.2, if_pos hs]
  · rw [if_neg c1, if_neg (fun q => c1 q.1)]
end Go.Proofs.YteflcmmandlknaaGreatDoor.PrxS
