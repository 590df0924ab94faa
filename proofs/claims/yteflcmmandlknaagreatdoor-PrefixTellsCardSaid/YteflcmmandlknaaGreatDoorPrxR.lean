/-
  What the reference of layer 3 answers, told with numbers: masks, validity, the prefix of an address, bounds, size. Conditions: each theorem's own.
-/
import Derived.Test.YteflcmmandlknaaGreatDoorPAx11
import Derived.Test.YteflcmmandlknaaGreatDoorPAx12
import Derived.Test.YteflcmmandlknaaGreatDoorPrxT
namespace Go.Proofs.YteflcmmandlknaaGreatDoor.PrxR
open Go.RowKit Go.Proofs.YteflcmmandlknaaGreatDoorW.PrintWords Go.Proofs.YteflcmmandlknaaGreatDoor.Num Go.Proofs.YteflcmmandlknaaGreatDoor.Bits Go.Proofs.YteflcmmandlknaaGreatDoor.PrxN Go.Proofs.YteflcmmandlknaaGreatDoor.PrxS Go.Proofs.YteflcmmandlknaaGreatDoor.PrxT Go.Proofs.YteflcmmandlknaaGreatDoor.PA
set_option linter.unusedVariables false
set_option linter.unusedSimpArgs false
set_option maxRecDepth 100000

theorem dbl (X : Nat) (h : X < 170141183460469231731687303715884105728) :
    IntKind.u64.wrap (IntKind.u64.wrap (iH X * 2) + IntKind.u64.wrap (Int.tdiv (iL X) 9223372036854775808)) = iH (2 * X) ∧ IntKind.u64.wrap (iL X * 2) = iL (2 * X) ∧ IntKind.u64.wrap (IntKind.u64.wrap (iL X * 2) + 1) = iL (2 * X + 1) ∧ iH (2 * X + 1) = iH (2 * X) := by
  have e : Int.tdiv (iL X) 9223372036854775808 = iL X / 9223372036854775808 := Int.tdiv_eq_ediv_of_nonneg (by unfold iL; omega)
  rw [e, wrap_u64, wrap_u64, wrap_u64, wrap_u64, wrap_u64]
  unfold iH iL
  omega
theorem two_pow (i : Nat) : 2 * (2 ^ i - 1) + 1 = 2 ^ (i + 1) - 1 := by
  have : 0 < 2 ^ i := Nat.pow_pos (by decide)
  rw [Nat.pow_succ]
  omega
theorem ones_l0 (n : Nat) (hn : n ≤ 128) : ∀ (d i : Nat), i + d = n → Ev (fun k => ddiref03_ones.l0 k (n : Int) (iH (2 ^ i - 1)) (iL (2 ^ i - 1)) (i : Int)) (iH (2 ^ n - 1), iL (2 ^ n - 1))
  | 0, i, h => by
    have : i = n := by omega
    subst this
    refine Ev.step (fun k => by rw [ddiref03_ones.l0]) ?_
    refine ev_if_neg (by omega) ?_
    exact Ev.now _
  | d + 1, i, h => by
    have ih := ones_l0 n hn d (i + 1) (by omega)
    have hp : 0 < 2 ^ i := Nat.pow_pos (by decide)
    have hlt : 2 ^ i - 1 < 170141183460469231731687303715884105728 := by
      have : 2 ^ i ≤ 2 ^ 127 := Nat.pow_le_pow_right (by decide) (by omega)
      have e : (2 : Nat) ^ 127 = 170141183460469231731687303715884105728 := by decide
      omega
    obtain ⟨d1, d2, d3, d4⟩ := dbl _ hlt
    have c1 : (i : Int) < (n : Int) := by omega
    have c2 : (i : Int) < 128 := by omega
    have ew : wrap64 ((i : Int) + 1) = ((i + 1 : Nat) : Int) := by rw [wrap64_id (by omega) (by omega)]; omega
    refine Ev.step (fun k => by rw [ddiref03_ones.l0]) ?_
    refine ev_if_pos c1 (ev_if_pos c2 ?_)
    rw [d1, d3, ← d4, two_pow, ew]
    exact ih
theorem ones_ev (n : Nat) (hn : n ≤ 128) : Ev (fun k => ddiref03_ones.f k (n : Int)) (iH (2 ^ n - 1), iL (2 ^ n - 1)) := by
  have h := ones_l0 n hn n 0 (by omega)
  exact h
theorem rvalid2 (v : Bool) (N : Nat) (h : N < M128) : ddiref02_Valid.f v (iH N) (iL N) = some (decide (N < 2 ^ L v)) := by
  unfold ddiref02_Valid.f iH iL
  unfold M128 at h
  cases v
  · have e : (2 : Nat) ^ L false = 4294967296 := by decide
    rw [e]
    simp only [Bool.false_eq_true, if_false]
    by_cases h0 : ((N / 18446744073709551616 : Nat) : Int) = 0
    · rw [if_pos h0]
      exact congrArg some (decide_eq_decide.mpr (by omega))
    · rw [if_neg h0]
      exact congrArg some (decide_eq_false (by omega)).symm
  · have e : (2 : Nat) ^ L true = 340282366920938463463374607431768211456 := by decide
    rw [e, if_pos rfl]
    exact congrArg some (decide_eq_true h).symm
theorem long_eq (v : Bool) : ddiref03_Long.f v = some (L v : Int) := by cases v <;> rfl
theorem and_mod {N k : Nat} (h : N < M128) (hk : k ≤ 128) : Go.bits .and .u64 (iH N) (iH (2 ^ k - 1)) = iH (N % 2 ^ k) ∧ Go.bits .and .u64 (iL N) (iL (2 ^ k - 1)) = iL (N % 2 ^ k) := by
  obtain ⟨l1, l2⟩ := low_i k hk
  obtain ⟨a1, a2⟩ := and_i h hk
  rw [← l1, ← l2, a1, a2, lowH_and, lowL_and _ _ (l_lt N)]
  have hm := tot_mod (N / 18446744073709551616) (N % 18446744073709551616) k (l_lt N)
  rw [show N / 18446744073709551616 * 18446744073709551616 + N % 18446744073709551616 = N by omega] at hm
  unfold iH iL
  rw [hm]
  by_cases c : k ≤ 64
  · rw [if_pos c, if_pos c]
    by_cases c2 : k < 64
    · rw [if_pos c2]
      have : N % 18446744073709551616 % 2 ^ k < 18446744073709551616 := Nat.lt_of_le_of_lt (Nat.mod_le _ _) (l_lt N)
      omega
    · rw [if_neg c2]
      have : k = 64 := by omega
      subst this
      have e : (2 : Nat) ^ 64 = 18446744073709551616 := by decide
      rw [e]
      omega
  · rw [if_neg c, if_neg c, if_neg (by omega)]
    omega
theorem mask_eq {N k : Nat} (h : N < M128) (hk : k ≤ 128) : (if Go.bits .and .u64 (iH N) (iH (2 ^ k - 1)) = 0 then some (Go.bits .and .u64 (iL N) (iL (2 ^ k - 1)) == 0) else some false) = some (decide (N % 2 ^ k = 0)) := by
  obtain ⟨a1, a2⟩ := and_mod h hk
  rw [a1, a2]
  generalize N % 2 ^ k = r
  by_cases c1 : iH r = 0
  · rw [if_pos c1]
    congr 1
    by_cases c2 : iL r = 0
    · rw [c2, decide_eq_true]
      · rfl
      · unfold iH at c1
        unfold iL at c2
        omega
    · rw [decide_eq_false (fun q => c2 (by rw [q]; rfl))]
      simpa using c2
  · rw [if_neg c1, decide_eq_false (fun q => c1 (by rw [q]; rfl))]
theorem sub_words (hi lo rh rl : Nat) (h1 : hi < 18446744073709551616) (h2 : lo < 18446744073709551616) (h3 : rh ≤ hi) (h4 : rl ≤ lo) :
    ((hi : Int) - (rh : Int)) % 18446744073709551616 = (((hi * 18446744073709551616 + lo - (rh * 18446744073709551616 + rl)) / 18446744073709551616 : Nat) : Int) ∧ ((lo : Int) - (rl : Int)) % 18446744073709551616 = (((hi * 18446744073709551616 + lo - (rh * 18446744073709551616 + rl)) % 18446744073709551616 : Nat) : Int) := by
  have e : hi * 18446744073709551616 + lo - (rh * 18446744073709551616 + rl) = (hi - rh) * 18446744073709551616 + (lo - rl) := by omega
  have e1 : ((hi - rh) * 18446744073709551616 + (lo - rl)) / 18446744073709551616 = hi - rh := by omega
  have e2 : ((hi - rh) * 18446744073709551616 + (lo - rl)) % 18446744073709551616 = lo - rl := by omega
  rw [e, e1, e2]
  omega
theorem sub_i {N k : Nat} (h : N < M128) (hk : k ≤ 128) : IntKind.u64.wrap (iH N - Go.bits .and .u64 (iH N) (iH (2 ^ k - 1))) = iH (N - N % 2 ^ k) ∧ IntKind.u64.wrap (iL N - Go.bits .and .u64 (iL N) (iL (2 ^ k - 1))) = iL (N - N % 2 ^ k) := by
  obtain ⟨a1, a2⟩ := and_mod h hk
  rw [a1, a2, wrap_u64, wrap_u64]
  have hm := tot_mod (N / 18446744073709551616) (N % 18446744073709551616) k (l_lt N)
  have hN : N / 18446744073709551616 * 18446744073709551616 + N % 18446744073709551616 = N := by omega
  rw [hN] at hm
  have hr : ∃ rh rl, N % 2 ^ k = rh * 18446744073709551616 + rl ∧ rh ≤ N / 18446744073709551616 ∧ rl ≤ N % 18446744073709551616 := by
    by_cases c : k ≤ 64
    · rw [if_pos c] at hm
      exact ⟨0, N % 18446744073709551616 % 2 ^ k, by rw [hm]; omega, Nat.zero_le _, Nat.mod_le _ _⟩
    · rw [if_neg c] at hm
      exact ⟨N / 18446744073709551616 % 2 ^ (k - 64), N % 18446744073709551616, hm, Nat.mod_le _ _, Nat.le_refl _⟩
  obtain ⟨rh, rl, e, h1, h2⟩ := hr
  have hl := l_lt N
  have hh := h_lt h
  obtain ⟨w1, w2⟩ := sub_words _ _ rh rl hh hl h1 h2
  rw [hN] at w1 w2
  have er1 : (rh * 18446744073709551616 + rl) / 18446744073709551616 = rh := by omega
  have er2 : (rh * 18446744073709551616 + rl) % 18446744073709551616 = rl := by omega
  rw [e]
  unfold iH iL
  rw [er1, er2]
  exact ⟨w1, w2⟩
theorem add_i {N k m : Nat} (h : N < M128) (hk : k ≤ 128) (hz : N % 2 ^ k = 0) (hm : m < 2 ^ k) : IntKind.u64.wrap (iH N + iH m) = iH (N + m) ∧ IntKind.u64.wrap (iL N + iL m) = iL (N + m) := by
  have hm8 : m < M128 := Nat.lt_of_lt_of_le hm (by rw [M128_eq]; exact Nat.pow_le_pow_right (by decide) hk)
  obtain ⟨o1, o2⟩ := or_T (N / 18446744073709551616) (N % 18446744073709551616) k (m / 18446744073709551616) (m % 18446744073709551616) (l_lt N) hk (by rw [T_self]; exact hz) (l_lt m) (by rw [T_self]; exact hm)
  have b1 : N / 18446744073709551616 ||| m / 18446744073709551616 < 18446744073709551616 := or_lt (h_lt h) (h_lt hm8)
  have b2 : N % 18446744073709551616 ||| m % 18446744073709551616 < 18446744073709551616 := or_lt (l_lt N) (l_lt m)
  rw [o1] at b1
  rw [o2] at b2
  rw [wrap_u64, wrap_u64]
  unfold iH iL
  omega
theorem w_len {v : Bool} {n : Nat} (h : n ≤ L v) : wrap64 ((L v : Int) - (n : Int)) = ((L v - n : Nat) : Int) := by
  have := L_le v
  rw [wrap64_id (by omega) (by omega)]
  omega
theorem RValid_ev (v : Bool) (N : Nat) (b : Int) (h : N < M128) : Ev (fun k => ddiref03_Valid.f k v (iH N) (iL N) b) (decide (VP v N b)) := by
  have hL := L_le v
  have hbad : ¬ VP v N b → Ev (fun k => ddiref03_Valid.j0 k true v (iH N) (iL N) b) (decide (VP v N b)) := fun q => by
    rw [decide_eq_false q]
    refine Ev.step (fun k => by rw [ddiref03_Valid.j0]) ?_
    refine ev_if_pos rfl ?_
    exact Ev.now _
  unfold ddiref03_Valid.f
  refine ev_bind_const (rvalid2 v N h) ?_
  by_cases c1 : N < 2 ^ L v
  · refine ev_if_pos (decide_eq_true c1) ?_
    by_cases c2 : b < 0
    · refine ev_if_pos c2 (hbad ?_)
      rintro ⟨_, q, _⟩
      omega
    · refine ev_if_neg c2 (ev_bind_const (long_eq v) ?_)
      by_cases c3 : b > (L v : Int)
      · rw [decide_eq_true c3]
        refine hbad ?_
        rintro ⟨_, _, q, _⟩
        omega
      · rw [decide_eq_false c3]
        obtain ⟨n, rfl⟩ : ∃ n : Nat, b = (n : Int) := ⟨b.toNat, by omega⟩
        have hn : n ≤ L v := by omega
        refine Ev.step (fun k => by rw [ddiref03_Valid.j0]) ?_
        refine ev_if_neg (by decide) (ev_bind_const (long_eq v) ?_)
        rw [w_len hn]
        refine Ev.bind (ones_ev (L v - n) (by omega)) ?_
        refine ev_const ?_
        show (if Go.bits .and .u64 (iH N) (iH (2 ^ (L v - n) - 1)) = 0 then some (Go.bits .and .u64 (iL N) (iL (2 ^ (L v - n) - 1)) == 0) else some false) = _
        rw [mask_eq h (by omega)]
        congr 1
        apply decide_eq_decide.mpr
        unfold VP
        rw [Int.toNat_natCast]
        exact ⟨fun q => ⟨c1, by omega, by omega, q⟩, fun q => q.2.2.2⟩
  · refine ev_if_neg (by rw [decide_eq_false c1]; decide) (hbad (fun q => c1 q.1))
end Go.Proofs.YteflcmmandlknaaGreatDoor.PrxR
