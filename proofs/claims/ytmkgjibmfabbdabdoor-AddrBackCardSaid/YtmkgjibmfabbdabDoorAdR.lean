/-
  The bytes of addresses are read back, and are in the order of the addresses. Conditions: the numbers are of uint64.
-/
import Derived.Test.YtmkgjibmfabbdabDoorPAx9
import Derived.Test.YtmkgjibmfabbdabDoorRevS
namespace Go.Proofs.YtmkgjibmfabbdabDoor.AdR
open Go.RowKit Go.Proofs.YtmkgjibmfabbdabDoorW.PrintWords Go.Proofs.YtmkgjibmfabbdabDoorW.PrintLast Go.Proofs.YtmkgjibmfabbdabDoorW.PrintMore Go.Proofs.YtmkgjibmfabbdabDoor.Num Go.Proofs.YtmkgjibmfabbdabDoor.PA Go.Proofs.YtmkgjibmfabbdabDoor.AdW Go.Proofs.YtmkgjibmfabbdabDoor.AddrP Go.Proofs.YtmkgjibmfabbdabDoor.Qs Go.Proofs.YtmkgjibmfabbdabDoor.Rv
set_option linter.unusedVariables false
set_option linter.unusedSimpArgs false
/-- The number that bytes are, behind a number that was read before. -/
def valS (s : ByteArray) (n : Int) (i : Nat) : Nat → Int
  | 0 => n
  | d + 1 => valS s ((n * 256 + bt s i) % 18446744073709551616) (i + 1) d
theorem valS_u64 (s : ByteArray) (d : Nat) : ∀ (n : Int) (i : Nat), U64 n → U64 (valS s n i d) := by
  induction d with
  | zero => intro n i h; exact h
  | succ d ih => intro n i h; exact ih _ _ (by unfold U64; omega)
theorem addr_value_ev (s : ByteArray) (hs : s.size ≤ 140737488351232) (d : Nat) : ∀ (n : Int) (i : Nat), U64 n → i + d = s.size → Ev (fun k => addr_value.l0 k s n (s.size : Int) i) (valS s n i d) := by
  induction d with
  | zero =>
    intro n i hn hi
    refine ev_of_eq 1 (fun k => ?_)
    simp only [addr_value.l0]
    rw [if_neg (by omega)]; rfl
  | succ d ih =>
    intro n i hn hi
    unfold U64 at hn
    have hb := bt_range s i
    refine Ev.step (f := fun k => addr_value.l0 k s ((n * 256 + bt s i) % 18446744073709551616) (s.size : Int) ((i + 1 : Nat) : Int)) (fun k => ?_) (ih _ (i + 1) (by unfold U64; omega) (by omega))
    simp only [addr_value.l0]
    have e1 : wrap64 ((i : Int) + 1) = ((i + 1 : Nat) : Int) := by rw [wrap64_id (by omega) (by omega)]; omega
    have e2 : Go.bits .or .u64 (IntKind.u64.wrap (n * 256)) (IntKind.u64.wrap (bt s i)) = (n * 256 + bt s i) % 18446744073709551616 := by
      rw [wrap_u64, wrap_u64, or_u64 8 (by omega) (by omega) (by omega) (by omega) (by omega) (by omega)]; omega
    rw [if_pos (by omega), if_pos (by omega), if_pos (by omega), e1, e2]
theorem addr_value_ev' (s : ByteArray) (hs : s.size ≤ 140737488351232) : Ev (fun k => addr_value.f k s) (valS s 0 0 s.size) := addr_value_ev s hs s.size 0 0 (by unfold U64; omega) (by omega)
def readS (s : ByteArray) : Bool × Int × Int × Int :=
  if s.size = 4 then (false, 0, valS s 0 0 4, 0) else if s.size = 16 then (true, valS (s.extract 0 8) 0 0 8, valS (s.extract 8 s.size) 0 0 8, 0) else if s.size > 16 then (false, 0, 0, 8) else (false, 0, 0, 6)
theorem readS_4 {s : ByteArray} (h : s.size = 4) : readS s = (false, 0, valS s 0 0 4, 0) := if_pos h
theorem readS_16 {s : ByteArray} (h : s.size = 16) : readS s = (true, valS (s.extract 0 8) 0 0 8, valS (s.extract 8 s.size) 0 0 8, 0) := by unfold readS; rw [if_neg (by omega), if_pos h]
theorem readS_long {s : ByteArray} (h : s.size > 16) : readS s = (false, 0, 0, 8) := by unfold readS; rw [if_neg (by omega), if_neg (by omega), if_pos h]
theorem readS_short {s : ByteArray} (h : s.size < 16) (h4 : s.size ≠ 4) : readS s = (false, 0, 0, 6) := by unfold readS; rw [if_neg h4, if_neg (by omega), if_neg (by omega)]
theorem addr_Read_ev (s : ByteArray) (hs : s.size ≤ 140737488351232) : Ev (fun k => addr_Read.f k s) (readS s) := by
  unfold addr_Read.f
  by_cases h4 : s.size = 4
  · rw [readS_4 h4]
    refine ev_if_pos (by omega) ?_
    have := addr_value_ev' s hs
    rw [h4] at this
    exact Ev.bind this (Ev.now _)
  · refine ev_if_neg (by omega) ?_
    by_cases h16 : s.size = 16
    · rw [readS_16 h16]
      refine ev_if_pos (by omega) (ev_if_pos (by omega) (ev_if_pos (by omega) ?_))
      have s1 : (s.extract 0 8).size = 8 := by rw [ByteArray.size_extract]; omega
      have s2 : (s.extract 8 s.size).size = 8 := by rw [ByteArray.size_extract]; omega
      have t1 := addr_value_ev' (s.extract 0 8) (by omega)
      have t2 := addr_value_ev' (s.extract 8 s.size) (by omega)
      rw [s1] at t1; rw [s2] at t2
      exact Ev.bind t1 (Ev.bind t2 (Ev.now _))
    · refine ev_if_neg (by omega) ?_
      by_cases h17 : s.size > 16
      · rw [readS_long h17]; exact ev_if_pos (by omega) (Ev.now _)
      · rw [readS_short (by omega) h4]; exact ev_if_neg (by omega) (Ev.now _)
def total (hi lo : Int) : Int := hi * 18446744073709551616 + lo
def cmpS (v : Bool) (hi lo : Int) (v' : Bool) (hi' lo' : Int) : Int :=
  if v = v' then (if total hi lo < total hi' lo' then -1 else if total hi' lo' < total hi lo then 1 else 0) else if v' then -1 else 1

theorem addr_number_eq (a b : Int) : addr_number.f a b = some (if a < b then -1 else if b < a then 1 else 0) := by
  unfold addr_number.f
  by_cases h : a < b
  · simp [h]
  · by_cases g : b < a <;> simp [h, g]
theorem addr_Compare_eq (k : Nat) {v v' : Bool} {hi lo hi' lo' : Int} (h1 : U64 hi) (h2 : U64 lo) (h3 : U64 hi') (h4 : U64 lo') : addr_Compare.f (k + 1) v hi lo v' hi' lo' = some (cmpS v hi lo v' hi' lo') := by
  unfold U64 at h1 h2 h3 h4
  unfold addr_Compare.f cmpS
  simp only [addr_Compare.j0, addr_number_eq, Option.bind_some]
  cases v <;> cases v' <;> simp
  all_goals
    unfold total
    by_cases c : hi = hi'
    · subst c; simp
    · rw [if_neg c]
      by_cases d : hi < hi'
      · simp [d]; omega
      · have d' : hi' < hi := by omega
        simp [d, d']; omega
theorem digs_get (m : Nat) : ∀ (k i N : Nat) (h : i < (digs m k N).length), (digs m k N)[i] = N / m ^ i % m
  | 0, i, N, h => by simp [digs] at h
  | k + 1, 0, N, h => by simp [digs]
  | k + 1, i + 1, N, h => by
    have h' : i < (digs m k (N / m)).length := by
      rw [digs_len] at h ⊢
      omega
    have ih := digs_get m k i (N / m) h'
    show (digs m k (N / m))[i] = _
    rw [ih, Nat.div_div_eq_div_mul, ← Nat.pow_succ']
theorem valS_num (s : ByteArray) (N : Nat) (hN : N < 18446744073709551616) : ∀ (d i : Nat), (∀ j, j < d → bt s ((i + j : Nat) : Int) = ((N / 256 ^ (d - 1 - j) % 256 : Nat) : Int)) → valS s ((N / 256 ^ d : Nat) : Int) i d = (N : Int)
  | 0, i, _ => by
    show ((N / 256 ^ 0 : Nat) : Int) = N
    rw [Nat.pow_zero, Nat.div_one]
  | d + 1, i, h => by
    have h0 := h 0 (by omega)
    rw [Nat.add_zero, show d + 1 - 1 - 0 = d by omega] at h0
    have e : (((N / 256 ^ (d + 1) : Nat) : Int) * 256 + bt s (i : Int)) % 18446744073709551616 = ((N / 256 ^ d : Nat) : Int) := by
      rw [h0, Nat.pow_succ, ← Nat.div_div_eq_div_mul]
      have hx : N / 256 ^ d ≤ N := Nat.div_le_self _ _
      generalize N / 256 ^ d = x at hx ⊢
      omega
    show valS s ((((N / 256 ^ (d + 1) : Nat) : Int) * 256 + bt s (i : Int)) % 18446744073709551616) (i + 1) d = N
    rw [e]
    refine valS_num s N hN d (i + 1) (fun j hj => ?_)
    have := h (j + 1) (by omega)
    rw [show i + (j + 1) = i + 1 + j by omega, show d + 1 - 1 - (j + 1) = d - 1 - j by omega] at this
    exact this
theorem valS_low {s : ByteArray} {k N : Nat} (h : Low s (digs 256 k N)) (hN : N < 18446744073709551616) (hk : N < 256 ^ k) : valS s 0 0 k = (N : Int) := by
  have h1 := valS_num s N hN k 0 (fun j hj => by
    have hl := digs_len 256 k N
    have h2 := h.2 (k - 1 - j) (by omega)
    rw [digs_get, hl, show k - 1 - (k - 1 - j) = j by omega] at h2
    rw [Nat.zero_add]
    exact h2)
  rw [Nat.div_eq_of_lt hk] at h1
  exact h1
theorem by_inj {a b : ByteArray} (h : by_ a = by_ b) : a = b := ByteArray.ext (Array.toList_inj.mp h)
theorem by_extract (s : ByteArray) (i j : Nat) : by_ (s.extract i j) = ((by_ s).drop i).take (j - i) := by
  show (s.extract i j).data.toList = (s.data.toList.drop i).take (j - i)
  rw [ByteArray.data_extract, Array.toList_extract]
theorem by_nums (l : List Int) : by_ (strOfNums l) = l.map (fun n : Int => UInt8.ofNat n.toNat) := rfl
theorem read_wire {v : Bool} {hi lo : Int} (h1 : U64 hi) (h2 : U64 lo) (hv : vld v hi lo = true) : readS (wireS v hi lo).1 = (v, hi, lo, 0) := by
  obtain ⟨a, rfl⟩ : ∃ n : Nat, hi = n := ⟨hi.toNat, by have := h1.1; omega⟩
  obtain ⟨b, rfl⟩ : ∃ n : Nat, lo = n := ⟨lo.toNat, by have := h2.1; omega⟩
  have ha := h1.2
  have hb := h2.2
  have dl : ∀ k N, ∀ d, d ∈ digs 256 k N → d < 256 := digs_lt 256 (by decide)
  unfold wireS
  rw [if_pos hv]
  cases v with
  | true =>
    rw [if_pos rfl]
    show readS (strOfNums (octF 8 (a : Int)) ++ strOfNums (octF 8 (b : Int))) = _
    rw [nums_app]
    have hs : (strOfNums (octF 8 (a : Int) ++ octF 8 (b : Int))).size = 16 := by rw [strOfNums_size, List.length_append, octF_length, octF_length]
    have e1 : (strOfNums (octF 8 (a : Int) ++ octF 8 (b : Int))).extract 0 8 = strOfNums (octF 8 (a : Int)) := by
      apply by_inj
      rw [by_extract, by_nums, by_nums, List.map_append, List.drop_zero]
      exact List.take_left' (by rw [List.length_map, octF_length])
    have e2 : (strOfNums (octF 8 (a : Int) ++ octF 8 (b : Int))).extract 8 (strOfNums (octF 8 (a : Int) ++ octF 8 (b : Int))).size = strOfNums (octF 8 (b : Int)) := by
      apply by_inj
      rw [hs, by_extract, by_nums, by_nums, List.map_append, List.drop_left' (by rw [List.length_map, octF_length])]
      exact List.take_of_length_le (by rw [List.length_map, octF_length]; omega)
    rw [readS_16 hs, e1, e2, valS_low (low_of (oct_rev a 8) (dl _ _)) (by omega) (by show _ < 18446744073709551616; omega), valS_low (low_of (oct_rev b 8) (dl _ _)) (by omega) (by show _ < 18446744073709551616; omega)]
  | false =>
    have h3 : (a : Int) = 0 ∧ (b : Int) < 4294967296 := by
      rcases vld_true hv with h | h
      · cases h
      · exact h.2
    rw [if_neg (by decide)]
    have hs : (strOfNums (octF 4 (b : Int))).size = 4 := by rw [strOfNums_size, octF_length]
    show readS (strOfNums (octF 4 (b : Int))) = _
    rw [readS_4 hs, valS_low (low_of (oct_rev b 4) (dl _ _)) (by omega) (by show _ < 4294967296; omega), h3.1]
/-- The number of bytes, the highest first. -/
def num : List UInt8 → Nat
  | [] => 0
  | a :: x => a.toNat * 256 ^ x.length + num x
theorem num_lt : ∀ x : List UInt8, num x < 256 ^ x.length
  | [] => by decide
  | a :: x => by
    have ih := num_lt x
    have ha := a.toNat_lt
    have h2 : a.toNat * 256 ^ x.length ≤ 255 * 256 ^ x.length := Nat.mul_le_mul_right _ (by omega)
    rw [num, List.length_cons, Nat.pow_succ]
    omega
theorem num_app (y : List UInt8) : ∀ x : List UInt8, num (x ++ y) = num x * 256 ^ y.length + num y
  | [] => by simp [num]
  | a :: x => by
    rw [List.cons_append, num, num_app y x, num, List.length_append, Nat.pow_add, Nat.add_mul, Nat.mul_assoc, Nat.add_assoc]
theorem less_num : ∀ (x y : List UInt8), x.length = y.length → Op.bytesLess x y = decide (num x < num y)
  | [], [], _ => rfl
  | a :: x, b :: y, h => by
    have hl : x.length = y.length := by simpa using h
    have ih := less_num x y hl
    have hx := num_lt x
    have hy := num_lt y
    rw [Op.bytesLess, num, num, ih, hl]
    rw [hl] at hx
    by_cases hab : a.toNat < b.toNat
    · have h1 : (a.toNat + 1) * 256 ^ y.length ≤ b.toNat * 256 ^ y.length := Nat.mul_le_mul_right _ hab
      rw [Nat.add_mul, Nat.one_mul] at h1
      have hlt : a < b := hab
      rw [decide_eq_true hlt, Bool.true_or, decide_eq_true (by omega)]
    · by_cases hba : b.toNat < a.toNat
      · have h1 : (b.toNat + 1) * 256 ^ y.length ≤ a.toNat * 256 ^ y.length := Nat.mul_le_mul_right _ hba
        rw [Nat.add_mul, Nat.one_mul] at h1
        have hnlt : ¬ a < b := hab
        have hne : (a == b) = false := by
          rw [beq_eq_false_iff_ne]
          intro e
          rw [e] at hba
          omega
        rw [decide_eq_false hnlt, hne, Bool.false_and, Bool.or_false, decide_eq_false (by omega)]
      · have e : a = b := UInt8.toNat_inj.1 (by omega)
        subst e
        have hnlt : ¬ a < a := hab
        rw [decide_eq_false hnlt, beq_self_eq_true, Bool.true_and, Bool.false_or]
        by_cases hxy : num x < num y
        · rw [decide_eq_true hxy, decide_eq_true (by omega)]
        · rw [decide_eq_false hxy, decide_eq_false (by omega)]
theorem num_inj : ∀ (x y : List UInt8), x.length = y.length → num x = num y → x = y
  | [], [], _, _ => rfl
  | a :: x, b :: y, h, hn => by
    have hl : x.length = y.length := by simpa using h
    have hx := num_lt x
    have hy := num_lt y
    rw [num, num, hl] at hn
    rw [hl] at hx
    have e : a.toNat = b.toNat := by
      rcases Nat.lt_trichotomy a.toNat b.toNat with c | c | c
      · have h1 : (a.toNat + 1) * 256 ^ y.length ≤ b.toNat * 256 ^ y.length := Nat.mul_le_mul_right _ c
        rw [Nat.add_mul, Nat.one_mul] at h1
        omega
      · exact c
      · have h1 : (b.toNat + 1) * 256 ^ y.length ≤ a.toNat * 256 ^ y.length := Nat.mul_le_mul_right _ c
        rw [Nat.add_mul, Nat.one_mul] at h1
        omega
    have e' : a = b := UInt8.toNat_inj.1 e
    subst e'
    rw [num_inj x y hl (by omega)]
theorem num_oct (n : Nat) : ∀ k : Nat, num ((octF k (n : Int)).map (fun n : Int => UInt8.ofNat n.toNat)) = n % 256 ^ k
  | 0 => by
    show 0 = n % 1
    omega
  | k + 1 => by
    have ih := num_oct n k
    have e : ((n : Int) / 256 ^ k % 256) = ((n / 256 ^ k % 256 : Nat) : Int) := by
      rw [show (256 : Int) ^ k = ((256 ^ k : Nat) : Int) by rw [Int.natCast_pow]; rfl]
      rfl
    have e2 : (UInt8.ofNat (n / 256 ^ k % 256)).toNat = n / 256 ^ k % 256 := by
      simp
    rw [octF, List.map_cons, num, ih, List.length_map, octF_length, e, Int.toNat_natCast, e2, Nat.mod_pow_succ, Nat.mul_comm, Nat.add_comm]
theorem num_wire {v : Bool} {hi lo : Int} (h1 : U64 hi) (h2 : U64 lo) (hv : vld v hi lo = true) : ((num (by_ (wireS v hi lo).1) : Nat) : Int) = total hi lo ∧ (by_ (wireS v hi lo).1).length = (if v = true then 16 else 4) := by
  obtain ⟨a, rfl⟩ : ∃ n : Nat, hi = n := ⟨hi.toNat, by have := h1.1; omega⟩
  obtain ⟨b, rfl⟩ : ∃ n : Nat, lo = n := ⟨lo.toNat, by have := h2.1; omega⟩
  have ha := h1.2
  have hb := h2.2
  unfold wireS total
  rw [if_pos hv]
  cases v with
  | true =>
    rw [if_pos rfl, if_pos rfl]
    show ((num (by_ (strOfNums (octF 8 (a : Int)) ++ strOfNums (octF 8 (b : Int)))) : Nat) : Int) = _ ∧ (by_ (strOfNums (octF 8 (a : Int)) ++ strOfNums (octF 8 (b : Int)))).length = 16
    rw [nums_app, by_nums, List.map_append, num_app, num_oct, num_oct, List.length_append, List.length_map, List.length_map, octF_length, octF_length]
    refine ⟨?_, rfl⟩
    rw [show (256 : Nat) ^ 8 = 18446744073709551616 from rfl]
    omega
  | false =>
    have h3 : (a : Int) = 0 ∧ (b : Int) < 4294967296 := by
      rcases vld_true hv with h | h
      · cases h
      · exact h.2
    rw [if_neg (by decide), if_neg (by decide)]
    show ((num (by_ (strOfNums (octF 4 (b : Int)))) : Nat) : Int) = _ ∧ (by_ (strOfNums (octF 4 (b : Int)))).length = 4
    rw [by_nums, num_oct, List.length_map, octF_length]
    refine ⟨?_, rfl⟩
    rw [show (256 : Nat) ^ 4 = 4294967296 from rfl]
    omega
end Go.Proofs.YtmkgjibmfabbdabDoor.AdR
