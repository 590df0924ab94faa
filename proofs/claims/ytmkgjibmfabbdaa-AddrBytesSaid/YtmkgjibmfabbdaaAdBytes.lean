/-
  The bytes of addresses: Wire, Read and their references, in plain words. Conditions: the numbers are of uint64, the strings of the reach.
-/
import Derived.Test.YtmkgjibmfabbdaaPx2
import Derived.Test.YtmkgjibmfabbdaaPx3
import Derived.Test.YtmkgjibmfabbdaaPx4
import Derived.Test.YtmkgjibmfabbdaaAd
namespace Go.Proofs.Ytmkgjibmfabbdaa.AdBytes
open Go.RowKit Go.Proofs.YtmkgjibmfabbdaaW.PrintWords Go.Proofs.YtmkgjibmfabbdaaW.PrintLast Go.Proofs.YtmkgjibmfabbdaaW.PrintMore Go.Proofs.Ytmkgjibmfabbdaa.Num Go.Proofs.Ytmkgjibmfabbdaa.Ad Go.Proofs.Ytmkgjibmfabbdaa.P
set_option linter.unusedVariables false
set_option linter.unusedSimpArgs false

/-- The number that bytes are, behind a number that was read before. -/
def valS (s : ByteArray) (n : Int) (i : Nat) : Nat → Int
  | 0 => n
  | d + 1 => valS s ((n * 256 + bt s i) % 18446744073709551616) (i + 1) d
theorem valS_u64 (s : ByteArray) (d : Nat) : ∀ (n : Int) (i : Nat), U64 n → U64 (valS s n i d) := by
  induction d with
  | zero => intro n i h; exact h
  | succ d ih => intro n i h; exact ih _ _ (by unfold U64; omega)
theorem addr_value_ev (s : ByteArray) (hs : s.size ≤ 140737488351232) (d : Nat) : ∀ (n : Int) (i : Nat), U64 n → i + d = s.size → Ev (fun k => addr_value.l0 k s n (s.size : Int) i) (valS s n i d) := by
  induction d with
  | zero =>
    intro n i hn hi
    refine ev_of_eq 1 (fun k => ?_)
    simp only [addr_value.l0]
    rw [if_neg (by omega)]; rfl
  | succ d ih =>
    intro n i hn hi
    unfold U64 at hn
    have hb := bt_range s i
    refine Ev.step (f := fun k => addr_value.l0 k s ((n * 256 + bt s i) % 18446744073709551616) (s.size : Int) ((i + 1 : Nat) : Int)) (fun k => ?_) (ih _ (i + 1) (by unfold U64; omega) (by omega))
    simp only [addr_value.l0]
    have e1 : wrap64 ((i : Int) + 1) = ((i + 1 : Nat) : Int) := by rw [wrap64_id (by omega) (by omega)]; omega
    have e2 : Go.bits .or .u64 (IntKind.u64.wrap (n * 256)) (IntKind.u64.wrap (bt s i)) = (n * 256 + bt s i) % 18446744073709551616 := by
      rw [wrap_u64, wrap_u64, or_u64 8 (by omega) (by omega) (by omega) (by omega) (by omega) (by omega)]; omega
    rw [if_pos (by omega), if_pos (by omega), if_pos (by omega), e1, e2]
theorem ref_value_ev (s : ByteArray) (hs : s.size ≤ 140737488351232) (d : Nat) : ∀ (n : Int) (i : Nat), U64 n → i + d = s.size → Ev (fun k => ddiref02_value.l0 k s n i) (valS s n i d) := by
  induction d with
  | zero =>
    intro n i hn hi
    refine ev_of_eq 1 (fun k => ?_)
    simp only [ddiref02_value.l0]
    rw [if_neg (by omega)]; rfl
  | succ d ih =>
    intro n i hn hi
    unfold U64 at hn
    have hb := bt_range s i
    refine Ev.step (f := fun k => ddiref02_value.l0 k s ((n * 256 + bt s i) % 18446744073709551616) ((i + 1 : Nat) : Int)) (fun k => ?_) (ih _ (i + 1) (by unfold U64; omega) (by omega))
    simp only [ddiref02_value.l0]
    have e1 : wrap64 ((i : Int) + 1) = ((i + 1 : Nat) : Int) := by rw [wrap64_id (by omega) (by omega)]; omega
    have e2 : IntKind.u64.wrap (IntKind.u64.wrap (n * 256) + IntKind.u64.wrap (bt s i)) = (n * 256 + bt s i) % 18446744073709551616 := by
      rw [wrap_u64, wrap_u64, wrap_u64]; omega
    rw [if_pos (by omega), if_pos (by omega), e1, e2]
theorem addr_value_ev' (s : ByteArray) (hs : s.size ≤ 140737488351232) : Ev (fun k => addr_value.f k s) (valS s 0 0 s.size) := addr_value_ev s hs s.size 0 0 (by unfold U64; omega) (by omega)
theorem ref_value_ev' (s : ByteArray) (hs : s.size ≤ 140737488351232) : Ev (fun k => ddiref02_value.f k s) (valS s 0 0 s.size) := ref_value_ev s hs s.size 0 0 (by unfold U64; omega) (by omega)

def readS (s : ByteArray) : Bool × Int × Int × Int :=
  if s.size = 4 then (false, 0, valS s 0 0 4, 0) else if s.size = 16 then (true, valS (s.extract 0 8) 0 0 8, valS (s.extract 8 s.size) 0 0 8, 0) else if s.size > 16 then (false, 0, 0, 8) else (false, 0, 0, 6)
theorem readS_4 {s : ByteArray} (h : s.size = 4) : readS s = (false, 0, valS s 0 0 4, 0) := if_pos h
theorem readS_16 {s : ByteArray} (h : s.size = 16) : readS s = (true, valS (s.extract 0 8) 0 0 8, valS (s.extract 8 s.size) 0 0 8, 0) := by unfold readS; rw [if_neg (by omega), if_pos h]
theorem readS_long {s : ByteArray} (h : s.size > 16) : readS s = (false, 0, 0, 8) := by unfold readS; rw [if_neg (by omega), if_neg (by omega), if_pos h]
theorem readS_short {s : ByteArray} (h : s.size < 16) (h4 : s.size ≠ 4) : readS s = (false, 0, 0, 6) := by unfold readS; rw [if_neg h4, if_neg (by omega), if_neg (by omega)]
theorem addr_Read_ev (s : ByteArray) (hs : s.size ≤ 140737488351232) : Ev (fun k => addr_Read.f k s) (readS s) := by
  unfold addr_Read.f
  by_cases h4 : s.size = 4
  · rw [readS_4 h4]
    refine ev_if_pos (by omega) ?_
    have := addr_value_ev' s hs
    rw [h4] at this
    exact Ev.bind this (Ev.now _)
  · refine ev_if_neg (by omega) ?_
    by_cases h16 : s.size = 16
    · rw [readS_16 h16]
      refine ev_if_pos (by omega) (ev_if_pos (by omega) (ev_if_pos (by omega) ?_))
      have s1 : (s.extract 0 8).size = 8 := by rw [ByteArray.size_extract]; omega
      have s2 : (s.extract 8 s.size).size = 8 := by rw [ByteArray.size_extract]; omega
      have t1 := addr_value_ev' (s.extract 0 8) (by omega)
      have t2 := addr_value_ev' (s.extract 8 s.size) (by omega)
      rw [s1] at t1; rw [s2] at t2
      exact Ev.bind t1 (Ev.bind t2 (Ev.now _))
    · refine ev_if_neg (by omega) ?_
      by_cases h17 : s.size > 16
      · rw [readS_long h17]; exact ev_if_pos (by omega) (Ev.now _)
      · rw [readS_short (by omega) h4]; exact ev_if_neg (by omega) (Ev.now _)
theorem ref_Read_ev (s : ByteArray) (hs : s.size ≤ 140737488351232) : Ev (fun k => ddiref02_Read.f k s) (readS s) := by
  unfold ddiref02_Read.f
  by_cases h17 : s.size > 16
  · rw [readS_long h17]; exact ev_if_pos (by omega) (Ev.now _)
  · refine ev_if_neg (by omega) ?_
    by_cases h16 : s.size = 16
    · rw [readS_16 h16]
      refine ev_if_pos (by omega) (ev_if_pos (by omega) (ev_if_pos (by omega) ?_))
      have s1 : (s.extract 0 8).size = 8 := by rw [ByteArray.size_extract]; omega
      have s2 : (s.extract 8 s.size).size = 8 := by rw [ByteArray.size_extract]; omega
      have t1 := ref_value_ev' (s.extract 0 8) (by omega)
      have t2 := ref_value_ev' (s.extract 8 s.size) (by omega)
      rw [s1] at t1; rw [s2] at t2
      exact Ev.bind t1 (Ev.bind t2 (Ev.now _))
    · refine ev_if_neg (by omega) ?_
      by_cases h4 : s.size = 4
      · rw [readS_4 h4]
        refine ev_if_pos (by omega) ?_
        have := ref_value_ev' s hs
        rw [h4] at this
        exact Ev.bind this (Ev.now _)
      · rw [readS_short (by omega) h4]; exact ev_if_neg (by omega) (Ev.now _)

/-- The n low bytes of a number, the most significant one first. -/
def octF : Nat → Int → List Int
  | 0, _ => []
  | n + 1, v => (v / 256 ^ n % 256) :: octF n v
theorem octF_length (n : Nat) (v : Int) : (octF n v).length = n := by
  induction n with
  | zero => rfl
  | succ n ih => simp [octF, ih]
theorem addr_bytes_ev {x : Int} (h : U64 x) : Ev (fun k => addr_bytes.f k x) (octF 8 x) := by
  refine ev_of_eq 9 (fun k => ?_)
  unfold addr_bytes.f
  simp [addr_bytes.l0, wrap64, shr, octF, IntKind.bits]
theorem octets_l1 {x : Int} (d : Nat) : ∀ (k : Nat) (l : List Int) (i y j : Int), 0 ≤ y → y < 18446744073709551616 → 0 ≤ j → i ≤ 1000 → i = j + d → l.length < 140737488355328 →
    ddiref02_octets.l1 (k + d + 1) x l i y j = ddiref02_octets.l0 k x (l ++ [y / 256 ^ d % 256]) (i - 1) := by
  induction d with
  | zero =>
    intro k l i y j h0 h1 h2 h3 h4 h5
    simp only [ddiref02_octets.l1]
    rw [if_neg (by omega), if_pos h5, wrap64_id (by omega) (by omega), Int.tmod_eq_emod_of_nonneg h0]
    simp
  | succ d ih =>
    intro k l i y j h0 h1 h2 h3 h4 h5
    have hi := ih k l i (y / 256) (j + 1) (by omega) (by omega) (by omega) h3 (by omega) h5
    have hk : k + (d + 1) + 1 = (k + d + 1) + 1 := by omega
    rw [hk]
    generalize k + d + 1 = m at hi ⊢
    simp only [ddiref02_octets.l1]
    have e : y / 256 % 18446744073709551616 = y / 256 := by omega
    rw [if_pos (by omega), wrap64_id (by omega) (by omega), Int.tdiv_eq_ediv_of_nonneg h0, wrap_u64, e, hi, Int.ediv_ediv_of_nonneg (by omega), Int.pow_succ, Int.mul_comm]
theorem octets_l0 {x : Int} (h0 : 0 ≤ x) (h1 : x < 18446744073709551616) (n : Nat) (hn : n ≤ 1000) : ∀ (l : List Int), l.length + n ≤ 1000 → Ev (fun k => ddiref02_octets.l0 k x l ((n : Int) - 1)) (strOfNums (l ++ octF n x)) := by
  induction n with
  | zero =>
    intro l hl
    refine ev_of_eq 1 (fun k => ?_)
    simp only [ddiref02_octets.l0]
    rw [if_neg (by omega)]
    simp [octF]
  | succ n ih =>
    intro l hl
    have hm := ih (by omega) (l ++ [x / 256 ^ n % 256]) (by simp; omega)
    obtain ⟨K, hK⟩ := hm
    refine ⟨K + n + 2, fun k hk => ?_⟩
    obtain ⟨m, rfl⟩ : ∃ m, k = (m + n + 1) + 1 := ⟨k - n - 2, by omega⟩
    simp only [ddiref02_octets.l0]
    rw [if_pos (by omega), octets_l1 n m l _ x 0 h0 h1 (by omega) (by omega) (by omega) (by omega)]
    have e : (((n + 1 : Nat) : Int) - 1 - 1) = (n : Int) - 1 := by omega
    have hm := hK m (by omega)
    simp only at hm
    rw [e, hm]
    simp [octF]
theorem ref_octets_ev {x : Int} (h : U64 x) (n : Nat) (hn : n ≤ 1000) : Ev (fun k => ddiref02_octets.f k x n) (strOfNums (octF n x)) := by
  unfold ddiref02_octets.f
  rw [wrap64_id (by omega) (by omega)]
  exact octets_l0 h.1 h.2 n hn [] (by simp; omega)

def wireS (v : Bool) (hi lo : Int) : ByteArray × Int :=
  if vld v hi lo = true then (if v = true then (strOfNums (octF 8 hi) ++ strOfNums (octF 8 lo), 0) else (strOfNums (octF 4 lo), 0)) else ((⟨#[]⟩ : ByteArray), 3)
theorem addr_Wire_ev {v : Bool} {hi lo : Int} (h1 : U64 hi) (h2 : U64 lo) : Ev (fun k => addr_Wire.f k v hi lo) (wireS v hi lo) := by
  unfold addr_Wire.f wireS
  refine ev_bind_const (addr_Valid_eq v hi lo) ?_
  cases hv : vld v hi lo
  · exact ev_if_neg (by simp) (Ev.now _)
  · refine ev_if_pos rfl ?_
    rw [if_pos rfl]
    cases v
    · refine ev_if_neg (by simp) ?_
      rw [if_neg (by simp)]
      refine Ev.bind (addr_bytes_ev h2) (ev_if_pos (by rw [octF_length]; omega) ?_)
      exact Ev.now _
    · refine ev_if_pos rfl ?_
      rw [if_pos rfl]
      refine Ev.bind (addr_bytes_ev h1) (Ev.bind (addr_bytes_ev h2) (ev_if_pos ?_ (Ev.now _)))
      rw [strOfNums_size, strOfNums_size, octF_length, octF_length]; omega
theorem ref_Wire_ev {v : Bool} {hi lo : Int} (h1 : U64 hi) (h2 : U64 lo) : Ev (fun k => ddiref02_Wire.f k v hi lo) (wireS v hi lo) := by
  unfold ddiref02_Wire.f wireS
  refine ev_bind_const (ref_Valid_eq v hi lo) ?_
  cases hv : vld v hi lo
  · exact ev_if_neg (by simp) (Ev.now _)
  · refine ev_if_pos rfl ?_
    rw [if_pos rfl]
    cases v
    · refine ev_if_neg (by simp) ?_
      rw [if_neg (by simp)]
      exact Ev.bind (ref_octets_ev h2 4 (by omega)) (Ev.now _)
    · refine ev_if_pos rfl ?_
      rw [if_pos rfl]
      refine Ev.bind (ref_octets_ev h1 8 (by omega)) (Ev.bind (ref_octets_ev h2 8 (by omega)) (ev_if_pos ?_ (Ev.now _)))
      rw [strOfNums_size, strOfNums_size, octF_length, octF_length]; omega
end Go.Proofs.Ytmkgjibmfabbdaa.AdBytes
