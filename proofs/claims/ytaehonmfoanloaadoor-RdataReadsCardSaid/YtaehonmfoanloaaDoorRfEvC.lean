/-
  The reference's reading of numbers, texts and sets in plain words. Conditions: each theorem's own.
-/
import Derived.Test.YtaehonmfoanloaaDoorPAx8
import Derived.Test.YtaehonmfoanloaaDoorPAx7
import Derived.Test.YtaehonmfoanloaaDoorPAx9
import Derived.Test.YtaehonmfoanloaaDoorPAx10
import Derived.Test.YtaehonmfoanloaaDoorRfEvA
import Derived.Test.YtaehonmfoanloaaDoorRdBit
namespace Go.Proofs.YtaehonmfoanloaaDoor.Hand
open Go.RowKit Go.Proofs.YtaehonmfoanloaaDoorW.PrintWords Go.Proofs.YtaehonmfoanloaaDoorW.PrintLast Go.Proofs.YtaehonmfoanloaaDoorW.PrintMore Go.Proofs.YtaehonmfoanloaaDoor.Num Go.Proofs.YtaehonmfoanloaaDoor.Bits Go.Proofs.YtaehonmfoanloaaDoor.RdW Go.Proofs.YtaehonmfoanloaaDoor.Str Go.Proofs.YtaehonmfoanloaaDoor.PA
set_option linter.all false
/-- A number that was read, and the cursor behind it. -/
def takeR (s : ByteArray) (r : Rs Nat) : Int × Int × Int := match r with
  | .ok (v, rest) => ((v : Int), ((s.size - rest.length : Nat) : Int), 0)
  | .error n => (0, (s.size : Int), n)
theorem take_l0 (s : ByteArray) (hs : s.size ≤ 1000000) (n : Nat) (hn : n ≤ 4) : ∀ (d i v p : Nat), i + d = n → v < 256 ^ i → p ≤ s.size → Ev (fun k => ddiref05_Take.l0 k s (n : Int) (v : Int) (i : Int) (p : Int) 0) (takeR s (rNum d v (rem s p)))
  | 0, i, v, p, hi, hv, hp => by
    refine ev_of_eq 1 (fun k => ?_)
    rw [ddiref05_Take.l0, if_neg (by omega), if_pos rfl]
    show _ = some (((v : Nat) : Int), ((s.size - (rem s p).length : Nat) : Int), (0 : Int))
    rw [rem_at s p hp]
  | d + 1, i, v, p, hi, hv, hp => by
    cases hr : rem s p with
    | nil =>
      have hl := rem_len s p
      rw [hr] at hl
      simp only [List.length_nil] at hl
      refine ev_of_eq 1 (fun k => ?_)
      rw [ddiref05_Take.l0, if_pos (by omega), if_pos rfl, if_pos (by omega)]
      have : p = s.size := by omega
      rw [this]; rfl
    | cons c r =>
      obtain ⟨h1, h2, h3⟩ := bt_drop (s := s) (i := p) (c := c) (r := r) hr
      have hc := c.toNat_lt
      have hi3 : i ≤ 3 := by omega
      have hv4 : v < 16777216 := Nat.lt_of_lt_of_le hv (Nat.pow_le_pow_right (by omega) hi3)
      have ih := take_l0 s hs n hn d (i + 1) (v * 256 + c.toNat) (p + 1) (by omega) (by rw [Nat.pow_succ]; omega) (by omega)
      rw [show rem s (p + 1) = r from h3] at ih
      refine Ev.step (fun k => ?_) ih
      have e : wrap64 (wrap64 ((v : Int) * 256) + wrap64 (c.toNat : Int)) = ((v * 256 + c.toNat : Nat) : Int) := by
        rw [wrap64_id (x := (v : Int) * 256) (by omega) (by omega), wrap64_id (x := (c.toNat : Int)) (by omega) (by omega), wrap64_id (by omega) (by omega)]; omega
      rw [ddiref05_Take.l0, if_pos (by omega), if_pos rfl, if_neg (by omega), if_pos (by omega), if_pos (by omega), h2, e, wrap_s (by omega), wrap_s (by omega)]
theorem Take_ev (s : ByteArray) (hs : s.size ≤ 1000000) (n p : Nat) (hn : n ≤ 4) (hp : p ≤ s.size) : Ev (fun k => ddiref05_Take.f k s (p : Int) 0 (n : Int)) (takeR s (rNum n 0 (rem s p))) := by
  unfold ddiref05_Take.f
  exact take_l0 s hs n hn n 0 0 p (by omega) (by simp) hp
theorem Take_err (s : ByteArray) (n : Nat) (q e : Int) (he : e ≠ 0) : Ev (fun k => ddiref05_Take.f k s q e (n : Int)) (0, q, e) := by
  unfold ddiref05_Take.f
  refine ev_of_eq 1 (fun k => ?_)
  rw [ddiref05_Take.l0]
  by_cases hn : (0 : Int) < (n : Int)
  · rw [if_pos hn, if_neg he]
  · rw [if_neg hn, if_neg he]
def runR (s : ByteArray) (r : Rs (List UInt8)) : ByteArray × Int × Int := match r with
  | .ok (l, rest) => (strOf l, ((s.size - rest.length : Nat) : Int), 0)
  | .error n => ((⟨#[]⟩ : ByteArray), (s.size : Int), n)
theorem run_eq (s : ByteArray) (hs : s.size ≤ 1000000) (n p : Nat) (hn : n ≤ 1000000) (hp : p ≤ s.size) : ddiref05_run.f s (p : Int) 0 (n : Int) = some (runR s (rTake n (rem s p))) := by
  have hl := rem_len s p
  unfold ddiref05_run.f rTake
  rw [if_pos rfl, wrap64_id (by omega) (by omega)]
  by_cases h : n ≤ (rem s p).length
  · rw [if_neg (by omega), if_pos (by omega), wrap64_id (by omega) (by omega), if_pos (by omega), if_pos (by omega), if_pos h]
    show _ = some (strOf _, ((s.size - ((rem s p).drop n).length : Nat) : Int), (0 : Int))
    rw [List.length_drop, show (p : Int) + (n : Int) = ((p + n : Nat) : Int) by omega, Int.toNat_natCast, Int.toNat_natCast, extract_rem s p n (by omega), show s.size - ((rem s p).length - n) = p + n by omega]
  · rw [if_pos (by omega), if_neg h]; rfl
theorem run_err (s : ByteArray) (n q e : Int) (he : e ≠ 0) : ddiref05_run.f s q e n = some ((⟨#[]⟩ : ByteArray), q, e) := by
  unfold ddiref05_run.f; rw [if_neg he]
theorem rest_eq (s : ByteArray) (p : Nat) (hp : p ≤ s.size) : ddiref05_rest.f s (p : Int) 0 = some (strOf (rem s p), (s.size : Int), 0) := by
  have hl := rem_len s p
  unfold ddiref05_rest.f
  rw [if_pos rfl, if_pos (by omega), if_pos (by omega), Int.toNat_natCast]
  have := extract_rem s p (s.size - p) (by omega)
  rw [show p + (s.size - p) = s.size by omega, List.take_of_length_le (by omega)] at this
  rw [this]
theorem rest_err (s : ByteArray) (q e : Int) (he : e ≠ 0) : ddiref05_rest.f s q e = some ((⟨#[]⟩ : ByteArray), q, e) := by
  unfold ddiref05_rest.f; rw [if_neg he]
theorem letter_all : ∀ (n : Fin 256) (b : Bool), ddiref05_Letter.f (n.val : Int) b = some (((low (UInt8.ofNat n.val)).toNat : Int), okc (low (UInt8.ofNat n.val)) || (UInt8.ofNat n.val == 42 && b)) := by decide +kernel
theorem Letter_eq (c : UInt8) (b : Bool) : ddiref05_Letter.f (c.toNat : Int) b = some (((low c).toNat : Int), okc (low c) || (c == 42 && b)) := by
  have h := letter_all ⟨c.toNat, c.toNat_lt⟩ b
  simpa using h
/-! ### sets -/
theorem l2_step (n : Int) (M : ByteArray) (S i : Int) (j : Nat) (hj : j < 8) (q : Int) : ∀ (d v k0 : Nat) (k : Nat), k0 + d = 7 - j → v < 256 →
    ddiref05_takeBits.l2 (k + d + 1) n M S i (j : Int) (v : Int) (k0 : Int) q 0 = ddiref05_takeBits.l2 (k + 1) n M S i (j : Int) ((v / 2 ^ d : Nat) : Int) ((7 - j : Nat) : Int) q 0
  | 0, v, k0, k, hk, hv => by
    have : k0 = 7 - j := by omega
    subst this
    simp
  | d + 1, v, k0, k, hk, hv => by
    have ih := l2_step n M S i j hj q d (v / 2) (k0 + 1) k (by omega) (by omega)
    rw [show k + (d + 1) + 1 = (k + d + 1) + 1 by omega]
    conv => lhs; rw [ddiref05_takeBits.l2]
    have hw : wrap64 (7 - (j : Int)) = ((7 - j : Nat) : Int) := by rw [wrap64_id (by omega) (by omega)]; omega
    rw [hw, if_pos (by omega), Int.tdiv_eq_ediv_of_nonneg (by omega), wrap64_id (x := (v : Int) / 2) (by omega) (by omega), wrap_s (by omega), show ((v : Int) / 2) = ((v / 2 : Nat) : Int) by omega, ih, Nat.div_div_eq_div_mul, Nat.pow_succ, Nat.mul_comm]
theorem bits_mod (x t : Nat) : x % 2 ^ (t + 1) = x % 2 ^ t + bitN x t * 2 ^ t := by
  rw [Nat.mod_pow_succ, bitN_div, Nat.mul_comm]
theorem tmod2 (x : Nat) : Int.tmod (x : Int) 2 = ((x % 2 : Nat) : Int) := by
  rw [Int.tmod_eq_emod_of_nonneg (by omega)]; omega
theorem addP {Q P : Nat} (h1 : Q < P) (h2 : P ≤ 36028797018963968) : IntKind.u64.wrap ((Q : Int) + (P : Int)) = ((Q + 1 * P : Nat) : Int) := by
  rw [wrap_u64]; omega
theorem l2_end (n : Nat) (M : ByteArray) (S : Nat) (i j : Nat) (hi : i < 7) (hj : j < 8) (q : Int) (x : Nat) (hS : S < 2 ^ (8 * i + j)) (k : Nat) :
    ddiref05_takeBits.l2 (k + 1) (n : Int) M (S : Int) (i : Int) (j : Int) (x : Int) ((7 - j : Nat) : Int) q 0 = ddiref05_takeBits.l1 k (n : Int) M ((S + (x % 2) * 2 ^ (8 * i + j) : Nat) : Int) (i : Int) ((j + 1 : Nat) : Int) q 0 := by
  have hw : wrap64 (7 - (j : Int)) = ((7 - j : Nat) : Int) := by rw [wrap64_id (by omega) (by omega)]; omega
  have e1 : IntKind.u64.wrap (wrap64 (wrap64 ((i : Int) * 8) + (j : Int))) = ((8 * i + j : Nat) : Int) := by rw [wrap64_id (x := (i : Int) * 8) (by omega) (by omega), wrap64_id (by omega) (by omega), wrap_u64]; omega
  have hsl := shl_one (t := 8 * i + j) (by omega)
  have hpl : 2 ^ (8 * i + j) ≤ 36028797018963968 := Nat.le_trans (Nat.pow_le_pow_right (show 0 < 2 by decide) (show 8 * i + j ≤ 55 by omega)) (by decide)
  have hwj : wrap64 ((j : Int) + 1) = ((j + 1 : Nat) : Int) := wrap_s (by omega)
  rw [ddiref05_takeBits.l2, hw, if_neg (Int.lt_irrefl _), tmod2, e1, hsl, hwj]
  rcases Nat.mod_two_eq_zero_or_one x with h | h
  · rw [h, if_neg (by decide), Nat.zero_mul]; rfl
  · rw [h, if_pos (by rfl), if_pos (Int.natCast_nonneg _), addP hS hpl]
theorem l1_ev (n : Nat) (hn : n ≤ 7) (m : List UInt8) (hm : m.length = n) (i : Nat) (hi : i < n) (q : Int) (r : Int × Int × Int)
    (K : Ev (fun k => ddiref05_takeBits.l0 k (n : Int) (strOf m) ((bitsOf m % 2 ^ (8 * (i + 1)) : Nat) : Int) ((i + 1 : Nat) : Int) q 0) r) :
    ∀ (d j : Nat), j + d = 8 → Ev (fun k => ddiref05_takeBits.l1 k (n : Int) (strOf m) ((bitsOf m % 2 ^ (8 * i + j) : Nat) : Int) (i : Int) (j : Int) q 0) r
  | 0, j, hj => by
    obtain rfl : j = 8 := by omega
    refine Ev.step (fun k => ?_) K
    rw [ddiref05_takeBits.l1, if_neg (by omega), wrap_s (by omega), show 8 * i + 8 = 8 * (i + 1) by omega]
  | d + 1, j, hj => by
    have ih := l1_ev n hn m hm i hi q r K d (j + 1) (by omega)
    obtain ⟨K0, hK⟩ := ih
    have hib : i < (strOf m).size := by rw [strOf_size, hm]; exact hi
    have hbi : bt (strOf m) (i : Int) = ((m[i]'(by omega)).toNat : Int) := by
      refine (bt_drop (s := strOf m) (i := i) (c := m[i]'(by omega)) (r := m.drop (i + 1)) ?_).2.1
      rw [by_strOf, List.drop_eq_getElem_cons (by omega)]
    have hbit : (bitsOf m).testBit (8 * i + j) = (m[i]'(by omega)).toNat.testBit (7 - j) := by
      have h := bitsOf_bit m (8 * i + j) (by omega)
      have e1 : (8 * i + j) / 8 = i := by omega
      have e2 : (8 * i + j) % 8 = j := by omega
      simp only [e1, e2] at h
      exact h
    generalize hb : (m[i]'(by omega)) = b at *
    have hlt := b.toNat_lt
    have hwb : wrap64 (b.toNat : Int) = (b.toNat : Int) := wrap64_id (by omega) (by omega)
    have q1 : (j : Int) < 8 := by omega
    have q2 : (0 : Int) ≤ (i : Int) := by omega
    have q3 : (i : Int) < ((strOf m).size : Int) := by omega
    have q4 : i < 7 := by omega
    have q5 : j < 8 := by omega
    have q6 : 0 + (7 - j) = 7 - j := by omega
    refine ⟨K0 + 10, fun k hk => ?_⟩
    obtain ⟨k', hk', rfl⟩ : ∃ k', K0 ≤ k' ∧ k = (k' + (7 - j) + 1) + 1 := ⟨k - (7 - j) - 2, by omega, by omega⟩
    have hK2 := hK k' hk'
    simp only at hK2
    clear hK hk hk'
    show ddiref05_takeBits.l1 ((k' + (7 - j) + 1) + 1) _ _ _ _ _ _ _ = some r
    rw [ddiref05_takeBits.l1, if_pos q1, if_pos q2, if_pos q3, hbi, hwb]
    have h2 := l2_step (n : Int) (strOf m) ((bitsOf m % 2 ^ (8 * i + j) : Nat) : Int) (i : Int) j q5 q (7 - j) b.toNat 0 k' q6 hlt
    refine h2.trans ?_
    rw [l2_end n (strOf m) (bitsOf m % 2 ^ (8 * i + j)) i j q4 q5 q _ (Nat.mod_lt _ (Nat.pow_pos (by decide))) k']
    have hbv : b.toNat / 2 ^ (7 - j) % 2 = bitN (bitsOf m) (8 * i + j) := by
      rw [← bitN_div]; unfold bitN; rw [hbit]
    rw [hbv, ← bits_mod]
    exact hK2
theorem l0_ev (n : Nat) (h1 : 1 ≤ n) (hn : n ≤ 7) (m : List UInt8) (hm : m.length = n) (q : Int) : ∀ (d i : Nat), i + d = n →
    Ev (fun k => ddiref05_takeBits.l0 k (n : Int) (strOf m) ((bitsOf m % 2 ^ (8 * i) : Nat) : Int) (i : Int) q 0) (if m.getLast? = some 0 then (0, q, 7) else if onlyT (bitsOf m) = true then (((bitsOf m : Nat) : Int), q, 0) else (0, q, 7))
  | 0, i, hi => by
    obtain rfl : i = n := by omega
    have hlt : bitsOf m < 2 ^ (8 * i) := by have := bitsOf_lt m; rw [hm] at this; rw [Nat.pow_mul]; exact this
    rw [Nat.mod_eq_of_lt hlt]
    have h56 : 2 ^ (8 * i) ≤ 2 ^ 56 := Nat.pow_le_pow_right (by omega) (by omega)
    have e56 : (2 : Nat) ^ 56 = 72057594037927936 := by decide
    have hw : wrap64 ((i : Int) - 1) = ((i - 1 : Nat) : Int) := by rw [wrap64_id (by omega) (by omega)]; omega
    obtain ⟨c, d1, d2⟩ := drop_last m (by omega)
    rw [hm] at d1
    obtain ⟨b1, b2, _⟩ := bt_drop (s := strOf m) (i := i - 1) (c := c) (r := []) (by rw [by_strOf]; exact d1)
    have hall := all_ref_ev ((bitsOf m : Nat) : Int) (by omega) (by omega)
    unfold setB at hall
    rw [Int.toNat_natCast] at hall
    refine Ev.step (f := fun k => if (c.toNat : Int) = 0 then some (0, q, 7) else ((ddiref05_all.f k ((bitsOf m : Nat) : Int)).bind fun t => if t = true then some (((bitsOf m : Nat) : Int), q, 0) else some (0, q, 7))) (fun k => ?_) ?_
    · rw [ddiref05_takeBits.l0, if_neg (by omega), hw, if_pos (by omega), if_pos (by omega), b2]
    · rw [d2]
      by_cases hc : c = 0
      · subst hc
        rw [if_pos rfl]
        exact ev_if_pos rfl (Ev.now _)
      · have hc0 : ¬ (c.toNat : Int) = 0 := by
          intro g; apply hc; apply UInt8.toNat_inj.1
          show c.toNat = 0
          omega
        rw [if_neg (by intro g; exact hc (by simpa using g))]
        refine ev_if_neg hc0 (Ev.bind hall ?_)
        by_cases ho : onlyT (bitsOf m) = true
        · refine ev_if_pos ho ?_
          rw [if_pos ho]; exact Ev.now _
        · refine ev_if_neg ho ?_
          rw [if_neg ho]; exact Ev.now _
  | d + 1, i, hi => by
    have ih := l0_ev n h1 hn m hm q d (i + 1) (by omega)
    have h := l1_ev n hn m hm i (by omega) q _ ih 8 0 rfl
    refine Ev.step (fun k => ?_) h
    rw [ddiref05_takeBits.l0, if_pos (by omega)]
    rfl
theorem rBits_bad0 {z : UInt8} {r : List UInt8} (h : z ≠ 0) : rBits (z :: r) = .error 7 := if_pos h
theorem rBits_zero (n : UInt8) (r : List UInt8) : rBits (0 :: n :: r) = if n.toNat < 1 ∨ 7 < n.toNat then .error 7 else if r.length < n.toNat then .error 6 else if (r.take n.toNat).getLast? = some 0 then .error 7 else if onlyT (bitsOf (r.take n.toNat)) then .ok (bitsOf (r.take n.toNat), r.drop n.toNat) else .error 7 := by
  unfold rBits
  simp only
  rw [if_neg (by simp)]
theorem rBits_badn {n : UInt8} {r : List UInt8} (h : n.toNat < 1 ∨ 7 < n.toNat) : rBits (0 :: n :: r) = .error 7 := by
  rw [rBits_zero, if_pos h]
theorem rBits_in {n : UInt8} {r : List UInt8} (h : ¬ (n.toNat < 1 ∨ 7 < n.toNat)) : rBits (0 :: n :: r) = if r.length < n.toNat then .error 6 else if (r.take n.toNat).getLast? = some 0 then .error 7 else if onlyT (bitsOf (r.take n.toNat)) then .ok (bitsOf (r.take n.toNat), r.drop n.toNat) else .error 7 := by
  rw [rBits_zero, if_neg h]
/-- A set that was read, and the cursor behind it (wherever it stands after an error). -/
def bitsFit (s : ByteArray) (r : Rs Nat) (v : Int × Int × Int) : Prop := match r with
  | .ok (b, rest) => v = ((b : Int), ((s.size - rest.length : Nat) : Int), 0)
  | .error n => v.1 = 0 ∧ v.2.2 = n
theorem takeBits_err (s : ByteArray) (q e : Int) (he : e ≠ 0) : Ev (fun k => ddiref05_takeBits.f k s q e) (0, q, e) := by
  unfold ddiref05_takeBits.f
  have h := Take_err s 1 q e he
  refine Ev.bind h (ev_if_neg he ?_)
  refine Ev.step (f := fun k => (ddiref05_Take.f k s q e 1).bind fun bt299 => (if bt299.2.2 = 0 then (if bt299.1 = 0 then (ddiref05_takeBits.j1 k s bt299.1 true bt299.2.1 bt299.2.2) else (ddiref05_takeBits.j1 k s bt299.1 (decide (bt299.1 > 7)) bt299.2.1 bt299.2.2)) else (ddiref05_takeBits.j1 k s bt299.1 false bt299.2.1 bt299.2.2))) (fun k => by rw [ddiref05_takeBits.j0, if_neg (by simp)]) ?_
  refine Ev.bind h (ev_if_neg he ?_)
  refine ev_of_eq 1 (fun k => ?_)
  rw [ddiref05_takeBits.j1, if_neg (by simp), run_err s _ q e he]
  show (if e = 0 then _ else _) = _
  rw [if_neg he]
theorem takeBits_ev (s : ByteArray) (hs : s.size ≤ 1000000) (p : Nat) (hp : p ≤ s.size) : ∃ v, bitsFit s (rBits (rem s p)) v ∧ Ev (fun k => ddiref05_takeBits.f k s (p : Int) 0) v := by
  have t1 := Take_ev s hs 1 p (by omega) hp
  unfold ddiref05_takeBits.f
  cases hr : rem s p with
  | nil =>
    refine ⟨(0, (s.size : Int), 6), ⟨rfl, rfl⟩, ?_⟩
    rw [hr] at t1
    refine Ev.bind t1 (ev_if_neg (show ¬ (6 : Int) = 0 by decide) ?_)
    have h := Take_err s 1 (s.size : Int) 6 (by decide)
    refine Ev.step (f := fun k => (ddiref05_Take.f k s (s.size : Int) 6 1).bind fun bt299 => (if bt299.2.2 = 0 then (if bt299.1 = 0 then (ddiref05_takeBits.j1 k s bt299.1 true bt299.2.1 bt299.2.2) else (ddiref05_takeBits.j1 k s bt299.1 (decide (bt299.1 > 7)) bt299.2.1 bt299.2.2)) else (ddiref05_takeBits.j1 k s bt299.1 false bt299.2.1 bt299.2.2))) (fun k => by rw [ddiref05_takeBits.j0, if_neg (by simp)]; rfl) ?_
    refine Ev.bind h (ev_if_neg (show ¬ (6 : Int) = 0 by decide) ?_)
    refine ev_of_eq 1 (fun k => ?_)
    rw [ddiref05_takeBits.j1, if_neg (by simp), run_err s _ _ 6 (by decide)]
    rfl
  | cons z r =>
    obtain ⟨g1, g2, g3⟩ := bt_drop (s := s) (i := p) (c := z) (r := r) hr
    have g3 : rem s (p + 1) = r := g3
    rw [hr] at t1
    have e1 : takeR s (rNum 1 0 (z :: r)) = ((z.toNat : Int), ((p + 1 : Nat) : Int), 0) := by
      show (((0 * 256 + z.toNat : Nat) : Int), ((s.size - r.length : Nat) : Int), (0 : Int)) = _
      rw [← g3, rem_at s (p + 1) (by omega), Nat.zero_mul, Nat.zero_add]
    rw [e1] at t1
    by_cases hz : z = 0
    · subst hz
      have t2 := Take_ev s hs 1 (p + 1) (by omega) (by omega)
      rw [g3] at t2
      cases r with
      | nil =>
        refine ⟨(0, (s.size : Int), 6), ⟨rfl, rfl⟩, ?_⟩
        refine Ev.bind t1 (ev_if_pos rfl ?_)
        refine Ev.step (f := fun k => (ddiref05_Take.f k s ((p + 1 : Nat) : Int) 0 1).bind fun bt299 => (if bt299.2.2 = 0 then (if bt299.1 = 0 then (ddiref05_takeBits.j1 k s bt299.1 true bt299.2.1 bt299.2.2) else (ddiref05_takeBits.j1 k s bt299.1 (decide (bt299.1 > 7)) bt299.2.1 bt299.2.2)) else (ddiref05_takeBits.j1 k s bt299.1 false bt299.2.1 bt299.2.2))) (fun k => by rw [ddiref05_takeBits.j0, if_neg (show ¬ ((((0 : UInt8).toNat : Int) != 0) = true) by decide)]) ?_
        refine Ev.bind t2 (ev_if_neg (show ¬ (6 : Int) = 0 by decide) ?_)
        refine ev_of_eq 1 (fun k => ?_)
        rw [ddiref05_takeBits.j1, if_neg (by simp)]
        show ((ddiref05_run.f s (s.size : Int) 6 0).bind _) = _
        rw [run_err s _ _ 6 (by decide)]
        rfl
      | cons n r' =>
        obtain ⟨f1, f2, f3⟩ := bt_drop (s := s) (i := p + 1) (c := n) (r := r') g3
        have f3 : rem s (p + 2) = r' := f3
        have e2 : takeR s (rNum 1 0 (n :: r')) = ((n.toNat : Int), ((p + 2 : Nat) : Int), 0) := by
          show (((0 * 256 + n.toNat : Nat) : Int), ((s.size - r'.length : Nat) : Int), (0 : Int)) = _
          rw [← f3, rem_at s (p + 2) (by omega), Nat.zero_mul, Nat.zero_add]
        rw [e2] at t2
        have hn := n.toNat_lt
        have st : ∀ {v : Int × Int × Int}, Ev (fun k => if (n.toNat : Int) = 0 then ddiref05_takeBits.j1 k s (n.toNat : Int) true ((p + 2 : Nat) : Int) 0 else ddiref05_takeBits.j1 k s (n.toNat : Int) (decide ((n.toNat : Int) > 7)) ((p + 2 : Nat) : Int) 0) v → Ev (fun k => (ddiref05_Take.f k s (p : Int) 0 1).bind fun bt296 => (if bt296.2.2 = 0 then (ddiref05_takeBits.j0 k s (bt296.1 != 0) bt296.2.1 bt296.2.2) else (ddiref05_takeBits.j0 k s false bt296.2.1 bt296.2.2))) v := by
          intro v hv
          refine Ev.bind t1 (ev_if_pos rfl ?_)
          refine Ev.step (f := fun k => (ddiref05_Take.f k s ((p + 1 : Nat) : Int) 0 1).bind fun bt299 => (if bt299.2.2 = 0 then (if bt299.1 = 0 then (ddiref05_takeBits.j1 k s bt299.1 true bt299.2.1 bt299.2.2) else (ddiref05_takeBits.j1 k s bt299.1 (decide (bt299.1 > 7)) bt299.2.1 bt299.2.2)) else (ddiref05_takeBits.j1 k s bt299.1 false bt299.2.1 bt299.2.2))) (fun k => by rw [ddiref05_takeBits.j0, if_neg (show ¬ ((((0 : UInt8).toNat : Int) != 0) = true) by decide)]) ?_
          exact Ev.bind t2 (ev_if_pos rfl hv)
        by_cases hn0 : n.toNat < 1
        · have e0 : n.toNat = 0 := by omega
          refine ⟨(0, ((p + 2 : Nat) : Int), 7), ?_, st ?_⟩
          · rw [rBits_badn (by omega)]
            exact ⟨rfl, rfl⟩
          · refine ev_if_pos (by omega) ?_
            exact ev_of_eq 1 (fun k => by rw [ddiref05_takeBits.j1, if_pos rfl])
        by_cases hn7 : 7 < n.toNat
        · refine ⟨(0, ((p + 2 : Nat) : Int), 7), ?_, st ?_⟩
          · rw [rBits_badn (by omega)]
            exact ⟨rfl, rfl⟩
          · refine ev_if_neg (by omega) ?_
            exact ev_of_eq 1 (fun k => by rw [ddiref05_takeBits.j1, if_pos (by simp; omega)])
        have hrun := run_eq s hs n.toNat (p + 2) (by omega) (by omega)
        rw [f3] at hrun
        have hB := rBits_in (n := n) (r := r') (by omega)
        rw [hB]
        unfold rTake at hrun
        by_cases hlen : r'.length < n.toNat
        · rw [if_neg (by omega)] at hrun
          refine ⟨(0, (s.size : Int), 6), by rw [if_pos hlen]; exact ⟨rfl, rfl⟩, st ?_⟩
          refine ev_if_neg (by omega) ?_
          refine ev_of_eq 1 (fun k => ?_)
          rw [ddiref05_takeBits.j1, if_neg (by simp; omega), hrun]
          rfl
        · rw [if_pos (by omega)] at hrun
          rw [if_neg hlen]
          have hml : (r'.take n.toNat).length = n.toNat := by rw [List.length_take]; omega
          have hl0 := l0_ev n.toNat (by omega) (by omega) (r'.take n.toNat) hml ((s.size - (r'.drop n.toNat).length : Nat) : Int) n.toNat 0 (by omega)
          have hj : ∀ {v : Int × Int × Int}, Ev (fun k => ddiref05_takeBits.l0 k (n.toNat : Int) (strOf (r'.take n.toNat)) ((bitsOf (r'.take n.toNat) % 2 ^ (8 * 0) : Nat) : Int) ((0 : Nat) : Int) ((s.size - (r'.drop n.toNat).length : Nat) : Int) 0) v → Ev (fun k => if (n.toNat : Int) = 0 then ddiref05_takeBits.j1 k s (n.toNat : Int) true ((p + 2 : Nat) : Int) 0 else ddiref05_takeBits.j1 k s (n.toNat : Int) (decide ((n.toNat : Int) > 7)) ((p + 2 : Nat) : Int) 0) v := by
            intro v hv
            refine ev_if_neg (by omega) ?_
            refine Ev.step (fun k => ?_) hv
            rw [ddiref05_takeBits.j1, if_neg (by simp; omega), hrun]
            show (if (0 : Int) = 0 then ddiref05_takeBits.l0 k (n.toNat : Int) (strOf (r'.take n.toNat)) 0 0 ((s.size - (r'.drop n.toNat).length : Nat) : Int) 0 else some (0, ((s.size - (r'.drop n.toNat).length : Nat) : Int), 0)) = _
            rw [if_pos rfl]
            simp [Nat.mod_one]
          by_cases hlast : (r'.take n.toNat).getLast? = some 0
          · rw [if_pos hlast] at hl0 ⊢
            exact ⟨_, ⟨rfl, rfl⟩, st (hj hl0)⟩
          · rw [if_neg hlast] at hl0 ⊢
            by_cases ho : onlyT (bitsOf (r'.take n.toNat)) = true
            · rw [if_pos ho] at hl0 ⊢
              exact ⟨_, rfl, st (hj hl0)⟩
            · rw [if_neg ho] at hl0 ⊢
              exact ⟨_, ⟨rfl, rfl⟩, st (hj hl0)⟩
    · refine ⟨(0, ((p + 1 : Nat) : Int), 7), ?_, ?_⟩
      · rw [rBits_bad0 hz]
        exact ⟨rfl, rfl⟩
      · refine Ev.bind t1 (ev_if_pos rfl ?_)
        have hz0 : ((z.toNat : Int) != 0) = true := by
          rw [bne_iff_ne]
          intro g; apply hz; apply UInt8.toNat_inj.1
          show z.toNat = 0
          omega
        refine ev_of_eq 1 (fun k => ?_)
        rw [ddiref05_takeBits.j0, if_pos hz0]
/-! ### addresses -/
theorem rvalue_l0 (s : ByteArray) (hs : s.size ≤ 1000) : ∀ (r : List UInt8) (i n : Nat), (by_ s).drop i = r → (n + 1) * 256 ^ r.length ≤ 18446744073709551616 → Ev (fun k => ddiref02_value.l0 k s (n : Int) (i : Int)) ((val r n : Nat) : Int)
  | [], i, n, hd, hn => by
    have hj := drop_nil hd
    refine ev_of_eq 1 (fun k => ?_)
    rw [ddiref02_value.l0, if_neg (by omega)]; rfl
  | c :: r, i, n, hd, hn => by
    obtain ⟨h1, h2, h3⟩ := bt_drop hd
    have hc := c.toNat_lt
    have hp : 1 ≤ 256 ^ r.length := Nat.one_le_pow _ _ (by omega)
    rw [List.length_cons, Nat.pow_succ] at hn
    have e : (n + 1) * (256 ^ r.length * 256) = (n + 1) * 256 * 256 ^ r.length := by rw [Nat.mul_comm (256 ^ r.length), Nat.mul_assoc]
    have hb : (n + 1) * 256 ≤ 18446744073709551616 := by
      have : (n + 1) * 256 * 1 ≤ (n + 1) * 256 * 256 ^ r.length := Nat.mul_le_mul_left _ hp
      omega
    have hn' : (n * 256 + c.toNat + 1) * 256 ^ r.length ≤ 18446744073709551616 := by
      have h4 : (n * 256 + c.toNat + 1) * 256 ^ r.length ≤ (n + 1) * 256 * 256 ^ r.length := Nat.mul_le_mul_right _ (by omega)
      omega
    have ih := rvalue_l0 s hs r (i + 1) (n * 256 + c.toNat) h3 hn'
    refine Ev.step (fun k => ?_) ih
    rw [ddiref02_value.l0, if_pos (by omega), if_pos (by omega), wrap_s (by omega), h2]
    have e2 : IntKind.u64.wrap (IntKind.u64.wrap ((n : Int) * 256) + IntKind.u64.wrap (c.toNat : Int)) = ((n * 256 + c.toNat : Nat) : Int) := by
      rw [wrap_u64, wrap_u64, wrap_u64]; omega
    rw [e2]
theorem rvalue_ev (s : ByteArray) (hs : s.size ≤ 8) : Ev (fun k => ddiref02_value.f k s) ((val (by_ s) 0 : Nat) : Int) := by
  have hl := by_length s
  have h := rvalue_l0 s (by omega) (by_ s) 0 0 rfl (by
    have : 256 ^ (by_ s).length ≤ 256 ^ 8 := Nat.pow_le_pow_right (by omega) (by omega)
    have e : (256 : Nat) ^ 8 = 18446744073709551616 := by decide
    omega)
  exact h
theorem rRead4_ev (l : List UInt8) (hl : l.length = 4) : Ev (fun k => ddiref02_Read.f k (strOf l)) (false, 0, ((val l 0 : Nat) : Int), 0) := by
  have hz : (strOf l).size = 4 := by rw [strOf_size, hl]
  unfold ddiref02_Read.f
  refine ev_if_neg (by omega) (ev_if_neg (by omega) (ev_if_pos (by omega) ?_))
  have := rvalue_ev (strOf l) (by omega)
  rw [by_strOf] at this
  exact Ev.bind this (Ev.now _)
theorem rRead16_ev (l : List UInt8) (hl : l.length = 16) : Ev (fun k => ddiref02_Read.f k (strOf l)) (true, ((val (l.take 8) 0 : Nat) : Int), ((val (l.drop 8) 0 : Nat) : Int), 0) := by
  have hz : (strOf l).size = 16 := by rw [strOf_size, hl]
  unfold ddiref02_Read.f
  refine ev_if_neg (by omega) (ev_if_pos (by omega) (ev_if_pos (by omega) (ev_if_pos (by omega) ?_)))
  rw [extract_strOf, extract_strOf, hz]
  have h1 := rvalue_ev (strOf ((l.take 8).drop 0)) (by rw [strOf_size]; simp; omega)
  have h2 := rvalue_ev (strOf ((l.take 16).drop 8)) (by rw [strOf_size]; simp; omega)
  rw [by_strOf] at h1 h2
  rw [List.drop_zero] at h1 ⊢
  rw [show l.take 16 = l from List.take_of_length_le (by omega)] at h2 ⊢
  exact Ev.bind h1 (Ev.bind h2 (Ev.now _))
end Go.Proofs.YtaehonmfoanloaaDoor.Hand
