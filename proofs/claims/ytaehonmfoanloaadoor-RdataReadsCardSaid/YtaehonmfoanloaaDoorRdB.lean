/-
  Sets of types as bitmaps, and back: plain words on lists of bytes. Conditions: each theorem's own.
-/
import Derived.Test.YtaehonmfoanloaaDoorRdW
namespace Go.Proofs.YtaehonmfoanloaaDoor.RdW
open Go.RowKit Go.Proofs.YtaehonmfoanloaaDoor.Str
set_option linter.all false

/-- The bits of a byte in the other order. -/
def rev8 (b : Nat) : Nat := b / 128 % 2 + b / 64 % 2 * 2 + b / 32 % 2 * 4 + b / 16 % 2 * 8 + b / 8 % 2 * 16 + b / 4 % 2 * 32 + b / 2 % 2 * 64 + b % 2 * 128
theorem rev8_lt (b : Nat) : rev8 b < 256 := by unfold rev8; omega
theorem rev8_rev : ∀ b, b < 256 → rev8 (rev8 b) = b := by
  have : ∀ b : Fin 256, rev8 (rev8 b.val) = b.val := by decide +kernel
  exact fun b h => this ⟨b, h⟩
theorem rev8_zero : ∀ b, b < 256 → rev8 b = 0 → b = 0 := by
  intro b h e
  have := rev8_rev b h
  rw [e] at this
  exact this.symm
def bitsOf : List UInt8 → Nat
  | [] => 0
  | b :: r => rev8 b.toNat + 256 * bitsOf r
def bytesOf : Nat → Nat → List UInt8
  | 0, _ => []
  | n + 1, s => UInt8.ofNat (rev8 (s % 256)) :: bytesOf n (s / 256)
def trimZ : List UInt8 → List UInt8
  | [] => []
  | b :: r => if b = 0 ∧ trimZ r = [] then [] else b :: trimZ r
/-- The bytes of a set, without zeros at the end. -/
def bitmapS (s : Nat) : List UInt8 := trimZ (bytesOf 8 s)
theorem bytesOf_length (n s : Nat) : (bytesOf n s).length = n := by
  induction n generalizing s with
  | zero => rfl
  | succ n ih => simp [bytesOf, ih]
theorem bitsOf_bytes (n s : Nat) : bitsOf (bytesOf n s) = s % 256 ^ n := by
  induction n generalizing s with
  | zero => simp [bytesOf, bitsOf, Nat.mod_one]
  | succ n ih =>
    have h := rev8_lt (s % 256)
    rw [bytesOf, bitsOf, ih, u8_of, Nat.mod_eq_of_lt h, rev8_rev _ (by omega), Nat.pow_succ, Nat.mul_comm (256 ^ n), Nat.mod_mul]
theorem bitsOf_trim (l : List UInt8) : bitsOf (trimZ l) = bitsOf l := by
  induction l with
  | nil => rfl
  | cons b r ih =>
    rw [trimZ, bitsOf]
    by_cases c : b = 0 ∧ trimZ r = []
    · rw [if_pos c, ← ih, c.2, c.1]; rfl
    · rw [if_neg c, bitsOf, ih]
theorem bitsOf_bitmap (s : Nat) (h : s < 18446744073709551616) : bitsOf (bitmapS s) = s := by
  unfold bitmapS; rw [bitsOf_trim, bitsOf_bytes]; exact Nat.mod_eq_of_lt h
theorem trimZ_len (l : List UInt8) : (trimZ l).length ≤ l.length := by
  induction l with
  | nil => simp [trimZ]
  | cons b r ih => rw [trimZ]; split <;> simp; omega
theorem trimZ_last (l : List UInt8) : trimZ l = [] ∨ ∃ b, (trimZ l).getLast? = some b ∧ b ≠ 0 := by
  induction l with
  | nil => left; rfl
  | cons b r ih =>
    rw [trimZ]
    by_cases c : b = 0 ∧ trimZ r = []
    · left; rw [if_pos c]
    · right
      rw [if_neg c]
      rcases ih with h | ⟨x, h1, h2⟩
      · rw [h]; exact ⟨b, rfl, fun e => c ⟨e, h⟩⟩
      · refine ⟨x, ?_, h2⟩
        rw [List.getLast?_cons, h1]; rfl
theorem trimZ_id {l : List UInt8} {b : UInt8} (h : l.getLast? = some b) (hb : b ≠ 0) (z : Nat) : trimZ (l ++ List.replicate z 0) = l := by
  have hz : ∀ z, trimZ (List.replicate z (0 : UInt8)) = [] := by
    intro z
    induction z with
    | zero => rfl
    | succ z ih => rw [List.replicate_succ, trimZ, if_pos ⟨rfl, ih⟩]
  induction l with
  | nil => simp at h
  | cons x l ih =>
    rw [List.cons_append, trimZ]
    cases l with
    | nil =>
      simp at h
      subst h
      rw [if_neg (fun c => hb c.1), List.nil_append, hz]
    | cons y l =>
      rw [List.getLast?_cons_cons] at h
      have := ih h
      rw [this, if_neg (fun c => by simp at c)]
theorem bytes_bitsOf : ∀ (l : List UInt8) (z : Nat), bytesOf (l.length + z) (bitsOf l) = l ++ List.replicate z 0
  | [], z => by
    rw [List.length_nil, Nat.zero_add, List.nil_append, bitsOf]
    induction z with
    | zero => rfl
    | succ z ih => rw [bytesOf, List.replicate_succ]; congr 1
  | b :: r, z => by
    have h := rev8_lt b.toNat
    rw [List.length_cons, Nat.add_right_comm, bytesOf, bitsOf, Nat.add_mul_mod_self_left, Nat.mod_eq_of_lt h, rev8_rev _ b.toNat_lt, Nat.add_mul_div_left _ _ (by omega), Nat.div_eq_of_lt h, Nat.zero_add, bytes_bitsOf r z]
    simp
theorem bitmap_bitsOf {l : List UInt8} {b : UInt8} (h : l.getLast? = some b) (hb : b ≠ 0) (hl : l.length ≤ 8) : bitmapS (bitsOf l) = l := by
  have := bytes_bitsOf l (8 - l.length)
  rw [show l.length + (8 - l.length) = 8 by omega] at this
  unfold bitmapS
  rw [this, trimZ_id h hb]
theorem bitsOf_lt (l : List UInt8) : bitsOf l < 256 ^ l.length := by
  induction l with
  | nil => simp [bitsOf]
  | cons b r ih =>
    have := rev8_lt b.toNat
    rw [bitsOf, List.length_cons, Nat.pow_succ]
    omega
/-- The set of all known types. -/
def allT : Nat := 2 ^ 1 + 2 ^ 2 + 2 ^ 5 + 2 ^ 6 + 2 ^ 12 + 2 ^ 15 + 2 ^ 16 + 2 ^ 28 + 2 ^ 33 + 2 ^ 39 + 2 ^ 43 + 2 ^ 46 + 2 ^ 47 + 2 ^ 48
/-- A set of known types. -/
def onlyT (s : Nat) : Bool := s &&& allT == s
theorem onlyT_lt {s : Nat} (h : onlyT s = true) : s < 2 ^ 49 := by
  unfold onlyT at h
  have := beq_iff_eq.1 h
  have h2 : s &&& allT ≤ allT := Nat.and_le_right
  rw [this] at h2
  exact Nat.lt_of_le_of_lt h2 (by decide)
theorem bitmap_len {s : Nat} (h : onlyT s = true) (h0 : s ≠ 0) : 1 ≤ (bitmapS s).length ∧ (bitmapS s).length ≤ 7 := by
  have hlt := onlyT_lt h
  have hb := bitsOf_bitmap s (by omega)
  constructor
  · cases hc : bitmapS s with
    | nil => rw [hc] at hb; exact absurd hb.symm h0
    | cons x xs => simp
  · have e : bytesOf 8 s = bytesOf 7 s ++ [UInt8.ofNat (rev8 (s / 256 / 256 / 256 / 256 / 256 / 256 / 256 % 256))] := by simp [bytesOf]
    have e0 : s / 256 / 256 / 256 / 256 / 256 / 256 / 256 % 256 = 0 := by omega
    have h7 : bytesOf 8 s = bytesOf 7 s ++ List.replicate 1 0 := by rw [e, e0]; rfl
    have ht : ∀ l : List UInt8, trimZ (l ++ List.replicate 1 0) = trimZ l := by
      intro l
      induction l with
      | nil => rfl
      | cons x l ih => rw [List.cons_append, trimZ, trimZ, ih]
    unfold bitmapS
    rw [h7, ht]
    have := trimZ_len (bytesOf 7 s)
    rw [bytesOf_length] at this
    exact this
def rBits : List UInt8 → Rs Nat
  | [] => .error 6
  | z :: r => if z ≠ 0 then .error 7 else match r with
    | [] => .error 6
    | n :: r => if n.toNat < 1 ∨ 7 < n.toNat then .error 7 else if r.length < n.toNat then .error 6 else
      if (r.take n.toNat).getLast? = some 0 then .error 7 else if onlyT (bitsOf (r.take n.toNat)) then .ok (bitsOf (r.take n.toNat), r.drop n.toNat) else .error 7
def wireB (s : Nat) : List UInt8 := 0 :: UInt8.ofNat (bitmapS s).length :: bitmapS s
theorem rBits_wire {s : Nat} (h : onlyT s = true) (h0 : s ≠ 0) (r : List UInt8) : rBits (wireB s ++ r) = .ok (s, r) := by
  obtain ⟨l1, l2⟩ := bitmap_len h h0
  have hn : (UInt8.ofNat (bitmapS s).length).toNat = (bitmapS s).length := by rw [u8_of]; omega
  have hlt := onlyT_lt h
  have hlast : (bitmapS s).getLast? ≠ some 0 := by
    rcases trimZ_last (bytesOf 8 s) with g | ⟨b, g1, g2⟩
    · unfold bitmapS at l1; rw [g] at l1; simp at l1
    · unfold bitmapS; rw [g1]; intro e; exact g2 (by simpa using e)
  unfold wireB rBits
  simp only [List.cons_append]
  rw [if_neg (by simp), hn, if_neg (by omega), if_neg (by simp)]
  have e1 : (bitmapS s ++ r).take (bitmapS s).length = bitmapS s := by simp
  rw [e1, if_neg hlast, bitsOf_bitmap s (by omega), if_pos h]
  simp
theorem rBits_inv {r r' : List UInt8} {s : Nat} (h : rBits r = .ok (s, r')) : r = wireB s ++ r' ∧ onlyT s = true ∧ s ≠ 0 := by
  unfold rBits at h
  cases r with
  | nil => cases h
  | cons z r =>
    simp only at h
    by_cases cz : z = 0
    · rw [if_neg (by simp [cz])] at h
      cases r with
      | nil => cases h
      | cons n r =>
        simp only at h
        by_cases c1 : n.toNat < 1 ∨ 7 < n.toNat
        · rw [if_pos c1] at h; cases h
        rw [if_neg c1] at h
        by_cases c2 : r.length < n.toNat
        · rw [if_pos c2] at h; cases h
        rw [if_neg c2] at h
        by_cases c3 : (r.take n.toNat).getLast? = some 0
        · rw [if_pos c3] at h; cases h
        rw [if_neg c3] at h
        by_cases c4 : onlyT (bitsOf (r.take n.toNat)) = true
        · rw [if_pos c4] at h
          simp only [Except.ok.injEq, Prod.mk.injEq] at h
          obtain ⟨e1, e2⟩ := h
          have hlen : (r.take n.toNat).length = n.toNat := by rw [List.length_take]; omega
          obtain ⟨b, hb⟩ : ∃ b, (r.take n.toNat).getLast? = some b := by
            cases hc : r.take n.toNat with
            | nil => rw [hc] at hlen; simp at hlen; omega
            | cons x xs => exact ⟨_, List.getLast?_eq_some_getLast (by simp)⟩
          have hb0 : b ≠ 0 := fun e => c3 (by rw [hb, e])
          have hbm := bitmap_bitsOf hb hb0 (by omega)
          have hnn : UInt8.ofNat n.toNat = n := by simp
          refine ⟨?_, e1 ▸ c4, fun e => ?_⟩
          · rw [← e1, ← e2, wireB, hbm, hlen, hnn, cz]
            simp
          · have : bitsOf (r.take n.toNat) = 0 := e1.trans e
            rw [this] at hbm
            have : bitmapS 0 = [] := by decide
            rw [this] at hbm
            rw [← hbm] at hlen; simp at hlen; omega
        · rw [if_neg c4] at h; cases h
    · rw [if_pos cz] at h; cases h
theorem rBits_cut {s : Nat} (h : onlyT s = true) (h0 : s ≠ 0) (j : Nat) (hj : j < (wireB s).length) : rBits ((wireB s).take j) = .error 6 := by
  obtain ⟨l1, l2⟩ := bitmap_len h h0
  have hn : (UInt8.ofNat (bitmapS s).length).toNat = (bitmapS s).length := by rw [u8_of]; omega
  match j with
  | 0 => rfl
  | 1 => rfl
  | j + 2 =>
    unfold wireB at hj ⊢
    simp only [List.length_cons] at hj
    simp only [List.take_succ_cons, rBits]
    rw [if_neg (by simp), hn, if_neg (by omega), if_pos (by rw [List.length_take]; omega)]
end Go.Proofs.YtaehonmfoanloaaDoor.RdW
