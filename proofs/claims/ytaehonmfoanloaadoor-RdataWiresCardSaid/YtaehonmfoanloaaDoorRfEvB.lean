/-
  The reference's numbers, the bytes of names, sets and addresses in plain words. Conditions: each theorem's own.
-/
import Derived.Test.YtaehonmfoanloaaDoorPAx7
import Derived.Test.YtaehonmfoanloaaDoorPAx6
import Derived.Test.YtaehonmfoanloaaDoorPAx4
import Derived.Test.YtaehonmfoanloaaDoorRfEvA
namespace Go.Proofs.YtaehonmfoanloaaDoor.Hand
open Go.RowKit Go.Proofs.YtaehonmfoanloaaDoorW.PrintWords Go.Proofs.YtaehonmfoanloaaDoorW.PrintLast Go.Proofs.YtaehonmfoanloaaDoorW.PrintMore Go.Proofs.YtaehonmfoanloaaDoor.Num Go.Proofs.YtaehonmfoanloaaDoor.Bits Go.Proofs.YtaehonmfoanloaaDoor.RdW Go.Proofs.YtaehonmfoanloaaDoor.Str Go.Proofs.YtaehonmfoanloaaDoor.PA
set_option linter.all false
theorem rLabels_ev (n : ByteArray) (hs : n.size ≤ 100000) : Ev (fun k => ddiref01_Labels.f k n) (((labelsN (by_ n)).getD []).map strOf) := by
  unfold ddiref01_Labels.f
  refine Ev.bind (split_ev n hs) ?_
  cases labelsN (by_ n) <;> exact Ev.now _
/-! ### numbers -/
theorem octets_l1 {x : Int} (d : Nat) : ∀ (k : Nat) (l : List Int) (i y j : Int), 0 ≤ y → y < 18446744073709551616 → 0 ≤ j → i ≤ 1000 → i = j + d → l.length < 140737488355328 →
    ddiref02_octets.l1 (k + d + 1) x l i y j = ddiref02_octets.l0 k x (l ++ [y / 256 ^ d % 256]) (i - 1) := by
  induction d with
  | zero =>
    intro k l i y j h0 h1 h2 h3 h4 h5
    simp only [ddiref02_octets.l1]
    rw [if_neg (by omega), if_pos h5, wrap64_id (by omega) (by omega), Int.tmod_eq_emod_of_nonneg h0]
    simp
  | succ d ih =>
    intro k l i y j h0 h1 h2 h3 h4 h5
    have hi := ih k l i (y / 256) (j + 1) (by omega) (by omega) (by omega) h3 (by omega) h5
    have hk : k + (d + 1) + 1 = (k + d + 1) + 1 := by omega
    rw [hk]
    generalize k + d + 1 = m at hi ⊢
    simp only [ddiref02_octets.l1]
    have e : y / 256 % 18446744073709551616 = y / 256 := by omega
    rw [if_pos (by omega), wrap64_id (by omega) (by omega), Int.tdiv_eq_ediv_of_nonneg h0, wrap_u64, e, hi, Int.ediv_ediv_of_nonneg (by omega), Int.pow_succ, Int.mul_comm]
theorem octets_l0 {x : Int} (h0 : 0 ≤ x) (h1 : x < 18446744073709551616) (n : Nat) (hn : n ≤ 1000) : ∀ (l : List Int), l.length + n ≤ 1000 → Ev (fun k => ddiref02_octets.l0 k x l ((n : Int) - 1)) (strOfNums (l ++ octF n x)) := by
  induction n with
  | zero =>
    intro l hl
    refine ev_of_eq 1 (fun k => ?_)
    simp only [ddiref02_octets.l0]
    rw [if_neg (by omega)]
    simp [octF]
  | succ n ih =>
    intro l hl
    have hm := ih (by omega) (l ++ [x / 256 ^ n % 256]) (by simp; omega)
    obtain ⟨K, hK⟩ := hm
    refine ⟨K + n + 2, fun k hk => ?_⟩
    obtain ⟨m, rfl⟩ : ∃ m, k = (m + n + 1) + 1 := ⟨k - n - 2, by omega⟩
    simp only [ddiref02_octets.l0]
    rw [if_pos (by omega), octets_l1 n m l _ x 0 h0 h1 (by omega) (by omega) (by omega) (by omega)]
    have e : (((n + 1 : Nat) : Int) - 1 - 1) = (n : Int) - 1 := by omega
    have hm := hK m (by omega)
    simp only at hm
    rw [e, hm]
    simp [octF]
theorem octets_ev {x : Int} (h : U64 x) (n : Nat) (hn : n ≤ 1000) : Ev (fun k => ddiref02_octets.f k x n) (strOf (be n x.toNat)) := by
  unfold ddiref02_octets.f
  rw [wrap64_id (by omega) (by omega), ← oct_be h.1]
  exact octets_l0 h.1 h.2 n hn [] (by simp; omega)
theorem rWire_ev (x : D) (hx : x.ok) (hv : addrB x.v6 x.hi x.lo = true) : Ev (fun k => ddiref02_Wire.f k x.v6 x.hi x.lo) (strOf (addrW x), 0) := by
  have u1 : U64 x.hi := ⟨hx.hi0, hx.hi1⟩
  have u2 : U64 x.lo := ⟨hx.lo0, hx.lo1⟩
  have hV : ddiref02_Valid.f x.v6 x.hi x.lo = some true := by
    unfold ddiref02_Valid.f
    unfold addrB at hv
    cases h6 : x.v6
    · rw [h6] at hv
      simp at hv
      rw [if_neg (by simp), if_pos hv.1]
      simp; omega
    · rfl
  unfold ddiref02_Wire.f addrW
  refine ev_bind_const hV (ev_if_pos rfl ?_)
  cases hx6 : x.v6
  · refine ev_if_neg (by simp) ?_
    rw [if_neg (by simp)]
    exact Ev.bind (octets_ev u2 4 (by omega)) (Ev.now _)
  · refine ev_if_pos rfl ?_
    rw [if_pos rfl]
    refine Ev.bind (octets_ev u1 8 (by omega)) (Ev.bind (octets_ev u2 8 (by omega)) (ev_if_pos ?_ ?_))
    · rw [strOf_size, strOf_size, be_length, be_length]; omega
    · rw [strOf_app]; exact Ev.now _
theorem number_l1 {x : Int} (d : Nat) : ∀ (k : Nat) (l : List Int) (i y j : Int), 0 ≤ y → (d = 0 ∨ y ≤ 9223372036854775807) → 0 ≤ j → i ≤ 1000 → i = j + d → l.length < 140737488355328 →
    ddiref05_Number.l1 (k + d + 1) x l i y j = ddiref05_Number.l0 k x (l ++ [y / 256 ^ d % 256]) (i - 1) := by
  induction d with
  | zero =>
    intro k l i y j h0 h1 h2 h3 h4 h5
    simp only [ddiref05_Number.l1]
    rw [if_neg (by omega), if_pos h5, wrap64_id (by omega) (by omega), Int.tmod_eq_emod_of_nonneg h0]
    simp
  | succ d ih =>
    intro k l i y j h0 h1 h2 h3 h4 h5
    have h1 : y ≤ 9223372036854775807 := h1.resolve_left (by omega)
    have hi := ih k l i (y / 256) (j + 1) (by omega) (Or.inr (by omega)) (by omega) h3 (by omega) h5
    have hk : k + (d + 1) + 1 = (k + d + 1) + 1 := by omega
    rw [hk]
    generalize k + d + 1 = m at hi ⊢
    simp only [ddiref05_Number.l1]
    rw [if_pos (by omega), wrap64_id (x := j + 1) (by omega) (by omega), Int.tdiv_eq_ediv_of_nonneg h0, wrap64_id (by omega) (by omega), hi, Int.ediv_ediv_of_nonneg (by omega), Int.pow_succ, Int.mul_comm]
theorem number_l0 {x : Int} (h0 : 0 ≤ x) (n : Nat) (h1 : n ≤ 1 ∨ x ≤ 9223372036854775807) (hn : n ≤ 1000) : ∀ (l : List Int), l.length + n ≤ 1000 → Ev (fun k => ddiref05_Number.l0 k x l ((n : Int) - 1)) (strOfNums (l ++ octF n x)) := by
  induction n with
  | zero =>
    intro l hl
    refine ev_of_eq 1 (fun k => ?_)
    simp only [ddiref05_Number.l0]
    rw [if_neg (by omega)]
    simp [octF]
  | succ n ih =>
    intro l hl
    have hm := ih (by omega) (by omega) (l ++ [x / 256 ^ n % 256]) (by simp; omega)
    obtain ⟨K, hK⟩ := hm
    refine ⟨K + n + 2, fun k hk => ?_⟩
    obtain ⟨m, rfl⟩ : ∃ m, k = (m + n + 1) + 1 := ⟨k - n - 2, by omega⟩
    simp only [ddiref05_Number.l0]
    rw [if_pos (by omega), number_l1 n m l _ x 0 h0 (by omega) (by omega) (by omega) (by omega) (by omega)]
    have e : (((n + 1 : Nat) : Int) - 1 - 1) = (n : Int) - 1 := by omega
    have hm := hK m (by omega)
    simp only at hm
    rw [e, hm]
    simp [octF]
theorem rNumber_ev (n k : Int) (h0 : 0 ≤ n) (h1 : k ≤ 1 ∨ n ≤ 9223372036854775807) (hk0 : 0 ≤ k) (hk : k ≤ 4) : Ev (fun m => ddiref05_Number.f m n k) (strOf (be k.toNat n.toNat)) := by
  obtain ⟨j, rfl⟩ : ∃ j : Nat, k = j := ⟨k.toNat, by omega⟩
  unfold ddiref05_Number.f
  rw [wrap64_id (by omega) (by omega), Int.toNat_natCast, ← oct_be h0]
  exact number_l0 h0 j (by omega) (by omega) [] (by simp; omega)
/-! ### the bytes of a name -/
theorem WireName_l0 (F : List ByteArray) (hF : F.length ≤ 1000) : ∀ (fs : List ByteArray) (j : Nat) (out : ByteArray), F.drop j = fs → out.size + (wireL (fs.map by_)).length ≤ 1000000 →
    Ev (fun k => ddiref05_WireName.l0 k out F (j : Int)) (out ++ strOf (wireL (fs.map by_)))
  | [], j, out, hd, ho => by
    have hj : F.length ≤ j := by have := congrArg List.length hd; simp at this; omega
    refine Ev.step (f := fun k => (ddiref05_Number.f k 0 1).bind fun t => if out.size + t.size ≤ 9223372036854775807 then some (out ++ t) else none) (fun k => by rw [ddiref05_WireName.l0, if_neg (by omega)]) ?_
    refine Ev.bind (rNumber_ev 0 1 (by omega) (by omega) (by omega) (by omega)) ?_
    have hz : out.size ≤ 1000000 := by omega
    refine ev_if_pos ?_ (Ev.now _)
    rw [strOf_size, be_length]
    show out.size + 1 ≤ _
    omega
  | f :: fs, j, out, hd, ho => by
    obtain ⟨h1, h2, h3⟩ := rdOf_drop hd
    have hfl := by_length f
    rw [List.map_cons, wireL_cons] at ho ⊢
    simp only [List.length_append, List.length_cons] at ho
    have hb1 : be 1 f.size = [UInt8.ofNat f.size] := by simp [be]
    have e : out ++ strOf (UInt8.ofNat (by_ f).length :: by_ f ++ wireL (fs.map by_)) = (out ++ (strOf (be 1 f.size) ++ f)) ++ strOf (wireL (fs.map by_)) := by
      rw [hb1, hfl]
      conv => rhs; rw [← strOf_by f, ← strOf_by out]
      conv => lhs; rw [← strOf_by out]
      rw [strOf_app, strOf_app, strOf_app, strOf_app]
      simp [by_strOf, strOf_by]
    have hz : (strOf (be 1 f.size)).size = 1 := by rw [strOf_size, be_length]
    have hz2 : (strOf (be 1 f.size) ++ f).size = 1 + f.size := by rw [ByteArray.size_append, hz]
    have ih := WireName_l0 F hF fs (j + 1) (out ++ (strOf (be 1 f.size) ++ f)) h3 (by rw [ByteArray.size_append, hz2]; omega)
    rw [e]
    refine Ev.step (f := fun k => (ddiref05_Number.f k (f.size : Int) 1).bind fun t => if t.size + f.size ≤ 9223372036854775807 then (if out.size + (t ++ f).size ≤ 9223372036854775807 then ddiref05_WireName.l0 k (out ++ (t ++ f)) F ((j + 1 : Nat) : Int) else none) else none) (fun k => ?_) ?_
    · rw [ddiref05_WireName.l0, if_pos (by omega), if_pos (by omega), h2, wrap_s (by omega)]
    · have hn := rNumber_ev (f.size : Int) 1 (by omega) (by omega) (by omega) (by omega)
      refine Ev.bind hn ?_
      show Ev (fun k => if (strOf (be 1 f.size)).size + f.size ≤ 9223372036854775807 then (if out.size + (strOf (be 1 f.size) ++ f).size ≤ 9223372036854775807 then ddiref05_WireName.l0 k (out ++ (strOf (be 1 f.size) ++ f)) F ((j + 1 : Nat) : Int) else none) else none) _
      exact ev_if_pos (by rw [hz]; omega) (ev_if_pos (by rw [hz2]; omega) ih)
theorem WireName_ev (n : ByteArray) (hs : n.size ≤ 100000) : Ev (fun k => ddiref05_WireName.f k n) (strOf (wireN (by_ n))) := by
  unfold ddiref05_WireName.f
  refine Ev.bind (rLabels_ev n hs) ?_
  have hm := map_by ((labelsN (by_ n)).getD [])
  have hlen : (((labelsN (by_ n)).getD []).map strOf).length ≤ 1000 := by
    rw [List.length_map]
    cases h : labelsN (by_ n) with
    | none => simp
    | some ls => exact (labelsN_len h).1
  have h1 := wireN_len (by_ n)
  rw [by_length] at h1
  have := WireName_l0 _ hlen _ 0 ⟨#[]⟩ rfl (by rw [List.drop_zero, hm]; show 0 + (wireN (by_ n)).length ≤ 1000000; omega)
  rw [List.drop_zero, hm] at this
  have e : (⟨#[]⟩ : ByteArray) ++ strOf (wireL ((labelsN (by_ n)).getD [])) = strOf (wireN (by_ n)) := by
    show strOf [] ++ _ = _
    rw [strOf_app]; rfl
  rw [e] at this
  exact this
/-! ### bitmaps -/
def partR (s i : Nat) : Nat → Nat
  | 0 => 0
  | k + 1 => partR s i k * 2 + bitN s (8 * i + k)
theorem partR_8 (s i : Nat) : partR s i 8 = rev8 (s / 256 ^ i % 256) := by
  rw [← part_8]
  obtain ⟨p0, p1, p2, p3, p4, p5, p6, p7, p8⟩ := part_all s i
  have r : ∀ k, partR s i (k + 1) = partR s i k * 2 + bitN s (8 * i + k) := fun k => rfl
  have r0 := r 0; have r1 := r 1; have r2 := r 2; have r3 := r 3; have r4 := r 4; have r5 := r 5; have r6 := r 6; have r7 := r 7
  have rz : partR s i 0 = 0 := rfl
  simp only [Nat.reduceAdd] at r0 r1 r2 r3 r4 r5 r6 r7
  clear r
  generalize bitN s (8 * i + 0) = a0 at *
  generalize bitN s (8 * i + 1) = a1 at *
  generalize bitN s (8 * i + 2) = a2 at *
  generalize bitN s (8 * i + 3) = a3 at *
  generalize bitN s (8 * i + 4) = a4 at *
  generalize bitN s (8 * i + 5) = a5 at *
  generalize bitN s (8 * i + 6) = a6 at *
  generalize bitN s (8 * i + 7) = a7 at *
  omega
theorem partR_lt (s i : Nat) : ∀ k, partR s i k < 2 ^ k
  | 0 => by simp [partR]
  | k + 1 => by
    have ih := partR_lt s i k
    have hb := bitN_le s (8 * i + k)
    rw [partR, Nat.pow_succ]; omega
theorem bit_and (s j : Nat) (hs : s < 18446744073709551616) (hj : j ≤ 64) : Go.bits .and .u64 (shr .u64 (s : Int) (j : Int)) 1 = (bitN s j : Int) := by
  rw [shr_nat hj]
  have h1 : s >>> j < 18446744073709551616 := by
    rw [Nat.shiftRight_eq_div_pow]
    exact Nat.lt_of_le_of_lt (Nat.div_le_self _ _) hs
  rw [show (1 : Int) = ((1 : Nat) : Int) from rfl, and_nat h1 (by decide), Nat.and_one_is_mod, Nat.shiftRight_eq_div_pow, ← bitN_div]
theorem bitmapR_step (s i k : Nat) (L : List Int) (x : Int) (hs : s < 18446744073709551616) (hi : i < 8) (hk : k < 8) (j : Nat) :
    ddiref05_bitmap.l1 (j + 1) (s : Int) L x (i : Int) ((partR s i k : Nat) : Int) (k : Int) = ddiref05_bitmap.l1 j (s : Int) L x (i : Int) ((partR s i (k + 1) : Nat) : Int) ((k + 1 : Nat) : Int) := by
  have hlt := partR_lt s i k
  have h256 : (2 : Nat) ^ k ≤ 2 ^ 8 := Nat.pow_le_pow_right (by omega) (by omega)
  have hb := bitN_le s (8 * i + k)
  have e8 : (2 : Nat) ^ 8 = 256 := rfl
  rw [ddiref05_bitmap.l1, if_pos (by omega)]
  have e1 : IntKind.u64.wrap (wrap64 (wrap64 ((i : Int) * 8) + (k : Int))) = ((8 * i + k : Nat) : Int) := by rw [wrap64_id (x := (i : Int) * 8) (by omega) (by omega), wrap64_id (by omega) (by omega), wrap_u64]; omega
  rw [e1, if_pos (by omega), wrap_s (by omega), bit_and s _ hs (by omega)]
  have e2 : wrap64 (wrap64 (((partR s i k : Nat) : Int) * 2) + wrap64 ((bitN s (8 * i + k) : Nat) : Int)) = ((partR s i (k + 1) : Nat) : Int) := by
    rw [wrap64_id (x := ((bitN s (8 * i + k) : Nat) : Int)) (by omega) (by omega), wrap64_id (x := ((partR s i k : Nat) : Int) * 2) (by omega) (by omega), wrap64_id (by omega) (by omega), partR]
    omega
  rw [e2]
theorem trimZ_take (l : List UInt8) : l.take (trimZ l).length = trimZ l := by
  induction l with
  | nil => rfl
  | cons b r ih =>
    unfold trimZ
    split
    · rfl
    · simp [ih]
theorem nums_bytes (l : List UInt8) : strOfNums (l.map fun b => (b.toNat : Int)) = strOf l := by
  apply ByteArray.ext
  apply Array.toList_inj.1
  simp only [strOfNums, strOf, List.map_map, List.toList_toArray]
  exact (List.map_congr_left (g := id) (fun b _ => by simp)).trans (List.map_id _)
theorem bitmapR_l0 (s : Nat) (hs : s < 18446744073709551616) : ∀ (d i : Nat), i + d = 8 → Ev (fun k => ddiref05_bitmap.l0 k (s : Int) ((RdW.bytesOf i s).map fun b => (b.toNat : Int)) (((trimZ (RdW.bytesOf i s)).length : Nat) : Int) (i : Int)) (strOf (bitmapS s))
  | 0, i, hi => by
    obtain rfl : i = 8 := by omega
    have hle := trimZ_len (RdW.bytesOf 8 s)
    refine ev_of_eq 1 (fun k => ?_)
    rw [ddiref05_bitmap.l0, if_neg (by omega), if_pos (by omega), if_pos (by rw [List.length_map]; omega), Int.toNat_natCast, ← List.map_take, trimZ_take, nums_bytes]
    rfl
  | d + 1, i, hi => by
    have ih := bitmapR_l0 s hs d (i + 1) (by omega)
    obtain ⟨K, hK⟩ := ih
    refine ⟨K + 10, fun k hk => ?_⟩
    obtain ⟨m, rfl⟩ : ∃ m, k = m + 9 + 1 := ⟨k - 10, by omega⟩
    show ddiref05_bitmap.l0 (m + 9 + 1) _ _ _ _ = _
    rw [ddiref05_bitmap.l0, if_pos (by omega)]
    have st := fun k hk j => bitmapR_step s i k ((RdW.bytesOf i s).map fun b => (b.toNat : Int)) (((trimZ (RdW.bytesOf i s)).length : Nat) : Int) hs (by omega) hk j
    have e0 := st 0 (by omega) (m + 8)
    have e1 := st 1 (by omega) (m + 7)
    have e2 := st 2 (by omega) (m + 6)
    have e3 := st 3 (by omega) (m + 5)
    have e4 := st 4 (by omega) (m + 4)
    have e5 := st 5 (by omega) (m + 3)
    have e6 := st 6 (by omega) (m + 2)
    have e7 := st 7 (by omega) (m + 1)
    refine e0.trans (e1.trans (e2.trans (e3.trans (e4.trans (e5.trans (e6.trans (e7.trans ?_)))))))
    rw [ddiref05_bitmap.l1, if_neg (by omega), if_pos (by rw [List.length_map, RdW.bytesOf_length]; omega), partR_8]
    have hr := rev8_lt (s / 256 ^ i % 256)
    have hsn := bytesOf_snoc i s
    generalize rev8 (s / 256 ^ i % 256) = v at *
    have hb : (RdW.bytesOf i s).map (fun b => (b.toNat : Int)) ++ [((v : Nat) : Int) % 256] = (RdW.bytesOf (i + 1) s).map fun b => (b.toNat : Int) := by
      rw [hsn, List.map_append]
      congr 1 <;> simp
    show (if ((v : Nat) : Int) = 0 then _ else _) = _
    rw [hb, wrap_s (by omega)]
    have hK := hK m (by omega)
    simp only at hK
    by_cases h0 : v = 0
    · subst h0
      rw [if_pos (show (((0 : Nat) : Nat) : Int) = 0 from rfl)]
      have e : trimZ (RdW.bytesOf (i + 1) s) = trimZ (RdW.bytesOf i s) := by rw [hsn]; exact trimZ_snoc0 _
      rw [e] at hK
      exact hK
    · rw [if_neg (by omega)]
      have hv : UInt8.ofNat v ≠ 0 := by
        intro g
        have := congrArg UInt8.toNat g
        rw [u8_of] at this
        have e0 : (0 : UInt8).toNat = 0 := rfl
        omega
      have e : (trimZ (RdW.bytesOf (i + 1) s)).length = i + 1 := by rw [hsn, trimZ_snoc _ hv, List.length_append, RdW.bytesOf_length]; rfl
      rw [e] at hK
      exact hK
theorem bitmapR_ev (b : Int) (h0 : 0 ≤ b) (h1 : b < 18446744073709551616) : Ev (fun k => ddiref05_bitmap.f k b) (strOf (bitmapS b.toNat)) := by
  obtain ⟨s, rfl⟩ : ∃ m : Nat, b = m := ⟨b.toNat, by omega⟩
  unfold ddiref05_bitmap.f
  exact bitmapR_l0 s (by omega) 8 0 rfl
end Go.Proofs.YtaehonmfoanloaaDoor.Hand
