/-
  The order of data: plain facts, and the program's Compare, walked. Conditions: each theorem's own.
-/
import Derived.Test.YtaehonmfoanloaaDoorRdLaw
import Derived.Test.YtaehonmfoanloaaDoorShelf
namespace Go.Proofs.YtaehonmfoanloaaDoor.Hand
open Go.RowKit Go.Proofs.YtaehonmfoanloaaDoorW.PrintWords Go.Proofs.YtaehonmfoanloaaDoor.RdW
set_option maxHeartbeats 40000000
set_option maxRecDepth 100000
set_option linter.all false
theorem cb_range : ∀ a b : List UInt8, Lib.compareBytes a b = -1 ∨ Lib.compareBytes a b = 0 ∨ Lib.compareBytes a b = 1
  | [], [] => by simp [Lib.compareBytes]
  | [], _ :: _ => by simp [Lib.compareBytes]
  | _ :: _, [] => by simp [Lib.compareBytes]
  | a :: xs, b :: ys => by
    rw [Lib.compareBytes]
    split
    · simp
    · split
      · simp
      · exact cb_range xs ys
theorem cb_neg : ∀ a b : List UInt8, Lib.compareBytes b a = - Lib.compareBytes a b
  | [], [] => by simp [Lib.compareBytes]
  | [], _ :: _ => by simp [Lib.compareBytes]
  | _ :: _, [] => by simp [Lib.compareBytes]
  | a :: xs, b :: ys => by
    have ih := cb_neg xs ys
    rw [Lib.compareBytes, Lib.compareBytes]
    by_cases h1 : a < b
    · have h2 : ¬ b < a := by rw [UInt8.lt_iff_toNat_lt] at h1 ⊢; omega
      rw [if_pos h1, if_neg h2, if_pos h1]; rfl
    · by_cases h2 : b < a
      · rw [if_pos h2, if_neg h1, if_pos h2]
      · rw [if_neg h2, if_neg h1, if_neg h1, if_neg h2, ih]
theorem cb_zero : ∀ a b : List UInt8, Lib.compareBytes a b = 0 ↔ a = b
  | [], [] => by simp [Lib.compareBytes]
  | [], _ :: _ => by simp [Lib.compareBytes]
  | _ :: _, [] => by simp [Lib.compareBytes]
  | a :: xs, b :: ys => by
    have ih := cb_zero xs ys
    rw [Lib.compareBytes]
    by_cases h1 : a < b
    · rw [if_pos h1]
      have : a ≠ b := by intro e; rw [e, UInt8.lt_iff_toNat_lt] at h1; omega
      simp [this]
    · by_cases h2 : b < a
      · rw [if_neg h1, if_pos h2]
        have : a ≠ b := by intro e; rw [e, UInt8.lt_iff_toNat_lt] at h2; omega
        simp [this]
      · rw [if_neg h1, if_neg h2, ih]
        have : a = b := by apply UInt8.toNat_inj.1; rw [UInt8.lt_iff_toNat_lt] at h1 h2; omega
        simp [this]
theorem cb_trans : ∀ a b c : List UInt8, Lib.compareBytes a b ≤ 0 → Lib.compareBytes b c ≤ 0 → Lib.compareBytes a c ≤ 0
  | [], _, [], _, _ => by simp [Lib.compareBytes]
  | [], _, _ :: _, _, _ => by simp [Lib.compareBytes]
  | _ :: _, [], _, h, _ => by simp [Lib.compareBytes] at h
  | _ :: _, _ :: _, [], _, h => by simp [Lib.compareBytes] at h
  | a :: xs, b :: ys, c :: zs, h1, h2 => by
    have ih := cb_trans xs ys zs
    rw [Lib.compareBytes] at h1 h2 ⊢
    simp only [UInt8.lt_iff_toNat_lt] at h1 h2 ⊢
    by_cases g1 : a.toNat < b.toNat
    · by_cases g2 : b.toNat < c.toNat
      · rw [if_pos (by omega)]; decide
      · rw [if_neg g2] at h2
        by_cases g3 : c.toNat < b.toNat
        · rw [if_pos g3] at h2; exact absurd h2 (by decide)
        · rw [if_pos (by omega)]; decide
    · rw [if_neg g1] at h1
      by_cases g4 : b.toNat < a.toNat
      · rw [if_pos g4] at h1; exact absurd h1 (by decide)
      · rw [if_neg g4] at h1
        by_cases g2 : b.toNat < c.toNat
        · rw [if_pos (by omega)]; decide
        · rw [if_neg g2] at h2
          by_cases g3 : c.toNat < b.toNat
          · rw [if_pos g3] at h2; exact absurd h2 (by decide)
          · rw [if_neg g3] at h2
            rw [if_neg (by omega), if_neg (by omega)]
            exact ih h1 h2
/-- What Compare returns. -/
def cmpS (t : Int) (x y : D) : Int := if validS t x then (if validS t y then Lib.compareBytes (wireF (flds t) x) (wireF (flds t) y) else -1) else (if validS t y then 1 else 0)
theorem cmp_range (t : Int) (x y : D) : cmpS t x y = -1 ∨ cmpS t x y = 0 ∨ cmpS t x y = 1 := by
  unfold cmpS
  split
  · split
    · exact cb_range _ _
    · simp
  · split <;> simp
theorem cmp_neg (t : Int) (x y : D) : cmpS t y x = - cmpS t x y := by
  unfold cmpS
  cases validS t x <;> cases validS t y <;> simp
  exact cb_neg _ _
theorem cmp_trans (t : Int) (x y z : D) (h1 : cmpS t x y ≤ 0) (h2 : cmpS t y z ≤ 0) : cmpS t x z ≤ 0 := by
  unfold cmpS at h1 h2 ⊢
  cases hx : validS t x <;> cases hy : validS t y <;> cases hz : validS t z <;> simp [hx, hy, hz] at h1 h2 ⊢
  exact cb_trans _ _ _ h1 h2
theorem cmp_zero (t : Int) (x y : D) (hx : x.ok) (hy : y.ok) (vx : validS t x = true) (vy : validS t y = true) : cmpS t x y = 0 ↔ x = y := by
  unfold cmpS
  rw [if_pos vx, if_pos vy, cb_zero]
  exact ⟨fun h => wire_inj hx hy vx vy h, fun h => by rw [h]⟩
theorem compare_sp (S : LSp) (t : Int) (x y : D) (hx : x.ok) (hy : y.ok) (w : World) (sh : w.ShapedOpen Tryd.prog) :
    Calls Tryd.prog 10 #[.int .i64 t, x.v, y.v] w fun e w' => e = .returned (.int .i64 (cmpS t x y)) ∧ Below w.heap.size w w' := by
  have hu := Tryd.underlying26
  have HX := Aside0.mk hx
  have HY := Aside0.mk hy
  clear hx hy
  obtain ⟨a0, a1, a2, a3, a4, a5, a6, a7, a8, a9, a10, a11, a12, hxe⟩ : ∃ a0 a1 a2 a3 a4 a5 a6 a7 a8 a9 a10 a11 a12, x = ⟨a0, a1, a2, a3, a4, a5, a6, a7, a8, a9, a10, a11, a12⟩ := ⟨_, _, _, _, _, _, _, _, _, _, _, _, _, rfl⟩
  obtain ⟨b0, b1, b2, b3, b4, b5, b6, b7, b8, b9, b10, b11, b12, hye⟩ : ∃ b0 b1 b2 b3 b4 b5 b6 b7 b8 b9 b10 b11 b12, y = ⟨b0, b1, b2, b3, b4, b5, b6, b7, b8, b9, b10, b11, b12⟩ := ⟨_, _, _, _, _, _, _, _, _, _, _, _, _, rfl⟩
  have hxv : x.v = .agg #[.bool a0, .int .u64 a1, .int .u64 a2, .string a3, .string a4, .string a5, .int .i64 a6, .int .i64 a7, .int .i64 a8, .int .i64 a9, .int .i64 a10, .int .i64 a11, .int .u64 a12] := by rw [hxe]; rfl
  have hyv : y.v = .agg #[.bool b0, .int .u64 b1, .int .u64 b2, .string b3, .string b4, .string b5, .int .i64 b6, .int .i64 b7, .int .i64 b8, .int .i64 b9, .int .i64 b10, .int .i64 b11, .int .u64 b12] := by rw [hye]; rfl
  have HXV := Aside0.mk hxv
  have HYV := Aside0.mk hyv
  have HO : Aside0 (Own2 w ((w.alloc (.cells #[.bool a0, .int .u64 a1, .int .u64 a2, .string a3, .string a4, .string a5, .int .i64 a6, .int .i64 a7, .int .i64 a8, .int .i64 a9, .int .i64 a10, .int .i64 a11, .int .u64 a12] 26)).alloc (.cells #[.bool b0, .int .u64 b1, .int .u64 b2, .string b3, .string b4, .string b5, .int .i64 b6, .int .i64 b7, .int .i64 b8, .int .i64 b9, .int .i64 b10, .int .i64 b11, .int .u64 b12] 26)) #[.bool a0, .int .u64 a1, .int .u64 a2, .string a3, .string a4, .string a5, .int .i64 a6, .int .i64 a7, .int .i64 a8, .int .i64 a9, .int .i64 a10, .int .i64 a11, .int .u64 a12] 26 (w.heap.size + 1) #[.bool b0, .int .u64 b1, .int .u64 b2, .string b3, .string b4, .string b5, .int .i64 b6, .int .i64 b7, .int .i64 b8, .int .i64 b9, .int .i64 b10, .int .i64 b11, .int .u64 b12] 26) := by
    have h := Own2.new (Own.new w #[.bool a0, .int .u64 a1, .int .u64 a2, .string a3, .string a4, .string a5, .int .i64 a6, .int .i64 a7, .int .i64 a8, .int .i64 a9, .int .i64 a10, .int .i64 a11, .int .u64 a12] 26) #[.bool b0, .int .u64 b1, .int .u64 b2, .string b3, .string b4, .string b5, .int .i64 b6, .int .i64 b7, .int .i64 b8, .int .i64 b9, .int .i64 b10, .int .i64 b11, .int .u64 b12] 26
    rw [show (w.alloc (.cells #[.bool a0, .int .u64 a1, .int .u64 a2, .string a3, .string a4, .string a5, .int .i64 a6, .int .i64 a7, .int .i64 a8, .int .i64 a9, .int .i64 a10, .int .i64 a11, .int .u64 a12] 26)).heap.size = w.heap.size + 1 by show (w.heap.push _).size = _; simp] at h
    exact ⟨h⟩
  rw [hxv, hyv]
  obtain ⟨r, hr⟩ : ∃ r, cmpS t x y = r := ⟨_, rfl⟩
  rw [hr]
  have HR := Aside0.mk hr
  clear hxe hxv hye hyv hr
  go_enter Tryd.func10, Tryd.ntmps10
  go_wp2_with fail
  have hw := S.wire t x ((w.alloc (.cells #[.bool a0, .int .u64 a1, .int .u64 a2, .string a3, .string a4, .string a5, .int .i64 a6, .int .i64 a7, .int .i64 a8, .int .i64 a9, .int .i64 a10, .int .i64 a11, .int .u64 a12] 26)).alloc (.cells #[.bool b0, .int .u64 b1, .int .u64 b2, .string b3, .string b4, .string b5, .int .i64 b6, .int .i64 b7, .int .i64 b8, .int .i64 b9, .int .i64 b10, .int .i64 b11, .int .u64 b12] 26)) HX.out (shb sh HO.out.own.below)
  rw [HXV.out] at hw
  refine hw.mono ?_
  clear hw
  rintro e_ w1 ⟨rfl, hb⟩
  replace HO := Aside0.mk (HO.out.call hb)
  clear hb
  obtain ⟨hc, hf⟩ := HO.out.own.cells
  obtain ⟨hd, hg⟩ := cells_of_blk HO.out.blk
  go_wp2_with fail
  have hw := S.wire t y w1 HY.out (shb sh HO.out.own.below)
  rw [HYV.out] at hw
  refine hw.mono ?_
  clear hw
  rintro e_ w2 ⟨rfl, hb⟩
  replace HO := Aside0.mk (HO.out.call hb)
  clear hb hc hf hd hg
  cases vx : validS t x with
  | false =>
    cases vy : validS t y with
    | false =>
      rw [show wireS t x = ([], if knownB t then 5 else 4) by unfold wireS; rw [vx]; cases knownB t <;> rfl, show wireS t y = ([], if knownB t then 5 else 4) by unfold wireS; rw [vy]; cases knownB t <;> rfl]
      obtain rfl : r = 0 := by rw [← HR.out]; unfold cmpS; rw [vx, vy]; rfl
      cases knownB t
      all_goals
        go_wp2
        go_ret
        exact ⟨rfl, HO.out.own.below⟩
    | true =>
      rw [show wireS t x = ([], 5) by unfold wireS; rw [vx, (valid_used vy).1]; rfl, show wireS t y = (wireF (flds t) y, 0) by unfold wireS; rw [vy, (valid_used vy).1]; rfl]
      obtain rfl : r = 1 := by rw [← HR.out]; unfold cmpS; rw [vx, vy]; rfl
      go_wp2
      go_ret
      exact ⟨rfl, HO.out.own.below⟩
  | true =>
    cases vy : validS t y with
    | false =>
      rw [show wireS t x = (wireF (flds t) x, 0) by unfold wireS; rw [vx, (valid_used vx).1]; rfl, show wireS t y = ([], 5) by unfold wireS; rw [vy, (valid_used vx).1]; rfl]
      obtain rfl : r = -1 := by rw [← HR.out]; unfold cmpS; rw [vx, vy]; rfl
      go_wp2
      go_ret
      exact ⟨rfl, HO.out.own.below⟩
    | true =>
      rw [show wireS t x = (wireF (flds t) x, 0) by unfold wireS; rw [vx, (valid_used vx).1]; rfl, show wireS t y = (wireF (flds t) y, 0) by unfold wireS; rw [vy, (valid_used vy).1]; rfl]
      have HCM := Aside0.mk (show Lib.compareBytes (strOf (wireF (flds t) x)).data.toList (strOf (wireF (flds t) y)).data.toList = r by rw [← HR.out]; unfold cmpS; rw [vx, vy]; rfl)
      clear vx vy
      go_wp2_with fail
      refine (Tryd.strings_Compare (strOf (wireF (flds t) x)) (strOf (wireF (flds t) y)) w2).mono ?_
      rintro e_ w3 ⟨rfl, rfl⟩
      go_wp2
      go_ret
      exact ⟨by show Ending.returned (Value.int .i64 (Lib.compareBytes (strOf (wireF (flds t) x)).data.toList (strOf (wireF (flds t) y)).data.toList)) = _; rw [HCM.out], HO.out.own.below⟩
end Go.Proofs.YtaehonmfoanloaaDoor.Hand
