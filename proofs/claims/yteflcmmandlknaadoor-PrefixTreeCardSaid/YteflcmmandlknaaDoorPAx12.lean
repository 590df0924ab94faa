/- The Go functions in Lean, with the proofs that the code comes to these answers: printed by this session's program (wip/px) out of the seat's translation. Conditions: each theorem's own. -/
import Derived.Test.YteflcmmandlknaaDoorPAx0
import Derived.Test.YteflcmmandlknaaDoorPAx1
import Derived.Test.YteflcmmandlknaaDoorPAx3
import Derived.Test.YteflcmmandlknaaDoorPAx11
namespace Go.Proofs.YteflcmmandlknaaDoor.PA
open Go.RowKit Go.Proofs.YteflcmmandlknaaDoorW.PrintWords Go.Proofs.YteflcmmandlknaaDoorW.PrintLast Go.Proofs.YteflcmmandlknaaDoorW.PrintMore
attribute [local go_sem] max2_int min2_int max_two min_two max_three min_three max_four min_four   -- for this text's walks alone
attribute [local go_sem ↓] Ext.isSome_setCell
open Press
set_option linter.unusedVariables false
set_option linter.unusedSimpArgs false

attribute [local go_sem high] eqA24
/-! ### bits_TrailingZeros64: function 53 (given) -/
def bits_TrailingZeros64.f (a0 : Int) : Option Int := if 0 ≤ a0 ∧ a0 < 18446744073709551616 then some ((Lib.ctz 64 a0.toNat : Nat) : Int) else none
theorem tzg_and (a b : Nat) (ha : a < 18446744073709551616) (hb : b < 18446744073709551616) : bits .and .u64 (a : Int) (b : Int) = ((a &&& b : Nat) : Int) := bits_and_u64_nat a b ha hb
theorem tzg_key (x a : Nat) (hx : x < 18446744073709551616) (hx0 : x ≠ 0) (hlow : x &&& (18446744073709551616 - x) = a) :
    IntKind.u64.wrap (bits BinOp.and IntKind.u64 (x : Int) (IntKind.u64.wrap (-(x : Int))) * 285870213051353865) / 288230376151711744 = ((a * 285870213051353865 % 18446744073709551616 / 288230376151711744 : Nat) : Int) := by
  have e1 : IntKind.u64.wrap (-(x : Int)) = ((18446744073709551616 - x : Nat) : Int) := by rw [IntKind.wrap_u64]; omega
  rw [e1, tzg_and x _ hx (by omega), hlow, IntKind.wrap_u64]
  omega
theorem tzg_core (x k idx : Nat) (w : World) (hx0 : ((x : Int) == 0) = false)
    (key : IntKind.u64.wrap (bits BinOp.and IntKind.u64 (x : Int) (IntKind.u64.wrap (-(x : Int))) * 285870213051353865) / 288230376151711744 = (idx : Int))
    (hi : idx < 64) (hk : k < 64) (hcell : w.cell? ⟨0, idx, none⟩ = some (.int .u8 k)) :
    Calls Tryd.prog 53 #[.int .u64 x] w fun e w' => e = .returned (.int .i64 k) ∧ w' = w := by
  go_enter Tryd.func53, Tryd.ntmps53
  go_wp2_with (simp only [key])
  go_ret
  exact ⟨rfl, rfl⟩
theorem tzg_zero (w : World) : Calls Tryd.prog 53 #[.int .u64 0] w fun e w' => e = .returned (.int .i64 64) ∧ w' = w := by
  go_enter Tryd.func53, Tryd.ntmps53
  go_wp2
  go_ret
  exact ⟨rfl, rfl⟩
theorem bits_TrailingZeros64.calls (a0 : Int) (r : Int) (w : World) (hLD : Laid w) (h : bits_TrailingZeros64.f a0 = some r) :
    Calls Tryd.prog 53 #[.int .u64 a0] w fun e w' => e = .returned (.int .i64 r) ∧ Below w.heap.size w w' := by
  unfold bits_TrailingZeros64.f at h
  by_cases hb : 0 ≤ a0 ∧ a0 < 18446744073709551616
  · rw [if_pos hb] at h
    obtain rfl := Option.some.inj h
    obtain ⟨x, rfl⟩ : ∃ x : Nat, a0 = x := ⟨a0.toNat, by omega⟩
    rw [Int.toNat_natCast]
    have hx : x < 18446744073709551616 := by omega
    by_cases h0 : x = 0
    · subst h0
      refine (tzg_zero w).mono ?_
      rintro e w' ⟨rfl, rfl⟩
      exact ⟨rfl, Below.refl _ _⟩
    · obtain ⟨hlow, hk⟩ := Lib.lowest_bit 64 x h0 hx
      obtain ⟨hi, htab⟩ := Lib.deBruijn64_at _ hk
      have hcell : w.cell? ⟨0, 2 ^ Lib.ctz 64 x * 285870213051353865 % 18446744073709551616 / 288230376151711744, none⟩ = some (.int .u8 ((Lib.ctz 64 x : Nat) : Int)) := by
        rw [hLD.bruijn.cell (show Tryd.prog.globalNamed "math/bits.deBruijn64tab" = some 0 by kernel_rfl) _ (by rw [List.length_map]; exact hi)]
        have e : (Lib.deBruijn64tab.map fun n : Nat => (n : Int)).getD (2 ^ Lib.ctz 64 x * 285870213051353865 % 18446744073709551616 / 288230376151711744) 0 = ((Lib.deBruijn64tab.getD (2 ^ Lib.ctz 64 x * 285870213051353865 % 18446744073709551616 / 288230376151711744) 0 : Nat) : Int) := by
          rw [List.getD_eq_getElem?_getD, List.getD_eq_getElem?_getD, List.getElem?_map]
          cases Lib.deBruijn64tab[2 ^ Lib.ctz 64 x * 285870213051353865 % 18446744073709551616 / 288230376151711744]? <;> rfl
        rw [e, htab]
      refine (tzg_core x _ _ w (by simp; omega) (tzg_key x _ hx h0 hlow) hi hk hcell).mono ?_
      rintro e w' ⟨rfl, rfl⟩
      exact ⟨rfl, Below.refl _ _⟩
  · rw [if_neg hb] at h; cases h


/-! ### prefix_zeros: function 38 -/
def prefix_zeros.f (a0_0 : Bool) (a0_1 : Int) (a0_2 : Int) : Option (Int) := (prefix_value.f a0_0 a0_1 a0_2).bind fun bt239 => ((bits_TrailingZeros64.f bt239.2).bind fun t241 => (if t241 = 64 then ((bits_TrailingZeros64.f bt239.1).bind fun t242 => ((prefix_length.f a0_0 a0_1 a0_2).bind fun t243 => (some (mn (wrap64 (t241 + t242)) t243)))) else ((prefix_length.f a0_0 a0_1 a0_2).bind fun t244 => (some (mn t241 t244)))))
set_option maxHeartbeats 40000000 in
set_option maxRecDepth 100000 in
theorem prefix_zeros.calls (a0_0 : Bool) (a0_1 : Int) (a0_2 : Int) (r : Int) (w : World) (hLD : Laid w) (h : prefix_zeros.f a0_0 a0_1 a0_2 = some r) :
 Calls Tryd.prog 38 #[.agg #[.bool a0_0, .int .u64 a0_1, .int .u64 a0_2]] w fun e w' => e = .returned (.int .i64 r) ∧ Below w.heap.size w w' := by
 have hu24 := Tryd.underlying24
 have HLD := Aside0.mk hLD
 clear hLD
 have HB := Aside0.mk (Below.refl w.heap.size w)
 have H : ((prefix_value.f a0_0 a0_1 a0_2).bind fun bt239 => ((bits_TrailingZeros64.f bt239.2).bind fun t241 => (if t241 = 64 then ((bits_TrailingZeros64.f bt239.1).bind fun t242 => ((prefix_length.f a0_0 a0_1 a0_2).bind fun t243 => (some (mn (wrap64 (t241 + t242)) t243)))) else ((prefix_length.f a0_0 a0_1 a0_2).bind fun t244 => (some (mn t241 t244)))))) = some r := h
 clear h
 replace H := Option.bind_eq_some_iff.mp H
 obtain ⟨⟨t239, t240⟩, A20, H⟩ := H
 replace H : ((bits_TrailingZeros64.f t240).bind fun t241 => (if t241 = 64 then ((bits_TrailingZeros64.f t239).bind fun t242 => ((prefix_length.f a0_0 a0_1 a0_2).bind fun t243 => (some (mn (wrap64 (t241 + t242)) t243)))) else ((prefix_length.f a0_0 a0_1 a0_2).bind fun t244 => (some (mn t241 t244))))) = some r := H
 have A2 := Aside0.mk A20
 clear A20
 replace H := Option.bind_eq_some_iff.mp H
 obtain ⟨t241, A30, H⟩ := H
 replace H : (if t241 = 64 then ((bits_TrailingZeros64.f t239).bind fun t242 => ((prefix_length.f a0_0 a0_1 a0_2).bind fun t243 => (some (mn (wrap64 (t241 + t242)) t243)))) else ((prefix_length.f a0_0 a0_1 a0_2).bind fun t244 => (some (mn t241 t244)))) = some r := H
 have A3 := Aside0.mk A30
 clear A30
 by_cases c4 : t241 = 64
 ·
  rw [if_pos c4] at H
  have c4b0 : (t241 == 64) = true := beq_iff_eq.mpr c4
  have c4b1 : (t241 != 64) = false := bne_eq_false_iff_eq.mpr c4
  clear c4
  replace H := Option.bind_eq_some_iff.mp H
  obtain ⟨t242, A50, H⟩ := H
  replace H : ((prefix_length.f a0_0 a0_1 a0_2).bind fun t243 => (some (mn (wrap64 (t241 + t242)) t243))) = some r := H
  have A5 := Aside0.mk A50
  clear A50
  replace H := Option.bind_eq_some_iff.mp H
  obtain ⟨t243, A60, H⟩ := H
  replace H : (some (mn (wrap64 (t241 + t242)) t243)) = some r := H
  have A6 := Aside0.mk A60
  clear A60
  obtain ⟨ji7, hji7⟩ : ∃ j_ : Int, (mn (wrap64 (t241 + t242)) t243) = j_ := ⟨_, rfl⟩
  replace H : (some ji7) = some r := by first | (rw [hji7] at H; exact H) | (simp only [hji7] at H ⊢; exact H)
  (try rw [hji7] at A2)
  (try rw [hji7] at A3)
  (try rw [hji7] at A5)
  (try rw [hji7] at A6)
  have hji7_ : (if t243 < (wrap64 (t241 + t242)) then t243 else (wrap64 (t241 + t242))) = ji7 := hji7
  obtain rfl := Option.some.inj H
  go_enter Tryd.func38, Tryd.ntmps38
  go_wp2_with (first | ((with_reducible refine gate_dst (N := 1) rfl ?_); refine boxA (N := 1) (cs := #[.bool a0_0, .int .u64 a0_1, .int .u64 a0_2]) (t := 24) ?_; intro gb238 hg w8 hbox hb; have BK238 := Aside0.mk (hbox); have GW238 := (pZ HB hg); have GE238 := (pZ HB hg); replace HB := (pS HB hb); clear hb hbox hg; obtain ⟨hcz9_0, hcz9_1, hcz9_2, hfz9_0, hfz9_1, hfz9_2⟩ := pC3 BK238) | ((with_reducible refine gate_callee (f := 52) rfl ?_); refine goesA (some 8) Tryd.func52 #[.agg #[.bool a0_0, .int .u64 a0_1, .int .u64 a0_2]] ?_; (with_reducible refine (prefix_value.calls a0_0 a0_1 a0_2 t239 t240 _ A2.out).mono ?_); rintro e w10 ⟨rfl, hb⟩; refine ⟨_, rfl, ?_⟩; replace BK238 := (pB BK238 hb); replace HB := (pS HB hb); (try clear hb)) | ((with_reducible refine gate_callee (f := 53) rfl ?_); refine goesA (some 12) Tryd.func53 #[.int .u64 t240] ?_; (with_reducible refine (bits_TrailingZeros64.calls t240 t241 _ ?side1 A3.out).mono ?_); (case side1 => exact Laid.below HLD.out (pE HB)); rintro e w11 ⟨rfl, hb⟩; refine ⟨_, rfl, ?_⟩; replace BK238 := (pB BK238 hb); replace HB := (pS HB hb); (try clear hb)) | ((with_reducible refine gate_callee (f := 53) rfl ?_); refine goesA (some 17) Tryd.func53 #[.int .u64 t239] ?_; (with_reducible refine (bits_TrailingZeros64.calls t239 t242 _ ?side1 A5.out).mono ?_); (case side1 => exact Laid.below HLD.out (pE HB)); rintro e w12 ⟨rfl, hb⟩; refine ⟨_, rfl, ?_⟩; replace BK238 := (pB BK238 hb); replace HB := (pS HB hb); (try clear hb); obtain ⟨hcz13_0, hcz13_1, hcz13_2, hfz13_0, hfz13_1, hfz13_2⟩ := pC3 BK238) | ((with_reducible refine gate_callee (f := 29) rfl ?_); refine goesA (some 21) Tryd.func29 #[.agg #[.bool a0_0, .int .u64 a0_1, .int .u64 a0_2]] ?_; (with_reducible refine (prefix_length.calls a0_0 a0_1 a0_2 t243 _ A6.out).mono ?_); rintro e w14 ⟨rfl, hb⟩; refine ⟨_, rfl, ?_⟩; replace BK238 := (pB BK238 hb); replace HB := (pS HB hb); (try clear hb)))
  go_ret
  exact ⟨by first | rfl | (simp [errW_none, errW_some] <;> rfl) | (simp only [← hji7]; first | rfl | (simp [errW_none, errW_some] <;> rfl)) | (simp [*, errW_none, errW_some] <;> rfl), by repeat (first | (with_reducible first | exact HB.out | apply below_alloc | apply pw_below_drewN | apply below_drew1 | refine below_set ?_ GE238.out) | exact HB.out)⟩
 ·
  rw [if_neg c4] at H
  have c4b0 : (t241 == 64) = false := beq_eq_false_iff_ne.mpr c4
  have c4b1 : (t241 != 64) = true := bne_iff_ne.mpr c4
  replace H := Option.bind_eq_some_iff.mp H
  obtain ⟨t244, A150, H⟩ := H
  replace H : (some (mn t241 t244)) = some r := H
  have A15 := Aside0.mk A150
  clear A150
  obtain ⟨ji16, hji16⟩ : ∃ j_ : Int, (mn t241 t244) = j_ := ⟨_, rfl⟩
  replace H : (some ji16) = some r := by first | (rw [hji16] at H; exact H) | (simp only [hji16] at H ⊢; exact H)
  (try rw [hji16] at A2)
  (try rw [hji16] at A3)
  (try rw [hji16] at A15)
  have hji16_ : (if t244 < t241 then t244 else t241) = ji16 := hji16
  obtain rfl := Option.some.inj H
  go_enter Tryd.func38, Tryd.ntmps38
  go_wp2_with (first | ((with_reducible refine gate_dst (N := 1) rfl ?_); refine boxA (N := 1) (cs := #[.bool a0_0, .int .u64 a0_1, .int .u64 a0_2]) (t := 24) ?_; intro gb238 hg w17 hbox hb; have BK238 := Aside0.mk (hbox); have GW238 := (pZ HB hg); have GE238 := (pZ HB hg); replace HB := (pS HB hb); clear hb hbox hg; obtain ⟨hcz18_0, hcz18_1, hcz18_2, hfz18_0, hfz18_1, hfz18_2⟩ := pC3 BK238) | ((with_reducible refine gate_callee (f := 52) rfl ?_); refine goesA (some 8) Tryd.func52 #[.agg #[.bool a0_0, .int .u64 a0_1, .int .u64 a0_2]] ?_; (with_reducible refine (prefix_value.calls a0_0 a0_1 a0_2 t239 t240 _ A2.out).mono ?_); rintro e w19 ⟨rfl, hb⟩; refine ⟨_, rfl, ?_⟩; replace BK238 := (pB BK238 hb); replace HB := (pS HB hb); (try clear hb)) | ((with_reducible refine gate_callee (f := 53) rfl ?_); refine goesA (some 12) Tryd.func53 #[.int .u64 t240] ?_; (with_reducible refine (bits_TrailingZeros64.calls t240 t241 _ ?side1 A3.out).mono ?_); (case side1 => exact Laid.below HLD.out (pE HB)); rintro e w20 ⟨rfl, hb⟩; refine ⟨_, rfl, ?_⟩; replace BK238 := (pB BK238 hb); replace HB := (pS HB hb); (try clear hb); obtain ⟨hcz21_0, hcz21_1, hcz21_2, hfz21_0, hfz21_1, hfz21_2⟩ := pC3 BK238) | ((with_reducible refine gate_callee (f := 29) rfl ?_); refine goesA (some 21) Tryd.func29 #[.agg #[.bool a0_0, .int .u64 a0_1, .int .u64 a0_2]] ?_; (with_reducible refine (prefix_length.calls a0_0 a0_1 a0_2 t244 _ A15.out).mono ?_); rintro e w22 ⟨rfl, hb⟩; refine ⟨_, rfl, ?_⟩; replace BK238 := (pB BK238 hb); replace HB := (pS HB hb); (try clear hb)))
  go_ret
  exact ⟨by first | rfl | (simp [errW_none, errW_some] <;> rfl) | (simp only [← hji16]; first | rfl | (simp [errW_none, errW_some] <;> rfl)) | (simp [*, errW_none, errW_some] <;> rfl), by repeat (first | (with_reducible first | exact HB.out | apply below_alloc | apply pw_below_drewN | apply below_drew1 | refine below_set ?_ GE238.out) | exact HB.out)⟩

/-! ### prefix_Cover: function 25 -/
mutual
def prefix_Cover.j0 : Nat → Bool → Bool → Int → Int → Bool → Int → Int → Option ((List (S26)))
 | 0, _, _, _, _, _, _, _ => none
 | k + 1, x37, x246000, x246001, x246002, x246003, x246004, x246005 => if x37 = true then (some ([] : List (S26))) else (prefix_Cover.l0 k ([] : List (S26)) x246000 x246001 x246002 x246003 x246004 x246005 x246000 x246001 x246002)
def prefix_Cover.l0 : Nat → List (S26) → Bool → Int → Int → Bool → Int → Int → Bool → Int → Int → Option ((List (S26)))
 | 0, _, _, _, _, _, _, _, _, _, _ => none
 | k + 1, x3, x246000, x246001, x246002, x246003, x246004, x246005, x250000, x250001, x250002 => (prefix_length.f x250000 x250001 x250002).bind fun t250 => ((prefix_zeros.f x250000 x250001 x250002).bind fun t251 => ((prefix_Bounds.f x250000 x250001 x250002 (wrap64 (t250 - t251))).bind fun bt253 => (prefix_Cover.l1 k x3 x246000 x246001 x246002 x246003 x246004 x246005 x250000 x250001 x250002 (wrap64 (t250 - t251)) bt253.1 bt253.2.1 bt253.2.2.1 bt253.2.2.2.1 bt253.2.2.2.2.1 bt253.2.2.2.2.2.1)))
def prefix_Cover.l1 : Nat → List (S26) → Bool → Int → Int → Bool → Int → Int → Bool → Int → Int → Int → Bool → Int → Int → Bool → Int → Int → Option ((List (S26)))
 | 0, _, _, _, _, _, _, _, _, _, _, _, _, _, _, _, _, _ => none
 | k + 1, x3, x246000, x246001, x246002, x246003, x246004, x246005, x253000, x253001, x253002, x253003, x261000, x261001, x261002, x261003, x261004, x261005 => (addr_Compare.f k x261003 x261004 x261005 x246003 x246004 x246005).bind fun t261 => (if t261 > 0 then ((prefix_Bounds.f x253000 x253001 x253002 (wrap64 (x253003 + 1))).bind fun bt262 => (prefix_Cover.l1 k x3 x246000 x246001 x246002 x246003 x246004 x246005 x253000 x253001 x253002 (wrap64 (x253003 + 1)) bt262.1 bt262.2.1 bt262.2.2.1 bt262.2.2.2.1 bt262.2.2.2.2.1 bt262.2.2.2.2.2.1)) else (if x3.length < 4398046511104 then ((some (x3 ++ [(⟨(⟨x253000, x253001, x253002⟩ : S24), x253003⟩ : S26)] : List (S26))).bind fun y269 => (if (x261003 == x246003 && (x261004 == x246004 && (x261005 == x246005))) = true then (some y269) else ((addr_Add.f x261003 x261004 x261005 1).bind fun bt272 => (if bt272.2.2.2 = true then (prefix_Cover.l0 k y269 x246000 x246001 x246002 x246003 x246004 x246005 bt272.1 bt272.2.1 bt272.2.2.1) else (some y269))))) else (none)))
end
def prefix_Cover.f (k : Nat) (a0_0 : Bool) (a0_1 : Int) (a0_2 : Int) (a0_3 : Bool) (a0_4 : Int) (a0_5 : Int) : Option ((List (S26))) := (addr_Valid.f a0_0 a0_1 a0_2).bind fun t246 => (if t246 = true then ((addr_Valid.f a0_3 a0_4 a0_5).bind fun t247 => (if t247 = true then (if (a0_0 != a0_3) = true then (prefix_Cover.j0 k true a0_0 a0_1 a0_2 a0_3 a0_4 a0_5) else ((addr_Compare.f k a0_0 a0_1 a0_2 a0_3 a0_4 a0_5).bind fun t248 => (prefix_Cover.j0 k (decide (t248 > 0)) a0_0 a0_1 a0_2 a0_3 a0_4 a0_5))) else (prefix_Cover.j0 k true a0_0 a0_1 a0_2 a0_3 a0_4 a0_5))) else (prefix_Cover.j0 k true a0_0 a0_1 a0_2 a0_3 a0_4 a0_5))
theorem prefix_Cover.mono_l : ∀ k, (∀ y0 y1 y2 y3 y4 y5 y6, LeO (prefix_Cover.j0 k y0 y1 y2 y3 y4 y5 y6) (prefix_Cover.j0 (k + 1) y0 y1 y2 y3 y4 y5 y6)) ∧ (∀ y0 y1 y2 y3 y4 y5 y6 y7 y8 y9, LeO (prefix_Cover.l0 k y0 y1 y2 y3 y4 y5 y6 y7 y8 y9) (prefix_Cover.l0 (k + 1) y0 y1 y2 y3 y4 y5 y6 y7 y8 y9)) ∧ (∀ y0 y1 y2 y3 y4 y5 y6 y7 y8 y9 y10 y11 y12 y13 y14 y15 y16, LeO (prefix_Cover.l1 k y0 y1 y2 y3 y4 y5 y6 y7 y8 y9 y10 y11 y12 y13 y14 y15 y16) (prefix_Cover.l1 (k + 1) y0 y1 y2 y3 y4 y5 y6 y7 y8 y9 y10 y11 y12 y13 y14 y15 y16))
 | 0 => ⟨fun _ _ _ _ _ _ _ r h => by simp [prefix_Cover.j0] at h, fun _ _ _ _ _ _ _ _ _ _ r h => by simp [prefix_Cover.l0] at h, fun _ _ _ _ _ _ _ _ _ _ _ _ _ _ _ _ _ r h => by simp [prefix_Cover.l1] at h⟩
 | k + 1 => by
  obtain ⟨ih0, ih1, ih2⟩ := prefix_Cover.mono_l k
  refine ⟨?_, ?_, ?_⟩
  ·
   intro y0 y1 y2 y3 y4 y5 y6
   unfold prefix_Cover.j0
   repeat' first
   | (with_reducible exact ih0 _ _ _ _ _ _ _)
   | (with_reducible exact ih1 _ _ _ _ _ _ _ _ _ _)
   | (with_reducible exact ih2 _ _ _ _ _ _ _ _ _ _ _ _ _ _ _ _ _)
   | (with_reducible exact addr_Compare.mono _ _ _ _ _ _ _)
   | (with_reducible exact LeO.refl _)
   | (with_reducible exact LeO.none _)
   | (with_reducible refine LeO.ite ?_ ?_)
   | (with_reducible refine LeO.bind ?_ (fun _ => ?_))
   | exact ih0 _ _ _ _ _ _ _
   | exact ih1 _ _ _ _ _ _ _ _ _ _
   | exact ih2 _ _ _ _ _ _ _ _ _ _ _ _ _ _ _ _ _
   | exact addr_Compare.mono _ _ _ _ _ _ _
   | exact LeO.none _
   | refine LeO.ite ?_ ?_
   | refine LeO.bind ?_ (fun _ => ?_)
  ·
   intro y0 y1 y2 y3 y4 y5 y6 y7 y8 y9
   unfold prefix_Cover.l0
   repeat' first
   | (with_reducible exact ih0 _ _ _ _ _ _ _)
   | (with_reducible exact ih1 _ _ _ _ _ _ _ _ _ _)
   | (with_reducible exact ih2 _ _ _ _ _ _ _ _ _ _ _ _ _ _ _ _ _)
   | (with_reducible exact addr_Compare.mono _ _ _ _ _ _ _)
   | (with_reducible exact LeO.refl _)
   | (with_reducible exact LeO.none _)
   | (with_reducible refine LeO.ite ?_ ?_)
   | (with_reducible refine LeO.bind ?_ (fun _ => ?_))
   | exact ih0 _ _ _ _ _ _ _
   | exact ih1 _ _ _ _ _ _ _ _ _ _
   | exact ih2 _ _ _ _ _ _ _ _ _ _ _ _ _ _ _ _ _
   | exact addr_Compare.mono _ _ _ _ _ _ _
   | exact LeO.none _
   | refine LeO.ite ?_ ?_
   | refine LeO.bind ?_ (fun _ => ?_)
  ·
   intro y0 y1 y2 y3 y4 y5 y6 y7 y8 y9 y10 y11 y12 y13 y14 y15 y16
   unfold prefix_Cover.l1
   repeat' first
   | (with_reducible exact ih0 _ _ _ _ _ _ _)
   | (with_reducible exact ih1 _ _ _ _ _ _ _ _ _ _)
   | (with_reducible exact ih2 _ _ _ _ _ _ _ _ _ _ _ _ _ _ _ _ _)
   | (with_reducible exact addr_Compare.mono _ _ _ _ _ _ _)
   | (with_reducible exact LeO.refl _)
   | (with_reducible exact LeO.none _)
   | (with_reducible refine LeO.ite ?_ ?_)
   | (with_reducible refine LeO.bind ?_ (fun _ => ?_))
   | exact ih0 _ _ _ _ _ _ _
   | exact ih1 _ _ _ _ _ _ _ _ _ _
   | exact ih2 _ _ _ _ _ _ _ _ _ _ _ _ _ _ _ _ _
   | exact addr_Compare.mono _ _ _ _ _ _ _
   | exact LeO.none _
   | refine LeO.ite ?_ ?_
   | refine LeO.bind ?_ (fun _ => ?_)
theorem prefix_Cover.mono : ∀ a0 a1 a2 a3 a4 a5 k, LeO (prefix_Cover.f k a0 a1 a2 a3 a4 a5) (prefix_Cover.f (k + 1) a0 a1 a2 a3 a4 a5) := by
 intro a0 a1 a2 a3 a4 a5 k
 obtain ⟨ih0, ih1, ih2⟩ := prefix_Cover.mono_l k
 unfold prefix_Cover.f
 repeat' first
  | (with_reducible exact ih0 _ _ _ _ _ _ _)
  | (with_reducible exact ih1 _ _ _ _ _ _ _ _ _ _)
  | (with_reducible exact ih2 _ _ _ _ _ _ _ _ _ _ _ _ _ _ _ _ _)
  | (with_reducible exact addr_Compare.mono _ _ _ _ _ _ _)
  | (with_reducible exact LeO.refl _)
  | (with_reducible exact LeO.none _)
  | (with_reducible refine LeO.ite ?_ ?_)
  | (with_reducible refine LeO.bind ?_ (fun _ => ?_))
  | exact ih0 _ _ _ _ _ _ _
  | exact ih1 _ _ _ _ _ _ _ _ _ _
  | exact ih2 _ _ _ _ _ _ _ _ _ _ _ _ _ _ _ _ _
  | exact addr_Compare.mono _ _ _ _ _ _ _
  | exact LeO.none _
  | refine LeO.ite ?_ ?_
  | refine LeO.bind ?_ (fun _ => ?_)
set_option maxHeartbeats 40000000 in
set_option maxRecDepth 100000 in
theorem prefix_Cover.calls (k : Nat) (a0_0 : Bool) (a0_1 : Int) (a0_2 : Int) (a0_3 : Bool) (a0_4 : Int) (a0_5 : Int) (r : List (S26)) (w : World) (hLD : Laid w) (h : prefix_Cover.f k a0_0 a0_1 a0_2 a0_3 a0_4 a0_5 = some r) :
 Calls Tryd.prog 25 #[.agg #[.bool a0_0, .int .u64 a0_1, .int .u64 a0_2, .bool a0_3, .int .u64 a0_4, .int .u64 a0_5]] w fun e w' => ∃ v0_ : Value, e = .returned (v0_) ∧ Kd.R k26 26 w' w.heap.size (fun _ => True) v0_ r ∧ Below w.heap.size w w' := by
 have hu36 := Tryd.underlying36
 have hu24 := Tryd.underlying24
 have hu26 := Tryd.underlying26
 have HLD := Aside0.mk hLD
 clear hLD
 have HB := Aside0.mk (Below.refl w.heap.size w)
 have H : ((addr_Valid.f a0_0 a0_1 a0_2).bind fun t246 => (if t246 = true then ((addr_Valid.f a0_3 a0_4 a0_5).bind fun t247 => (if t247 = true then (if (a0_0 != a0_3) = true then (prefix_Cover.j0 k true a0_0 a0_1 a0_2 a0_3 a0_4 a0_5) else ((addr_Compare.f k a0_0 a0_1 a0_2 a0_3 a0_4 a0_5).bind fun t248 => (prefix_Cover.j0 k (decide (t248 > 0)) a0_0 a0_1 a0_2 a0_3 a0_4 a0_5))) else (prefix_Cover.j0 k true a0_0 a0_1 a0_2 a0_3 a0_4 a0_5))) else (prefix_Cover.j0 k true a0_0 a0_1 a0_2 a0_3 a0_4 a0_5))) = some r := h
 clear h
 have HC2 := Aside0.mk H
 clear H
 go_enter Tryd.func25, Tryd.ntmps25
 go_upto_region 1 with (first | ((with_reducible refine gate_dst (N := 1) rfl ?_); refine boxA (N := 1) (cs := #[.bool a0_0, .int .u64 a0_1, .int .u64 a0_2, .bool a0_3, .int .u64 a0_4, .int .u64 a0_5]) (t := 36) ?_; intro gb245 hg w3 hbox hb; have BK245 := Aside0.mk (hbox); have GW245 := (pZ HB hg); have GE245 := (pZ HB hg); replace HB := (pS HB hb); clear hb hbox hg))
 (try simp only [Act.put, List.setIfInBounds_toArray, List.set_cons_zero, List.set_cons_succ])
 go_cut [37] (fun v37 wc => ∃ (kq : Nat) (x37_1 : Bool), v37 = .bool x37_1 ∧ Aside0 (prefix_Cover.j0 kq x37_1 a0_0 a0_1 a0_2 a0_3 a0_4 a0_5 = some r) ∧ Aside0 (kq ≤ k) ∧ Aside0 (wc.heap[gb245]? = some (.cells #[.bool a0_0, .int .u64 a0_1, .int .u64 a0_2, .bool a0_3, .int .u64 a0_4, .int .u64 a0_5] 36 (0, 0))) ∧ Aside0 (Below w.heap.size w wc))
 case first =>
  have H := HC2.out
  clear HC2
  replace H := Option.bind_eq_some_iff.mp H
  obtain ⟨t246, A40, H⟩ := H
  replace H : (if t246 = true then ((addr_Valid.f a0_3 a0_4 a0_5).bind fun t247 => (if t247 = true then (if (a0_0 != a0_3) = true then (prefix_Cover.j0 k true a0_0 a0_1 a0_2 a0_3 a0_4 a0_5) else ((addr_Compare.f k a0_0 a0_1 a0_2 a0_3 a0_4 a0_5).bind fun t248 => (prefix_Cover.j0 k (decide (t248 > 0)) a0_0 a0_1 a0_2 a0_3 a0_4 a0_5))) else (prefix_Cover.j0 k true a0_0 a0_1 a0_2 a0_3 a0_4 a0_5))) else (prefix_Cover.j0 k true a0_0 a0_1 a0_2 a0_3 a0_4 a0_5)) = some r := H
  have A4 := Aside0.mk A40
  clear A40
  by_cases c5 : t246 = true
  ·
   subst c5
   rw [if_pos rfl] at H
   replace H := Option.bind_eq_some_iff.mp H
   obtain ⟨t247, A60, H⟩ := H
   replace H : (if t247 = true then (if (a0_0 != a0_3) = true then (prefix_Cover.j0 k true a0_0 a0_1 a0_2 a0_3 a0_4 a0_5) else ((addr_Compare.f k a0_0 a0_1 a0_2 a0_3 a0_4 a0_5).bind fun t248 => (prefix_Cover.j0 k (decide (t248 > 0)) a0_0 a0_1 a0_2 a0_3 a0_4 a0_5))) else (prefix_Cover.j0 k true a0_0 a0_1 a0_2 a0_3 a0_4 a0_5)) = some r := H
   have A6 := Aside0.mk A60
   clear A60
   by_cases c7 : t247 = true
   ·
    subst c7
    rw [if_pos rfl] at H
    by_cases c8 : (a0_0 != a0_3) = true
    ·
     rw [if_pos c8] at H
     have c8b0 : (a0_0 != a0_3) = true := c8
     (try (have c8b1 : decide (a0_0 = a0_3) = false := by simpa using c8))
     (try (have c8b2 : (a0_0 == a0_3) = false := by simpa using c8))
     (try (have c8b3 : ¬ (a0_0 = a0_3) := by simpa using c8))
     clear c8
     (first | rw [c8b0] | (simp only [i64_w, i32_w]; rw [c8b0]) | skip)
     have H' := Aside0.mk H
     clear H
     obtain ⟨hcz9_0, hcz9_1, hcz9_2, hcz9_3, hcz9_4, hcz9_5, hfz9_0, hfz9_1, hfz9_2, hfz9_3, hfz9_4, hfz9_5⟩ := pC6 BK245
     go_wp2_with (first | ((with_reducible refine gate_callee (f := 18) rfl ?_); refine goesA (some 13) Tryd.func18 #[.agg #[.bool a0_0, .int .u64 a0_1, .int .u64 a0_2]] ?_; (with_reducible refine (addr_Valid.calls a0_0 a0_1 a0_2 true _ A4.out).mono ?_); rintro e w10 ⟨rfl, hb⟩; refine ⟨_, rfl, ?_⟩; replace BK245 := (pB BK245 hb); replace HB := (pS HB hb); (try clear hb); (try clear hk); obtain ⟨hcz11_0, hcz11_1, hcz11_2, hcz11_3, hcz11_4, hcz11_5, hfz11_0, hfz11_1, hfz11_2, hfz11_3, hfz11_4, hfz11_5⟩ := pC6 BK245) | (go_at_call 18; (with_reducible refine (addr_Valid.calls a0_3 a0_4 a0_5 true _ A6.out).mono ?_); rintro e w12 ⟨rfl, hb⟩; replace BK245 := (pB BK245 hb); replace HB := (pS HB hb); (try clear hb); (try clear hk); obtain ⟨hcz13_0, hcz13_1, hcz13_2, hcz13_3, hcz13_4, hcz13_5, hfz13_0, hfz13_1, hfz13_2, hfz13_3, hfz13_4, hfz13_5⟩ := pC6 BK245))
     refine Met.intro ?_
     go_step
     (repeat apply Exists.intro)
     refine ⟨?rel, ?heq_⟩
     case heq_ => first | rfl | (rw [c8b0]) | (simp only [c8b0])
     case rel => exact ⟨_, (true), pT, H', ⟨by first | omega | exact Nat.le_refl _⟩, ⟨pM BK245⟩, ⟨pE HB⟩⟩
    ·
     rw [if_neg c8] at H
     have c8b0 : (a0_0 != a0_3) = false := by simpa using c8
     (try (have c8b1 : decide (a0_0 = a0_3) = true := by simpa using c8))
     (try (have c8b2 : (a0_0 == a0_3) = true := by simpa using c8))
     clear c8
     (first | rw [c8b0] | (simp only [i64_w, i32_w]; rw [c8b0]) | skip)
     replace H := Option.bind_eq_some_iff.mp H
     obtain ⟨t248, A140, H⟩ := H
     replace H : (prefix_Cover.j0 k (decide (t248 > 0)) a0_0 a0_1 a0_2 a0_3 a0_4 a0_5) = some r := H
     have A14 := Aside0.mk A140
     clear A140
     have H' := Aside0.mk H
     clear H
     obtain ⟨hcz15_0, hcz15_1, hcz15_2, hcz15_3, hcz15_4, hcz15_5, hfz15_0, hfz15_1, hfz15_2, hfz15_3, hfz15_4, hfz15_5⟩ := pC6 BK245
     go_wp2_with (first | ((with_reducible refine gate_callee (f := 18) rfl ?_); refine goesA (some 13) Tryd.func18 #[.agg #[.bool a0_0, .int .u64 a0_1, .int .u64 a0_2]] ?_; (with_reducible refine (addr_Valid.calls a0_0 a0_1 a0_2 true _ A4.out).mono ?_); rintro e w16 ⟨rfl, hb⟩; refine ⟨_, rfl, ?_⟩; replace BK245 := (pB BK245 hb); replace HB := (pS HB hb); (try clear hb); (try clear hk); obtain ⟨hcz17_0, hcz17_1, hcz17_2, hcz17_3, hcz17_4, hcz17_5, hfz17_0, hfz17_1, hfz17_2, hfz17_3, hfz17_4, hfz17_5⟩ := pC6 BK245) | (go_at_call 18; (with_reducible refine (addr_Valid.calls a0_3 a0_4 a0_5 true _ A6.out).mono ?_); rintro e w18 ⟨rfl, hb⟩; replace BK245 := (pB BK245 hb); replace HB := (pS HB hb); (try clear hb); (try clear hk); obtain ⟨hcz19_0, hcz19_1, hcz19_2, hcz19_3, hcz19_4, hcz19_5, hfz19_0, hfz19_1, hfz19_2, hfz19_3, hfz19_4, hfz19_5⟩ := pC6 BK245) | (go_at_call 26; (with_reducible refine (addr_Compare.calls k a0_0 a0_1 a0_2 a0_3 a0_4 a0_5 t248 _ A14.out).mono ?_); rintro e w20 ⟨rfl, hb⟩; replace BK245 := (pB BK245 hb); replace HB := (pS HB hb); (try clear hb); (try clear hk)))
     refine Met.intro ?_
     go_step
     (repeat apply Exists.intro)
     refine ⟨?rel, ?heq_⟩
     case heq_ => first | rfl | (rw [c8b0]) | (simp only [c8b0])
     case rel => exact ⟨_, (decide (t248 > 0)), pT, H', ⟨by first | omega | exact Nat.le_refl _⟩, ⟨pM BK245⟩, ⟨pE HB⟩⟩
   ·
    replace c7 := Bool.eq_false_iff.mpr c7
    subst c7
    rw [if_neg (show ¬ (false = true) by decide)] at H
    have H' := Aside0.mk H
    clear H
    obtain ⟨hcz21_0, hcz21_1, hcz21_2, hcz21_3, hcz21_4, hcz21_5, hfz21_0, hfz21_1, hfz21_2, hfz21_3, hfz21_4, hfz21_5⟩ := pC6 BK245
    go_wp2_with (first | ((with_reducible refine gate_callee (f := 18) rfl ?_); refine goesA (some 13) Tryd.func18 #[.agg #[.bool a0_0, .int .u64 a0_1, .int .u64 a0_2]] ?_; (with_reducible refine (addr_Valid.calls a0_0 a0_1 a0_2 true _ A4.out).mono ?_); rintro e w22 ⟨rfl, hb⟩; refine ⟨_, rfl, ?_⟩; replace BK245 := (pB BK245 hb); replace HB := (pS HB hb); (try clear hb); (try clear hk); obtain ⟨hcz23_0, hcz23_1, hcz23_2, hcz23_3, hcz23_4, hcz23_5, hfz23_0, hfz23_1, hfz23_2, hfz23_3, hfz23_4, hfz23_5⟩ := pC6 BK245) | (go_at_call 18; (with_reducible refine (addr_Valid.calls a0_3 a0_4 a0_5 false _ A6.out).mono ?_); rintro e w24 ⟨rfl, hb⟩; replace BK245 := (pB BK245 hb); replace HB := (pS HB hb); (try clear hb); (try clear hk)))
    go_meet
    case rel => exact ⟨_, (true), pT, H', ⟨by first | omega | exact Nat.le_refl _⟩, ⟨pM BK245⟩, ⟨pE HB⟩⟩
  ·
   replace c5 := Bool.eq_false_iff.mpr c5
   subst c5
   rw [if_neg (show ¬ (false = true) by decide)] at H
   have H' := Aside0.mk H
   clear H
   obtain ⟨hcz25_0, hcz25_1, hcz25_2, hcz25_3, hcz25_4, hcz25_5, hfz25_0, hfz25_1, hfz25_2, hfz25_3, hfz25_4, hfz25_5⟩ := pC6 BK245
   go_wp2_with (first | ((with_reducible refine gate_callee (f := 18) rfl ?_); refine goesA (some 13) Tryd.func18 #[.agg #[.bool a0_0, .int .u64 a0_1, .int .u64 a0_2]] ?_; (with_reducible refine (addr_Valid.calls a0_0 a0_1 a0_2 false _ A4.out).mono ?_); rintro e w26 ⟨rfl, hb⟩; refine ⟨_, rfl, ?_⟩; replace BK245 := (pB BK245 hb); replace HB := (pS HB hb); (try clear hb); (try clear hk)))
   go_meet
   case rel => exact ⟨_, (true), pT, H', ⟨by first | omega | exact Nat.le_refl _⟩, ⟨pM BK245⟩, ⟨pE HB⟩⟩
 case rest =>
  clear HC2
  try clear c1
  try clear c2
  try clear p2
  try clear c5
  try clear c7
  try clear c8
  try clear c8b0
  try clear c8b1
  try clear c8b2
  try clear c18
  try clear c25
  try clear hcz11_0 hcz11_1 hcz11_2 hcz11_3 hcz11_4 hcz11_5
  try clear hcz13_0 hcz13_1 hcz13_2 hcz13_3 hcz13_4 hcz13_5
  try clear hcz15_0 hcz15_1 hcz15_2 hcz15_3 hcz15_4 hcz15_5
  try clear hcz17_0 hcz17_1 hcz17_2 hcz17_3 hcz17_4 hcz17_5
  try clear hcz19_0 hcz19_1 hcz19_2 hcz19_3 hcz19_4 hcz19_5
  try clear hcz21_0 hcz21_1 hcz21_2 hcz21_3 hcz21_4 hcz21_5
  try clear hcz23_0 hcz23_1 hcz23_2 hcz23_3 hcz23_4 hcz23_5
  try clear hcz25_0 hcz25_1 hcz25_2 hcz25_3 hcz25_4 hcz25_5
  try clear hcz9_0 hcz9_1 hcz9_2 hcz9_3 hcz9_4 hcz9_5
  try clear hfz11_0 hfz11_1 hfz11_2 hfz11_3 hfz11_4 hfz11_5
  try clear hfz13_0 hfz13_1 hfz13_2 hfz13_3 hfz13_4 hfz13_5
  try clear hfz15_0 hfz15_1 hfz15_2 hfz15_3 hfz15_4 hfz15_5
  try clear hfz17_0 hfz17_1 hfz17_2 hfz17_3 hfz17_4 hfz17_5
  try clear hfz19_0 hfz19_1 hfz19_2 hfz19_3 hfz19_4 hfz19_5
  try clear hfz21_0 hfz21_1 hfz21_2 hfz21_3 hfz21_4 hfz21_5
  try clear hfz23_0 hfz23_1 hfz23_2 hfz23_3 hfz23_4 hfz23_5
  try clear hfz25_0 hfz25_1 hfz25_2 hfz25_3 hfz25_4 hfz25_5
  try clear hfz9_0 hfz9_1 hfz9_2 hfz9_3 hfz9_4 hfz9_5
  obtain ⟨kq, x37_1, rfl, HA, HJ1, BK245, HB⟩ := hcut
  cases kq with
  | zero => exact absurd HA.out (by simp [prefix_Cover.j0])
  | succ kj1 =>
   have H := HA.out
   clear HA
   simp only [prefix_Cover.j0] at H
   by_cases c27 : x37_1 = true
   ·
    subst c27
    rw [if_pos rfl] at H
    obtain rfl := Option.some.inj H
    go_wp2
    go_ret
    exact ⟨_, by first | rfl | (simp [errW_none, errW_some] <;> rfl) | (simp [*, errW_none, errW_some] <;> rfl), by first | exact Kd.R_nil _ _ _ _ _ | exact Kd.N_nil _ _ _ _ _ | exact Kd.V_nil _ _ _ _ _ | exact Kd.Q_nil _ _ _ _ _ | exact Kd.S_nil _ _ _ _ _, by repeat (first | (with_reducible first | exact HB.out | apply below_alloc | apply pw_below_drewN | apply below_drew1 | refine below_set ?_ GE245.out) | exact HB.out)⟩
   ·
    replace c27 := Bool.eq_false_iff.mpr c27
    subst c27
    rw [if_neg (show ¬ (false = true) by decide)] at H
    have H' := Aside0.mk H
    clear H
    obtain ⟨hcz28_0, hcz28_1, hcz28_2, hcz28_3, hcz28_4, hcz28_5, hfz28_0, hfz28_1, hfz28_2, hfz28_3, hfz28_4, hfz28_5⟩ := pC6 BK245
    go_wp2_with (first | ((with_reducible refine gate_dst (N := 4) rfl ?_); refine boxA (N := 4) (cs := #[.bool false, .int .u64 0, .int .u64 0]) (t := 24) ?_; intro gb249 hg w29 hbox hb; have BK249 := Aside0.mk (hbox); have GW249 := (pZ HB hg); have GE249 := (pZ HB hg); have NB245_249 := (pL BK245 hg); have NB249_245 := (pG BK245 hg); replace BK245 := (pB BK245 hb); replace HB := (pS HB hb); clear hb hbox hg; have hnb30 := NB249_245.out; have hnc30 := NB245_249.out; obtain ⟨hcz31_0, hcz31_1, hcz31_2, hfz31_0, hfz31_1, hfz31_2⟩ := pC3 BK249))
    go_loopg [3, 4] kj1 (fun kq v3 v4 w' => ∃ (x3_2 : List (S26)) (b0 : Bool) (b1 b2 : Int) (gc : Nat), v4 = .pointer (some ⟨gc, 0, none⟩) ∧ Aside0 (prefix_Cover.l0 kq x3_2 a0_0 a0_1 a0_2 a0_3 a0_4 a0_5 b0 b1 b2 = some r) ∧ Aside0 (kq ≤ kj1) ∧ Aside0 (Kd.R k26 26 w' w.heap.size (fun _ => True) v3 x3_2) ∧ Aside0 (w'.heap[gb245]? = some (.cells #[.bool a0_0, .int .u64 a0_1, .int .u64 a0_2, .bool a0_3, .int .u64 a0_4, .int .u64 a0_5] 36 (0, 0))) ∧ Aside0 (w'.heap[gc]? = some (.cells #[.bool b0, .int .u64 b1, .int .u64 b2] 24 (0, 0))) ∧ Aside0 (Below w.heap.size w w') ∧ Aside0 (gb245 ≠ gc) ∧ Aside0 (gc ≠ gb245) ∧ Aside0 (w.heap.size ≤ gc))
    case atStart => exact ⟨(([] : List (S26))), a0_0, a0_1, a0_2, gb249, rfl, H', ⟨Nat.le_refl _⟩, ⟨by first | exact Kd.R_nil _ _ _ _ _ | exact Kd.N_nil _ _ _ _ _ | exact Kd.V_nil _ _ _ _ _ | exact Kd.Q_nil _ _ _ _ _ | exact Kd.S_nil _ _ _ _ _⟩, ⟨by (with_reducible repeat (first | refine blk_drewN ?_ _ | refine blk_drew ?_ | refine blk_alloc ?_ _)); refine blk_far ?_ NB245_249.out _; (with_reducible repeat (first | refine blk_drewN ?_ _ | refine blk_drew ?_ | refine blk_alloc ?_ _)); refine blk_far ?_ NB245_249.out _; (with_reducible repeat (first | refine blk_drewN ?_ _ | refine blk_drew ?_ | refine blk_alloc ?_ _)); refine blk_far ?_ NB245_249.out _; (with_reducible repeat (first | refine blk_drewN ?_ _ | refine blk_drew ?_ | refine blk_alloc ?_ _)); exact BK245.out⟩, ⟨by (with_reducible repeat (first | refine blk_drewN ?_ _ | refine blk_drew ?_ | refine blk_alloc ?_ _)); refine blk_put (cs := #[.bool a0_0, .int .u64 a0_1, .int .u64 0]) ?_ 2 _ rfl; (with_reducible repeat (first | refine blk_drewN ?_ _ | refine blk_drew ?_ | refine blk_alloc ?_ _)); refine blk_put (cs := #[.bool a0_0, .int .u64 0, .int .u64 0]) ?_ 1 _ rfl; (with_reducible repeat (first | refine blk_drewN ?_ _ | refine blk_drew ?_ | refine blk_alloc ?_ _)); refine blk_put (cs := #[.bool false, .int .u64 0, .int .u64 0]) ?_ 0 _ rfl; (with_reducible repeat (first | refine blk_drewN ?_ _ | refine blk_drew ?_ | refine blk_alloc ?_ _)); exact BK249.out⟩, ⟨pE HB⟩, NB245_249, NB249_245, GE249⟩
    case round =>
     clear H'
     try clear c1
     try clear c2
     try clear p2
     try clear c3
     try clear c5
     try clear c7
     try clear c8
     try clear c8b0
     try clear c8b1
     try clear c8b2
     try clear c18
     try clear c25
     try clear c27
     try clear c30
     try clear hcz11_0 hcz11_1 hcz11_2 hcz11_3 hcz11_4 hcz11_5
     try clear hcz13_0 hcz13_1 hcz13_2 hcz13_3 hcz13_4 hcz13_5
     try clear hcz15_0 hcz15_1 hcz15_2 hcz15_3 hcz15_4 hcz15_5
     try clear hcz17_0 hcz17_1 hcz17_2 hcz17_3 hcz17_4 hcz17_5
     try clear hcz19_0 hcz19_1 hcz19_2 hcz19_3 hcz19_4 hcz19_5
     try clear hcz21_0 hcz21_1 hcz21_2 hcz21_3 hcz21_4 hcz21_5
     try clear hcz23_0 hcz23_1 hcz23_2 hcz23_3 hcz23_4 hcz23_5
     try clear hcz25_0 hcz25_1 hcz25_2 hcz25_3 hcz25_4 hcz25_5
     try clear hcz28_0 hcz28_1 hcz28_2 hcz28_3 hcz28_4 hcz28_5
     try clear hcz31_0 hcz31_1 hcz31_2
     try clear hcz9_0 hcz9_1 hcz9_2 hcz9_3 hcz9_4 hcz9_5
     try clear hfz11_0 hfz11_1 hfz11_2 hfz11_3 hfz11_4 hfz11_5
     try clear hfz13_0 hfz13_1 hfz13_2 hfz13_3 hfz13_4 hfz13_5
     try clear hfz15_0 hfz15_1 hfz15_2 hfz15_3 hfz15_4 hfz15_5
     try clear hfz17_0 hfz17_1 hfz17_2 hfz17_3 hfz17_4 hfz17_5
     try clear hfz19_0 hfz19_1 hfz19_2 hfz19_3 hfz19_4 hfz19_5
     try clear hfz21_0 hfz21_1 hfz21_2 hfz21_3 hfz21_4 hfz21_5
     try clear hfz23_0 hfz23_1 hfz23_2 hfz23_3 hfz23_4 hfz23_5
     try clear hfz25_0 hfz25_1 hfz25_2 hfz25_3 hfz25_4 hfz25_5
     try clear hfz28_0 hfz28_1 hfz28_2 hfz28_3 hfz28_4 hfz28_5
     try clear hfz31_0 hfz31_1 hfz31_2
     try clear hfz9_0 hfz9_1 hfz9_2 hfz9_3 hfz9_4 hfz9_5
     try clear p2
     obtain ⟨x3_2, b0, b1, b2, gb249, rfl, HA, HK2, HO_3, BK245, BK249, HB, NB245_249, NB249_245, GE249⟩ := hrel
     have GW249 := GE249
     cases gk with
     | zero => exact absurd HA.out (by simp [prefix_Cover.l0])
     | succ k2 =>
      have H := HA.out
      clear HA
      simp only [prefix_Cover.l0] at H
      replace H := Option.bind_eq_some_iff.mp H
      obtain ⟨t250, A320, H⟩ := H
      replace H : ((prefix_zeros.f b0 b1 b2).bind fun t251 => ((prefix_Bounds.f b0 b1 b2 (wrap64 (t250 - t251))).bind fun bt253 => (prefix_Cover.l1 k2 x3_2 a0_0 a0_1 a0_2 a0_3 a0_4 a0_5 b0 b1 b2 (wrap64 (t250 - t251)) bt253.1 bt253.2.1 bt253.2.2.1 bt253.2.2.2.1 bt253.2.2.2.2.1 bt253.2.2.2.2.2.1))) = some r := H
      have A32 := Aside0.mk A320
      clear A320
      replace H := Option.bind_eq_some_iff.mp H
      obtain ⟨t251, A330, H⟩ := H
      replace H : ((prefix_Bounds.f b0 b1 b2 (wrap64 (t250 - t251))).bind fun bt253 => (prefix_Cover.l1 k2 x3_2 a0_0 a0_1 a0_2 a0_3 a0_4 a0_5 b0 b1 b2 (wrap64 (t250 - t251)) bt253.1 bt253.2.1 bt253.2.2.1 bt253.2.2.2.1 bt253.2.2.2.2.1 bt253.2.2.2.2.2.1)) = some r := H
      have A33 := Aside0.mk A330
      clear A330
      replace H := Option.bind_eq_some_iff.mp H
      obtain ⟨⟨t253, t254, t255, t256, t257, t258, t259⟩, A340, H⟩ := H
      replace H : (prefix_Cover.l1 k2 x3_2 a0_0 a0_1 a0_2 a0_3 a0_4 a0_5 b0 b1 b2 (wrap64 (t250 - t251)) t253 t254 t255 t256 t257 t258) = some r := H
      have A34 := Aside0.mk A340
      clear A340
      have H' := Aside0.mk H
      clear H
      try go_wp2
      replace HO_3 := Aside0.mk (Kd.R_drew HO_3.out)
      replace BK245 := Aside0.mk (blk_drew BK245.out)
      replace BK249 := Aside0.mk (blk_drew BK249.out)
      replace HB := Aside0.mk (below_drew1 HB.out)
      refine start_ (n := 6) (S := fun w' => w'.cell? ⟨gb249, 0, none⟩ = some (.bool b0) ∧ w'.cell? ⟨gb249, 1, none⟩ = some (.int .u64 b1) ∧ w'.cell? ⟨gb249, 2, none⟩ = some (.int .u64 b2)) (ds := []) (tk 6 0) (by kernel_rfl) rfl rfl ⟨(blk_cell BK249.out 0).trans rfl, (blk_cell BK249.out 1).trans rfl, (blk_cell BK249.out 2).trans rfl⟩ (fun hHeld => ?_)
      generalize wr.drew = w35 at HO_3 BK245 BK249 HB hHeld ⊢
      refine take_ (i := 0) (N := some 40) (v := ?_) (a' := ?_) (tk 6 1) rfl rfl (by kernel_rfl) (fun _ _ _ h => h) (Or.inl ⟨by rfl, ?_⟩) hHeld ?_ ?_
      rotate_left
      ·
       rintro w' ⟨s0, s1, s2⟩
       go_simp
       with_reducible rfl
      rotate_left
      ·
       simp only [Act.put, List.setIfInBounds_toArray, List.set_cons_zero, List.set_cons_succ, i64_w, i32_w]
       rfl
      refine take_ (i := 2) (N := some 42) (v := ?_) (a' := ?_) (tr [1, 1, 1, 3]) rfl rfl (by kernel_rfl) (fun _ _ _ h => h) (Or.inl ⟨by rfl, ?_⟩) hHeld ?_ ?_
      rotate_left
      ·
       rintro w' ⟨s0, s1, s2⟩
       go_simp
       with_reducible rfl
      rotate_left
      ·
       simp only [Act.put, List.setIfInBounds_toArray, List.set_cons_zero, List.set_cons_succ, i64_w, i32_w]
       rfl
      refine one_ (i := 1) (N := some 41) (tk 6 3) rfl rfl (by kernel_rfl) (by decide) (fun K hK => ?_)
      refine goesR Tryd.func29 #[.agg #[.bool b0, .int .u64 b1, .int .u64 b2]] ?_
      with_reducible refine (prefix_length.calls b0 b1 b2 t250 _ A32.out).mono ?_
      rintro e w36 ⟨rfl, hb⟩
      refine ⟨_, rfl, ?_⟩
      replace HO_3 := Aside0.mk (Kd.R_below (by (with_reducible repeat (first | apply Kd.R_alloc | apply Kd.R_drewN | apply Kd.R_drew)); exact HO_3.out) hb)
      replace BK245 := (pB BK245 hb)
      replace BK249 := (pB BK249 hb)
      replace HB := (pS HB hb)
      (try clear hb)
      (try clear hk)
      refine hK.out _ _ ⟨(blk_cell BK249.out 0).trans rfl, (blk_cell BK249.out 1).trans rfl, (blk_cell BK249.out 2).trans rfl⟩ (fun hHeld => ?_)
      clear hK K
      refine normA (N := some 41) ?_
      refine one_ (i := 3) (N := some 43) (tk 6 4) rfl rfl (by kernel_rfl) (by decide) (fun K hK => ?_)
      refine goesR Tryd.func38 #[.agg #[.bool b0, .int .u64 b1, .int .u64 b2]] ?_
      with_reducible refine (prefix_zeros.calls b0 b1 b2 t251 _ ?side1 A33.out).mono ?_
      (case side1 => exact Laid.below HLD.out (pE HB))
      rintro e w37 ⟨rfl, hb⟩
      refine ⟨_, rfl, ?_⟩
      replace HO_3 := Aside0.mk (Kd.R_below (by (with_reducible repeat (first | apply Kd.R_alloc | apply Kd.R_drewN | apply Kd.R_drew)); exact HO_3.out) hb)
      replace BK245 := (pB BK245 hb)
      replace BK249 := (pB BK249 hb)
      replace HB := (pS HB hb)
      (try clear hb)
      (try clear hk)
      refine hK.out _ _ ⟨(blk_cell BK249.out 0).trans rfl, (blk_cell BK249.out 1).trans rfl, (blk_cell BK249.out 2).trans rfl⟩ (fun hHeld => ?_)
      clear hK K
      refine normA (N := some 43) ?_
      refine pure_ (i := 4) (N := some 44) (v := ?_) (a' := ?_) (tk 6 5) rfl rfl (by kernel_rfl) (fun _ _ _ h => h) (Or.inl ⟨by rfl, ?_⟩) ?_ ?_
      rotate_left
      ·
       intro w'
       go_simp
       with_reducible rfl
      rotate_left
      ·
       simp only [Act.put, List.setIfInBounds_toArray, List.set_cons_zero, List.set_cons_succ, i64_w, i32_w]
       rfl
      refine pure_ (i := 5) (N := some 5) (v := ?_) (a' := ?_) (tk 6 6) rfl rfl (by kernel_rfl) (fun _ _ _ h => h) (Or.inl ⟨by rfl, ?_⟩) ?_ ?_
      rotate_left
      ·
       intro w'
       go_simp
       with_reducible rfl
      rotate_left
      ·
       simp only [Act.put, List.setIfInBounds_toArray, List.set_cons_zero, List.set_cons_succ, i64_w, i32_w]
       rfl
      refine done_ (by kernel_rfl) ?_
      have hnb38 := NB249_245.out
      have hnc38 := NB245_249.out
      obtain ⟨hcz39_0, hcz39_1, hcz39_2, hfz39_0, hfz39_1, hfz39_2⟩ := pC3 BK249
      try go_wp2_with (first | ((with_reducible refine gate_dst (N := 6) rfl ?_); refine boxA (N := 6) (cs := #[.bool false, .int .u64 0, .int .u64 0, .int .i64 0]) (t := 26) ?_; intro gb252 hg w40 hbox hb; have BK252 := Aside0.mk (hbox); have GW252 := (pZ HB hg); have GE252 := (pZ HB hg); have NB245_252 := (pL BK245 hg); have NB252_245 := (pG BK245 hg); have NB249_252 := (pL BK249 hg); have NB252_249 := (pG BK249 hg); replace HO_3 := Aside0.mk (Kd.R_below (Kd.R_elderB (by (with_reducible repeat (first | apply Kd.R_alloc | apply Kd.R_drewN | apply Kd.R_drew)); exact HO_3.out) gb252 (Nat.le_of_eq hg.symm)) hb); replace BK245 := (pB BK245 hb); replace BK249 := (pB BK249 hb); replace HB := (pS HB hb); clear hb hbox hg; have hnb41 := NB252_245.out; have hnc41 := NB245_252.out; have hnb42 := NB252_249.out; have hnc42 := NB249_252.out; obtain ⟨hcz43_0, hcz43_1, hcz43_2, hcz43_3, hfz43_0, hfz43_1, hfz43_2, hfz43_3⟩ := pC4 BK252) | ((with_reducible refine gate_callee (f := 13) rfl ?_); refine goesA (some 50) Tryd.func13 #[.agg #[.bool b0, .int .u64 b1, .int .u64 b2, .int .i64 (wrap64 (t250 - t251))]] ?_; (with_reducible refine (prefix_Bounds.calls b0 b1 b2 (wrap64 (t250 - t251)) t253 t254 t255 t256 t257 t258 t259 _ A34.out).mono ?_); rintro e w44 ⟨rfl, hb⟩; refine ⟨_, rfl, ?_⟩; replace HO_3 := Aside0.mk (Kd.R_below (by (with_reducible repeat (first | apply Kd.R_alloc | apply Kd.R_drewN | apply Kd.R_drew)); exact (Kd.R_mono (Kd.R_far (p := ⟨gb252, 3, none⟩) (Kd.R_far (p := ⟨gb252, 2, none⟩) (Kd.R_far (p := ⟨gb252, 1, none⟩) (Kd.R_far (p := ⟨gb252, 0, none⟩) (Kd.R_mono HO_3.out (fun k_ hk => (⟨hk, hk.2⟩ : _ ∧ k_ ≠ gb252))) (fun _ hk => hk.2) (.bool b0)) (fun _ hk => hk.2) (.int .u64 b1)) (fun _ hk => hk.2) (.int .u64 b2)) (fun _ hk => hk.2) (.int .i64 (wrap64 (t250 - t251)))) (fun _ h_ => h_.1))) hb); replace BK245 := (pD hb (pK NB245_252 (pK NB245_252 (pK NB245_252 (pK NB245_252 (pM BK245)))))); replace BK249 := (pD hb (pK NB249_252 (pK NB249_252 (pK NB249_252 (pK NB249_252 (pM BK249)))))); replace BK252 := (pD hb (pP (pP (pP (pP (pM BK252)))))); replace HB := (pS HB hb); (try clear hb); (try clear hk)) | ((with_reducible refine gate_dst (N := 7) rfl ?_); refine boxA (N := 7) (cs := #[.bool false, .int .u64 0, .int .u64 0, .bool false, .int .u64 0, .int .u64 0]) (t := 36) ?_; intro gb260 hg w45 hbox hb; have BK260 := Aside0.mk (hbox); have GW260 := (pZ HB hg); have GE260 := (pZ HB hg); have NB245_260 := (pL BK245 hg); have NB260_245 := (pG BK245 hg); have NB249_260 := (pL BK249 hg); have NB260_249 := (pG BK249 hg); have NB252_260 := (pL BK252 hg); have NB260_252 := (pG BK252 hg); replace HO_3 := Aside0.mk (Kd.R_below (by (with_reducible repeat (first | apply Kd.R_alloc | apply Kd.R_drewN | apply Kd.R_drew)); exact HO_3.out) hb); replace BK245 := (pB BK245 hb); replace BK249 := (pB BK249 hb); replace BK252 := (pB BK252 hb); replace HB := (pS HB hb); clear hb hbox hg; have hnb46 := NB260_245.out; have hnc46 := NB245_260.out; have hnb47 := NB260_249.out; have hnc47 := NB249_260.out; have hnb48 := NB260_252.out; have hnc48 := NB252_260.out; obtain ⟨hcz49_0, hcz49_1, hcz49_2, hcz49_3, hcz49_4, hcz49_5, hfz49_0, hfz49_1, hfz49_2, hfz49_3, hfz49_4, hfz49_5⟩ := pC6 BK260) | ((with_reducible refine gate_store (t := 36) (p := 7) rfl ?_); refine store_event (t := 36) (p := 7) (v := ?vo_w50) (w1 := ((((((w45.setCell ⟨gb260, 0, none⟩ (.bool t253)).setCell ⟨gb260, 1, none⟩ (.int .u64 t254)).setCell ⟨gb260, 2, none⟩ (.int .u64 t255)).setCell ⟨gb260, 3, none⟩ (.bool t256)).setCell ⟨gb260, 4, none⟩ (.int .u64 t257)).setCell ⟨gb260, 5, none⟩ (.int .u64 t258))) ?hg ?ho ?hn ?hr ?_; (case ho => rfl); (case hg => rfl); (case hn => rfl); (case hr => first | (exact Ext.run_store_chain 36 _ _ rfl _ _ _ _ rfl rfl (pM BK260) (by kernel_rfl) rfl rfl rfl) | (go_simp; done) | (go_simp; rfl)); intro w50 hw; replace HO_3 : Aside0 (Kd.R k26 26 w50 w.heap.size (fun k_ => k_ ≠ gb252) u3 x3_2) := ⟨(by rw [hw]; exact (by (with_reducible repeat (first | apply Kd.R_alloc | apply Kd.R_drewN | apply Kd.R_drew)); exact Kd.R_mono (Kd.R_far (p := ⟨gb260, 5, none⟩) (Kd.R_far (p := ⟨gb260, 4, none⟩) (Kd.R_far (p := ⟨gb260, 3, none⟩) (Kd.R_far (p := ⟨gb260, 2, none⟩) (Kd.R_far (p := ⟨gb260, 1, none⟩) (Kd.R_far (p := ⟨gb260, 0, none⟩) (Kd.R_types HO_3.out BK260.out (by decide)) (fun _ hk => hk.2) (.bool t253)) (fun _ hk => hk.2) (.int .u64 t254)) (fun _ hk => hk.2) (.int .u64 t255)) (fun _ hk => hk.2) (.bool t256)) (fun _ hk => hk.2) (.int .u64 t257)) (fun _ hk => hk.2) (.int .u64 t258)) (fun _ hk => hk.1.2)))⟩; replace BK245 : Aside0 (w50.heap[gb245]? = some (.cells #[.bool a0_0, .int .u64 a0_1, .int .u64 a0_2, .bool a0_3, .int .u64 a0_4, .int .u64 a0_5] 36 (0, 0))) := (pW hw (pK NB245_260 (pK NB245_260 (pK NB245_260 (pK NB245_260 (pK NB245_260 (pK NB245_260 (pM BK245)))))))); replace BK249 : Aside0 (w50.heap[gb249]? = some (.cells #[.bool b0, .int .u64 b1, .int .u64 b2] 24 (0, 0))) := (pW hw (pK NB249_260 (pK NB249_260 (pK NB249_260 (pK NB249_260 (pK NB249_260 (pK NB249_260 (pM BK249)))))))); replace BK252 : Aside0 (w50.heap[gb252]? = some (.cells #[.bool b0, .int .u64 b1, .int .u64 b2, .int .i64 (wrap64 (t250 - t251))] 26 (0, 0))) := (pW hw (pK NB252_260 (pK NB252_260 (pK NB252_260 (pK NB252_260 (pK NB252_260 (pK NB252_260 (pM BK252)))))))); replace BK260 : Aside0 (w50.heap[gb260]? = some (.cells #[.bool t253, .int .u64 t254, .int .u64 t255, .bool t256, .int .u64 t257, .int .u64 t258] 36 (0, 0))) := (pW hw (pP (pP (pP (pP (pP (pP (pM BK260)))))))); replace HB : Aside0 (Below w.heap.size w w50) := ⟨(by rw [hw]; exact (by repeat (first | (with_reducible first | exact HB.out | apply below_alloc | apply pw_below_drewN | apply below_drew1 | refine below_set ?_ GE245.out | refine below_set ?_ GE249.out | refine below_set ?_ GE252.out | refine below_set ?_ GE260.out) | exact HB.out)))⟩; clear hw))
      go_loopg [] k2 (fun kq w' => ∃ (x253003_3 : Int) (x261000_3 : Bool) (x261001_3 : Int) (x261002_3 : Int) (x261003_3 : Bool) (x261004_3 : Int) (x261005_3 : Int), Aside0 (prefix_Cover.l1 kq x3_2 a0_0 a0_1 a0_2 a0_3 a0_4 a0_5 b0 b1 b2 x253003_3 x261000_3 x261001_3 x261002_3 x261003_3 x261004_3 x261005_3 = some r) ∧ Aside0 (kq ≤ k2) ∧ Aside0 (Kd.R k26 26 w' w.heap.size (fun k_ => k_ ≠ gb252) u3 x3_2) ∧ Aside0 (w'.heap[gb245]? = some (.cells #[.bool a0_0, .int .u64 a0_1, .int .u64 a0_2, .bool a0_3, .int .u64 a0_4, .int .u64 a0_5] 36 (0, 0))) ∧ Aside0 (w'.heap[gb249]? = some (.cells #[.bool b0, .int .u64 b1, .int .u64 b2] 24 (0, 0))) ∧ Aside0 (w'.heap[gb252]? = some (.cells #[.bool b0, .int .u64 b1, .int .u64 b2, .int .i64 x253003_3] 26 (0, 0))) ∧ Aside0 (w'.heap[gb260]? = some (.cells #[.bool x261000_3, .int .u64 x261001_3, .int .u64 x261002_3, .bool x261003_3, .int .u64 x261004_3, .int .u64 x261005_3] 36 (0, 0))) ∧ Aside0 (Below w.heap.size w w'))
      case atStart => exact ⟨(wrap64 (t250 - t251)), (t253), (t254), (t255), (t256), (t257), (t258), H', ⟨Nat.le_refl _⟩, ⟨by (with_reducible repeat (first | apply Kd.R_alloc | apply Kd.R_drewN | apply Kd.R_drew)); exact HO_3.out⟩, ⟨pM BK245⟩, ⟨pM BK249⟩, ⟨pM BK252⟩, ⟨pM BK260⟩, ⟨pE HB⟩⟩
      case round =>
       clear H'
       try clear c1
       try clear c2
       try clear p2
       try clear c3
       try clear c4
       try clear c5
       try clear p6
       try clear c7
       try clear c8
       try clear c8b0
       try clear c8b1
       try clear c8b2
       try clear c13
       try clear c18
       try clear c25
       try clear c27
       try clear c29
       try clear c30
       try clear c38
       try clear c41
       try clear c42
       try clear c46
       try clear c47
       try clear c48
       try clear hcz11_0 hcz11_1 hcz11_2 hcz11_3 hcz11_4 hcz11_5
       try clear hcz13_0 hcz13_1 hcz13_2 hcz13_3 hcz13_4 hcz13_5
       try clear hcz15_0 hcz15_1 hcz15_2 hcz15_3 hcz15_4 hcz15_5
       try clear hcz17_0 hcz17_1 hcz17_2 hcz17_3 hcz17_4 hcz17_5
       try clear hcz19_0 hcz19_1 hcz19_2 hcz19_3 hcz19_4 hcz19_5
       try clear hcz21_0 hcz21_1 hcz21_2 hcz21_3 hcz21_4 hcz21_5
       try clear hcz23_0 hcz23_1 hcz23_2 hcz23_3 hcz23_4 hcz23_5
       try clear hcz25_0 hcz25_1 hcz25_2 hcz25_3 hcz25_4 hcz25_5
       try clear hcz28_0 hcz28_1 hcz28_2 hcz28_3 hcz28_4 hcz28_5
       try clear hcz31_0 hcz31_1 hcz31_2
       try clear hcz39_0 hcz39_1 hcz39_2
       try clear hcz43_0 hcz43_1 hcz43_2 hcz43_3
       try clear hcz49_0 hcz49_1 hcz49_2 hcz49_3 hcz49_4 hcz49_5
       try clear hcz9_0 hcz9_1 hcz9_2 hcz9_3 hcz9_4 hcz9_5
       try clear hfz11_0 hfz11_1 hfz11_2 hfz11_3 hfz11_4 hfz11_5
       try clear hfz13_0 hfz13_1 hfz13_2 hfz13_3 hfz13_4 hfz13_5
       try clear hfz15_0 hfz15_1 hfz15_2 hfz15_3 hfz15_4 hfz15_5
       try clear hfz17_0 hfz17_1 hfz17_2 hfz17_3 hfz17_4 hfz17_5
       try clear hfz19_0 hfz19_1 hfz19_2 hfz19_3 hfz19_4 hfz19_5
       try clear hfz21_0 hfz21_1 hfz21_2 hfz21_3 hfz21_4 hfz21_5
       try clear hfz23_0 hfz23_1 hfz23_2 hfz23_3 hfz23_4 hfz23_5
       try clear hfz25_0 hfz25_1 hfz25_2 hfz25_3 hfz25_4 hfz25_5
       try clear hfz28_0 hfz28_1 hfz28_2 hfz28_3 hfz28_4 hfz28_5
       try clear hfz31_0 hfz31_1 hfz31_2
       try clear hfz39_0 hfz39_1 hfz39_2
       try clear hfz43_0 hfz43_1 hfz43_2 hfz43_3
       try clear hfz49_0 hfz49_1 hfz49_2 hfz49_3 hfz49_4 hfz49_5
       try clear hfz9_0 hfz9_1 hfz9_2 hfz9_3 hfz9_4 hfz9_5
       try clear p2
       obtain ⟨x253003_3, x261000_3, x261001_3, x261002_3, x261003_3, x261004_3, x261005_3, HA, HK3, HO_3, BK245, BK249, BK252, BK260, HB⟩ := hrel
       cases gk with
       | zero => exact absurd HA.out (by simp [prefix_Cover.l1])
       | succ k3 =>
        have H := HA.out
        clear HA
        simp only [prefix_Cover.l1] at H
        replace H := Option.bind_eq_some_iff.mp H
        obtain ⟨t261, A510, H⟩ := H
        replace H : (if t261 > 0 then ((prefix_Bounds.f b0 b1 b2 (wrap64 (x253003_3 + 1))).bind fun bt262 => (prefix_Cover.l1 k3 x3_2 a0_0 a0_1 a0_2 a0_3 a0_4 a0_5 b0 b1 b2 (wrap64 (x253003_3 + 1)) bt262.1 bt262.2.1 bt262.2.2.1 bt262.2.2.2.1 bt262.2.2.2.2.1 bt262.2.2.2.2.2.1)) else (if x3_2.length < 4398046511104 then ((some (x3_2 ++ [(⟨(⟨b0, b1, b2⟩ : S24), x253003_3⟩ : S26)] : List (S26))).bind fun y269 => (if (x261003_3 == a0_3 && (x261004_3 == a0_4 && (x261005_3 == a0_5))) = true then (some y269) else ((addr_Add.f x261003_3 x261004_3 x261005_3 1).bind fun bt272 => (if bt272.2.2.2 = true then (prefix_Cover.l0 k3 y269 a0_0 a0_1 a0_2 a0_3 a0_4 a0_5 bt272.1 bt272.2.1 bt272.2.2.1) else (some y269))))) else (none))) = some r := H
        have A51 := Aside0.mk A510
        clear A510
        by_cases c52 : t261 > 0
        ·
         rw [if_pos c52] at H
         have c52b0 : decide (0 < t261) = true := decide_eq_true c52
         clear c52
         replace H := Option.bind_eq_some_iff.mp H
         obtain ⟨⟨t262, t263, t264, t265, t266, t267, t268⟩, A530, H⟩ := H
         replace H : (prefix_Cover.l1 k3 x3_2 a0_0 a0_1 a0_2 a0_3 a0_4 a0_5 b0 b1 b2 (wrap64 (x253003_3 + 1)) t262 t263 t264 t265 t266 t267) = some r := H
         have A53 := Aside0.mk A530
         clear A530
         have H' := Aside0.mk H
         clear H
         have hnb54 := NB260_245.out
         have hnc54 := NB245_260.out
         have hnb55 := NB260_249.out
         have hnc55 := NB249_260.out
         have hnb56 := NB260_252.out
         have hnc56 := NB252_260.out
         obtain ⟨hcz57_0, hcz57_1, hcz57_2, hcz57_3, hcz57_4, hcz57_5, hfz57_0, hfz57_1, hfz57_2, hfz57_3, hfz57_4, hfz57_5⟩ := pC6 BK260
         have hnb58 := NB245_249.out
         have hnc58 := NB249_245.out
         have hnb59 := NB245_252.out
         have hnc59 := NB252_245.out
         obtain ⟨hcz60_0, hcz60_1, hcz60_2, hcz60_3, hcz60_4, hcz60_5, hfz60_0, hfz60_1, hfz60_2, hfz60_3, hfz60_4, hfz60_5⟩ := pC6 BK245
         go_wp2_with (first | ((with_reducible refine gate_callee (f := 26) rfl ?_); refine goesA (some 57) Tryd.func26 #[.agg #[.bool x261003_3, .int .u64 x261004_3, .int .u64 x261005_3], .agg #[.bool a0_3, .int .u64 a0_4, .int .u64 a0_5]] ?_; (with_reducible refine (addr_Compare.calls k3 x261003_3 x261004_3 x261005_3 a0_3 a0_4 a0_5 t261 _ A51.out).mono ?_); rintro e w61 ⟨rfl, hb⟩; refine ⟨_, rfl, ?_⟩; replace HO_3 := Aside0.mk (Kd.R_below (by (with_reducible repeat (first | apply Kd.R_alloc | apply Kd.R_drewN | apply Kd.R_drew)); exact HO_3.out) hb); replace BK245 := (pB BK245 hb); replace BK249 := (pB BK249 hb); replace BK252 := (pB BK252 hb); replace BK260 := (pB BK260 hb); replace HB := (pS HB hb); (try clear hb); (try clear hk); have hnb62 := NB252_249.out; have hnc62 := NB249_252.out; obtain ⟨hcz63_0, hcz63_1, hcz63_2, hcz63_3, hfz63_0, hfz63_1, hfz63_2, hfz63_3⟩ := pC4 BK252) | ((with_reducible refine gate_callee (f := 13) rfl ?_); refine goesA (some 65) Tryd.func13 #[.agg #[.bool b0, .int .u64 b1, .int .u64 b2, .int .i64 (wrap64 (x253003_3 + 1))]] ?_; (with_reducible refine (prefix_Bounds.calls b0 b1 b2 (wrap64 (x253003_3 + 1)) t262 t263 t264 t265 t266 t267 t268 _ A53.out).mono ?_); rintro e w64 ⟨rfl, hb⟩; refine ⟨_, rfl, ?_⟩; replace HO_3 := Aside0.mk (Kd.R_below (by (with_reducible repeat (first | apply Kd.R_alloc | apply Kd.R_drewN | apply Kd.R_drew)); exact (Kd.R_mono (Kd.R_far (p := ⟨gb252, 3, none⟩) (Kd.R_mono HO_3.out (fun k_ hk => (⟨hk, hk⟩ : _ ∧ k_ ≠ gb252))) (fun _ hk => hk.2) (.int .i64 (wrap64 (x253003_3 + 1)))) (fun _ h_ => h_.1))) hb); replace BK245 := (pD hb (pK NB245_252 (pM BK245))); replace BK249 := (pD hb (pK NB249_252 (pM BK249))); replace BK252 := (pD hb (pP (pM BK252))); replace BK260 := (pD hb (pK NB260_252 (pM BK260))); replace HB := (pS HB hb); (try clear hb); (try clear hk); obtain ⟨hcz65_0, hcz65_1, hcz65_2, hcz65_3, hcz65_4, hcz65_5, hfz65_0, hfz65_1, hfz65_2, hfz65_3, hfz65_4, hfz65_5⟩ := pC6 BK260) | ((with_reducible refine gate_store (t := 36) (p := 7) rfl ?_); refine store_event (t := 36) (p := 7) (v := ?vo_w66) (w1 := ((((((w64.setCell ⟨gb260, 0, none⟩ (.bool t262)).setCell ⟨gb260, 1, none⟩ (.int .u64 t263)).setCell ⟨gb260, 2, none⟩ (.int .u64 t264)).setCell ⟨gb260, 3, none⟩ (.bool t265)).setCell ⟨gb260, 4, none⟩ (.int .u64 t266)).setCell ⟨gb260, 5, none⟩ (.int .u64 t267))) ?hg ?ho ?hn ?hr ?_; (case ho => rfl); (case hg => rfl); (case hn => rfl); (case hr => first | (exact Ext.run_store_chain 36 _ _ rfl _ _ _ _ rfl rfl (pM BK260) (by kernel_rfl) rfl rfl rfl) | (go_simp; done) | (go_simp; rfl)); intro w66 hw; replace HO_3 : Aside0 (Kd.R k26 26 w66 w.heap.size (fun k_ => k_ ≠ gb252) u3 x3_2) := ⟨(by rw [hw]; exact (by (with_reducible repeat (first | apply Kd.R_alloc | apply Kd.R_drewN | apply Kd.R_drew)); exact Kd.R_mono (Kd.R_far (p := ⟨gb260, 5, none⟩) (Kd.R_far (p := ⟨gb260, 4, none⟩) (Kd.R_far (p := ⟨gb260, 3, none⟩) (Kd.R_far (p := ⟨gb260, 2, none⟩) (Kd.R_far (p := ⟨gb260, 1, none⟩) (Kd.R_far (p := ⟨gb260, 0, none⟩) (Kd.R_types HO_3.out BK260.out (by decide)) (fun _ hk => hk.2) (.bool t262)) (fun _ hk => hk.2) (.int .u64 t263)) (fun _ hk => hk.2) (.int .u64 t264)) (fun _ hk => hk.2) (.bool t265)) (fun _ hk => hk.2) (.int .u64 t266)) (fun _ hk => hk.2) (.int .u64 t267)) (fun _ hk => hk.1)))⟩; replace BK245 : Aside0 (w66.heap[gb245]? = some (.cells #[.bool a0_0, .int .u64 a0_1, .int .u64 a0_2, .bool a0_3, .int .u64 a0_4, .int .u64 a0_5] 36 (0, 0))) := (pW hw (pK NB245_260 (pK NB245_260 (pK NB245_260 (pK NB245_260 (pK NB245_260 (pK NB245_260 (pM BK245)))))))); replace BK249 : Aside0 (w66.heap[gb249]? = some (.cells #[.bool b0, .int .u64 b1, .int .u64 b2] 24 (0, 0))) := (pW hw (pK NB249_260 (pK NB249_260 (pK NB249_260 (pK NB249_260 (pK NB249_260 (pK NB249_260 (pM BK249)))))))); replace BK252 : Aside0 (w66.heap[gb252]? = some (.cells #[.bool b0, .int .u64 b1, .int .u64 b2, .int .i64 (wrap64 (x253003_3 + 1))] 26 (0, 0))) := (pW hw (pK NB252_260 (pK NB252_260 (pK NB252_260 (pK NB252_260 (pK NB252_260 (pK NB252_260 (pM BK252)))))))); replace BK260 : Aside0 (w66.heap[gb260]? = some (.cells #[.bool t262, .int .u64 t263, .int .u64 t264, .bool t265, .int .u64 t266, .int .u64 t267] 36 (0, 0))) := (pW hw (pP (pP (pP (pP (pP (pP (pM BK260)))))))); replace HB : Aside0 (Below w.heap.size w w66) := ⟨(by rw [hw]; exact (by repeat (first | (with_reducible first | exact HB.out | apply below_alloc | apply pw_below_drewN | apply below_drew1 | refine below_set ?_ GE245.out | refine below_set ?_ GE249.out | refine below_set ?_ GE252.out | refine below_set ?_ GE260.out) | exact HB.out)))⟩; clear hw))
         go_roundg k3
         case measure => have := HJ1.out; have := HK2.out; have := HK3.out; omega
         case rel => exact ⟨(wrap64 (x253003_3 + 1)), (t262), (t263), (t264), (t265), (t266), (t267), H', ⟨by have := HJ1.out; have := HK2.out; have := HK3.out; omega⟩, ⟨by (with_reducible repeat (first | apply Kd.R_alloc | apply Kd.R_drewN | apply Kd.R_drew)); exact HO_3.out⟩, ⟨pM BK245⟩, ⟨pM BK249⟩, ⟨pM BK252⟩, ⟨pM BK260⟩, ⟨pE HB⟩⟩
        ·
         rw [if_neg c52] at H
         have c52b0 : decide (0 < t261) = false := decide_eq_false c52
         clear c52
         by_cases c67 : x3_2.length < 4398046511104
         ·
          rw [if_pos c67] at H
          have LMc67 := Aside0.mk c67
          clear c67
          obtain ⟨y269, hy269⟩ : ∃ y_ : List (S26), y_ = (x3_2 ++ [(⟨(⟨b0, b1, b2⟩ : S24), x253003_3⟩ : S26)]) := ⟨_, rfl⟩
          replace H : (if (x261003_3 == a0_3 && (x261004_3 == a0_4 && (x261005_3 == a0_5))) = true then (some y269) else ((addr_Add.f x261003_3 x261004_3 x261005_3 1).bind fun bt272 => (if bt272.2.2.2 = true then (prefix_Cover.l0 k3 y269 a0_0 a0_1 a0_2 a0_3 a0_4 a0_5 bt272.1 bt272.2.1 bt272.2.2.1) else (some y269)))) = some r := by first | (rw [hy269]; with_reducible exact H) | (have H2_ := (Option.bind_some _ _).symm.trans H; rw [hy269]; with_reducible exact H2_) | (have H2_ := (Option.bind_some _ _).symm.trans H; with_reducible exact H2_) | with_reducible exact H | (rw [hy269]; exact H) | exact H
          have Ny269 := Aside0.mk hy269
          clear hy269
          by_cases c68 : (x261003_3 == a0_3 && (x261004_3 == a0_4 && (x261005_3 == a0_5))) = true
          ·
           rw [if_pos c68] at H
           have c68b0 : (x261003_3 == a0_3 && (x261004_3 == a0_4 && (x261005_3 == a0_5))) = true := c68
           (try (have c68b1 : decide (x261003_3 = a0_3 && (x261004_3 == a0_4 && (x261005_3 == a0_5))) = true := by simpa using c68))
           (try (have c68b2 : (x261003_3 == a0_3 && (x261004_3 == a0_4 && (x261005_3 == a0_5))) = true := by simpa using c68))
           clear c68
           obtain rfl := Option.some.inj H
           have hnb69 := NB260_245.out
           have hnc69 := NB245_260.out
           have hnb70 := NB260_249.out
           have hnc70 := NB249_260.out
           have hnb71 := NB260_252.out
           have hnc71 := NB252_260.out
           obtain ⟨hcz72_0, hcz72_1, hcz72_2, hcz72_3, hcz72_4, hcz72_5, hfz72_0, hfz72_1, hfz72_2, hfz72_3, hfz72_4, hfz72_5⟩ := pC6 BK260
           have hnb73 := NB245_249.out
           have hnc73 := NB249_245.out
           have hnb74 := NB245_252.out
           have hnc74 := NB252_245.out
           obtain ⟨hcz75_0, hcz75_1, hcz75_2, hcz75_3, hcz75_4, hcz75_5, hfz75_0, hfz75_1, hfz75_2, hfz75_3, hfz75_4, hfz75_5⟩ := pC6 BK245
           go_wp2_with (first | ((with_reducible refine gate_callee (f := 26) rfl ?_); refine goesA (some 57) Tryd.func26 #[.agg #[.bool x261003_3, .int .u64 x261004_3, .int .u64 x261005_3], .agg #[.bool a0_3, .int .u64 a0_4, .int .u64 a0_5]] ?_; (with_reducible refine (addr_Compare.calls k3 x261003_3 x261004_3 x261005_3 a0_3 a0_4 a0_5 t261 _ A51.out).mono ?_); rintro e w76 ⟨rfl, hb⟩; refine ⟨_, rfl, ?_⟩; replace HO_3 := Aside0.mk (Kd.R_below (by (with_reducible repeat (first | apply Kd.R_alloc | apply Kd.R_drewN | apply Kd.R_drew)); exact HO_3.out) hb); replace BK245 := (pB BK245 hb); replace BK249 := (pB BK249 hb); replace BK252 := (pB BK252 hb); replace BK260 := (pB BK260 hb); replace HB := (pS HB hb); (try clear hb); (try clear hk); have hnb77 := NB252_249.out; have hnc77 := NB249_252.out; obtain ⟨hcz78_0, hcz78_1, hcz78_2, hcz78_3, hfz78_0, hfz78_1, hfz78_2, hfz78_3⟩ := pC4 BK252) | ((with_reducible refine gate_builtin (b := .append) (xs := #[.tmp 68, .tmp 70]) rfl ?_); at_builtin; refine Kd.R_append k26 (w0 := w) w.heap.size rfl (.tmp 68) (.tmp 70) 57 26 (.agg #[(.bool false), (.int .u64 0), (.int .u64 0), (.int .i64 0)]) 32 rfl Tryd.underlying57 info26 rfl (by decide) (by omega) u3 x3_2 (⟨(⟨b0, b1, b2⟩ : S24), x253003_3⟩ : S26) [.bool b0, .int .u64 b1, .int .u64 b2, .int .i64 x253003_3] (fun k_ => k_ ≠ gb252) (fun _ => False) rfl rfl ?aP (fun _ hk => hk.elim) ?aF ?aO ?aB ?aS ?aL ?_; (case aP => exact k26_mkM _ _ _ (⟨(⟨b0, b1, b2⟩ : S24), x253003_3⟩ : S26)); (case aB => exact (by repeat (first | (with_reducible first | exact HB.out | apply below_alloc | apply pw_below_drewN | apply below_drew1 | refine below_set ?_ GE245.out | refine below_set ?_ GE249.out | refine below_set ?_ GE252.out | refine below_set ?_ GE260.out) | exact HB.out))); (case aF => exact (fun k_ hk => Kd.freshB (g := gb252) (o := .cells #[.bool b0, .int .u64 b1, .int .u64 b2, .int .i64 x253003_3] 26 (0, 0)) (pM BK252) k_ hk)); (case aO => exact (by (with_reducible repeat (first | apply Kd.R_alloc | apply Kd.R_drewN | apply Kd.R_drew)); exact HO_3.out)); (case aS => exact (below_size (by repeat (first | (with_reducible first | exact HB.out | apply below_alloc | apply pw_below_drewN | apply below_drew1 | refine below_set ?_ GE245.out | refine below_set ?_ GE249.out | refine below_set ?_ GE252.out | refine below_set ?_ GE260.out) | exact HB.out)))); (case aL => have := LMc67.out; omega); intro v270 w79 ho hb hg hat; rw [← Ny269.out] at ho; have HO271 := Aside0.mk (ho); replace BK245 := Aside0.mk (blk_grown (g := gb245) (o := .cells #[.bool a0_0, .int .u64 a0_1, .int .u64 a0_2, .bool a0_3, .int .u64 a0_4, .int .u64 a0_5] 36 (0, 0)) (pM BK245) hg (Kd.R_ne HO_3.out BK245.out (by decide))); replace BK249 := Aside0.mk (blk_grown (g := gb249) (o := .cells #[.bool b0, .int .u64 b1, .int .u64 b2] 24 (0, 0)) (pM BK249) hg (Kd.R_ne HO_3.out BK249.out (by decide))); replace BK252 := Aside0.mk (blk_grown (g := gb252) (o := .cells #[.bool b0, .int .u64 b1, .int .u64 b2, .int .i64 x253003_3] 26 (0, 0)) (pM BK252) hg (Kd.R_away HO_3.out (fun _ hk => hk))); replace BK260 := Aside0.mk (blk_grown (g := gb260) (o := .cells #[.bool x261000_3, .int .u64 x261001_3, .int .u64 x261002_3, .bool x261003_3, .int .u64 x261004_3, .int .u64 x261005_3] 36 (0, 0)) (pM BK260) hg (Kd.R_ne HO_3.out BK260.out (by decide))); replace HB := Aside0.mk (hb); clear HO_3; clear ho hb hg hat; obtain ⟨hcz80_0, hcz80_1, hcz80_2, hcz80_3, hcz80_4, hcz80_5, hfz80_0, hfz80_1, hfz80_2, hfz80_3, hfz80_4, hfz80_5⟩ := pC6 BK260; obtain ⟨hcz81_0, hcz81_1, hcz81_2, hcz81_3, hcz81_4, hcz81_5, hfz81_0, hfz81_1, hfz81_2, hfz81_3, hfz81_4, hfz81_5⟩ := pC6 BK245))
           go_ret
           exact ⟨_, by first | rfl | (simp [errW_none, errW_some] <;> rfl) | (simp [*, errW_none, errW_some] <;> rfl), by (with_reducible repeat (first | apply Kd.R_alloc | apply Kd.R_drewN | apply Kd.R_drew)); exact Kd.R_mono HO271.out (fun _ hk => trivial), by repeat (first | (with_reducible first | exact HB.out | apply below_alloc | apply pw_below_drewN | apply below_drew1 | refine below_set ?_ GE245.out | refine below_set ?_ GE249.out | refine below_set ?_ GE252.out | refine below_set ?_ GE260.out) | exact HB.out)⟩
          ·
           rw [if_neg c68] at H
           have c68b0 : (x261003_3 == a0_3 && (x261004_3 == a0_4 && (x261005_3 == a0_5))) = false := by simpa using c68
           (try (have c68b1 : decide (x261003_3 = a0_3 && (x261004_3 == a0_4 && (x261005_3 == a0_5))) = false := by simpa using c68))
           (try (have c68b2 : (x261003_3 == a0_3 && (x261004_3 == a0_4 && (x261005_3 == a0_5))) = false := by simpa using c68))
           (try (have c68b3 : ¬ (x261003_3 = a0_3 && (x261004_3 == a0_4 && (x261005_3 == a0_5))) := by simpa using c68))
           clear c68
           replace H := Option.bind_eq_some_iff.mp H
           obtain ⟨⟨t272, t273, t274, t275⟩, A820, H⟩ := H
           replace H : (if t275 = true then (prefix_Cover.l0 k3 y269 a0_0 a0_1 a0_2 a0_3 a0_4 a0_5 t272 t273 t274) else (some y269)) = some r := H
           have A82 := Aside0.mk A820
           clear A820
           by_cases c83 : t275 = true
           ·
            subst c83
            rw [if_pos rfl] at H
            have H' := Aside0.mk H
            clear H
            have hnb84 := NB260_245.out
            have hnc84 := NB245_260.out
            have hnb85 := NB260_249.out
            have hnc85 := NB249_260.out
            have hnb86 := NB260_252.out
            have hnc86 := NB252_260.out
            obtain ⟨hcz87_0, hcz87_1, hcz87_2, hcz87_3, hcz87_4, hcz87_5, hfz87_0, hfz87_1, hfz87_2, hfz87_3, hfz87_4, hfz87_5⟩ := pC6 BK260
            have hnb88 := NB245_249.out
            have hnc88 := NB249_245.out
            have hnb89 := NB245_252.out
            have hnc89 := NB252_245.out
            obtain ⟨hcz90_0, hcz90_1, hcz90_2, hcz90_3, hcz90_4, hcz90_5, hfz90_0, hfz90_1, hfz90_2, hfz90_3, hfz90_4, hfz90_5⟩ := pC6 BK245
            go_wp2_with (first | ((with_reducible refine gate_callee (f := 26) rfl ?_); refine goesA (some 57) Tryd.func26 #[.agg #[.bool x261003_3, .int .u64 x261004_3, .int .u64 x261005_3], .agg #[.bool a0_3, .int .u64 a0_4, .int .u64 a0_5]] ?_; (with_reducible refine (addr_Compare.calls k3 x261003_3 x261004_3 x261005_3 a0_3 a0_4 a0_5 t261 _ A51.out).mono ?_); rintro e w91 ⟨rfl, hb⟩; refine ⟨_, rfl, ?_⟩; replace HO_3 := Aside0.mk (Kd.R_below (by (with_reducible repeat (first | apply Kd.R_alloc | apply Kd.R_drewN | apply Kd.R_drew)); exact HO_3.out) hb); replace BK245 := (pB BK245 hb); replace BK249 := (pB BK249 hb); replace BK252 := (pB BK252 hb); replace BK260 := (pB BK260 hb); replace HB := (pS HB hb); (try clear hb); (try clear hk); have hnb92 := NB252_249.out; have hnc92 := NB249_252.out; obtain ⟨hcz93_0, hcz93_1, hcz93_2, hcz93_3, hfz93_0, hfz93_1, hfz93_2, hfz93_3⟩ := pC4 BK252) | ((with_reducible refine gate_builtin (b := .append) (xs := #[.tmp 68, .tmp 70]) rfl ?_); at_builtin; refine Kd.R_append k26 (w0 := w) w.heap.size rfl (.tmp 68) (.tmp 70) 57 26 (.agg #[(.bool false), (.int .u64 0), (.int .u64 0), (.int .i64 0)]) 32 rfl Tryd.underlying57 info26 rfl (by decide) (by omega) u3 x3_2 (⟨(⟨b0, b1, b2⟩ : S24), x253003_3⟩ : S26) [.bool b0, .int .u64 b1, .int .u64 b2, .int .i64 x253003_3] (fun k_ => k_ ≠ gb252) (fun _ => False) rfl rfl ?aP (fun _ hk => hk.elim) ?aF ?aO ?aB ?aS ?aL ?_; (case aP => exact k26_mkM _ _ _ (⟨(⟨b0, b1, b2⟩ : S24), x253003_3⟩ : S26)); (case aB => exact (by repeat (first | (with_reducible first | exact HB.out | apply below_alloc | apply pw_below_drewN | apply below_drew1 | refine below_set ?_ GE245.out | refine below_set ?_ GE249.out | refine below_set ?_ GE252.out | refine below_set ?_ GE260.out) | exact HB.out))); (case aF => exact (fun k_ hk => Kd.freshB (g := gb252) (o := .cells #[.bool b0, .int .u64 b1, .int .u64 b2, .int .i64 x253003_3] 26 (0, 0)) (pM BK252) k_ hk)); (case aO => exact (by (with_reducible repeat (first | apply Kd.R_alloc | apply Kd.R_drewN | apply Kd.R_drew)); exact HO_3.out)); (case aS => exact (below_size (by repeat (first | (with_reducible first | exact HB.out | apply below_alloc | apply pw_below_drewN | apply below_drew1 | refine below_set ?_ GE245.out | refine below_set ?_ GE249.out | refine below_set ?_ GE252.out | refine below_set ?_ GE260.out) | exact HB.out)))); (case aL => have := LMc67.out; omega); intro v270 w94 ho hb hg hat; rw [← Ny269.out] at ho; have HO271 := Aside0.mk (ho); replace BK245 := Aside0.mk (blk_grown (g := gb245) (o := .cells #[.bool a0_0, .int .u64 a0_1, .int .u64 a0_2, .bool a0_3, .int .u64 a0_4, .int .u64 a0_5] 36 (0, 0)) (pM BK245) hg (Kd.R_ne HO_3.out BK245.out (by decide))); replace BK249 := Aside0.mk (blk_grown (g := gb249) (o := .cells #[.bool b0, .int .u64 b1, .int .u64 b2] 24 (0, 0)) (pM BK249) hg (Kd.R_ne HO_3.out BK249.out (by decide))); replace BK252 := Aside0.mk (blk_grown (g := gb252) (o := .cells #[.bool b0, .int .u64 b1, .int .u64 b2, .int .i64 x253003_3] 26 (0, 0)) (pM BK252) hg (Kd.R_away HO_3.out (fun _ hk => hk))); replace BK260 := Aside0.mk (blk_grown (g := gb260) (o := .cells #[.bool x261000_3, .int .u64 x261001_3, .int .u64 x261002_3, .bool x261003_3, .int .u64 x261004_3, .int .u64 x261005_3] 36 (0, 0)) (pM BK260) hg (Kd.R_ne HO_3.out BK260.out (by decide))); replace HB := Aside0.mk (hb); clear HO_3; clear ho hb hg hat; obtain ⟨hcz95_0, hcz95_1, hcz95_2, hcz95_3, hcz95_4, hcz95_5, hfz95_0, hfz95_1, hfz95_2, hfz95_3, hfz95_4, hfz95_5⟩ := pC6 BK260; obtain ⟨hcz96_0, hcz96_1, hcz96_2, hcz96_3, hcz96_4, hcz96_5, hfz96_0, hfz96_1, hfz96_2, hfz96_3, hfz96_4, hfz96_5⟩ := pC6 BK245) | ((with_reducible refine gate_callee (f := 15) rfl ?_); refine goesA (some 81) Tryd.func15 #[.agg #[.bool x261003_3, .int .u64 x261004_3, .int .u64 x261005_3], .int .u64 1] ?_; (with_reducible refine (addr_Add.calls x261003_3 x261004_3 x261005_3 1 t272 t273 t274 true _ A82.out).mono ?_); rintro e w97 ⟨rfl, hb⟩; refine ⟨_, rfl, ?_⟩; replace HO271 := Aside0.mk (Kd.R_below (by (with_reducible repeat (first | apply Kd.R_alloc | apply Kd.R_drewN | apply Kd.R_drew)); exact HO271.out) hb); replace BK245 := (pB BK245 hb); replace BK249 := (pB BK249 hb); replace BK252 := (pB BK252 hb); replace BK260 := (pB BK260 hb); replace HB := (pS HB hb); (try clear hb); (try clear hk)) | ((with_reducible refine gate_dst (N := 9) rfl ?_); refine boxA (N := 9) (cs := #[.bool false, .int .u64 0, .int .u64 0]) (t := 24) ?_; intro gb276 hg w98 hbox hb; have BK276 := Aside0.mk (hbox); have GW276 := (pZ HB hg); have GE276 := (pZ HB hg); have NB245_276 := (pL BK245 hg); have NB276_245 := (pG BK245 hg); have NB249_276 := (pL BK249 hg); have NB276_249 := (pG BK249 hg); have NB252_276 := (pL BK252 hg); have NB276_252 := (pG BK252 hg); have NB260_276 := (pL BK260 hg); have NB276_260 := (pG BK260 hg); replace HO271 := Aside0.mk (Kd.R_below (by (with_reducible repeat (first | apply Kd.R_alloc | apply Kd.R_drewN | apply Kd.R_drew)); exact HO271.out) hb); replace BK245 := (pB BK245 hb); replace BK249 := (pB BK249 hb); replace BK252 := (pB BK252 hb); replace BK260 := (pB BK260 hb); replace HB := (pS HB hb); clear hb hbox hg; have hnb99 := NB276_245.out; have hnc99 := NB245_276.out; have hnb100 := NB276_249.out; have hnc100 := NB249_276.out; have hnb101 := NB276_252.out; have hnc101 := NB252_276.out; have hnb102 := NB276_260.out; have hnc102 := NB260_276.out; obtain ⟨hcz103_0, hcz103_1, hcz103_2, hfz103_0, hfz103_1, hfz103_2⟩ := pC3 BK276; obtain ⟨hcz104_0, hcz104_1, hcz104_2, hfz104_0, hfz104_1, hfz104_2⟩ := pC3 BK249) | ((with_reducible refine gate_store (t := 24) (p := 4) rfl ?_); refine store_event (t := 24) (p := 4) (v := ?vo_w105) (w1 := ((((((w98.setCell ⟨gb276, 0, none⟩ (.bool t272)).setCell ⟨gb276, 1, none⟩ (.int .u64 t273)).setCell ⟨gb276, 2, none⟩ (.int .u64 t274)).setCell ⟨gb249, 0, none⟩ (.bool t272)).setCell ⟨gb249, 1, none⟩ (.int .u64 t273)).setCell ⟨gb249, 2, none⟩ (.int .u64 t274))) ?hg ?ho ?hn ?hr ?_; (case ho => rfl); (case hg => rfl); (case hn => rfl); (case hr => first | (exact Ext.run_store_chain 24 _ _ rfl _ _ _ _ rfl rfl (pK NB249_276 (pK NB249_276 (pK NB249_276 (pM BK249)))) (by kernel_rfl) rfl rfl rfl) | (go_simp; done) | (go_simp; rfl)); intro w105 hw; replace HO271 : Aside0 (Kd.R k26 26 w105 w.heap.size (fun k_ => k_ ≠ gb252) v270 y269) := ⟨(by rw [hw]; exact (by (with_reducible repeat (first | apply Kd.R_alloc | apply Kd.R_drewN | apply Kd.R_drew)); exact Kd.R_mono (Kd.R_far (p := ⟨gb249, 2, none⟩) (Kd.R_far (p := ⟨gb249, 1, none⟩) (Kd.R_far (p := ⟨gb249, 0, none⟩) (Kd.R_far (p := ⟨gb276, 2, none⟩) (Kd.R_far (p := ⟨gb276, 1, none⟩) (Kd.R_far (p := ⟨gb276, 0, none⟩) (Kd.R_types (Kd.R_types HO271.out BK276.out (by decide)) BK249.out (by decide)) (fun _ hk => hk.1.2) (.bool t272)) (fun _ hk => hk.1.2) (.int .u64 t273)) (fun _ hk => hk.1.2) (.int .u64 t274)) (fun _ hk => hk.2) (.bool t272)) (fun _ hk => hk.2) (.int .u64 t273)) (fun _ hk => hk.2) (.int .u64 t274)) (fun _ hk => hk.1.1)))⟩; replace BK245 : Aside0 (w105.heap[gb245]? = some (.cells #[.bool a0_0, .int .u64 a0_1, .int .u64 a0_2, .bool a0_3, .int .u64 a0_4, .int .u64 a0_5] 36 (0, 0))) := (pW hw (pK NB245_249 (pK NB245_249 (pK NB245_249 (pK NB245_276 (pK NB245_276 (pK NB245_276 (pM BK245)))))))); replace BK249 : Aside0 (w105.heap[gb249]? = some (.cells #[.bool t272, .int .u64 t273, .int .u64 t274] 24 (0, 0))) := (pW hw (pP (pP (pP (pK NB249_276 (pK NB249_276 (pK NB249_276 (pM BK249)))))))); replace BK252 : Aside0 (w105.heap[gb252]? = some (.cells #[.bool b0, .int .u64 b1, .int .u64 b2, .int .i64 x253003_3] 26 (0, 0))) := (pW hw (pK NB252_249 (pK NB252_249 (pK NB252_249 (pK NB252_276 (pK NB252_276 (pK NB252_276 (pM BK252)))))))); replace BK260 : Aside0 (w105.heap[gb260]? = some (.cells #[.bool x261000_3, .int .u64 x261001_3, .int .u64 x261002_3, .bool x261003_3, .int .u64 x261004_3, .int .u64 x261005_3] 36 (0, 0))) := (pW hw (pK NB260_249 (pK NB260_249 (pK NB260_249 (pK NB260_276 (pK NB260_276 (pK NB260_276 (pM BK260)))))))); replace BK276 : Aside0 (w105.heap[gb276]? = some (.cells #[.bool t272, .int .u64 t273, .int .u64 t274] 24 (0, 0))) := (pW hw (pK NB276_249 (pK NB276_249 (pK NB276_249 (pP (pP (pP (pM BK276)))))))); replace HB : Aside0 (Below w.heap.size w w105) := ⟨(by rw [hw]; exact (by repeat (first | (with_reducible first | exact HB.out | apply below_alloc | apply pw_below_drewN | apply below_drew1 | refine below_set ?_ GE245.out | refine below_set ?_ GE249.out | refine below_set ?_ GE252.out | refine below_set ?_ GE260.out | refine below_set ?_ GE276.out) | exact HB.out)))⟩; clear hw; obtain ⟨hcz106_0, hcz106_1, hcz106_2, hfz106_0, hfz106_1, hfz106_2⟩ := pC3 BK249) | ((with_reducible refine gate_dst (N := 4) rfl ?_); refine boxA (N := 4) (cs := #[.bool false, .int .u64 0, .int .u64 0]) (t := 24) ?_; intro gb277 hg w107 hbox hb; have BK277 := Aside0.mk (hbox); have GW277 := (pZ HB hg); have GE277 := (pZ HB hg); have NB245_277 := (pL BK245 hg); have NB277_245 := (pG BK245 hg); have NB249_277 := (pL BK249 hg); have NB277_249 := (pG BK249 hg); have NB252_277 := (pL BK252 hg); have NB277_252 := (pG BK252 hg); have NB260_277 := (pL BK260 hg); have NB277_260 := (pG BK260 hg); have NB276_277 := (pL BK276 hg); have NB277_276 := (pG BK276 hg); replace HO271 := Aside0.mk (Kd.R_below (by (with_reducible repeat (first | apply Kd.R_alloc | apply Kd.R_drewN | apply Kd.R_drew)); exact HO271.out) hb); replace BK245 := (pB BK245 hb); replace BK249 := (pB BK249 hb); replace BK252 := (pB BK252 hb); replace BK260 := (pB BK260 hb); replace BK276 := (pB BK276 hb); replace HB := (pS HB hb); clear hb hbox hg; have hnb108 := NB277_245.out; have hnc108 := NB245_277.out; have hnb109 := NB277_249.out; have hnc109 := NB249_277.out; have hnb110 := NB277_252.out; have hnc110 := NB252_277.out; have hnb111 := NB277_260.out; have hnc111 := NB260_277.out; have hnb112 := NB277_276.out; have hnc112 := NB276_277.out; obtain ⟨hcz113_0, hcz113_1, hcz113_2, hfz113_0, hfz113_1, hfz113_2⟩ := pC3 BK277))
            go_roundg k3
            case measure => have := HJ1.out; have := HK2.out; have := HK3.out; omega
            case rel => exact ⟨(y269), t272, t273, t274, gb277, rfl, H', ⟨by have := HJ1.out; have := HK2.out; have := HK3.out; omega⟩, ⟨by (with_reducible repeat (first | apply Kd.R_alloc | apply Kd.R_drewN | apply Kd.R_drew)); exact Kd.R_mono (Kd.R_far (p := ⟨gb277, 2, none⟩) (Kd.R_far (p := ⟨gb277, 1, none⟩) (Kd.R_far (p := ⟨gb277, 0, none⟩) (Kd.R_types HO271.out BK277.out (by decide)) (fun _ hk => hk.2) (.bool t272)) (fun _ hk => hk.2) (.int .u64 t273)) (fun _ hk => hk.2) (.int .u64 t274)) (fun _ hk => trivial)⟩, ⟨by (with_reducible repeat (first | refine blk_drewN ?_ _ | refine blk_drew ?_ | refine blk_alloc ?_ _)); refine blk_far ?_ NB245_277.out _; (with_reducible repeat (first | refine blk_drewN ?_ _ | refine blk_drew ?_ | refine blk_alloc ?_ _)); refine blk_far ?_ NB245_277.out _; (with_reducible repeat (first | refine blk_drewN ?_ _ | refine blk_drew ?_ | refine blk_alloc ?_ _)); refine blk_far ?_ NB245_277.out _; (with_reducible repeat (first | refine blk_drewN ?_ _ | refine blk_drew ?_ | refine blk_alloc ?_ _)); exact BK245.out⟩, ⟨by (with_reducible repeat (first | refine blk_drewN ?_ _ | refine blk_drew ?_ | refine blk_alloc ?_ _)); refine blk_put (cs := #[.bool t272, .int .u64 t273, .int .u64 0]) ?_ 2 _ rfl; (with_reducible repeat (first | refine blk_drewN ?_ _ | refine blk_drew ?_ | refine blk_alloc ?_ _)); refine blk_put (cs := #[.bool t272, .int .u64 0, .int .u64 0]) ?_ 1 _ rfl; (with_reducible repeat (first | refine blk_drewN ?_ _ | refine blk_drew ?_ | refine blk_alloc ?_ _)); refine blk_put (cs := #[.bool false, .int .u64 0, .int .u64 0]) ?_ 0 _ rfl; (with_reducible repeat (first | refine blk_drewN ?_ _ | refine blk_drew ?_ | refine blk_alloc ?_ _)); exact BK277.out⟩, ⟨pE HB⟩, NB245_277, NB277_245, GE277⟩
           ·
            replace c83 := Bool.eq_false_iff.mpr c83
            subst c83
            rw [if_neg (show ¬ (false = true) by decide)] at H
            obtain rfl := Option.some.inj H
            have hnb114 := NB260_245.out
            have hnc114 := NB245_260.out
            have hnb115 := NB260_249.out
            have hnc115 := NB249_260.out
            have hnb116 := NB260_252.out
            have hnc116 := NB252_260.out
            obtain ⟨hcz117_0, hcz117_1, hcz117_2, hcz117_3, hcz117_4, hcz117_5, hfz117_0, hfz117_1, hfz117_2, hfz117_3, hfz117_4, hfz117_5⟩ := pC6 BK260
            have hnb118 := NB245_249.out
            have hnc118 := NB249_245.out
            have hnb119 := NB245_252.out
            have hnc119 := NB252_245.out
            obtain ⟨hcz120_0, hcz120_1, hcz120_2, hcz120_3, hcz120_4, hcz120_5, hfz120_0, hfz120_1, hfz120_2, hfz120_3, hfz120_4, hfz120_5⟩ := pC6 BK245
            go_wp2_with (first | ((with_reducible refine gate_callee (f := 26) rfl ?_); refine goesA (some 57) Tryd.func26 #[.agg #[.bool x261003_3, .int .u64 x261004_3, .int .u64 x261005_3], .agg #[.bool a0_3, .int .u64 a0_4, .int .u64 a0_5]] ?_; (with_reducible refine (addr_Compare.calls k3 x261003_3 x261004_3 x261005_3 a0_3 a0_4 a0_5 t261 _ A51.out).mono ?_); rintro e w121 ⟨rfl, hb⟩; refine ⟨_, rfl, ?_⟩; replace HO_3 := Aside0.mk (Kd.R_below (by (with_reducible repeat (first | apply Kd.R_alloc | apply Kd.R_drewN | apply Kd.R_drew)); exact HO_3.out) hb); replace BK245 := (pB BK245 hb); replace BK249 := (pB BK249 hb); replace BK252 := (pB BK252 hb); replace BK260 := (pB BK260 hb); replace HB := (pS HB hb); (try clear hb); (try clear hk); have hnb122 := NB252_249.out; have hnc122 := NB249_252.out; obtain ⟨hcz123_0, hcz123_1, hcz123_2, hcz123_3, hfz123_0, hfz123_1, hfz123_2, hfz123_3⟩ := pC4 BK252) | ((with_reducible refine gate_builtin (b := .append) (xs := #[.tmp 68, .tmp 70]) rfl ?_); at_builtin; refine Kd.R_append k26 (w0 := w) w.heap.size rfl (.tmp 68) (.tmp 70) 57 26 (.agg #[(.bool false), (.int .u64 0), (.int .u64 0), (.int .i64 0)]) 32 rfl Tryd.underlying57 info26 rfl (by decide) (by omega) u3 x3_2 (⟨(⟨b0, b1, b2⟩ : S24), x253003_3⟩ : S26) [.bool b0, .int .u64 b1, .int .u64 b2, .int .i64 x253003_3] (fun k_ => k_ ≠ gb252) (fun _ => False) rfl rfl ?aP (fun _ hk => hk.elim) ?aF ?aO ?aB ?aS ?aL ?_; (case aP => exact k26_mkM _ _ _ (⟨(⟨b0, b1, b2⟩ : S24), x253003_3⟩ : S26)); (case aB => exact (by repeat (first | (with_reducible first | exact HB.out | apply below_alloc | apply pw_below_drewN | apply below_drew1 | refine below_set ?_ GE245.out | refine below_set ?_ GE249.out | refine below_set ?_ GE252.out | refine below_set ?_ GE260.out) | exact HB.out))); (case aF => exact (fun k_ hk => Kd.freshB (g := gb252) (o := .cells #[.bool b0, .int .u64 b1, .int .u64 b2, .int .i64 x253003_3] 26 (0, 0)) (pM BK252) k_ hk)); (case aO => exact (by (with_reducible repeat (first | apply Kd.R_alloc | apply Kd.R_drewN | apply Kd.R_drew)); exact HO_3.out)); (case aS => exact (below_size (by repeat (first | (with_reducible first | exact HB.out | apply below_alloc | apply pw_below_drewN | apply below_drew1 | refine below_set ?_ GE245.out | refine below_set ?_ GE249.out | refine below_set ?_ GE252.out | refine below_set ?_ GE260.out) | exact HB.out)))); (case aL => have := LMc67.out; omega); intro v270 w124 ho hb hg hat; rw [← Ny269.out] at ho; have HO271 := Aside0.mk (ho); replace BK245 := Aside0.mk (blk_grown (g := gb245) (o := .cells #[.bool a0_0, .int .u64 a0_1, .int .u64 a0_2, .bool a0_3, .int .u64 a0_4, .int .u64 a0_5] 36 (0, 0)) (pM BK245) hg (Kd.R_ne HO_3.out BK245.out (by decide))); replace BK249 := Aside0.mk (blk_grown (g := gb249) (o := .cells #[.bool b0, .int .u64 b1, .int .u64 b2] 24 (0, 0)) (pM BK249) hg (Kd.R_ne HO_3.out BK249.out (by decide))); replace BK252 := Aside0.mk (blk_grown (g := gb252) (o := .cells #[.bool b0, .int .u64 b1, .int .u64 b2, .int .i64 x253003_3] 26 (0, 0)) (pM BK252) hg (Kd.R_away HO_3.out (fun _ hk => hk))); replace BK260 := Aside0.mk (blk_grown (g := gb260) (o := .cells #[.bool x261000_3, .int .u64 x261001_3, .int .u64 x261002_3, .bool x261003_3, .int .u64 x261004_3, .int .u64 x261005_3] 36 (0, 0)) (pM BK260) hg (Kd.R_ne HO_3.out BK260.out (by decide))); replace HB := Aside0.mk (hb); clear HO_3; clear ho hb hg hat; obtain ⟨hcz125_0, hcz125_1, hcz125_2, hcz125_3, hcz125_4, hcz125_5, hfz125_0, hfz125_1, hfz125_2, hfz125_3, hfz125_4, hfz125_5⟩ := pC6 BK260; obtain ⟨hcz126_0, hcz126_1, hcz126_2, hcz126_3, hcz126_4, hcz126_5, hfz126_0, hfz126_1, hfz126_2, hfz126_3, hfz126_4, hfz126_5⟩ := pC6 BK245) | ((with_reducible refine gate_callee (f := 15) rfl ?_); refine goesA (some 81) Tryd.func15 #[.agg #[.bool x261003_3, .int .u64 x261004_3, .int .u64 x261005_3], .int .u64 1] ?_; (with_reducible refine (addr_Add.calls x261003_3 x261004_3 x261005_3 1 t272 t273 t274 false _ A82.out).mono ?_); rintro e w127 ⟨rfl, hb⟩; refine ⟨_, rfl, ?_⟩; replace HO271 := Aside0.mk (Kd.R_below (by (with_reducible repeat (first | apply Kd.R_alloc | apply Kd.R_drewN | apply Kd.R_drew)); exact HO271.out) hb); replace BK245 := (pB BK245 hb); replace BK249 := (pB BK249 hb); replace BK252 := (pB BK252 hb); replace BK260 := (pB BK260 hb); replace HB := (pS HB hb); (try clear hb); (try clear hk)) | ((with_reducible refine gate_dst (N := 9) rfl ?_); refine boxA (N := 9) (cs := #[.bool false, .int .u64 0, .int .u64 0]) (t := 24) ?_; intro gb276 hg w128 hbox hb; have BK276 := Aside0.mk (hbox); have GW276 := (pZ HB hg); have GE276 := (pZ HB hg); have NB245_276 := (pL BK245 hg); have NB276_245 := (pG BK245 hg); have NB249_276 := (pL BK249 hg); have NB276_249 := (pG BK249 hg); have NB252_276 := (pL BK252 hg); have NB276_252 := (pG BK252 hg); have NB260_276 := (pL BK260 hg); have NB276_260 := (pG BK260 hg); replace HO271 := Aside0.mk (Kd.R_below (by (with_reducible repeat (first | apply Kd.R_alloc | apply Kd.R_drewN | apply Kd.R_drew)); exact HO271.out) hb); replace BK245 := (pB BK245 hb); replace BK249 := (pB BK249 hb); replace BK252 := (pB BK252 hb); replace BK260 := (pB BK260 hb); replace HB := (pS HB hb); clear hb hbox hg; have hnb129 := NB276_245.out; have hnc129 := NB245_276.out; have hnb130 := NB276_249.out; have hnc130 := NB249_276.out; have hnb131 := NB276_252.out; have hnc131 := NB252_276.out; have hnb132 := NB276_260.out; have hnc132 := NB260_276.out; obtain ⟨hcz133_0, hcz133_1, hcz133_2, hfz133_0, hfz133_1, hfz133_2⟩ := pC3 BK276))
            go_ret
            exact ⟨_, by first | rfl | (simp [errW_none, errW_some] <;> rfl) | (simp [*, errW_none, errW_some] <;> rfl), by (with_reducible repeat (first | apply Kd.R_alloc | apply Kd.R_drewN | apply Kd.R_drew)); exact Kd.R_mono (Kd.R_far (p := ⟨gb276, 2, none⟩) (Kd.R_far (p := ⟨gb276, 1, none⟩) (Kd.R_far (p := ⟨gb276, 0, none⟩) (Kd.R_types HO271.out BK276.out (by decide)) (fun _ hk => hk.2) (.bool t272)) (fun _ hk => hk.2) (.int .u64 t273)) (fun _ hk => hk.2) (.int .u64 t274)) (fun _ hk => trivial), by repeat (first | (with_reducible first | exact HB.out | apply below_alloc | apply pw_below_drewN | apply below_drew1 | refine below_set ?_ GE245.out | refine below_set ?_ GE249.out | refine below_set ?_ GE252.out | refine below_set ?_ GE260.out | refine below_set ?_ GE276.out) | exact HB.out)⟩
         ·
          rw [if_neg c67] at H
          exact absurd H (by simp)

/-! ### ddilaw03_four: function 31 -/
def ddilaw03_four.f (a0 : Int) (a1 : Int) : Option (Bool × Int × Int × Int) := some (false, 0, a0, a1)
set_option maxHeartbeats 40000000 in
set_option maxRecDepth 100000 in
theorem ddilaw03_four.calls (a0 : Int) (a1 : Int) (r1 : Bool) (r2 : Int) (r3 : Int) (r4 : Int) (w : World) (h : ddilaw03_four.f a0 a1 = some (r1, r2, r3, r4)) :
 Calls Tryd.prog 31 #[.int .u64 a0, .int .i64 a1] w fun e w' => e = .returned (.agg #[.bool r1, .int .u64 r2, .int .u64 r3, .int .i64 r4]) ∧ Below w.heap.size w w' := by
 have hu26 := Tryd.underlying26
 have hu24 := Tryd.underlying24
 have HB := Aside0.mk (Below.refl w.heap.size w)
 have H : (some (false, 0, a0, a1)) = some (r1, r2, r3, r4) := h
 clear h
 simp only [Option.some.injEq, Prod.mk.injEq] at H
 obtain ⟨rfl, rfl, rfl, rfl⟩ := H
 go_enter Tryd.func31, Tryd.ntmps31
 go_wp2_with (first | ((with_reducible refine gate_dst (N := 4) rfl ?_); refine boxA (N := 4) (cs := #[.bool false, .int .u64 0, .int .u64 0, .int .i64 0]) (t := 26) ?_; intro gb278 hg w3 hbox hb; have BK278 := Aside0.mk (hbox); have GW278 := (pZ HB hg); have GE278 := (pZ HB hg); replace HB := (pS HB hb); clear hb hbox hg; obtain ⟨hcz4_0, hcz4_1, hcz4_2, hcz4_3, hfz4_0, hfz4_1, hfz4_2, hfz4_3⟩ := pC4 BK278))
 refine bodyPost_ret (results_cell_row rfl _ _ gb278 26 #[.bool false, .int .u64 0, .int .u64 a0, .int .i64 a1] (0, 0) _ rfl (pP (pP (pP (pP (pM BK278))))) Tryd.underlying26 rfl (by kernel_rfl)) rfl ?_
 exact pR (pE HB)

end Go.Proofs.YteflcmmandlknaaDoor.PA
