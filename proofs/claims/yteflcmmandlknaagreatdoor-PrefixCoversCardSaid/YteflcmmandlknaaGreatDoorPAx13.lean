/- The Go functions in Lean, with the proofs that the code comes to these answers: printed by this session's program (wip/px) out of the seat's translation. Conditions: each theorem's own. -/
import Derived.Test.YteflcmmandlknaaGreatDoorPAx0
import Derived.Test.YteflcmmandlknaaGreatDoorPAx2
namespace Go.Proofs.YteflcmmandlknaaGreatDoor.PA
open Go.RowKit Go.Proofs.YteflcmmandlknaaGreatDoorW.PrintWords Go.Proofs.YteflcmmandlknaaGreatDoorW.PrintLast Go.Proofs.YteflcmmandlknaaGreatDoorW.PrintMore
attribute [local go_sem] max2_int min2_int max_two min_two max_three min_three max_four min_four   -- for this text's walks alone
attribute [local go_sem ↓] Ext.isSome_setCell
open Press
set_option linter.unusedVariables false
set_option linter.unusedSimpArgs false
attribute [local go_sem high] eqA26
/-! ### ddiref02_Compare: function 55 -/
def ddiref02_Compare.f (a0_0 : Bool) (a0_1 : Int) (a0_2 : Int) (a1_0 : Bool) (a1_1 : Int) (a1_2 : Int) : Option (Int) := if (a0_0 != a1_0) = true then (if a1_0 = true then (some (-1)) else (some 1)) else (if a0_1 = a1_1 then (if a0_2 < a1_2 then (some (-1)) else (if a0_2 > a1_2 then (some 1) else (some 0))) else (if a0_1 < a1_1 then (some (-1)) else (some 1)))
set_option maxHeartbeats 40000000 in
set_option maxRecDepth 100000 in
theorem ddiref02_Compare.calls (a0_0 : Bool) (a0_1 : Int) (a0_2 : Int) (a1_0 : Bool) (a1_1 : Int) (a1_2 : Int) (r : Int) (w : World) (h : ddiref02_Compare.f a0_0 a0_1 a0_2 a1_0 a1_1 a1_2 = some r) :
 Calls Tryz.prog 55 #[.agg #[.bool a0_0, .int .u64 a0_1, .int .u64 a0_2], .agg #[.bool a1_0, .int .u64 a1_1, .int .u64 a1_2]] w fun e w' => e = .returned (.int .i64 r) ∧ Below w.heap.size w w' := by
 have hu24 := Tryz.underlying24
 have HB := Aside0.mk (Below.refl w.heap.size w)
 have H : (if (a0_0 != a1_0) = true then (if a1_0 = true then (some (-1)) else (some 1)) else (if a0_1 = a1_1 then (if a0_2 < a1_2 then (some (-1)) else (if a0_2 > a1_2 then (some 1) else (some 0))) else (if a0_1 < a1_1 then (some (-1)) else (some 1)))) = some r := h
 clear h
 by_cases c3 : (a0_0 != a1_0) = true
 ·
  rw [if_pos c3] at H
  have c3b0 : (a0_0 != a1_0) = true := c3
  (try (have c3b1 : decide (a0_0 = a1_0) = false := by simpa using c3))
  (try (have c3b2 : (a0_0 == a1_0) = false := by simpa using c3))
  (try (have c3b3 : ¬ (a0_0 = a1_0) := by simpa using c3))
  clear c3
  by_cases c4 : a1_0 = true
  ·
   subst c4
   rw [if_pos rfl] at H
   obtain rfl := Option.some.inj H
   go_enter Tryz.func55, Tryz.ntmps55
   go_wp2_with (first | ((with_reducible refine gate_dst (N := 2) rfl ?_); refine boxA (N := 2) (cs := #[.bool a0_0, .int .u64 a0_1, .int .u64 a0_2]) (t := 24) ?_; intro gb389 hg w5 hbox hb; have BK389 := Aside0.mk (hbox); have GW389 := (pZ HB hg); have GE389 := (pZ HB hg); replace HB := (pS HB hb); clear hb hbox hg) | ((with_reducible refine gate_dst (N := 3) rfl ?_); refine boxA (N := 3) (cs := #[.bool true, .int .u64 a1_1, .int .u64 a1_2]) (t := 24) ?_; intro gb390 hg w6 hbox hb; have BK390 := Aside0.mk (hbox); have GW390 := (pZ HB hg); have GE390 := (pZ HB hg); have NB389_390 := (pL BK389 hg); have NB390_389 := (pG BK389 hg); replace BK389 := (pB BK389 hb); replace HB := (pS HB hb); clear hb hbox hg; have hnb7 := NB389_390.out; have hnc7 := NB390_389.out; obtain ⟨hcz8_0, hcz8_1, hcz8_2, hfz8_0, hfz8_1, hfz8_2⟩ := pC3 BK389; obtain ⟨hcz9_0, hcz9_1, hcz9_2, hfz9_0, hfz9_1, hfz9_2⟩ := pC3 BK390))
   go_ret
   exact pR (pE HB)
  ·
   replace c4 := Bool.eq_false_iff.mpr c4
   subst c4
   rw [if_neg (show ¬ (false = true) by decide)] at H
   obtain rfl := Option.some.inj H
   go_enter Tryz.func55, Tryz.ntmps55
   go_wp2_with (first | ((with_reducible refine gate_dst (N := 2) rfl ?_); refine boxA (N := 2) (cs := #[.bool a0_0, .int .u64 a0_1, .int .u64 a0_2]) (t := 24) ?_; intro gb389 hg w10 hbox hb; have BK389 := Aside0.mk (hbox); have GW389 := (pZ HB hg); have GE389 := (pZ HB hg); replace HB := (pS HB hb); clear hb hbox hg) | ((with_reducible refine gate_dst (N := 3) rfl ?_); refine boxA (N := 3) (cs := #[.bool false, .int .u64 a1_1, .int .u64 a1_2]) (t := 24) ?_; intro gb390 hg w11 hbox hb; have BK390 := Aside0.mk (hbox); have GW390 := (pZ HB hg); have GE390 := (pZ HB hg); have NB389_390 := (pL BK389 hg); have NB390_389 := (pG BK389 hg); replace BK389 := (pB BK389 hb); replace HB := (pS HB hb); clear hb hbox hg; have hnb12 := NB389_390.out; have hnc12 := NB390_389.out; obtain ⟨hcz13_0, hcz13_1, hcz13_2, hfz13_0, hfz13_1, hfz13_2⟩ := pC3 BK389; obtain ⟨hcz14_0, hcz14_1, hcz14_2, hfz14_0, hfz14_1, hfz14_2⟩ := pC3 BK390))
   go_ret
   exact pR (pE HB)
 ·
  rw [if_neg c3] at H
  have c3b0 : (a0_0 != a1_0) = false := by simpa using c3
  (try (have c3b1 : decide (a0_0 = a1_0) = true := by simpa using c3))
  (try (have c3b2 : (a0_0 == a1_0) = true := by simpa using c3))
  clear c3
  by_cases c15 : a0_1 = a1_1
  ·
   rw [if_pos c15] at H
   have c15b0 : (a0_1 == a1_1) = true := beq_iff_eq.mpr c15
   have c15b1 : (a0_1 != a1_1) = false := bne_eq_false_iff_eq.mpr c15
   clear c15
   by_cases c16 : a0_2 < a1_2
   ·
    rw [if_pos c16] at H
    have c16b0 := decide_eq_true c16
    clear c16
    obtain rfl := Option.some.inj H
    go_enter Tryz.func55, Tryz.ntmps55
    go_wp2_with (first | ((with_reducible refine gate_dst (N := 2) rfl ?_); refine boxA (N := 2) (cs := #[.bool a0_0, .int .u64 a0_1, .int .u64 a0_2]) (t := 24) ?_; intro gb389 hg w17 hbox hb; have BK389 := Aside0.mk (hbox); have GW389 := (pZ HB hg); have GE389 := (pZ HB hg); replace HB := (pS HB hb); clear hb hbox hg) | ((with_reducible refine gate_dst (N := 3) rfl ?_); refine boxA (N := 3) (cs := #[.bool a1_0, .int .u64 a1_1, .int .u64 a1_2]) (t := 24) ?_; intro gb390 hg w18 hbox hb; have BK390 := Aside0.mk (hbox); have GW390 := (pZ HB hg); have GE390 := (pZ HB hg); have NB389_390 := (pL BK389 hg); have NB390_389 := (pG BK389 hg); replace BK389 := (pB BK389 hb); replace HB := (pS HB hb); clear hb hbox hg; have hnb19 := NB389_390.out; have hnc19 := NB390_389.out; obtain ⟨hcz20_0, hcz20_1, hcz20_2, hfz20_0, hfz20_1, hfz20_2⟩ := pC3 BK389; obtain ⟨hcz21_0, hcz21_1, hcz21_2, hfz21_0, hfz21_1, hfz21_2⟩ := pC3 BK390))
    go_ret
    exact pR (pE HB)
   ·
    rw [if_neg c16] at H
    have c16b0 := decide_eq_false c16
    clear c16
    by_cases c22 : a0_2 > a1_2
    ·
     rw [if_pos c22] at H
     have c22b0 := decide_eq_true c22
     clear c22
     obtain rfl := Option.some.inj H
     go_enter Tryz.func55, Tryz.ntmps55
     go_wp2_with (first | ((with_reducible refine gate_dst (N := 2) rfl ?_); refine boxA (N := 2) (cs := #[.bool a0_0, .int .u64 a0_1, .int .u64 a0_2]) (t := 24) ?_; intro gb389 hg w23 hbox hb; have BK389 := Aside0.mk (hbox); have GW389 := (pZ HB hg); have GE389 := (pZ HB hg); replace HB := (pS HB hb); clear hb hbox hg) | ((with_reducible refine gate_dst (N := 3) rfl ?_); refine boxA (N := 3) (cs := #[.bool a1_0, .int .u64 a1_1, .int .u64 a1_2]) (t := 24) ?_; intro gb390 hg w24 hbox hb; have BK390 := Aside0.mk (hbox); have GW390 := (pZ HB hg); have GE390 := (pZ HB hg); have NB389_390 := (pL BK389 hg); have NB390_389 := (pG BK389 hg); replace BK389 := (pB BK389 hb); replace HB := (pS HB hb); clear hb hbox hg; have hnb25 := NB389_390.out; have hnc25 := NB390_389.out; obtain ⟨hcz26_0, hcz26_1, hcz26_2, hfz26_0, hfz26_1, hfz26_2⟩ := pC3 BK389; obtain ⟨hcz27_0, hcz27_1, hcz27_2, hfz27_0, hfz27_1, hfz27_2⟩ := pC3 BK390))
     go_ret
     exact pR (pE HB)
    ·
     rw [if_neg c22] at H
     have c22b0 := decide_eq_false c22
     clear c22
     obtain rfl := Option.some.inj H
     go_enter Tryz.func55, Tryz.ntmps55
     go_wp2_with (first | ((with_reducible refine gate_dst (N := 2) rfl ?_); refine boxA (N := 2) (cs := #[.bool a0_0, .int .u64 a0_1, .int .u64 a0_2]) (t := 24) ?_; intro gb389 hg w28 hbox hb; have BK389 := Aside0.mk (hbox); have GW389 := (pZ HB hg); have GE389 := (pZ HB hg); replace HB := (pS HB hb); clear hb hbox hg) | ((with_reducible refine gate_dst (N := 3) rfl ?_); refine boxA (N := 3) (cs := #[.bool a1_0, .int .u64 a1_1, .int .u64 a1_2]) (t := 24) ?_; intro gb390 hg w29 hbox hb; have BK390 := Aside0.mk (hbox); have GW390 := (pZ HB hg); have GE390 := (pZ HB hg); have NB389_390 := (pL BK389 hg); have NB390_389 := (pG BK389 hg); replace BK389 := (pB BK389 hb); replace HB := (pS HB hb); clear hb hbox hg; have hnb30 := NB389_390.out; have hnc30 := NB390_389.out; obtain ⟨hcz31_0, hcz31_1, hcz31_2, hfz31_0, hfz31_1, hfz31_2⟩ := pC3 BK389; obtain ⟨hcz32_0, hcz32_1, hcz32_2, hfz32_0, hfz32_1, hfz32_2⟩ := pC3 BK390))
     go_ret
     exact pR (pE HB)
  ·
   rw [if_neg c15] at H
   have c15b0 : (a0_1 == a1_1) = false := beq_eq_false_iff_ne.mpr c15
   have c15b1 : (a0_1 != a1_1) = true := bne_iff_ne.mpr c15
   by_cases c33 : a0_1 < a1_1
   ·
    rw [if_pos c33] at H
    have c33b0 := decide_eq_true c33
    clear c33
    obtain rfl := Option.some.inj H
    go_enter Tryz.func55, Tryz.ntmps55
    go_wp2_with (first | ((with_reducible refine gate_dst (N := 2) rfl ?_); refine boxA (N := 2) (cs := #[.bool a0_0, .int .u64 a0_1, .int .u64 a0_2]) (t := 24) ?_; intro gb389 hg w34 hbox hb; have BK389 := Aside0.mk (hbox); have GW389 := (pZ HB hg); have GE389 := (pZ HB hg); replace HB := (pS HB hb); clear hb hbox hg) | ((with_reducible refine gate_dst (N := 3) rfl ?_); refine boxA (N := 3) (cs := #[.bool a1_0, .int .u64 a1_1, .int .u64 a1_2]) (t := 24) ?_; intro gb390 hg w35 hbox hb; have BK390 := Aside0.mk (hbox); have GW390 := (pZ HB hg); have GE390 := (pZ HB hg); have NB389_390 := (pL BK389 hg); have NB390_389 := (pG BK389 hg); replace BK389 := (pB BK389 hb); replace HB := (pS HB hb); clear hb hbox hg; have hnb36 := NB389_390.out; have hnc36 := NB390_389.out; obtain ⟨hcz37_0, hcz37_1, hcz37_2, hfz37_0, hfz37_1, hfz37_2⟩ := pC3 BK389; obtain ⟨hcz38_0, hcz38_1, hcz38_2, hfz38_0, hfz38_1, hfz38_2⟩ := pC3 BK390))
    go_ret
    exact pR (pE HB)
   ·
    rw [if_neg c33] at H
    have c33b0 := decide_eq_false c33
    clear c33
    obtain rfl := Option.some.inj H
    go_enter Tryz.func55, Tryz.ntmps55
    go_wp2_with (first | ((with_reducible refine gate_dst (N := 2) rfl ?_); refine boxA (N := 2) (cs := #[.bool a0_0, .int .u64 a0_1, .int .u64 a0_2]) (t := 24) ?_; intro gb389 hg w39 hbox hb; have BK389 := Aside0.mk (hbox); have GW389 := (pZ HB hg); have GE389 := (pZ HB hg); replace HB := (pS HB hb); clear hb hbox hg) | ((with_reducible refine gate_dst (N := 3) rfl ?_); refine boxA (N := 3) (cs := #[.bool a1_0, .int .u64 a1_1, .int .u64 a1_2]) (t := 24) ?_; intro gb390 hg w40 hbox hb; have BK390 := Aside0.mk (hbox); have GW390 := (pZ HB hg); have GE390 := (pZ HB hg); have NB389_390 := (pL BK389 hg); have NB390_389 := (pG BK389 hg); replace BK389 := (pB BK389 hb); replace HB := (pS HB hb); clear hb hbox hg; have hnb41 := NB389_390.out; have hnc41 := NB390_389.out; obtain ⟨hcz42_0, hcz42_1, hcz42_2, hfz42_0, hfz42_1, hfz42_2⟩ := pC3 BK389; obtain ⟨hcz43_0, hcz43_1, hcz43_2, hfz43_0, hfz43_1, hfz43_2⟩ := pC3 BK390))
    go_ret
    exact pR (pE HB)
end Go.Proofs.YteflcmmandlknaaGreatDoor.PA
