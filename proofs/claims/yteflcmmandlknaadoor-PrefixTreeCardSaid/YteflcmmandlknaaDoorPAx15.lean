/- The Go functions in Lean, with the proofs that the code comes to these answers: printed by this session's program (wip/px) out of the seat's translation. Conditions: each theorem's own. -/
import Derived.Test.YteflcmmandlknaaDoorPAx0
import Derived.Test.YteflcmmandlknaaDoorPAx3
import Derived.Test.YteflcmmandlknaaDoorPAx5
import Derived.Test.YteflcmmandlknaaDoorPAx9
import Derived.Test.YteflcmmandlknaaDoorPAx10
import Derived.Test.YteflcmmandlknaaDoorPAx11
import Derived.Test.YteflcmmandlknaaDoorPAx13
namespace Go.Proofs.YteflcmmandlknaaDoor.PA
open Go.RowKit Go.Proofs.YteflcmmandlknaaDoorW.PrintWords Go.Proofs.YteflcmmandlknaaDoorW.PrintLast Go.Proofs.YteflcmmandlknaaDoorW.PrintMore
attribute [local go_sem] max2_int min2_int max_two min_two max_three min_three max_four min_four   -- for this text's walks alone
attribute [local go_sem ↓] Ext.isSome_setCell
open Press
set_option linter.unusedVariables false
set_option linter.unusedSimpArgs false

/-! ### prefix_Within: function 20 -/
def prefix_Within.f (a0_0 : Bool) (a0_1 : Int) (a0_2 : Int) (a0_3 : Int) (a1_0 : Bool) (a1_1 : Int) (a1_2 : Int) (a1_3 : Int) : Option (Bool) := (prefix_Valid.f a0_0 a0_1 a0_2 a0_3).bind fun t404 => (if t404 = true then ((prefix_Valid.f a1_0 a1_1 a1_2 a1_3).bind fun t405 => (if t405 = true then (if a0_3 ≥ a1_3 then ((prefix_Contains.f a1_0 a1_1 a1_2 a1_3 a0_0 a0_1 a0_2).bind fun t406 => (some t406)) else (some false)) else (some false))) else (some false))
set_option maxHeartbeats 40000000 in
set_option maxRecDepth 100000 in
theorem prefix_Within.calls (a0_0 : Bool) (a0_1 : Int) (a0_2 : Int) (a0_3 : Int) (a1_0 : Bool) (a1_1 : Int) (a1_2 : Int) (a1_3 : Int) (r : Bool) (w : World) (h : prefix_Within.f a0_0 a0_1 a0_2 a0_3 a1_0 a1_1 a1_2 a1_3 = some r) :
 Calls Tryd.prog 20 #[.agg #[.bool a0_0, .int .u64 a0_1, .int .u64 a0_2, .int .i64 a0_3], .agg #[.bool a1_0, .int .u64 a1_1, .int .u64 a1_2, .int .i64 a1_3]] w fun e w' => e = .returned (.bool r) ∧ Below w.heap.size w w' := by
 have hu26 := Tryd.underlying26
 have hu24 := Tryd.underlying24
 have HB := Aside0.mk (Below.refl w.heap.size w)
 have H : ((prefix_Valid.f a0_0 a0_1 a0_2 a0_3).bind fun t404 => (if t404 = true then ((prefix_Valid.f a1_0 a1_1 a1_2 a1_3).bind fun t405 => (if t405 = true then (if a0_3 ≥ a1_3 then ((prefix_Contains.f a1_0 a1_1 a1_2 a1_3 a0_0 a0_1 a0_2).bind fun t406 => (some t406)) else (some false)) else (some false))) else (some false))) = some r := h
 clear h
 replace H := Option.bind_eq_some_iff.mp H
 obtain ⟨t404, A30, H⟩ := H
 replace H : (if t404 = true then ((prefix_Valid.f a1_0 a1_1 a1_2 a1_3).bind fun t405 => (if t405 = true then (if a0_3 ≥ a1_3 then ((prefix_Contains.f a1_0 a1_1 a1_2 a1_3 a0_0 a0_1 a0_2).bind fun t406 => (some t406)) else (some false)) else (some false))) else (some false)) = some r := H
 have A3 := Aside0.mk A30
 clear A30
 by_cases c4 : t404 = true
 ·
  subst c4
  rw [if_pos rfl] at H
  replace H := Option.bind_eq_some_iff.mp H
  obtain ⟨t405, A50, H⟩ := H
  replace H : (if t405 = true then (if a0_3 ≥ a1_3 then ((prefix_Contains.f a1_0 a1_1 a1_2 a1_3 a0_0 a0_1 a0_2).bind fun t406 => (some t406)) else (some false)) else (some false)) = some r := H
  have A5 := Aside0.mk A50
  clear A50
  by_cases c6 : t405 = true
  ·
   subst c6
   rw [if_pos rfl] at H
   by_cases c7 : a0_3 ≥ a1_3
   ·
    rw [if_pos c7] at H
    have c7b0 : decide (a1_3 ≤ a0_3) = true := decide_eq_true c7
    clear c7
    replace H := Option.bind_eq_some_iff.mp H
    obtain ⟨t406, A80, H⟩ := H
    replace H : (some t406) = some r := H
    have A8 := Aside0.mk A80
    clear A80
    obtain rfl := Option.some.inj H
    go_enter Tryd.func20, Tryd.ntmps20
    go_wp2_with (first | ((with_reducible refine gate_dst (N := 2) rfl ?_); refine boxA (N := 2) (cs := #[.bool a0_0, .int .u64 a0_1, .int .u64 a0_2, .int .i64 a0_3]) (t := 26) ?_; intro gb402 hg w9 hbox hb; have BK402 := Aside0.mk (hbox); have GW402 := (pZ HB hg); have GE402 := (pZ HB hg); replace HB := (pS HB hb); clear hb hbox hg) | ((with_reducible refine gate_dst (N := 3) rfl ?_); refine boxA (N := 3) (cs := #[.bool a1_0, .int .u64 a1_1, .int .u64 a1_2, .int .i64 a1_3]) (t := 26) ?_; intro gb403 hg w10 hbox hb; have BK403 := Aside0.mk (hbox); have GW403 := (pZ HB hg); have GE403 := (pZ HB hg); have NB402_403 := (pL BK402 hg); have NB403_402 := (pG BK402 hg); replace BK402 := (pB BK402 hb); replace HB := (pS HB hb); clear hb hbox hg; have hnb11 := NB402_403.out; have hnc11 := NB403_402.out; obtain ⟨hcz12_0, hcz12_1, hcz12_2, hcz12_3, hfz12_0, hfz12_1, hfz12_2, hfz12_3⟩ := pC4 BK402) | ((with_reducible refine gate_callee (f := 9) rfl ?_); refine goesA (some 6) Tryd.func9 #[.agg #[.bool a0_0, .int .u64 a0_1, .int .u64 a0_2, .int .i64 a0_3]] ?_; (with_reducible refine (prefix_Valid.calls a0_0 a0_1 a0_2 a0_3 true _ A3.out).mono ?_); rintro e w13 ⟨rfl, hb⟩; refine ⟨_, rfl, ?_⟩; replace BK402 := (pB BK402 hb); replace BK403 := (pB BK403 hb); replace HB := (pS HB hb); (try clear hb); obtain ⟨hcz14_0, hcz14_1, hcz14_2, hcz14_3, hfz14_0, hfz14_1, hfz14_2, hfz14_3⟩ := pC4 BK403) | (go_at_call 9; (with_reducible refine (prefix_Valid.calls a1_0 a1_1 a1_2 a1_3 true _ A5.out).mono ?_); rintro e w15 ⟨rfl, hb⟩; replace BK402 := (pB BK402 hb); replace BK403 := (pB BK403 hb); replace HB := (pS HB hb); (try clear hb); obtain ⟨hcz16_0, hcz16_1, hcz16_2, hcz16_3, hfz16_0, hfz16_1, hfz16_2, hfz16_3⟩ := pC4 BK402; obtain ⟨hcz17_0, hcz17_1, hcz17_2, hcz17_3, hfz17_0, hfz17_1, hfz17_2, hfz17_3⟩ := pC4 BK403) | (go_at_call 10; (with_reducible refine (prefix_Contains.calls a1_0 a1_1 a1_2 a1_3 a0_0 a0_1 a0_2 t406 _ A8.out).mono ?_); rintro e w18 ⟨rfl, hb⟩; replace BK402 := (pB BK402 hb); replace BK403 := (pB BK403 hb); replace HB := (pS HB hb); (try clear hb)))
    go_ret
    exact pR (pE HB)
   ·
    rw [if_neg c7] at H
    have c7b0 : decide (a1_3 ≤ a0_3) = false := decide_eq_false c7
    clear c7
    obtain rfl := Option.some.inj H
    go_enter Tryd.func20, Tryd.ntmps20
    go_wp2_with (first | ((with_reducible refine gate_dst (N := 2) rfl ?_); refine boxA (N := 2) (cs := #[.bool a0_0, .int .u64 a0_1, .int .u64 a0_2, .int .i64 a0_3]) (t := 26) ?_; intro gb402 hg w19 hbox hb; have BK402 := Aside0.mk (hbox); have GW402 := (pZ HB hg); have GE402 := (pZ HB hg); replace HB := (pS HB hb); clear hb hbox hg) | ((with_reducible refine gate_dst (N := 3) rfl ?_); refine boxA (N := 3) (cs := #[.bool a1_0, .int .u64 a1_1, .int .u64 a1_2, .int .i64 a1_3]) (t := 26) ?_; intro gb403 hg w20 hbox hb; have BK403 := Aside0.mk (hbox); have GW403 := (pZ HB hg); have GE403 := (pZ HB hg); have NB402_403 := (pL BK402 hg); have NB403_402 := (pG BK402 hg); replace BK402 := (pB BK402 hb); replace HB := (pS HB hb); clear hb hbox hg; have hnb21 := NB402_403.out; have hnc21 := NB403_402.out; obtain ⟨hcz22_0, hcz22_1, hcz22_2, hcz22_3, hfz22_0, hfz22_1, hfz22_2, hfz22_3⟩ := pC4 BK402) | ((with_reducible refine gate_callee (f := 9) rfl ?_); refine goesA (some 6) Tryd.func9 #[.agg #[.bool a0_0, .int .u64 a0_1, .int .u64 a0_2, .int .i64 a0_3]] ?_; (with_reducible refine (prefix_Valid.calls a0_0 a0_1 a0_2 a0_3 true _ A3.out).mono ?_); rintro e w23 ⟨rfl, hb⟩; refine ⟨_, rfl, ?_⟩; replace BK402 := (pB BK402 hb); replace BK403 := (pB BK403 hb); replace HB := (pS HB hb); (try clear hb); obtain ⟨hcz24_0, hcz24_1, hcz24_2, hcz24_3, hfz24_0, hfz24_1, hfz24_2, hfz24_3⟩ := pC4 BK403) | (go_at_call 9; (with_reducible refine (prefix_Valid.calls a1_0 a1_1 a1_2 a1_3 true _ A5.out).mono ?_); rintro e w25 ⟨rfl, hb⟩; replace BK402 := (pB BK402 hb); replace BK403 := (pB BK403 hb); replace HB := (pS HB hb); (try clear hb); obtain ⟨hcz26_0, hcz26_1, hcz26_2, hcz26_3, hfz26_0, hfz26_1, hfz26_2, hfz26_3⟩ := pC4 BK402; obtain ⟨hcz27_0, hcz27_1, hcz27_2, hcz27_3, hfz27_0, hfz27_1, hfz27_2, hfz27_3⟩ := pC4 BK403))
    go_ret
    exact pR (pE HB)
  ·
   replace c6 := Bool.eq_false_iff.mpr c6
   subst c6
   rw [if_neg (show ¬ (false = true) by decide)] at H
   obtain rfl := Option.some.inj H
   go_enter Tryd.func20, Tryd.ntmps20
   go_wp2_with (first | ((with_reducible refine gate_dst (N := 2) rfl ?_); refine boxA (N := 2) (cs := #[.bool a0_0, .int .u64 a0_1, .int .u64 a0_2, .int .i64 a0_3]) (t := 26) ?_; intro gb402 hg w28 hbox hb; have BK402 := Aside0.mk (hbox); have GW402 := (pZ HB hg); have GE402 := (pZ HB hg); replace HB := (pS HB hb); clear hb hbox hg) | ((with_reducible refine gate_dst (N := 3) rfl ?_); refine boxA (N := 3) (cs := #[.bool a1_0, .int .u64 a1_1, .int .u64 a1_2, .int .i64 a1_3]) (t := 26) ?_; intro gb403 hg w29 hbox hb; have BK403 := Aside0.mk (hbox); have GW403 := (pZ HB hg); have GE403 := (pZ HB hg); have NB402_403 := (pL BK402 hg); have NB403_402 := (pG BK402 hg); replace BK402 := (pB BK402 hb); replace HB := (pS HB hb); clear hb hbox hg; have hnb30 := NB402_403.out; have hnc30 := NB403_402.out; obtain ⟨hcz31_0, hcz31_1, hcz31_2, hcz31_3, hfz31_0, hfz31_1, hfz31_2, hfz31_3⟩ := pC4 BK402) | ((with_reducible refine gate_callee (f := 9) rfl ?_); refine goesA (some 6) Tryd.func9 #[.agg #[.bool a0_0, .int .u64 a0_1, .int .u64 a0_2, .int .i64 a0_3]] ?_; (with_reducible refine (prefix_Valid.calls a0_0 a0_1 a0_2 a0_3 true _ A3.out).mono ?_); rintro e w32 ⟨rfl, hb⟩; refine ⟨_, rfl, ?_⟩; replace BK402 := (pB BK402 hb); replace BK403 := (pB BK403 hb); replace HB := (pS HB hb); (try clear hb); obtain ⟨hcz33_0, hcz33_1, hcz33_2, hcz33_3, hfz33_0, hfz33_1, hfz33_2, hfz33_3⟩ := pC4 BK403) | (go_at_call 9; (with_reducible refine (prefix_Valid.calls a1_0 a1_1 a1_2 a1_3 false _ A5.out).mono ?_); rintro e w34 ⟨rfl, hb⟩; replace BK402 := (pB BK402 hb); replace BK403 := (pB BK403 hb); replace HB := (pS HB hb); (try clear hb)))
   go_ret
   exact pR (pE HB)
 ·
  replace c4 := Bool.eq_false_iff.mpr c4
  subst c4
  rw [if_neg (show ¬ (false = true) by decide)] at H
  obtain rfl := Option.some.inj H
  go_enter Tryd.func20, Tryd.ntmps20
  go_wp2_with (first | ((with_reducible refine gate_dst (N := 2) rfl ?_); refine boxA (N := 2) (cs := #[.bool a0_0, .int .u64 a0_1, .int .u64 a0_2, .int .i64 a0_3]) (t := 26) ?_; intro gb402 hg w35 hbox hb; have BK402 := Aside0.mk (hbox); have GW402 := (pZ HB hg); have GE402 := (pZ HB hg); replace HB := (pS HB hb); clear hb hbox hg) | ((with_reducible refine gate_dst (N := 3) rfl ?_); refine boxA (N := 3) (cs := #[.bool a1_0, .int .u64 a1_1, .int .u64 a1_2, .int .i64 a1_3]) (t := 26) ?_; intro gb403 hg w36 hbox hb; have BK403 := Aside0.mk (hbox); have GW403 := (pZ HB hg); have GE403 := (pZ HB hg); have NB402_403 := (pL BK402 hg); have NB403_402 := (pG BK402 hg); replace BK402 := (pB BK402 hb); replace HB := (pS HB hb); clear hb hbox hg; have hnb37 := NB402_403.out; have hnc37 := NB403_402.out; obtain ⟨hcz38_0, hcz38_1, hcz38_2, hcz38_3, hfz38_0, hfz38_1, hfz38_2, hfz38_3⟩ := pC4 BK402) | ((with_reducible refine gate_callee (f := 9) rfl ?_); refine goesA (some 6) Tryd.func9 #[.agg #[.bool a0_0, .int .u64 a0_1, .int .u64 a0_2, .int .i64 a0_3]] ?_; (with_reducible refine (prefix_Valid.calls a0_0 a0_1 a0_2 a0_3 false _ A3.out).mono ?_); rintro e w39 ⟨rfl, hb⟩; refine ⟨_, rfl, ?_⟩; replace BK402 := (pB BK402 hb); replace BK403 := (pB BK403 hb); replace HB := (pS HB hb); (try clear hb)))
  go_ret
  exact pR (pE HB)

/-! ### prefix_Overlap: function 19 -/
def prefix_Overlap.f (a0_0 : Bool) (a0_1 : Int) (a0_2 : Int) (a0_3 : Int) (a1_0 : Bool) (a1_1 : Int) (a1_2 : Int) (a1_3 : Int) : Option (Bool) := (prefix_Within.f a0_0 a0_1 a0_2 a0_3 a1_0 a1_1 a1_2 a1_3).bind fun t409 => (if t409 = true then (some true) else ((prefix_Within.f a1_0 a1_1 a1_2 a1_3 a0_0 a0_1 a0_2 a0_3).bind fun t410 => (some t410)))
set_option maxHeartbeats 40000000 in
set_option maxRecDepth 100000 in
theorem prefix_Overlap.calls (a0_0 : Bool) (a0_1 : Int) (a0_2 : Int) (a0_3 : Int) (a1_0 : Bool) (a1_1 : Int) (a1_2 : Int) (a1_3 : Int) (r : Bool) (w : World) (h : prefix_Overlap.f a0_0 a0_1 a0_2 a0_3 a1_0 a1_1 a1_2 a1_3 = some r) :
 Calls Tryd.prog 19 #[.agg #[.bool a0_0, .int .u64 a0_1, .int .u64 a0_2, .int .i64 a0_3], .agg #[.bool a1_0, .int .u64 a1_1, .int .u64 a1_2, .int .i64 a1_3]] w fun e w' => e = .returned (.bool r) ∧ Below w.heap.size w w' := by
 have hu26 := Tryd.underlying26
 have HB := Aside0.mk (Below.refl w.heap.size w)
 have H : ((prefix_Within.f a0_0 a0_1 a0_2 a0_3 a1_0 a1_1 a1_2 a1_3).bind fun t409 => (if t409 = true then (some true) else ((prefix_Within.f a1_0 a1_1 a1_2 a1_3 a0_0 a0_1 a0_2 a0_3).bind fun t410 => (some t410)))) = some r := h
 clear h
 replace H := Option.bind_eq_some_iff.mp H
 obtain ⟨t409, A30, H⟩ := H
 replace H : (if t409 = true then (some true) else ((prefix_Within.f a1_0 a1_1 a1_2 a1_3 a0_0 a0_1 a0_2 a0_3).bind fun t410 => (some t410))) = some r := H
 have A3 := Aside0.mk A30
 clear A30
 by_cases c4 : t409 = true
 ·
  subst c4
  rw [if_pos rfl] at H
  obtain rfl := Option.some.inj H
  go_enter Tryd.func19, Tryd.ntmps19
  go_wp2_with (first | ((with_reducible refine gate_dst (N := 2) rfl ?_); refine boxA (N := 2) (cs := #[.bool a0_0, .int .u64 a0_1, .int .u64 a0_2, .int .i64 a0_3]) (t := 26) ?_; intro gb407 hg w5 hbox hb; have BK407 := Aside0.mk (hbox); have GW407 := (pZ HB hg); have GE407 := (pZ HB hg); replace HB := (pS HB hb); clear hb hbox hg) | ((with_reducible refine gate_dst (N := 3) rfl ?_); refine boxA (N := 3) (cs := #[.bool a1_0, .int .u64 a1_1, .int .u64 a1_2, .int .i64 a1_3]) (t := 26) ?_; intro gb408 hg w6 hbox hb; have BK408 := Aside0.mk (hbox); have GW408 := (pZ HB hg); have GE408 := (pZ HB hg); have NB407_408 := (pL BK407 hg); have NB408_407 := (pG BK407 hg); replace BK407 := (pB BK407 hb); replace HB := (pS HB hb); clear hb hbox hg; have hnb7 := NB407_408.out; have hnc7 := NB408_407.out; obtain ⟨hcz8_0, hcz8_1, hcz8_2, hcz8_3, hfz8_0, hfz8_1, hfz8_2, hfz8_3⟩ := pC4 BK407; obtain ⟨hcz9_0, hcz9_1, hcz9_2, hcz9_3, hfz9_0, hfz9_1, hfz9_2, hfz9_3⟩ := pC4 BK408) | ((with_reducible refine gate_callee (f := 20) rfl ?_); refine goesA (some 7) Tryd.func20 #[.agg #[.bool a0_0, .int .u64 a0_1, .int .u64 a0_2, .int .i64 a0_3], .agg #[.bool a1_0, .int .u64 a1_1, .int .u64 a1_2, .int .i64 a1_3]] ?_; (with_reducible refine (prefix_Within.calls a0_0 a0_1 a0_2 a0_3 a1_0 a1_1 a1_2 a1_3 true _ A3.out).mono ?_); rintro e w10 ⟨rfl, hb⟩; refine ⟨_, rfl, ?_⟩; replace BK407 := (pB BK407 hb); replace BK408 := (pB BK408 hb); replace HB := (pS HB hb); (try clear hb)))
  go_ret
  exact pR (pE HB)
 ·
  replace c4 := Bool.eq_false_iff.mpr c4
  subst c4
  rw [if_neg (show ¬ (false = true) by decide)] at H
  replace H := Option.bind_eq_some_iff.mp H
  obtain ⟨t410, A110, H⟩ := H
  replace H : (some t410) = some r := H
  have A11 := Aside0.mk A110
  clear A110
  obtain rfl := Option.some.inj H
  go_enter Tryd.func19, Tryd.ntmps19
  go_wp2_with (first | ((with_reducible refine gate_dst (N := 2) rfl ?_); refine boxA (N := 2) (cs := #[.bool a0_0, .int .u64 a0_1, .int .u64 a0_2, .int .i64 a0_3]) (t := 26) ?_; intro gb407 hg w12 hbox hb; have BK407 := Aside0.mk (hbox); have GW407 := (pZ HB hg); have GE407 := (pZ HB hg); replace HB := (pS HB hb); clear hb hbox hg) | ((with_reducible refine gate_dst (N := 3) rfl ?_); refine boxA (N := 3) (cs := #[.bool a1_0, .int .u64 a1_1, .int .u64 a1_2, .int .i64 a1_3]) (t := 26) ?_; intro gb408 hg w13 hbox hb; have BK408 := Aside0.mk (hbox); have GW408 := (pZ HB hg); have GE408 := (pZ HB hg); have NB407_408 := (pL BK407 hg); have NB408_407 := (pG BK407 hg); replace BK407 := (pB BK407 hb); replace HB := (pS HB hb); clear hb hbox hg; have hnb14 := NB407_408.out; have hnc14 := NB408_407.out; obtain ⟨hcz15_0, hcz15_1, hcz15_2, hcz15_3, hfz15_0, hfz15_1, hfz15_2, hfz15_3⟩ := pC4 BK407; obtain ⟨hcz16_0, hcz16_1, hcz16_2, hcz16_3, hfz16_0, hfz16_1, hfz16_2, hfz16_3⟩ := pC4 BK408) | ((with_reducible refine gate_callee (f := 20) rfl ?_); refine goesA (some 7) Tryd.func20 #[.agg #[.bool a0_0, .int .u64 a0_1, .int .u64 a0_2, .int .i64 a0_3], .agg #[.bool a1_0, .int .u64 a1_1, .int .u64 a1_2, .int .i64 a1_3]] ?_; (with_reducible refine (prefix_Within.calls a0_0 a0_1 a0_2 a0_3 a1_0 a1_1 a1_2 a1_3 false _ A3.out).mono ?_); rintro e w17 ⟨rfl, hb⟩; refine ⟨_, rfl, ?_⟩; replace BK407 := (pB BK407 hb); replace BK408 := (pB BK408 hb); replace HB := (pS HB hb); (try clear hb); obtain ⟨hcz18_0, hcz18_1, hcz18_2, hcz18_3, hfz18_0, hfz18_1, hfz18_2, hfz18_3⟩ := pC4 BK408; obtain ⟨hcz19_0, hcz19_1, hcz19_2, hcz19_3, hfz19_0, hfz19_1, hfz19_2, hfz19_3⟩ := pC4 BK407) | (go_at_call 20; (with_reducible refine (prefix_Within.calls a1_0 a1_1 a1_2 a1_3 a0_0 a0_1 a0_2 a0_3 t410 _ A11.out).mono ?_); rintro e w20 ⟨rfl, hb⟩; replace BK407 := (pB BK407 hb); replace BK408 := (pB BK408 hb); replace HB := (pS HB hb); (try clear hb)))
  go_ret
  exact pR (pE HB)

/-! ### prefix_Compare: function 21 -/
def prefix_Compare.f (k : Nat) (a0_0 : Bool) (a0_1 : Int) (a0_2 : Int) (a0_3 : Int) (a1_0 : Bool) (a1_1 : Int) (a1_2 : Int) (a1_3 : Int) : Option (Int) := (addr_Compare.f k a0_0 a0_1 a0_2 a1_0 a1_1 a1_2).bind fun t413 => (if t413 = 0 then (if a0_3 < a1_3 then (some (-1)) else (if a0_3 > a1_3 then (some 1) else (some 0))) else (some t413))
theorem prefix_Compare.mono : ∀ a0 a1 a2 a3 a4 a5 a6 a7 k, LeO (prefix_Compare.f k a0 a1 a2 a3 a4 a5 a6 a7) (prefix_Compare.f (k + 1) a0 a1 a2 a3 a4 a5 a6 a7) := by
 intro a0 a1 a2 a3 a4 a5 a6 a7 k
 unfold prefix_Compare.f
 repeat' first
  | (with_reducible exact addr_Compare.mono _ _ _ _ _ _ _)
  | (with_reducible exact LeO.refl _)
  | (with_reducible exact LeO.none _)
  | (with_reducible refine LeO.ite ?_ ?_)
  | (with_reducible refine LeO.bind ?_ (fun _ => ?_))
  | exact addr_Compare.mono _ _ _ _ _ _ _
  | exact LeO.none _
  | refine LeO.ite ?_ ?_
  | refine LeO.bind ?_ (fun _ => ?_)
set_option maxHeartbeats 40000000 in
set_option maxRecDepth 100000 in
theorem prefix_Compare.calls (k : Nat) (a0_0 : Bool) (a0_1 : Int) (a0_2 : Int) (a0_3 : Int) (a1_0 : Bool) (a1_1 : Int) (a1_2 : Int) (a1_3 : Int) (r : Int) (w : World) (h : prefix_Compare.f k a0_0 a0_1 a0_2 a0_3 a1_0 a1_1 a1_2 a1_3 = some r) :
 Calls Tryd.prog 21 #[.agg #[.bool a0_0, .int .u64 a0_1, .int .u64 a0_2, .int .i64 a0_3], .agg #[.bool a1_0, .int .u64 a1_1, .int .u64 a1_2, .int .i64 a1_3]] w fun e w' => e = .returned (.int .i64 r) ∧ Below w.heap.size w w' := by
 have hu26 := Tryd.underlying26
 have hu24 := Tryd.underlying24
 have HB := Aside0.mk (Below.refl w.heap.size w)
 have H : ((addr_Compare.f k a0_0 a0_1 a0_2 a1_0 a1_1 a1_2).bind fun t413 => (if t413 = 0 then (if a0_3 < a1_3 then (some (-1)) else (if a0_3 > a1_3 then (some 1) else (some 0))) else (some t413))) = some r := h
 clear h
 replace H := Option.bind_eq_some_iff.mp H
 obtain ⟨t413, A30, H⟩ := H
 replace H : (if t413 = 0 then (if a0_3 < a1_3 then (some (-1)) else (if a0_3 > a1_3 then (some 1) else (some 0))) else (some t413)) = some r := H
 have A3 := Aside0.mk A30
 clear A30
 by_cases c4 : t413 = 0
 ·
  rw [if_pos c4] at H
  have c4b0 : (t413 == 0) = true := beq_iff_eq.mpr c4
  have c4b1 : (t413 != 0) = false := bne_eq_false_iff_eq.mpr c4
  clear c4
  by_cases c5 : a0_3 < a1_3
  ·
   rw [if_pos c5] at H
   have c5b0 : decide (a0_3 < a1_3) = true := decide_eq_true c5
   clear c5
   obtain rfl := Option.some.inj H
   go_enter Tryd.func21, Tryd.ntmps21
   go_wp2_with (first | ((with_reducible refine gate_dst (N := 2) rfl ?_); refine boxA (N := 2) (cs := #[.bool a0_0, .int .u64 a0_1, .int .u64 a0_2, .int .i64 a0_3]) (t := 26) ?_; intro gb411 hg w6 hbox hb; have BK411 := Aside0.mk (hbox); have GW411 := (pZ HB hg); have GE411 := (pZ HB hg); replace HB := (pS HB hb); clear hb hbox hg) | ((with_reducible refine gate_dst (N := 3) rfl ?_); refine boxA (N := 3) (cs := #[.bool a1_0, .int .u64 a1_1, .int .u64 a1_2, .int .i64 a1_3]) (t := 26) ?_; intro gb412 hg w7 hbox hb; have BK412 := Aside0.mk (hbox); have GW412 := (pZ HB hg); have GE412 := (pZ HB hg); have NB411_412 := (pL BK411 hg); have NB412_411 := (pG BK411 hg); replace BK411 := (pB BK411 hb); replace HB := (pS HB hb); clear hb hbox hg; have hnb8 := NB411_412.out; have hnc8 := NB412_411.out; obtain ⟨hcz9_0, hcz9_1, hcz9_2, hcz9_3, hfz9_0, hfz9_1, hfz9_2, hfz9_3⟩ := pC4 BK411; obtain ⟨hcz10_0, hcz10_1, hcz10_2, hcz10_3, hfz10_0, hfz10_1, hfz10_2, hfz10_3⟩ := pC4 BK412) | ((with_reducible refine gate_callee (f := 26) rfl ?_); refine goesA (some 10) Tryd.func26 #[.agg #[.bool a0_0, .int .u64 a0_1, .int .u64 a0_2], .agg #[.bool a1_0, .int .u64 a1_1, .int .u64 a1_2]] ?_; (with_reducible refine (addr_Compare.calls k a0_0 a0_1 a0_2 a1_0 a1_1 a1_2 t413 _ A3.out).mono ?_); rintro e w11 ⟨rfl, hb⟩; refine ⟨_, rfl, ?_⟩; replace BK411 := (pB BK411 hb); replace BK412 := (pB BK412 hb); replace HB := (pS HB hb); (try clear hb); obtain ⟨hcz12_0, hcz12_1, hcz12_2, hcz12_3, hfz12_0, hfz12_1, hfz12_2, hfz12_3⟩ := pC4 BK411; obtain ⟨hcz13_0, hcz13_1, hcz13_2, hcz13_3, hfz13_0, hfz13_1, hfz13_2, hfz13_3⟩ := pC4 BK412))
   go_ret
   exact pR (pE HB)
  ·
   rw [if_neg c5] at H
   have c5b0 : decide (a0_3 < a1_3) = false := decide_eq_false c5
   clear c5
   by_cases c14 : a0_3 > a1_3
   ·
    rw [if_pos c14] at H
    have c14b0 : decide (a1_3 < a0_3) = true := decide_eq_true c14
    clear c14
    obtain rfl := Option.some.inj H
    go_enter Tryd.func21, Tryd.ntmps21
    go_wp2_with (first | ((with_reducible refine gate_dst (N := 2) rfl ?_); refine boxA (N := 2) (cs := #[.bool a0_0, .int .u64 a0_1, .int .u64 a0_2, .int .i64 a0_3]) (t := 26) ?_; intro gb411 hg w15 hbox hb; have BK411 := Aside0.mk (hbox); have GW411 := (pZ HB hg); have GE411 := (pZ HB hg); replace HB := (pS HB hb); clear hb hbox hg) | ((with_reducible refine gate_dst (N := 3) rfl ?_); refine boxA (N := 3) (cs := #[.bool a1_0, .int .u64 a1_1, .int .u64 a1_2, .int .i64 a1_3]) (t := 26) ?_; intro gb412 hg w16 hbox hb; have BK412 := Aside0.mk (hbox); have GW412 := (pZ HB hg); have GE412 := (pZ HB hg); have NB411_412 := (pL BK411 hg); have NB412_411 := (pG BK411 hg); replace BK411 := (pB BK411 hb); replace HB := (pS HB hb); clear hb hbox hg; have hnb17 := NB411_412.out; have hnc17 := NB412_411.out; obtain ⟨hcz18_0, hcz18_1, hcz18_2, hcz18_3, hfz18_0, hfz18_1, hfz18_2, hfz18_3⟩ := pC4 BK411; obtain ⟨hcz19_0, hcz19_1, hcz19_2, hcz19_3, hfz19_0, hfz19_1, hfz19_2, hfz19_3⟩ := pC4 BK412) | ((with_reducible refine gate_callee (f := 26) rfl ?_); refine goesA (some 10) Tryd.func26 #[.agg #[.bool a0_0, .int .u64 a0_1, .int .u64 a0_2], .agg #[.bool a1_0, .int .u64 a1_1, .int .u64 a1_2]] ?_; (with_reducible refine (addr_Compare.calls k a0_0 a0_1 a0_2 a1_0 a1_1 a1_2 t413 _ A3.out).mono ?_); rintro e w20 ⟨rfl, hb⟩; refine ⟨_, rfl, ?_⟩; replace BK411 := (pB BK411 hb); replace BK412 := (pB BK412 hb); replace HB := (pS HB hb); (try clear hb); obtain ⟨hcz21_0, hcz21_1, hcz21_2, hcz21_3, hfz21_0, hfz21_1, hfz21_2, hfz21_3⟩ := pC4 BK411; obtain ⟨hcz22_0, hcz22_1, hcz22_2, hcz22_3, hfz22_0, hfz22_1, hfz22_2, hfz22_3⟩ := pC4 BK412))
    go_ret
    exact pR (pE HB)
   ·
    rw [if_neg c14] at H
    have c14b0 : decide (a1_3 < a0_3) = false := decide_eq_false c14
    clear c14
    obtain rfl := Option.some.inj H
    go_enter Tryd.func21, Tryd.ntmps21
    go_wp2_with (first | ((with_reducible refine gate_dst (N := 2) rfl ?_); refine boxA (N := 2) (cs := #[.bool a0_0, .int .u64 a0_1, .int .u64 a0_2, .int .i64 a0_3]) (t := 26) ?_; intro gb411 hg w23 hbox hb; have BK411 := Aside0.mk (hbox); have GW411 := (pZ HB hg); have GE411 := (pZ HB hg); replace HB := (pS HB hb); clear hb hbox hg) | ((with_reducible refine gate_dst (N := 3) rfl ?_); refine boxA (N := 3) (cs := #[.bool a1_0, .int .u64 a1_1, .int .u64 a1_2, .int .i64 a1_3]) (t := 26) ?_; intro gb412 hg w24 hbox hb; have BK412 := Aside0.mk (hbox); have GW412 := (pZ HB hg); have GE412 := (pZ HB hg); have NB411_412 := (pL BK411 hg); have NB412_411 := (pG BK411 hg); replace BK411 := (pB BK411 hb); replace HB := (pS HB hb); clear hb hbox hg; have hnb25 := NB411_412.out; have hnc25 := NB412_411.out; obtain ⟨hcz26_0, hcz26_1, hcz26_2, hcz26_3, hfz26_0, hfz26_1, hfz26_2, hfz26_3⟩ := pC4 BK411; obtain ⟨hcz27_0, hcz27_1, hcz27_2, hcz27_3, hfz27_0, hfz27_1, hfz27_2, hfz27_3⟩ := pC4 BK412) | ((with_reducible refine gate_callee (f := 26) rfl ?_); refine goesA (some 10) Tryd.func26 #[.agg #[.bool a0_0, .int .u64 a0_1, .int .u64 a0_2], .agg #[.bool a1_0, .int .u64 a1_1, .int .u64 a1_2]] ?_; (with_reducible refine (addr_Compare.calls k a0_0 a0_1 a0_2 a1_0 a1_1 a1_2 t413 _ A3.out).mono ?_); rintro e w28 ⟨rfl, hb⟩; refine ⟨_, rfl, ?_⟩; replace BK411 := (pB BK411 hb); replace BK412 := (pB BK412 hb); replace HB := (pS HB hb); (try clear hb); obtain ⟨hcz29_0, hcz29_1, hcz29_2, hcz29_3, hfz29_0, hfz29_1, hfz29_2, hfz29_3⟩ := pC4 BK411; obtain ⟨hcz30_0, hcz30_1, hcz30_2, hcz30_3, hfz30_0, hfz30_1, hfz30_2, hfz30_3⟩ := pC4 BK412))
    go_ret
    exact pR (pE HB)
 ·
  rw [if_neg c4] at H
  have c4b0 : (t413 == 0) = false := beq_eq_false_iff_ne.mpr c4
  have c4b1 : (t413 != 0) = true := bne_iff_ne.mpr c4
  obtain rfl := Option.some.inj H
  go_enter Tryd.func21, Tryd.ntmps21
  go_wp2_with (first | ((with_reducible refine gate_dst (N := 2) rfl ?_); refine boxA (N := 2) (cs := #[.bool a0_0, .int .u64 a0_1, .int .u64 a0_2, .int .i64 a0_3]) (t := 26) ?_; intro gb411 hg w31 hbox hb; have BK411 := Aside0.mk (hbox); have GW411 := (pZ HB hg); have GE411 := (pZ HB hg); replace HB := (pS HB hb); clear hb hbox hg) | ((with_reducible refine gate_dst (N := 3) rfl ?_); refine boxA (N := 3) (cs := #[.bool a1_0, .int .u64 a1_1, .int .u64 a1_2, .int .i64 a1_3]) (t := 26) ?_; intro gb412 hg w32 hbox hb; have BK412 := Aside0.mk (hbox); have GW412 := (pZ HB hg); have GE412 := (pZ HB hg); have NB411_412 := (pL BK411 hg); have NB412_411 := (pG BK411 hg); replace BK411 := (pB BK411 hb); replace HB := (pS HB hb); clear hb hbox hg; have hnb33 := NB411_412.out; have hnc33 := NB412_411.out; obtain ⟨hcz34_0, hcz34_1, hcz34_2, hcz34_3, hfz34_0, hfz34_1, hfz34_2, hfz34_3⟩ := pC4 BK411; obtain ⟨hcz35_0, hcz35_1, hcz35_2, hcz35_3, hfz35_0, hfz35_1, hfz35_2, hfz35_3⟩ := pC4 BK412) | ((with_reducible refine gate_callee (f := 26) rfl ?_); refine goesA (some 10) Tryd.func26 #[.agg #[.bool a0_0, .int .u64 a0_1, .int .u64 a0_2], .agg #[.bool a1_0, .int .u64 a1_1, .int .u64 a1_2]] ?_; (with_reducible refine (addr_Compare.calls k a0_0 a0_1 a0_2 a1_0 a1_1 a1_2 t413 _ A3.out).mono ?_); rintro e w36 ⟨rfl, hb⟩; refine ⟨_, rfl, ?_⟩; replace BK411 := (pB BK411 hb); replace BK412 := (pB BK412 hb); replace HB := (pS HB hb); (try clear hb)))
  go_ret
  exact pR (pE HB)

end Go.Proofs.YteflcmmandlknaaDoor.PA
