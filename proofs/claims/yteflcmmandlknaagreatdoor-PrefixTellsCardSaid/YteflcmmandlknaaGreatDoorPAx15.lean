/- The Go functions in Lean, with the proofs that the code comes to these answers: printed by this session's program (wip/px) out of the seat's translation. Conditions: each theorem's own. -/
import Derived.Test.YteflcmmandlknaaGreatDoorPAx0
import Derived.Test.YteflcmmandlknaaGreatDoorPAx2
import Derived.Test.YteflcmmandlknaaGreatDoorPAx4
import Derived.Test.YteflcmmandlknaaGreatDoorPAx11
import Derived.Test.YteflcmmandlknaaGreatDoorPAx12
import Derived.Test.YteflcmmandlknaaGreatDoorPAx14
namespace Go.Proofs.YteflcmmandlknaaGreatDoor.PA
open Go.RowKit Go.Proofs.YteflcmmandlknaaGreatDoorW.PrintWords Go.Proofs.YteflcmmandlknaaGreatDoorW.PrintLast Go.Proofs.YteflcmmandlknaaGreatDoorW.PrintMore
attribute [local go_sem] max2_int min2_int max_two min_two max_three min_three max_four min_four   -- for this text's walks alone
attribute [local go_sem ↓] Ext.isSome_setCell
open Press
set_option linter.unusedVariables false
set_option linter.unusedSimpArgs false
attribute [local go_sem high] eqA26
/-! ### ddiref03_Contains: function 31 -/
def ddiref03_Contains.f (k : Nat) (a0_0 : Bool) (a0_1 : Int) (a0_2 : Int) (a0_3 : Int) (a1_0 : Bool) (a1_1 : Int) (a1_2 : Int) : Option (Bool) := (ddiref03_Valid.f k a0_0 a0_1 a0_2 a0_3).bind fun t415 => (if t415 = true then ((ddiref02_Valid.f a1_0 a1_1 a1_2).bind fun t416 => (if t416 = true then (if (a0_0 != a1_0) = true then (some false) else ((ddiref03_Of.f k a1_0 a1_1 a1_2 a0_3).bind fun bt417 => (some ((bt417.1 == a0_0 && (bt417.2.1 == a0_1 && (bt417.2.2.1 == a0_2))) && (bt417.2.2.2.1 == a0_3))))) else (some false))) else (some false))
theorem ddiref03_Contains.mono : ∀ a0 a1 a2 a3 a4 a5 a6 k, LeO (ddiref03_Contains.f k a0 a1 a2 a3 a4 a5 a6) (ddiref03_Contains.f (k + 1) a0 a1 a2 a3 a4 a5 a6) := by
 intro a0 a1 a2 a3 a4 a5 a6 k
 unfold ddiref03_Contains.f
 repeat' with_reducible first | exact ddiref03_Of.mono _ _ _ _ _ | exact ddiref03_Valid.mono _ _ _ _ _ | exact LeO.refl _ | exact LeO.none _ | refine LeO.ite ?_ ?_ | refine LeO.bind ?_ (fun _ => ?_)
set_option maxHeartbeats 40000000 in
set_option maxRecDepth 100000 in
theorem ddiref03_Contains.calls (k : Nat) (a0_0 : Bool) (a0_1 : Int) (a0_2 : Int) (a0_3 : Int) (a1_0 : Bool) (a1_1 : Int) (a1_2 : Int) (r : Bool) (w : World) (h : ddiref03_Contains.f k a0_0 a0_1 a0_2 a0_3 a1_0 a1_1 a1_2 = some r) :
 Calls Tryz.prog 31 #[.agg #[.bool a0_0, .int .u64 a0_1, .int .u64 a0_2, .int .i64 a0_3], .agg #[.bool a1_0, .int .u64 a1_1, .int .u64 a1_2]] w fun e w' => e = .returned (.bool r) ∧ Below w.heap.size w w' := by
 have hu26 := Tryz.underlying26
 have hu24 := Tryz.underlying24
 have HB := Aside0.mk (Below.refl w.heap.size w)
 have H : ((ddiref03_Valid.f k a0_0 a0_1 a0_2 a0_3).bind fun t415 => (if t415 = true then ((ddiref02_Valid.f a1_0 a1_1 a1_2).bind fun t416 => (if t416 = true then (if (a0_0 != a1_0) = true then (some false) else ((ddiref03_Of.f k a1_0 a1_1 a1_2 a0_3).bind fun bt417 => (some ((bt417.1 == a0_0 && (bt417.2.1 == a0_1 && (bt417.2.2.1 == a0_2))) && (bt417.2.2.2.1 == a0_3))))) else (some false))) else (some false))) = some r := h
 clear h
 replace H := Option.bind_eq_some_iff.mp H
 obtain ⟨t415, A30, H⟩ := H
 have A3 := Aside0.mk A30
 clear A30
 by_cases c4 : t415 = true
 ·
  subst c4
  rw [if_pos rfl] at H
  replace H := Option.bind_eq_some_iff.mp H
  obtain ⟨t416, A50, H⟩ := H
  have A5 := Aside0.mk A50
  clear A50
  by_cases c6 : t416 = true
  ·
   subst c6
   rw [if_pos rfl] at H
   by_cases c7 : (a0_0 != a1_0) = true
   ·
    rw [if_pos c7] at H
    have c7b0 : (a0_0 != a1_0) = true := c7
    (try (have c7b1 : decide (a0_0 = a1_0) = false := by simpa using c7))
    (try (have c7b2 : (a0_0 == a1_0) = false := by simpa using c7))
    (try (have c7b3 : ¬ (a0_0 = a1_0) := by simpa using c7))
    clear c7
    obtain rfl := Option.some.inj H
    go_enter Tryz.func31, Tryz.ntmps31
    go_wp2_with (first | ((with_reducible refine gate_dst (N := 2) rfl ?_); refine boxA (N := 2) (cs := #[.bool a0_0, .int .u64 a0_1, .int .u64 a0_2, .int .i64 a0_3]) (t := 26) ?_; intro gb413 hg w8 hbox hb; have BK413 := Aside0.mk (hbox); have GE413 := (pZ HB hg); replace HB := (pS HB hb); clear hb hbox hg) | ((with_reducible refine gate_dst (N := 3) rfl ?_); refine boxA (N := 3) (cs := #[.bool a1_0, .int .u64 a1_1, .int .u64 a1_2]) (t := 24) ?_; intro gb414 hg w9 hbox hb; have BK414 := Aside0.mk (hbox); have GE414 := (pZ HB hg); have NB413_414 := (pL BK413 hg); have NB414_413 := (pG BK413 hg); replace BK413 := (pB BK413 hb); replace HB := (pS HB hb); clear hb hbox hg; have hnb10 := NB413_414.out; have hnc10 := NB414_413.out; obtain ⟨hcz11_0, hcz11_1, hcz11_2, hcz11_3, hfz11_0, hfz11_1, hfz11_2, hfz11_3⟩ := pC4 BK413) | ((with_reducible refine gate_callee (f := 27) rfl ?_); refine goesA (some 8) Tryz.func27 #[.agg #[.bool a0_0, .int .u64 a0_1, .int .u64 a0_2, .int .i64 a0_3]] ?_; (with_reducible refine (ddiref03_Valid.calls k a0_0 a0_1 a0_2 a0_3 true _ A3.out).mono ?_); rintro e w12 ⟨rfl, hb⟩; refine ⟨_, rfl, ?_⟩; replace BK413 := (pB BK413 hb); replace BK414 := (pB BK414 hb); replace HB := (pS HB hb); (try clear hb); obtain ⟨hcz13_0, hcz13_1, hcz13_2, hfz13_0, hfz13_1, hfz13_2⟩ := pC3 BK414) | (go_at_call 54; (with_reducible refine (ddiref02_Valid.calls a1_0 a1_1 a1_2 true _ A5.out).mono ?_); rintro e w14 ⟨rfl, hb⟩; replace BK413 := (pB BK413 hb); replace BK414 := (pB BK414 hb); replace HB := (pS HB hb); (try clear hb); obtain ⟨hcz15_0, hcz15_1, hcz15_2, hcz15_3, hfz15_0, hfz15_1, hfz15_2, hfz15_3⟩ := pC4 BK413; obtain ⟨hcz16_0, hcz16_1, hcz16_2, hfz16_0, hfz16_1, hfz16_2⟩ := pC3 BK414))
    go_ret
    exact pR (pE HB)
   ·
    rw [if_neg c7] at H
    have c7b0 : (a0_0 != a1_0) = false := by simpa using c7
    (try (have c7b1 : decide (a0_0 = a1_0) = true := by simpa using c7))
    (try (have c7b2 : (a0_0 == a1_0) = true := by simpa using c7))
    clear c7
    replace H := Option.bind_eq_some_iff.mp H
    obtain ⟨⟨t417, t418, t419, t420, t421⟩, A170, H⟩ := H
    replace H : (some ((t417 == a0_0 && (t418 == a0_1 && (t419 == a0_2))) && (t420 == a0_3))) = some r := H
    have A17 := Aside0.mk A170
    clear A170
    obtain rfl := Option.some.inj H
    go_enter Tryz.func31, Tryz.ntmps31
    go_wp2_with (first | ((with_reducible refine gate_dst (N := 2) rfl ?_); refine boxA (N := 2) (cs := #[.bool a0_0, .int .u64 a0_1, .int .u64 a0_2, .int .i64 a0_3]) (t := 26) ?_; intro gb413 hg w18 hbox hb; have BK413 := Aside0.mk (hbox); have GE413 := (pZ HB hg); replace HB := (pS HB hb); clear hb hbox hg) | ((with_reducible refine gate_dst (N := 3) rfl ?_); refine boxA (N := 3) (cs := #[.bool a1_0, .int .u64 a1_1, .int .u64 a1_2]) (t := 24) ?_; intro gb414 hg w19 hbox hb; have BK414 := Aside0.mk (hbox); have GE414 := (pZ HB hg); have NB413_414 := (pL BK413 hg); have NB414_413 := (pG BK413 hg); replace BK413 := (pB BK413 hb); replace HB := (pS HB hb); clear hb hbox hg; have hnb20 := NB413_414.out; have hnc20 := NB414_413.out; obtain ⟨hcz21_0, hcz21_1, hcz21_2, hcz21_3, hfz21_0, hfz21_1, hfz21_2, hfz21_3⟩ := pC4 BK413) | ((with_reducible refine gate_callee (f := 27) rfl ?_); refine goesA (some 8) Tryz.func27 #[.agg #[.bool a0_0, .int .u64 a0_1, .int .u64 a0_2, .int .i64 a0_3]] ?_; (with_reducible refine (ddiref03_Valid.calls k a0_0 a0_1 a0_2 a0_3 true _ A3.out).mono ?_); rintro e w22 ⟨rfl, hb⟩; refine ⟨_, rfl, ?_⟩; replace BK413 := (pB BK413 hb); replace BK414 := (pB BK414 hb); replace HB := (pS HB hb); (try clear hb); obtain ⟨hcz23_0, hcz23_1, hcz23_2, hfz23_0, hfz23_1, hfz23_2⟩ := pC3 BK414) | (go_at_call 54; (with_reducible refine (ddiref02_Valid.calls a1_0 a1_1 a1_2 true _ A5.out).mono ?_); rintro e w24 ⟨rfl, hb⟩; replace BK413 := (pB BK413 hb); replace BK414 := (pB BK414 hb); replace HB := (pS HB hb); (try clear hb); obtain ⟨hcz25_0, hcz25_1, hcz25_2, hcz25_3, hfz25_0, hfz25_1, hfz25_2, hfz25_3⟩ := pC4 BK413; obtain ⟨hcz26_0, hcz26_1, hcz26_2, hfz26_0, hfz26_1, hfz26_2⟩ := pC3 BK414) | ((with_reducible refine gate_callee (f := 25) rfl ?_); refine goesA (some 27) Tryz.func25 #[.agg #[.bool a1_0, .int .u64 a1_1, .int .u64 a1_2], .int .i64 a0_3] ?_; (with_reducible refine (ddiref03_Of.calls k a1_0 a1_1 a1_2 a0_3 t417 t418 t419 t420 t421 _ A17.out).mono ?_); rintro e w27 ⟨rfl, hb⟩; refine ⟨_, rfl, ?_⟩; replace BK413 := (pB BK413 hb); replace BK414 := (pB BK414 hb); replace HB := (pS HB hb); (try clear hb)) | ((with_reducible refine gate_dst (N := 5) rfl ?_); refine boxA (N := 5) (cs := #[.bool false, .int .u64 0, .int .u64 0, .int .i64 0]) (t := 26) ?_; intro gb422 hg w28 hbox hb; have BK422 := Aside0.mk (hbox); have GE422 := (pZ HB hg); have NB413_422 := (pL BK413 hg); have NB422_413 := (pG BK413 hg); have NB414_422 := (pL BK414 hg); have NB422_414 := (pG BK414 hg); replace BK413 := (pB BK413 hb); replace BK414 := (pB BK414 hb); replace HB := (pS HB hb); clear hb hbox hg; have hnb29 := NB422_413.out; have hnc29 := NB413_422.out; have hnb30 := NB422_414.out; have hnc30 := NB414_422.out; obtain ⟨hcz31_0, hcz31_1, hcz31_2, hcz31_3, hfz31_0, hfz31_1, hfz31_2, hfz31_3⟩ := pC4 BK422; obtain ⟨hcz32_0, hcz32_1, hcz32_2, hcz32_3, hfz32_0, hfz32_1, hfz32_2, hfz32_3⟩ := pC4 BK413))
    go_ret
    exact pR (pE HB)
  ·
   replace c6 := Bool.eq_false_iff.mpr c6
   subst c6
   rw [if_neg (show ¬ (false = true) by decide)] at H
   obtain rfl := Option.some.inj H
   go_enter Tryz.func31, Tryz.ntmps31
   go_wp2_with (first | ((with_reducible refine gate_dst (N := 2) rfl ?_); refine boxA (N := 2) (cs := #[.bool a0_0, .int .u64 a0_1, .int .u64 a0_2, .int .i64 a0_3]) (t := 26) ?_; intro gb413 hg w33 hbox hb; have BK413 := Aside0.mk (hbox); have GE413 := (pZ HB hg); replace HB := (pS HB hb); clear hb hbox hg) | ((with_reducible refine gate_dst (N := 3) rfl ?_); refine boxA (N := 3) (cs := #[.bool a1_0, .int .u64 a1_1, .int .u64 a1_2]) (t := 24) ?_; intro gb414 hg w34 hbox hb; have BK414 := Aside0.mk (hbox); have GE414 := (pZ HB hg); have NB413_414 := (pL BK413 hg); have NB414_413 := (pG BK413 hg); replace BK413 := (pB BK413 hb); replace HB := (pS HB hb); clear hb hbox hg; have hnb35 := NB413_414.out; have hnc35 := NB414_413.out; obtain ⟨hcz36_0, hcz36_1, hcz36_2, hcz36_3, hfz36_0, hfz36_1, hfz36_2, hfz36_3⟩ := pC4 BK413) | ((with_reducible refine gate_callee (f := 27) rfl ?_); refine goesA (some 8) Tryz.func27 #[.agg #[.bool a0_0, .int .u64 a0_1, .int .u64 a0_2, .int .i64 a0_3]] ?_; (with_reducible refine (ddiref03_Valid.calls k a0_0 a0_1 a0_2 a0_3 true _ A3.out).mono ?_); rintro e w37 ⟨rfl, hb⟩; refine ⟨_, rfl, ?_⟩; replace BK413 := (pB BK413 hb); replace BK414 := (pB BK414 hb); replace HB := (pS HB hb); (try clear hb); obtain ⟨hcz38_0, hcz38_1, hcz38_2, hfz38_0, hfz38_1, hfz38_2⟩ := pC3 BK414) | (go_at_call 54; (with_reducible refine (ddiref02_Valid.calls a1_0 a1_1 a1_2 false _ A5.out).mono ?_); rintro e w39 ⟨rfl, hb⟩; replace BK413 := (pB BK413 hb); replace BK414 := (pB BK414 hb); replace HB := (pS HB hb); (try clear hb)))
   go_ret
   exact pR (pE HB)
 ·
  replace c4 := Bool.eq_false_iff.mpr c4
  subst c4
  rw [if_neg (show ¬ (false = true) by decide)] at H
  obtain rfl := Option.some.inj H
  go_enter Tryz.func31, Tryz.ntmps31
  go_wp2_with (first | ((with_reducible refine gate_dst (N := 2) rfl ?_); refine boxA (N := 2) (cs := #[.bool a0_0, .int .u64 a0_1, .int .u64 a0_2, .int .i64 a0_3]) (t := 26) ?_; intro gb413 hg w40 hbox hb; have BK413 := Aside0.mk (hbox); have GE413 := (pZ HB hg); replace HB := (pS HB hb); clear hb hbox hg) | ((with_reducible refine gate_dst (N := 3) rfl ?_); refine boxA (N := 3) (cs := #[.bool a1_0, .int .u64 a1_1, .int .u64 a1_2]) (t := 24) ?_; intro gb414 hg w41 hbox hb; have BK414 := Aside0.mk (hbox); have GE414 := (pZ HB hg); have NB413_414 := (pL BK413 hg); have NB414_413 := (pG BK413 hg); replace BK413 := (pB BK413 hb); replace HB := (pS HB hb); clear hb hbox hg; have hnb42 := NB413_414.out; have hnc42 := NB414_413.out; obtain ⟨hcz43_0, hcz43_1, hcz43_2, hcz43_3, hfz43_0, hfz43_1, hfz43_2, hfz43_3⟩ := pC4 BK413) | ((with_reducible refine gate_callee (f := 27) rfl ?_); refine goesA (some 8) Tryz.func27 #[.agg #[.bool a0_0, .int .u64 a0_1, .int .u64 a0_2, .int .i64 a0_3]] ?_; (with_reducible refine (ddiref03_Valid.calls k a0_0 a0_1 a0_2 a0_3 false _ A3.out).mono ?_); rintro e w44 ⟨rfl, hb⟩; refine ⟨_, rfl, ?_⟩; replace BK413 := (pB BK413 hb); replace BK414 := (pB BK414 hb); replace HB := (pS HB hb); (try clear hb)))
  go_ret
  exact pR (pE HB)

/-! ### prefix_Within: function 32 -/
def prefix_Within.f (a0_0 : Bool) (a0_1 : Int) (a0_2 : Int) (a0_3 : Int) (a1_0 : Bool) (a1_1 : Int) (a1_2 : Int) (a1_3 : Int) : Option (Bool) := (prefix_Valid.f a0_0 a0_1 a0_2 a0_3).bind fun t425 => (if t425 = true then ((prefix_Valid.f a1_0 a1_1 a1_2 a1_3).bind fun t426 => (if t426 = true then (if a0_3 ≥ a1_3 then ((prefix_Contains.f a1_0 a1_1 a1_2 a1_3 a0_0 a0_1 a0_2).bind fun t427 => (some t427)) else (some false)) else (some false))) else (some false))
set_option maxHeartbeats 40000000 in
set_option maxRecDepth 100000 in
theorem prefix_Within.calls (a0_0 : Bool) (a0_1 : Int) (a0_2 : Int) (a0_3 : Int) (a1_0 : Bool) (a1_1 : Int) (a1_2 : Int) (a1_3 : Int) (r : Bool) (w : World) (h : prefix_Within.f a0_0 a0_1 a0_2 a0_3 a1_0 a1_1 a1_2 a1_3 = some r) :
 Calls Tryz.prog 32 #[.agg #[.bool a0_0, .int .u64 a0_1, .int .u64 a0_2, .int .i64 a0_3], .agg #[.bool a1_0, .int .u64 a1_1, .int .u64 a1_2, .int .i64 a1_3]] w fun e w' => e = .returned (.bool r) ∧ Below w.heap.size w w' := by
 have hu26 := Tryz.underlying26
 have hu24 := Tryz.underlying24
 have HB := Aside0.mk (Below.refl w.heap.size w)
 have H : ((prefix_Valid.f a0_0 a0_1 a0_2 a0_3).bind fun t425 => (if t425 = true then ((prefix_Valid.f a1_0 a1_1 a1_2 a1_3).bind fun t426 => (if t426 = true then (if a0_3 ≥ a1_3 then ((prefix_Contains.f a1_0 a1_1 a1_2 a1_3 a0_0 a0_1 a0_2).bind fun t427 => (some t427)) else (some false)) else (some false))) else (some false))) = some r := h
 clear h
 replace H := Option.bind_eq_some_iff.mp H
 obtain ⟨t425, A30, H⟩ := H
 have A3 := Aside0.mk A30
 clear A30
 by_cases c4 : t425 = true
 ·
  subst c4
  rw [if_pos rfl] at H
  replace H := Option.bind_eq_some_iff.mp H
  obtain ⟨t426, A50, H⟩ := H
  have A5 := Aside0.mk A50
  clear A50
  by_cases c6 : t426 = true
  ·
   subst c6
   rw [if_pos rfl] at H
   by_cases c7 : a0_3 ≥ a1_3
   ·
    rw [if_pos c7] at H
    have c7b0 := decide_eq_true c7
    clear c7
    replace H := Option.bind_eq_some_iff.mp H
    obtain ⟨t427, A80, H⟩ := H
    have A8 := Aside0.mk A80
    clear A80
    obtain rfl := Option.some.inj H
    go_enter Tryz.func32, Tryz.ntmps32
    go_wp2_with (first | ((with_reducible refine gate_dst (N := 2) rfl ?_); refine boxA (N := 2) (cs := #[.bool a0_0, .int .u64 a0_1, .int .u64 a0_2, .int .i64 a0_3]) (t := 26) ?_; intro gb423 hg w9 hbox hb; have BK423 := Aside0.mk (hbox); have GE423 := (pZ HB hg); replace HB := (pS HB hb); clear hb hbox hg) | ((with_reducible refine gate_dst (N := 3) rfl ?_); refine boxA (N := 3) (cs := #[.bool a1_0, .int .u64 a1_1, .int .u64 a1_2, .int .i64 a1_3]) (t := 26) ?_; intro gb424 hg w10 hbox hb; have BK424 := Aside0.mk (hbox); have GE424 := (pZ HB hg); have NB423_424 := (pL BK423 hg); have NB424_423 := (pG BK423 hg); replace BK423 := (pB BK423 hb); replace HB := (pS HB hb); clear hb hbox hg; have hnb11 := NB423_424.out; have hnc11 := NB424_423.out; obtain ⟨hcz12_0, hcz12_1, hcz12_2, hcz12_3, hfz12_0, hfz12_1, hfz12_2, hfz12_3⟩ := pC4 BK423) | ((with_reducible refine gate_callee (f := 26) rfl ?_); refine goesA (some 6) Tryz.func26 #[.agg #[.bool a0_0, .int .u64 a0_1, .int .u64 a0_2, .int .i64 a0_3]] ?_; (with_reducible refine (prefix_Valid.calls a0_0 a0_1 a0_2 a0_3 true _ A3.out).mono ?_); rintro e w13 ⟨rfl, hb⟩; refine ⟨_, rfl, ?_⟩; replace BK423 := (pB BK423 hb); replace BK424 := (pB BK424 hb); replace HB := (pS HB hb); (try clear hb); obtain ⟨hcz14_0, hcz14_1, hcz14_2, hcz14_3, hfz14_0, hfz14_1, hfz14_2, hfz14_3⟩ := pC4 BK424) | (go_at_call 26; (with_reducible refine (prefix_Valid.calls a1_0 a1_1 a1_2 a1_3 true _ A5.out).mono ?_); rintro e w15 ⟨rfl, hb⟩; replace BK423 := (pB BK423 hb); replace BK424 := (pB BK424 hb); replace HB := (pS HB hb); (try clear hb); obtain ⟨hcz16_0, hcz16_1, hcz16_2, hcz16_3, hfz16_0, hfz16_1, hfz16_2, hfz16_3⟩ := pC4 BK423; obtain ⟨hcz17_0, hcz17_1, hcz17_2, hcz17_3, hfz17_0, hfz17_1, hfz17_2, hfz17_3⟩ := pC4 BK424) | (go_at_call 30; (with_reducible refine (prefix_Contains.calls a1_0 a1_1 a1_2 a1_3 a0_0 a0_1 a0_2 t427 _ A8.out).mono ?_); rintro e w18 ⟨rfl, hb⟩; replace BK423 := (pB BK423 hb); replace BK424 := (pB BK424 hb); replace HB := (pS HB hb); (try clear hb)))
    go_ret
    exact pR (pE HB)
   ·
    rw [if_neg c7] at H
    have c7b0 := decide_eq_false c7
    clear c7
    obtain rfl := Option.some.inj H
    go_enter Tryz.func32, Tryz.ntmps32
    go_wp2_with (first | ((with_reducible refine gate_dst (N := 2) rfl ?_); refine boxA (N := 2) (cs := #[.bool a0_0, .int .u64 a0_1, .int .u64 a0_2, .int .i64 a0_3]) (t := 26) ?_; intro gb423 hg w19 hbox hb; have BK423 := Aside0.mk (hbox); have GE423 := (pZ HB hg); replace HB := (pS HB hb); clear hb hbox hg) | ((with_reducible refine gate_dst (N := 3) rfl ?_); refine boxA (N := 3) (cs := #[.bool a1_0, .int .u64 a1_1, .int .u64 a1_2, .int .i64 a1_3]) (t := 26) ?_; intro gb424 hg w20 hbox hb; have BK424 := Aside0.mk (hbox); have GE424 := (pZ HB hg); have NB423_424 := (pL BK423 hg); have NB424_423 := (pG BK423 hg); replace BK423 := (pB BK423 hb); replace HB := (pS HB hb); clear hb hbox hg; have hnb21 := NB423_424.out; have hnc21 := NB424_423.out; obtain ⟨hcz22_0, hcz22_1, hcz22_2, hcz22_3, hfz22_0, hfz22_1, hfz22_2, hfz22_3⟩ := pC4 BK423) | ((with_reducible refine gate_callee (f := 26) rfl ?_); refine goesA (some 6) Tryz.func26 #[.agg #[.bool a0_0, .int .u64 a0_1, .int .u64 a0_2, .int .i64 a0_3]] ?_; (with_reducible refine (prefix_Valid.calls a0_0 a0_1 a0_2 a0_3 true _ A3.out).mono ?_); rintro e w23 ⟨rfl, hb⟩; refine ⟨_, rfl, ?_⟩; replace BK423 := (pB BK423 hb); replace BK424 := (pB BK424 hb); replace HB := (pS HB hb); (try clear hb); obtain ⟨hcz24_0, hcz24_1, hcz24_2, hcz24_3, hfz24_0, hfz24_1, hfz24_2, hfz24_3⟩ := pC4 BK424) | (go_at_call 26; (with_reducible refine (prefix_Valid.calls a1_0 a1_1 a1_2 a1_3 true _ A5.out).mono ?_); rintro e w25 ⟨rfl, hb⟩; replace BK423 := (pB BK423 hb); replace BK424 := (pB BK424 hb); replace HB := (pS HB hb); (try clear hb); obtain ⟨hcz26_0, hcz26_1, hcz26_2, hcz26_3, hfz26_0, hfz26_1, hfz26_2, hfz26_3⟩ := pC4 BK423; obtain ⟨hcz27_0, hcz27_1, hcz27_2, hcz27_3, hfz27_0, hfz27_1, hfz27_2, hfz27_3⟩ := pC4 BK424))
    go_ret
    exact pR (pE HB)
  ·
   replace c6 := Bool.eq_false_iff.mpr c6
   subst c6
   rw [if_neg (show ¬ (false = true) by decide)] at H
   obtain rfl := Option.some.inj H
   go_enter Tryz.func32, Tryz.ntmps32
   go_wp2_with (first | ((with_reducible refine gate_dst (N := 2) rfl ?_); refine boxA (N := 2) (cs := #[.bool a0_0, .int .u64 a0_1, .int .u64 a0_2, .int .i64 a0_3]) (t := 26) ?_; intro gb423 hg w28 hbox hb; have BK423 := Aside0.mk (hbox); have GE423 := (pZ HB hg); replace HB := (pS HB hb); clear hb hbox hg) | ((with_reducible refine gate_dst (N := 3) rfl ?_); refine boxA (N := 3) (cs := #[.bool a1_0, .int .u64 a1_1, .int .u64 a1_2, .int .i64 a1_3]) (t := 26) ?_; intro gb424 hg w29 hbox hb; have BK424 := Aside0.mk (hbox); have GE424 := (pZ HB hg); have NB423_424 := (pL BK423 hg); have NB424_423 := (pG BK423 hg); replace BK423 := (pB BK423 hb); replace HB := (pS HB hb); clear hb hbox hg; have hnb30 := NB423_424.out; have hnc30 := NB424_423.out; obtain ⟨hcz31_0, hcz31_1, hcz31_2, hcz31_3, hfz31_0, hfz31_1, hfz31_2, hfz31_3⟩ := pC4 BK423) | ((with_reducible refine gate_callee (f := 26) rfl ?_); refine goesA (some 6) Tryz.func26 #[.agg #[.bool a0_0, .int .u64 a0_1, .int .u64 a0_2, .int .i64 a0_3]] ?_; (with_reducible refine (prefix_Valid.calls a0_0 a0_1 a0_2 a0_3 true _ A3.out).mono ?_); rintro e w32 ⟨rfl, hb⟩; refine ⟨_, rfl, ?_⟩; replace BK423 := (pB BK423 hb); replace BK424 := (pB BK424 hb); replace HB := (pS HB hb); (try clear hb); obtain ⟨hcz33_0, hcz33_1, hcz33_2, hcz33_3, hfz33_0, hfz33_1, hfz33_2, hfz33_3⟩ := pC4 BK424) | (go_at_call 26; (with_reducible refine (prefix_Valid.calls a1_0 a1_1 a1_2 a1_3 false _ A5.out).mono ?_); rintro e w34 ⟨rfl, hb⟩; replace BK423 := (pB BK423 hb); replace BK424 := (pB BK424 hb); replace HB := (pS HB hb); (try clear hb)))
   go_ret
   exact pR (pE HB)
 ·
  replace c4 := Bool.eq_false_iff.mpr c4
  subst c4
  rw [if_neg (show ¬ (false = true) by decide)] at H
  obtain rfl := Option.some.inj H
  go_enter Tryz.func32, Tryz.ntmps32
  go_wp2_with (first | ((with_reducible refine gate_dst (N := 2) rfl ?_); refine boxA (N := 2) (cs := #[.bool a0_0, .int .u64 a0_1, .int .u64 a0_2, .int .i64 a0_3]) (t := 26) ?_; intro gb423 hg w35 hbox hb; have BK423 := Aside0.mk (hbox); have GE423 := (pZ HB hg); replace HB := (pS HB hb); clear hb hbox hg) | ((with_reducible refine gate_dst (N := 3) rfl ?_); refine boxA (N := 3) (cs := #[.bool a1_0, .int .u64 a1_1, .int .u64 a1_2, .int .i64 a1_3]) (t := 26) ?_; intro gb424 hg w36 hbox hb; have BK424 := Aside0.mk (hbox); have GE424 := (pZ HB hg); have NB423_424 := (pL BK423 hg); have NB424_423 := (pG BK423 hg); replace BK423 := (pB BK423 hb); replace HB := (pS HB hb); clear hb hbox hg; have hnb37 := NB423_424.out; have hnc37 := NB424_423.out; obtain ⟨hcz38_0, hcz38_1, hcz38_2, hcz38_3, hfz38_0, hfz38_1, hfz38_2, hfz38_3⟩ := pC4 BK423) | ((with_reducible refine gate_callee (f := 26) rfl ?_); refine goesA (some 6) Tryz.func26 #[.agg #[.bool a0_0, .int .u64 a0_1, .int .u64 a0_2, .int .i64 a0_3]] ?_; (with_reducible refine (prefix_Valid.calls a0_0 a0_1 a0_2 a0_3 false _ A3.out).mono ?_); rintro e w39 ⟨rfl, hb⟩; refine ⟨_, rfl, ?_⟩; replace BK423 := (pB BK423 hb); replace BK424 := (pB BK424 hb); replace HB := (pS HB hb); (try clear hb)))
  go_ret
  exact pR (pE HB)

/-! ### ddiref03_Within: function 33 -/
def ddiref03_Within.f (k : Nat) (a0_0 : Bool) (a0_1 : Int) (a0_2 : Int) (a0_3 : Int) (a1_0 : Bool) (a1_1 : Int) (a1_2 : Int) (a1_3 : Int) : Option (Bool) := (ddiref03_Valid.f k a0_0 a0_1 a0_2 a0_3).bind fun t430 => (if t430 = true then (if a0_3 ≥ a1_3 then ((ddiref03_Contains.f k a1_0 a1_1 a1_2 a1_3 a0_0 a0_1 a0_2).bind fun t431 => (some t431)) else (some false)) else (some false))
theorem ddiref03_Within.mono : ∀ a0 a1 a2 a3 a4 a5 a6 a7 k, LeO (ddiref03_Within.f k a0 a1 a2 a3 a4 a5 a6 a7) (ddiref03_Within.f (k + 1) a0 a1 a2 a3 a4 a5 a6 a7) := by
 intro a0 a1 a2 a3 a4 a5 a6 a7 k
 unfold ddiref03_Within.f
 repeat' with_reducible first | exact ddiref03_Contains.mono _ _ _ _ _ _ _ _ | exact ddiref03_Valid.mono _ _ _ _ _ | exact LeO.refl _ | exact LeO.none _ | refine LeO.ite ?_ ?_ | refine LeO.bind ?_ (fun _ => ?_)
set_option maxHeartbeats 40000000 in
set_option maxRecDepth 100000 in
theorem ddiref03_Within.calls (k : Nat) (a0_0 : Bool) (a0_1 : Int) (a0_2 : Int) (a0_3 : Int) (a1_0 : Bool) (a1_1 : Int) (a1_2 : Int) (a1_3 : Int) (r : Bool) (w : World) (h : ddiref03_Within.f k a0_0 a0_1 a0_2 a0_3 a1_0 a1_1 a1_2 a1_3 = some r) :
 Calls Tryz.prog 33 #[.agg #[.bool a0_0, .int .u64 a0_1, .int .u64 a0_2, .int .i64 a0_3], .agg #[.bool a1_0, .int .u64 a1_1, .int .u64 a1_2, .int .i64 a1_3]] w fun e w' => e = .returned (.bool r) ∧ Below w.heap.size w w' := by
 have hu26 := Tryz.underlying26
 have hu24 := Tryz.underlying24
 have HB := Aside0.mk (Below.refl w.heap.size w)
 have H : ((ddiref03_Valid.f k a0_0 a0_1 a0_2 a0_3).bind fun t430 => (if t430 = true then (if a0_3 ≥ a1_3 then ((ddiref03_Contains.f k a1_0 a1_1 a1_2 a1_3 a0_0 a0_1 a0_2).bind fun t431 => (some t431)) else (some false)) else (some false))) = some r := h
 clear h
 replace H := Option.bind_eq_some_iff.mp H
 obtain ⟨t430, A30, H⟩ := H
 have A3 := Aside0.mk A30
 clear A30
 by_cases c4 : t430 = true
 ·
  subst c4
  rw [if_pos rfl] at H
  by_cases c5 : a0_3 ≥ a1_3
  ·
   rw [if_pos c5] at H
   have c5b0 := decide_eq_true c5
   clear c5
   replace H := Option.bind_eq_some_iff.mp H
   obtain ⟨t431, A60, H⟩ := H
   have A6 := Aside0.mk A60
   clear A60
   obtain rfl := Option.some.inj H
   go_enter Tryz.func33, Tryz.ntmps33
   go_wp2_with (first | ((with_reducible refine gate_dst (N := 2) rfl ?_); refine boxA (N := 2) (cs := #[.bool a0_0, .int .u64 a0_1, .int .u64 a0_2, .int .i64 a0_3]) (t := 26) ?_; intro gb428 hg w7 hbox hb; have BK428 := Aside0.mk (hbox); have GE428 := (pZ HB hg); replace HB := (pS HB hb); clear hb hbox hg) | ((with_reducible refine gate_dst (N := 3) rfl ?_); refine boxA (N := 3) (cs := #[.bool a1_0, .int .u64 a1_1, .int .u64 a1_2, .int .i64 a1_3]) (t := 26) ?_; intro gb429 hg w8 hbox hb; have BK429 := Aside0.mk (hbox); have GE429 := (pZ HB hg); have NB428_429 := (pL BK428 hg); have NB429_428 := (pG BK428 hg); replace BK428 := (pB BK428 hb); replace HB := (pS HB hb); clear hb hbox hg; have hnb9 := NB428_429.out; have hnc9 := NB429_428.out; obtain ⟨hcz10_0, hcz10_1, hcz10_2, hcz10_3, hfz10_0, hfz10_1, hfz10_2, hfz10_3⟩ := pC4 BK428) | ((with_reducible refine gate_callee (f := 27) rfl ?_); refine goesA (some 6) Tryz.func27 #[.agg #[.bool a0_0, .int .u64 a0_1, .int .u64 a0_2, .int .i64 a0_3]] ?_; (with_reducible refine (ddiref03_Valid.calls k a0_0 a0_1 a0_2 a0_3 true _ A3.out).mono ?_); rintro e w11 ⟨rfl, hb⟩; refine ⟨_, rfl, ?_⟩; replace BK428 := (pB BK428 hb); replace BK429 := (pB BK429 hb); replace HB := (pS HB hb); (try clear hb); obtain ⟨hcz12_0, hcz12_1, hcz12_2, hcz12_3, hfz12_0, hfz12_1, hfz12_2, hfz12_3⟩ := pC4 BK428; obtain ⟨hcz13_0, hcz13_1, hcz13_2, hcz13_3, hfz13_0, hfz13_1, hfz13_2, hfz13_3⟩ := pC4 BK429) | (go_at_call 31; (with_reducible refine (ddiref03_Contains.calls k a1_0 a1_1 a1_2 a1_3 a0_0 a0_1 a0_2 t431 _ A6.out).mono ?_); rintro e w14 ⟨rfl, hb⟩; replace BK428 := (pB BK428 hb); replace BK429 := (pB BK429 hb); replace HB := (pS HB hb); (try clear hb)))
   go_ret
   exact pR (pE HB)
  ·
   rw [if_neg c5] at H
   have c5b0 := decide_eq_false c5
   clear c5
   obtain rfl := Option.some.inj H
   go_enter Tryz.func33, Tryz.ntmps33
   go_wp2_with (first | ((with_reducible refine gate_dst (N := 2) rfl ?_); refine boxA (N := 2) (cs := #[.bool a0_0, .int .u64 a0_1, .int .u64 a0_2, .int .i64 a0_3]) (t := 26) ?_; intro gb428 hg w15 hbox hb; have BK428 := Aside0.mk (hbox); have GE428 := (pZ HB hg); replace HB := (pS HB hb); clear hb hbox hg) | ((with_reducible refine gate_dst (N := 3) rfl ?_); refine boxA (N := 3) (cs := #[.bool a1_0, .int .u64 a1_1, .int .u64 a1_2, .int .i64 a1_3]) (t := 26) ?_; intro gb429 hg w16 hbox hb; have BK429 := Aside0.mk (hbox); have GE429 := (pZ HB hg); have NB428_429 := (pL BK428 hg); have NB429_428 := (pG BK428 hg); replace BK428 := (pB BK428 hb); replace HB := (pS HB hb); clear hb hbox hg; have hnb17 := NB428_429.out; have hnc17 := NB429_428.out; obtain ⟨hcz18_0, hcz18_1, hcz18_2, hcz18_3, hfz18_0, hfz18_1, hfz18_2, hfz18_3⟩ := pC4 BK428) | ((with_reducible refine gate_callee (f := 27) rfl ?_); refine goesA (some 6) Tryz.func27 #[.agg #[.bool a0_0, .int .u64 a0_1, .int .u64 a0_2, .int .i64 a0_3]] ?_; (with_reducible refine (ddiref03_Valid.calls k a0_0 a0_1 a0_2 a0_3 true _ A3.out).mono ?_); rintro e w19 ⟨rfl, hb⟩; refine ⟨_, rfl, ?_⟩; replace BK428 := (pB BK428 hb); replace BK429 := (pB BK429 hb); replace HB := (pS HB hb); (try clear hb); obtain ⟨hcz20_0, hcz20_1, hcz20_2, hcz20_3, hfz20_0, hfz20_1, hfz20_2, hfz20_3⟩ := pC4 BK428; obtain ⟨hcz21_0, hcz21_1, hcz21_2, hcz21_3, hfz21_0, hfz21_1, hfz21_2, hfz21_3⟩ := pC4 BK429))
   go_ret
   exact pR (pE HB)
 ·
  replace c4 := Bool.eq_false_iff.mpr c4
  subst c4
  rw [if_neg (show ¬ (false = true) by decide)] at H
  obtain rfl := Option.some.inj H
  go_enter Tryz.func33, Tryz.ntmps33
  go_wp2_with (first | ((with_reducible refine gate_dst (N := 2) rfl ?_); refine boxA (N := 2) (cs := #[.bool a0_0, .int .u64 a0_1, .int .u64 a0_2, .int .i64 a0_3]) (t := 26) ?_; intro gb428 hg w22 hbox hb; have BK428 := Aside0.mk (hbox); have GE428 := (pZ HB hg); replace HB := (pS HB hb); clear hb hbox hg) | ((with_reducible refine gate_dst (N := 3) rfl ?_); refine boxA (N := 3) (cs := #[.bool a1_0, .int .u64 a1_1, .int .u64 a1_2, .int .i64 a1_3]) (t := 26) ?_; intro gb429 hg w23 hbox hb; have BK429 := Aside0.mk (hbox); have GE429 := (pZ HB hg); have NB428_429 := (pL BK428 hg); have NB429_428 := (pG BK428 hg); replace BK428 := (pB BK428 hb); replace HB := (pS HB hb); clear hb hbox hg; have hnb24 := NB428_429.out; have hnc24 := NB429_428.out; obtain ⟨hcz25_0, hcz25_1, hcz25_2, hcz25_3, hfz25_0, hfz25_1, hfz25_2, hfz25_3⟩ := pC4 BK428) | ((with_reducible refine gate_callee (f := 27) rfl ?_); refine goesA (some 6) Tryz.func27 #[.agg #[.bool a0_0, .int .u64 a0_1, .int .u64 a0_2, .int .i64 a0_3]] ?_; (with_reducible refine (ddiref03_Valid.calls k a0_0 a0_1 a0_2 a0_3 false _ A3.out).mono ?_); rintro e w26 ⟨rfl, hb⟩; refine ⟨_, rfl, ?_⟩; replace BK428 := (pB BK428 hb); replace BK429 := (pB BK429 hb); replace HB := (pS HB hb); (try clear hb)))
  go_ret
  exact pR (pE HB)

/-! ### prefix_Overlap: function 34 -/
def prefix_Overlap.f (a0_0 : Bool) (a0_1 : Int) (a0_2 : Int) (a0_3 : Int) (a1_0 : Bool) (a1_1 : Int) (a1_2 : Int) (a1_3 : Int) : Option (Bool) := (prefix_Within.f a0_0 a0_1 a0_2 a0_3 a1_0 a1_1 a1_2 a1_3).bind fun t434 => (if t434 = true then (some true) else ((prefix_Within.f a1_0 a1_1 a1_2 a1_3 a0_0 a0_1 a0_2 a0_3).bind fun t435 => (some t435)))
set_option maxHeartbeats 40000000 in
set_option maxRecDepth 100000 in
theorem prefix_Overlap.calls (a0_0 : Bool) (a0_1 : Int) (a0_2 : Int) (a0_3 : Int) (a1_0 : Bool) (a1_1 : Int) (a1_2 : Int) (a1_3 : Int) (r : Bool) (w : World) (h : prefix_Overlap.f a0_0 a0_1 a0_2 a0_3 a1_0 a1_1 a1_2 a1_3 = some r) :
 Calls Tryz.prog 34 #[.agg #[.bool a0_0, .int .u64 a0_1, .int .u64 a0_2, .int .i64 a0_3], .agg #[.bool a1_0, .int .u64 a1_1, .int .u64 a1_2, .int .i64 a1_3]] w fun e w' => e = .returned (.bool r) ∧ Below w.heap.size w w' := by
 have hu26 := Tryz.underlying26
 have HB := Aside0.mk (Below.refl w.heap.size w)
 have H : ((prefix_Within.f a0_0 a0_1 a0_2 a0_3 a1_0 a1_1 a1_2 a1_3).bind fun t434 => (if t434 = true then (some true) else ((prefix_Within.f a1_0 a1_1 a1_2 a1_3 a0_0 a0_1 a0_2 a0_3).bind fun t435 => (some t435)))) = some r := h
 clear h
 replace H := Option.bind_eq_some_iff.mp H
 obtain ⟨t434, A30, H⟩ := H
 have A3 := Aside0.mk A30
 clear A30
 by_cases c4 : t434 = true
 ·
  subst c4
  rw [if_pos rfl] at H
  obtain rfl := Option.some.inj H
  go_enter Tryz.func34, Tryz.ntmps34
  go_wp2_with (first | ((with_reducible refine gate_dst (N := 2) rfl ?_); refine boxA (N := 2) (cs := #[.bool a0_0, .int .u64 a0_1, .int .u64 a0_2, .int .i64 a0_3]) (t := 26) ?_; intro gb432 hg w5 hbox hb; have BK432 := Aside0.mk (hbox); have GE432 := (pZ HB hg); replace HB := (pS HB hb); clear hb hbox hg) | ((with_reducible refine gate_dst (N := 3) rfl ?_); refine boxA (N := 3) (cs := #[.bool a1_0, .int .u64 a1_1, .int .u64 a1_2, .int .i64 a1_3]) (t := 26) ?_; intro gb433 hg w6 hbox hb; have BK433 := Aside0.mk (hbox); have GE433 := (pZ HB hg); have NB432_433 := (pL BK432 hg); have NB433_432 := (pG BK432 hg); replace BK432 := (pB BK432 hb); replace HB := (pS HB hb); clear hb hbox hg; have hnb7 := NB432_433.out; have hnc7 := NB433_432.out; obtain ⟨hcz8_0, hcz8_1, hcz8_2, hcz8_3, hfz8_0, hfz8_1, hfz8_2, hfz8_3⟩ := pC4 BK432; obtain ⟨hcz9_0, hcz9_1, hcz9_2, hcz9_3, hfz9_0, hfz9_1, hfz9_2, hfz9_3⟩ := pC4 BK433) | ((with_reducible refine gate_callee (f := 32) rfl ?_); refine goesA (some 7) Tryz.func32 #[.agg #[.bool a0_0, .int .u64 a0_1, .int .u64 a0_2, .int .i64 a0_3], .agg #[.bool a1_0, .int .u64 a1_1, .int .u64 a1_2, .int .i64 a1_3]] ?_; (with_reducible refine (prefix_Within.calls a0_0 a0_1 a0_2 a0_3 a1_0 a1_1 a1_2 a1_3 true _ A3.out).mono ?_); rintro e w10 ⟨rfl, hb⟩; refine ⟨_, rfl, ?_⟩; replace BK432 := (pB BK432 hb); replace BK433 := (pB BK433 hb); replace HB := (pS HB hb); (try clear hb)))
  go_ret
  exact pR (pE HB)
 ·
  replace c4 := Bool.eq_false_iff.mpr c4
  subst c4
  rw [if_neg (show ¬ (false = true) by decide)] at H
  replace H := Option.bind_eq_some_iff.mp H
  obtain ⟨t435, A110, H⟩ := H
  have A11 := Aside0.mk A110
  clear A110
  obtain rfl := Option.some.inj H
  go_enter Tryz.func34, Tryz.ntmps34
  go_wp2_with (first | ((with_reducible refine gate_dst (N := 2) rfl ?_); refine boxA (N := 2) (cs := #[.bool a0_0, .int .u64 a0_1, .int .u64 a0_2, .int .i64 a0_3]) (t := 26) ?_; intro gb432 hg w12 hbox hb; have BK432 := Aside0.mk (hbox); have GE432 := (pZ HB hg); replace HB := (pS HB hb); clear hb hbox hg) | ((with_reducible refine gate_dst (N := 3) rfl ?_); refine boxA (N := 3) (cs := #[.bool a1_0, .int .u64 a1_1, .int .u64 a1_2, .int .i64 a1_3]) (t := 26) ?_; intro gb433 hg w13 hbox hb; have BK433 := Aside0.mk (hbox); have GE433 := (pZ HB hg); have NB432_433 := (pL BK432 hg); have NB433_432 := (pG BK432 hg); replace BK432 := (pB BK432 hb); replace HB := (pS HB hb); clear hb hbox hg; have hnb14 := NB432_433.out; have hnc14 := NB433_432.out; obtain ⟨hcz15_0, hcz15_1, hcz15_2, hcz15_3, hfz15_0, hfz15_1, hfz15_2, hfz15_3⟩ := pC4 BK432; obtain ⟨hcz16_0, hcz16_1, hcz16_2, hcz16_3, hfz16_0, hfz16_1, hfz16_2, hfz16_3⟩ := pC4 BK433) | ((with_reducible refine gate_callee (f := 32) rfl ?_); refine goesA (some 7) Tryz.func32 #[.agg #[.bool a0_0, .int .u64 a0_1, .int .u64 a0_2, .int .i64 a0_3], .agg #[.bool a1_0, .int .u64 a1_1, .int .u64 a1_2, .int .i64 a1_3]] ?_; (with_reducible refine (prefix_Within.calls a0_0 a0_1 a0_2 a0_3 a1_0 a1_1 a1_2 a1_3 false _ A3.out).mono ?_); rintro e w17 ⟨rfl, hb⟩; refine ⟨_, rfl, ?_⟩; replace BK432 := (pB BK432 hb); replace BK433 := (pB BK433 hb); replace HB := (pS HB hb); (try clear hb); obtain ⟨hcz18_0, hcz18_1, hcz18_2, hcz18_3, hfz18_0, hfz18_1, hfz18_2, hfz18_3⟩ := pC4 BK433; obtain ⟨hcz19_0, hcz19_1, hcz19_2, hcz19_3, hfz19_0, hfz19_1, hfz19_2, hfz19_3⟩ := pC4 BK432) | (go_at_call 32; (with_reducible refine (prefix_Within.calls a1_0 a1_1 a1_2 a1_3 a0_0 a0_1 a0_2 a0_3 t435 _ A11.out).mono ?_); rintro e w20 ⟨rfl, hb⟩; replace BK432 := (pB BK432 hb); replace BK433 := (pB BK433 hb); replace HB := (pS HB hb); (try clear hb)))
  go_ret
  exact pR (pE HB)

/-! ### ddiref03_Overlap: function 35 -/
def ddiref03_Overlap.f (k : Nat) (a0_0 : Bool) (a0_1 : Int) (a0_2 : Int) (a0_3 : Int) (a1_0 : Bool) (a1_1 : Int) (a1_2 : Int) (a1_3 : Int) : Option (Bool) := (ddiref03_Within.f k a0_0 a0_1 a0_2 a0_3 a1_0 a1_1 a1_2 a1_3).bind fun t438 => (if t438 = true then (some true) else ((ddiref03_Within.f k a1_0 a1_1 a1_2 a1_3 a0_0 a0_1 a0_2 a0_3).bind fun t439 => (some t439)))
theorem ddiref03_Overlap.mono : ∀ a0 a1 a2 a3 a4 a5 a6 a7 k, LeO (ddiref03_Overlap.f k a0 a1 a2 a3 a4 a5 a6 a7) (ddiref03_Overlap.f (k + 1) a0 a1 a2 a3 a4 a5 a6 a7) := by
 intro a0 a1 a2 a3 a4 a5 a6 a7 k
 unfold ddiref03_Overlap.f
 repeat' with_reducible first | exact ddiref03_Within.mono _ _ _ _ _ _ _ _ _ | exact LeO.refl _ | exact LeO.none _ | refine LeO.ite ?_ ?_ | refine LeO.bind ?_ (fun _ => ?_)
set_option maxHeartbeats 40000000 in
set_option maxRecDepth 100000 in
theorem ddiref03_Overlap.calls (k : Nat) (a0_0 : Bool) (a0_1 : Int) (a0_2 : Int) (a0_3 : Int) (a1_0 : Bool) (a1_1 : Int) (a1_2 : Int) (a1_3 : Int) (r : Bool) (w : World) (h : ddiref03_Overlap.f k a0_0 a0_1 a0_2 a0_3 a1_0 a1_1 a1_2 a1_3 = some r) :
 Calls Tryz.prog 35 #[.agg #[.bool a0_0, .int .u64 a0_1, .int .u64 a0_2, .int .i64 a0_3], .agg #[.bool a1_0, .int .u64 a1_1, .int .u64 a1_2, .int .i64 a1_3]] w fun e w' => e = .returned (.bool r) ∧ Below w.heap.size w w' := by
 have hu26 := Tryz.underlying26
 have HB := Aside0.mk (Below.refl w.heap.size w)
 have H : ((ddiref03_Within.f k a0_0 a0_1 a0_2 a0_3 a1_0 a1_1 a1_2 a1_3).bind fun t438 => (if t438 = true then (some true) else ((ddiref03_Within.f k a1_0 a1_1 a1_2 a1_3 a0_0 a0_1 a0_2 a0_3).bind fun t439 => (some t439)))) = some r := h
 clear h
 replace H := Option.bind_eq_some_iff.mp H
 obtain ⟨t438, A30, H⟩ := H
 have A3 := Aside0.mk A30
 clear A30
 by_cases c4 : t438 = true
 ·
  subst c4
  rw [if_pos rfl] at H
  obtain rfl := Option.some.inj H
  go_enter Tryz.func35, Tryz.ntmps35
  go_wp2_with (first | ((with_reducible refine gate_dst (N := 2) rfl ?_); refine boxA (N := 2) (cs := #[.bool a0_0, .int .u64 a0_1, .int .u64 a0_2, .int .i64 a0_3]) (t := 26) ?_; intro gb436 hg w5 hbox hb; have BK436 := Aside0.mk (hbox); have GE436 := (pZ HB hg); replace HB := (pS HB hb); clear hb hbox hg) | ((with_reducible refine gate_dst (N := 3) rfl ?_); refine boxA (N := 3) (cs := #[.bool a1_0, .int .u64 a1_1, .int .u64 a1_2, .int .i64 a1_3]) (t := 26) ?_; intro gb437 hg w6 hbox hb; have BK437 := Aside0.mk (hbox); have GE437 := (pZ HB hg); have NB436_437 := (pL BK436 hg); have NB437_436 := (pG BK436 hg); replace BK436 := (pB BK436 hb); replace HB := (pS HB hb); clear hb hbox hg; have hnb7 := NB436_437.out; have hnc7 := NB437_436.out; obtain ⟨hcz8_0, hcz8_1, hcz8_2, hcz8_3, hfz8_0, hfz8_1, hfz8_2, hfz8_3⟩ := pC4 BK436; obtain ⟨hcz9_0, hcz9_1, hcz9_2, hcz9_3, hfz9_0, hfz9_1, hfz9_2, hfz9_3⟩ := pC4 BK437) | ((with_reducible refine gate_callee (f := 33) rfl ?_); refine goesA (some 7) Tryz.func33 #[.agg #[.bool a0_0, .int .u64 a0_1, .int .u64 a0_2, .int .i64 a0_3], .agg #[.bool a1_0, .int .u64 a1_1, .int .u64 a1_2, .int .i64 a1_3]] ?_; (with_reducible refine (ddiref03_Within.calls k a0_0 a0_1 a0_2 a0_3 a1_0 a1_1 a1_2 a1_3 true _ A3.out).mono ?_); rintro e w10 ⟨rfl, hb⟩; refine ⟨_, rfl, ?_⟩; replace BK436 := (pB BK436 hb); replace BK437 := (pB BK437 hb); replace HB := (pS HB hb); (try clear hb)))
  go_ret
  exact pR (pE HB)
 ·
  replace c4 := Bool.eq_false_iff.mpr c4
  subst c4
  rw [if_neg (show ¬ (false = true) by decide)] at H
  replace H := Option.bind_eq_some_iff.mp H
  obtain ⟨t439, A110, H⟩ := H
  have A11 := Aside0.mk A110
  clear A110
  obtain rfl := Option.some.inj H
  go_enter Tryz.func35, Tryz.ntmps35
  go_wp2_with (first | ((with_reducible refine gate_dst (N := 2) rfl ?_); refine boxA (N := 2) (cs := #[.bool a0_0, .int .u64 a0_1, .int .u64 a0_2, .int .i64 a0_3]) (t := 26) ?_; intro gb436 hg w12 hbox hb; have BK436 := Aside0.mk (hbox); have GE436 := (pZ HB hg); replace HB := (pS HB hb); clear hb hbox hg) | ((with_reducible refine gate_dst (N := 3) rfl ?_); refine boxA (N := 3) (cs := #[.bool a1_0, .int .u64 a1_1, .int .u64 a1_2, .int .i64 a1_3]) (t := 26) ?_; intro gb437 hg w13 hbox hb; have BK437 := Aside0.mk (hbox); have GE437 := (pZ HB hg); have NB436_437 := (pL BK436 hg); have NB437_436 := (pG BK436 hg); replace BK436 := (pB BK436 hb); replace HB := (pS HB hb); clear hb hbox hg; have hnb14 := NB436_437.out; have hnc14 := NB437_436.out; obtain ⟨hcz15_0, hcz15_1, hcz15_2, hcz15_3, hfz15_0, hfz15_1, hfz15_2, hfz15_3⟩ := pC4 BK436; obtain ⟨hcz16_0, hcz16_1, hcz16_2, hcz16_3, hfz16_0, hfz16_1, hfz16_2, hfz16_3⟩ := pC4 BK437) | ((with_reducible refine gate_callee (f := 33) rfl ?_); refine goesA (some 7) Tryz.func33 #[.agg #[.bool a0_0, .int .u64 a0_1, .int .u64 a0_2, .int .i64 a0_3], .agg #[.bool a1_0, .int .u64 a1_1, .int .u64 a1_2, .int .i64 a1_3]] ?_; (with_reducible refine (ddiref03_Within.calls k a0_0 a0_1 a0_2 a0_3 a1_0 a1_1 a1_2 a1_3 false _ A3.out).mono ?_); rintro e w17 ⟨rfl, hb⟩; refine ⟨_, rfl, ?_⟩; replace BK436 := (pB BK436 hb); replace BK437 := (pB BK437 hb); replace HB := (pS HB hb); (try clear hb); obtain ⟨hcz18_0, hcz18_1, hcz18_2, hcz18_3, hfz18_0, hfz18_1, hfz18_2, hfz18_3⟩ := pC4 BK437; obtain ⟨hcz19_0, hcz19_1, hcz19_2, hcz19_3, hfz19_0, hfz19_1, hfz19_2, hfz19_3⟩ := pC4 BK436) | (go_at_call 33; (with_reducible refine (ddiref03_Within.calls k a1_0 a1_1 a1_2 a1_3 a0_0 a0_1 a0_2 a0_3 t439 _ A11.out).mono ?_); rintro e w20 ⟨rfl, hb⟩; replace BK436 := (pB BK436 hb); replace BK437 := (pB BK437 hb); replace HB := (pS HB hb); (try clear hb)))
  go_ret
  exact pR (pE HB)
end Go.Proofs.YteflcmmandlknaaGreatDoor.PA
