/- The Go functions in Lean, with the proofs that the code comes to these answers: printed by this session's program (wip/px) out of the seat's translation. Conditions: each theorem's own. -/
import Derived.Test.YteflcmmandlknaaGreatDoorPAx0
import Derived.Test.YteflcmmandlknaaGreatDoorPAx1
import Derived.Test.YteflcmmandlknaaGreatDoorPAx6
import Derived.Test.YteflcmmandlknaaGreatDoorPAx13
import Derived.Test.YteflcmmandlknaaGreatDoorPAx14
import Derived.Test.YteflcmmandlknaaGreatDoorPAx20
namespace Go.Proofs.YteflcmmandlknaaGreatDoor.PA
open Go.RowKit Go.Proofs.YteflcmmandlknaaGreatDoorW.PrintWords Go.Proofs.YteflcmmandlknaaGreatDoorW.PrintLast Go.Proofs.YteflcmmandlknaaGreatDoorW.PrintMore
attribute [local go_sem] max2_int min2_int max_two min_two max_three min_three max_four min_four   -- for this text's walks alone
attribute [local go_sem ↓] Ext.isSome_setCell
open Press
set_option linter.unusedVariables false
set_option linter.unusedSimpArgs false
attribute [local go_sem high] eqA24
/-! ### ddiref03_Cover: function 21 -/
mutual
def ddiref03_Cover.j0 : Nat → Bool → Bool → Int → Int → Bool → Int → Int → Option ((List (S26)))
 | 0, _, _, _, _, _, _, _ => none
 | k + 1, x37, x411000, x411001, x411002, x411003, x411004, x411005 => if x37 = true then (some ([] : List (S26))) else (ddiref03_Cover.l0 k ([] : List (S26)) 0 x411000 x411001 x411002 x411003 x411004 x411005 x411000 x411001 x411002)
def ddiref03_Cover.l0 : Nat → List (S26) → Int → Bool → Int → Int → Bool → Int → Int → Bool → Int → Int → Option ((List (S26)))
 | 0, _, _, _, _, _, _, _, _, _, _, _ => none
 | k + 1, x3, x5, x411000, x411001, x411002, x411003, x411004, x411005, x415000, x415001, x415002 => if x5 < 300 then ((ddiref03_biggest.f k x415000 x415001 x415002 x411003 x411004 x411005).bind fun bt415 => (if x3.length < 4398046511104 then ((some (x3 ++ [(⟨(⟨bt415.1, bt415.2.1, bt415.2.2.1⟩ : S24), bt415.2.2.2⟩ : S26)] : List (S26))).bind fun y420 => ((ddiref03_Bounds.f k bt415.1 bt415.2.1 bt415.2.2.1 bt415.2.2.2).bind fun bt423 => (if (bt423.2.2.2.1 == x411003 && (bt423.2.2.2.2.1 == x411004 && (bt423.2.2.2.2.2.1 == x411005))) = true then (some y420) else ((ddiref02_Add.f bt423.2.2.2.1 bt423.2.2.2.2.1 bt423.2.2.2.2.2.1 1).bind fun bt431 => (ddiref03_Cover.l0 k y420 (wrap64 (x5 + 1)) x411000 x411001 x411002 x411003 x411004 x411005 bt431.1 bt431.2.1 bt431.2.2.1))))) else (none))) else (some x3)
end
def ddiref03_Cover.f (k : Nat) (a0_0 : Bool) (a0_1 : Int) (a0_2 : Int) (a0_3 : Bool) (a0_4 : Int) (a0_5 : Int) : Option ((List (S26))) := (ddiref02_Valid.f a0_0 a0_1 a0_2).bind fun t411 => (if t411 = true then ((ddiref02_Valid.f a0_3 a0_4 a0_5).bind fun t412 => (if t412 = true then (if (a0_0 != a0_3) = true then (ddiref03_Cover.j0 k true a0_0 a0_1 a0_2 a0_3 a0_4 a0_5) else ((ddiref02_Compare.f a0_0 a0_1 a0_2 a0_3 a0_4 a0_5).bind fun t413 => (ddiref03_Cover.j0 k (decide (t413 > 0)) a0_0 a0_1 a0_2 a0_3 a0_4 a0_5))) else (ddiref03_Cover.j0 k true a0_0 a0_1 a0_2 a0_3 a0_4 a0_5))) else (ddiref03_Cover.j0 k true a0_0 a0_1 a0_2 a0_3 a0_4 a0_5))
theorem ddiref03_Cover.mono_l : ∀ k, (∀ y0 y1 y2 y3 y4 y5 y6, LeO (ddiref03_Cover.j0 k y0 y1 y2 y3 y4 y5 y6) (ddiref03_Cover.j0 (k + 1) y0 y1 y2 y3 y4 y5 y6)) ∧ (∀ y0 y1 y2 y3 y4 y5 y6 y7 y8 y9 y10, LeO (ddiref03_Cover.l0 k y0 y1 y2 y3 y4 y5 y6 y7 y8 y9 y10) (ddiref03_Cover.l0 (k + 1) y0 y1 y2 y3 y4 y5 y6 y7 y8 y9 y10))
 | 0 => ⟨fun _ _ _ _ _ _ _ r h => by simp [ddiref03_Cover.j0] at h, fun _ _ _ _ _ _ _ _ _ _ _ r h => by simp [ddiref03_Cover.l0] at h⟩
 | k + 1 => by
  obtain ⟨ih0, ih1⟩ := ddiref03_Cover.mono_l k
  refine ⟨?_, ?_⟩
  ·
   intro y0 y1 y2 y3 y4 y5 y6
   unfold ddiref03_Cover.j0
   repeat' with_reducible first | exact ih0 _ _ _ _ _ _ _ | exact ih1 _ _ _ _ _ _ _ _ _ _ _ | exact ddiref03_Bounds.mono _ _ _ _ _ | exact ddiref03_biggest.mono _ _ _ _ _ _ _ | exact LeO.refl _ | exact LeO.none _ | refine LeO.ite ?_ ?_ | refine LeO.bind ?_ (fun _ => ?_)
  ·
   intro y0 y1 y2 y3 y4 y5 y6 y7 y8 y9 y10
   unfold ddiref03_Cover.l0
   repeat' with_reducible first | exact ih0 _ _ _ _ _ _ _ | exact ih1 _ _ _ _ _ _ _ _ _ _ _ | exact ddiref03_Bounds.mono _ _ _ _ _ | exact ddiref03_biggest.mono _ _ _ _ _ _ _ | exact LeO.refl _ | exact LeO.none _ | refine LeO.ite ?_ ?_ | refine LeO.bind ?_ (fun _ => ?_)
theorem ddiref03_Cover.mono : ∀ a0 a1 a2 a3 a4 a5 k, LeO (ddiref03_Cover.f k a0 a1 a2 a3 a4 a5) (ddiref03_Cover.f (k + 1) a0 a1 a2 a3 a4 a5) := by
 intro a0 a1 a2 a3 a4 a5 k
 obtain ⟨ih0, ih1⟩ := ddiref03_Cover.mono_l k
 unfold ddiref03_Cover.f
 repeat' with_reducible first | exact ih0 _ _ _ _ _ _ _ | exact ih1 _ _ _ _ _ _ _ _ _ _ _ | exact ddiref03_Bounds.mono _ _ _ _ _ | exact ddiref03_biggest.mono _ _ _ _ _ _ _ | exact LeO.refl _ | exact LeO.none _ | refine LeO.ite ?_ ?_ | refine LeO.bind ?_ (fun _ => ?_)
set_option maxHeartbeats 40000000 in
set_option maxRecDepth 100000 in
theorem ddiref03_Cover.calls (k : Nat) (a0_0 : Bool) (a0_1 : Int) (a0_2 : Int) (a0_3 : Bool) (a0_4 : Int) (a0_5 : Int) (r : List (S26)) (w : World) (h : ddiref03_Cover.f k a0_0 a0_1 a0_2 a0_3 a0_4 a0_5 = some r) :
 Calls Tryz.prog 21 #[.agg #[.bool a0_0, .int .u64 a0_1, .int .u64 a0_2, .bool a0_3, .int .u64 a0_4, .int .u64 a0_5]] w fun e w' => ∃ v0_ : Value, e = .returned (v0_) ∧ Kd.R k26 26 w' w.heap.size (fun _ => True) v0_ r ∧ Below w.heap.size w w' := by
 have hu33 := Tryz.underlying33
 have hu24 := Tryz.underlying24
 have hu26 := Tryz.underlying26
 have HB := Aside0.mk (Below.refl w.heap.size w)
 have H : ((ddiref02_Valid.f a0_0 a0_1 a0_2).bind fun t411 => (if t411 = true then ((ddiref02_Valid.f a0_3 a0_4 a0_5).bind fun t412 => (if t412 = true then (if (a0_0 != a0_3) = true then (ddiref03_Cover.j0 k true a0_0 a0_1 a0_2 a0_3 a0_4 a0_5) else ((ddiref02_Compare.f a0_0 a0_1 a0_2 a0_3 a0_4 a0_5).bind fun t413 => (ddiref03_Cover.j0 k (decide (t413 > 0)) a0_0 a0_1 a0_2 a0_3 a0_4 a0_5))) else (ddiref03_Cover.j0 k true a0_0 a0_1 a0_2 a0_3 a0_4 a0_5))) else (ddiref03_Cover.j0 k true a0_0 a0_1 a0_2 a0_3 a0_4 a0_5))) = some r := h
 clear h
 have HC2 := Aside0.mk H
 clear H
 go_enter Tryz.func21, Tryz.ntmps21
 go_upto_region 1 with (first | ((with_reducible refine gate_dst (N := 1) rfl ?_); refine boxA (N := 1) (cs := #[.bool a0_0, .int .u64 a0_1, .int .u64 a0_2, .bool a0_3, .int .u64 a0_4, .int .u64 a0_5]) (t := 33) ?_; intro gb410 hg w3 hbox hb; have BK410 := Aside0.mk (hbox); have GE410 := (pZ HB hg); replace HB := (pS HB hb); clear hb hbox hg))
 (try simp only [Act.put, List.setIfInBounds_toArray, List.set_cons_zero, List.set_cons_succ])
 go_cut [37] (fun v37 wc => ∃ (kq : Nat) (x37_1 : Bool), v37 = .bool x37_1 ∧ Aside0 (ddiref03_Cover.j0 kq x37_1 a0_0 a0_1 a0_2 a0_3 a0_4 a0_5 = some r) ∧ Aside0 (kq ≤ k) ∧ Aside0 (wc.heap[gb410]? = some (.cells #[.bool a0_0, .int .u64 a0_1, .int .u64 a0_2, .bool a0_3, .int .u64 a0_4, .int .u64 a0_5] 33 (0, 0))) ∧ Aside0 (Below w.heap.size w wc))
 case first =>
  have H := HC2.out
  clear HC2
  replace H := Option.bind_eq_some_iff.mp H
  obtain ⟨t411, A40, H⟩ := H
  have A4 := Aside0.mk A40
  clear A40
  by_cases c5 : t411 = true
  ·
   subst c5
   rw [if_pos rfl] at H
   replace H := Option.bind_eq_some_iff.mp H
   obtain ⟨t412, A60, H⟩ := H
   have A6 := Aside0.mk A60
   clear A60
   by_cases c7 : t412 = true
   ·
    subst c7
    rw [if_pos rfl] at H
    by_cases c8 : (a0_0 != a0_3) = true
    ·
     rw [if_pos c8] at H
     have c8b0 : (a0_0 != a0_3) = true := c8
     (try (have c8b1 : decide (a0_0 = a0_3) = false := by simpa using c8))
     (try (have c8b2 : (a0_0 == a0_3) = false := by simpa using c8))
     (try (have c8b3 : ¬ (a0_0 = a0_3) := by simpa using c8))
     clear c8
     (first | rw [c8b0] | (simp only [i64_w, i32_w]; rw [c8b0]) | skip)
     have H' := Aside0.mk H
     clear H
     obtain ⟨hcz9_0, hcz9_1, hcz9_2, hcz9_3, hcz9_4, hcz9_5, hfz9_0, hfz9_1, hfz9_2, hfz9_3, hfz9_4, hfz9_5⟩ := pC6 BK410
     go_wp2_with (first | ((with_reducible refine gate_callee (f := 54) rfl ?_); refine goesA (some 13) Tryz.func54 #[.agg #[.bool a0_0, .int .u64 a0_1, .int .u64 a0_2]] ?_; (with_reducible refine (ddiref02_Valid.calls a0_0 a0_1 a0_2 true _ A4.out).mono ?_); rintro e w10 ⟨rfl, hb⟩; refine ⟨_, rfl, ?_⟩; replace BK410 := (pB BK410 hb); replace HB := (pS HB hb); (try clear hb); (try clear hk); obtain ⟨hcz11_0, hcz11_1, hcz11_2, hcz11_3, hcz11_4, hcz11_5, hfz11_0, hfz11_1, hfz11_2, hfz11_3, hfz11_4, hfz11_5⟩ := pC6 BK410) | (go_at_call 54; (with_reducible refine (ddiref02_Valid.calls a0_3 a0_4 a0_5 true _ A6.out).mono ?_); rintro e w12 ⟨rfl, hb⟩; replace BK410 := (pB BK410 hb); replace HB := (pS HB hb); (try clear hb); (try clear hk); obtain ⟨hcz13_0, hcz13_1, hcz13_2, hcz13_3, hcz13_4, hcz13_5, hfz13_0, hfz13_1, hfz13_2, hfz13_3, hfz13_4, hfz13_5⟩ := pC6 BK410))
     refine Met.intro ?_
     go_step
     (repeat apply Exists.intro)
     refine ⟨?rel, ?heq_⟩
     case heq_ => first | rfl | (rw [c8b0]) | (simp only [c8b0])
     case rel => exact ⟨_, (true), pT, H', ⟨by first | omega | exact Nat.le_refl _⟩, ⟨pM BK410⟩, ⟨pE HB⟩⟩
    ·
     rw [if_neg c8] at H
     have c8b0 : (a0_0 != a0_3) = false := by simpa using c8
     (try (have c8b1 : decide (a0_0 = a0_3) = true := by simpa using c8))
     (try (have c8b2 : (a0_0 == a0_3) = true := by simpa using c8))
     clear c8
     (first | rw [c8b0] | (simp only [i64_w, i32_w]; rw [c8b0]) | skip)
     replace H := Option.bind_eq_some_iff.mp H
     obtain ⟨t413, A140, H⟩ := H
     have A14 := Aside0.mk A140
     clear A140
     have H' := Aside0.mk H
     clear H
     obtain ⟨hcz15_0, hcz15_1, hcz15_2, hcz15_3, hcz15_4, hcz15_5, hfz15_0, hfz15_1, hfz15_2, hfz15_3, hfz15_4, hfz15_5⟩ := pC6 BK410
     go_wp2_with (first | ((with_reducible refine gate_callee (f := 54) rfl ?_); refine goesA (some 13) Tryz.func54 #[.agg #[.bool a0_0, .int .u64 a0_1, .int .u64 a0_2]] ?_; (with_reducible refine (ddiref02_Valid.calls a0_0 a0_1 a0_2 true _ A4.out).mono ?_); rintro e w16 ⟨rfl, hb⟩; refine ⟨_, rfl, ?_⟩; replace BK410 := (pB BK410 hb); replace HB := (pS HB hb); (try clear hb); (try clear hk); obtain ⟨hcz17_0, hcz17_1, hcz17_2, hcz17_3, hcz17_4, hcz17_5, hfz17_0, hfz17_1, hfz17_2, hfz17_3, hfz17_4, hfz17_5⟩ := pC6 BK410) | (go_at_call 54; (with_reducible refine (ddiref02_Valid.calls a0_3 a0_4 a0_5 true _ A6.out).mono ?_); rintro e w18 ⟨rfl, hb⟩; replace BK410 := (pB BK410 hb); replace HB := (pS HB hb); (try clear hb); (try clear hk); obtain ⟨hcz19_0, hcz19_1, hcz19_2, hcz19_3, hcz19_4, hcz19_5, hfz19_0, hfz19_1, hfz19_2, hfz19_3, hfz19_4, hfz19_5⟩ := pC6 BK410) | (go_at_call 55; (with_reducible refine (ddiref02_Compare.calls a0_0 a0_1 a0_2 a0_3 a0_4 a0_5 t413 _ A14.out).mono ?_); rintro e w20 ⟨rfl, hb⟩; replace BK410 := (pB BK410 hb); replace HB := (pS HB hb); (try clear hb); (try clear hk)))
     refine Met.intro ?_
     go_step
     (repeat apply Exists.intro)
     refine ⟨?rel, ?heq_⟩
     case heq_ => first | rfl | (rw [c8b0]) | (simp only [c8b0])
     case rel => exact ⟨_, (decide (t413 > 0)), pT, H', ⟨by first | omega | exact Nat.le_refl _⟩, ⟨pM BK410⟩, ⟨pE HB⟩⟩
   ·
    replace c7 := Bool.eq_false_iff.mpr c7
    subst c7
    rw [if_neg (show ¬ (false = true) by decide)] at H
    have H' := Aside0.mk H
    clear H
    obtain ⟨hcz21_0, hcz21_1, hcz21_2, hcz21_3, hcz21_4, hcz21_5, hfz21_0, hfz21_1, hfz21_2, hfz21_3, hfz21_4, hfz21_5⟩ := pC6 BK410
    go_wp2_with (first | ((with_reducible refine gate_callee (f := 54) rfl ?_); refine goesA (some 13) Tryz.func54 #[.agg #[.bool a0_0, .int .u64 a0_1, .int .u64 a0_2]] ?_; (with_reducible refine (ddiref02_Valid.calls a0_0 a0_1 a0_2 true _ A4.out).mono ?_); rintro e w22 ⟨rfl, hb⟩; refine ⟨_, rfl, ?_⟩; replace BK410 := (pB BK410 hb); replace HB := (pS HB hb); (try clear hb); (try clear hk); obtain ⟨hcz23_0, hcz23_1, hcz23_2, hcz23_3, hcz23_4, hcz23_5, hfz23_0, hfz23_1, hfz23_2, hfz23_3, hfz23_4, hfz23_5⟩ := pC6 BK410) | (go_at_call 54; (with_reducible refine (ddiref02_Valid.calls a0_3 a0_4 a0_5 false _ A6.out).mono ?_); rintro e w24 ⟨rfl, hb⟩; replace BK410 := (pB BK410 hb); replace HB := (pS HB hb); (try clear hb); (try clear hk)))
    go_meet
    case rel => exact ⟨_, (true), pT, H', ⟨by first | omega | exact Nat.le_refl _⟩, ⟨pM BK410⟩, ⟨pE HB⟩⟩
  ·
   replace c5 := Bool.eq_false_iff.mpr c5
   subst c5
   rw [if_neg (show ¬ (false = true) by decide)] at H
   have H' := Aside0.mk H
   clear H
   obtain ⟨hcz25_0, hcz25_1, hcz25_2, hcz25_3, hcz25_4, hcz25_5, hfz25_0, hfz25_1, hfz25_2, hfz25_3, hfz25_4, hfz25_5⟩ := pC6 BK410
   go_wp2_with (first | ((with_reducible refine gate_callee (f := 54) rfl ?_); refine goesA (some 13) Tryz.func54 #[.agg #[.bool a0_0, .int .u64 a0_1, .int .u64 a0_2]] ?_; (with_reducible refine (ddiref02_Valid.calls a0_0 a0_1 a0_2 false _ A4.out).mono ?_); rintro e w26 ⟨rfl, hb⟩; refine ⟨_, rfl, ?_⟩; replace BK410 := (pB BK410 hb); replace HB := (pS HB hb); (try clear hb); (try clear hk)))
   go_meet
   case rel => exact ⟨_, (true), pT, H', ⟨by first | omega | exact Nat.le_refl _⟩, ⟨pM BK410⟩, ⟨pE HB⟩⟩
 case rest =>
  clear HC2
  obtain ⟨kq, x37_1, rfl, HA, HJ1, BK410, HB⟩ := hcut
  cases kq with
  | zero => exact absurd HA.out (by simp [ddiref03_Cover.j0])
  | succ kj1 =>
   have H := HA.out
   clear HA
   simp only [ddiref03_Cover.j0] at H
   by_cases c27 : x37_1 = true
   ·
    subst c27
    rw [if_pos rfl] at H
    obtain rfl := Option.some.inj H
    go_wp2
    go_ret
    exact ⟨_, by first | rfl | (simp [errW_none, errW_some] <;> rfl) | (simp [*, errW_none, errW_some] <;> rfl), by first | exact Kd.R_nil _ _ _ _ _ | exact Kd.N_nil _ _ _ _ _ | exact Kd.V_nil _ _ _ _ _ | exact Kd.Q_nil _ _ _ _ _ | exact Kd.S_nil _ _ _ _ _, by repeat (first | (with_reducible first | exact HB.out | apply below_alloc | apply pw_below_drewN | apply below_drew1 | refine below_set ?_ GE410.out) | exact HB.out)⟩
   ·
    replace c27 := Bool.eq_false_iff.mpr c27
    subst c27
    rw [if_neg (show ¬ (false = true) by decide)] at H
    have H' := Aside0.mk H
    clear H
    obtain ⟨hcz28_0, hcz28_1, hcz28_2, hcz28_3, hcz28_4, hcz28_5, hfz28_0, hfz28_1, hfz28_2, hfz28_3, hfz28_4, hfz28_5⟩ := pC6 BK410
    go_wp2_with (first | ((with_reducible refine gate_dst (N := 4) rfl ?_); refine boxA (N := 4) (cs := #[.bool false, .int .u64 0, .int .u64 0]) (t := 24) ?_; intro gb414 hg w29 hbox hb; have BK414 := Aside0.mk (hbox); have GE414 := (pZ HB hg); have NB410_414 := (pL BK410 hg); have NB414_410 := (pG BK410 hg); replace BK410 := (pB BK410 hb); replace HB := (pS HB hb); clear hb hbox hg; have hnb30 := NB414_410.out; have hnc30 := NB410_414.out; obtain ⟨hcz31_0, hcz31_1, hcz31_2, hfz31_0, hfz31_1, hfz31_2⟩ := pC3 BK414))
    go_loopg [3, 5] kj1 (fun kq v3 v5 w' => ∃ (x3_2 : List (S26)) (x5_2 : Int) (x415000_2 : Bool) (x415001_2 : Int) (x415002_2 : Int), v5 = .int .i64 x5_2 ∧ Aside0 (ddiref03_Cover.l0 kq x3_2 x5_2 a0_0 a0_1 a0_2 a0_3 a0_4 a0_5 x415000_2 x415001_2 x415002_2 = some r) ∧ Aside0 (kq ≤ kj1) ∧ Aside0 (Kd.R k26 26 w' w.heap.size (fun _ => True) v3 x3_2) ∧ Aside0 (w'.heap[gb410]? = some (.cells #[.bool a0_0, .int .u64 a0_1, .int .u64 a0_2, .bool a0_3, .int .u64 a0_4, .int .u64 a0_5] 33 (0, 0))) ∧ Aside0 (w'.heap[gb414]? = some (.cells #[.bool x415000_2, .int .u64 x415001_2, .int .u64 x415002_2] 24 (0, 0))) ∧ Aside0 (Below w.heap.size w w'))
    case atStart => exact ⟨(([] : List (S26))), (0), (a0_0), (a0_1), (a0_2), pT, H', ⟨Nat.le_refl _⟩, ⟨by first | exact Kd.R_nil _ _ _ _ _ | exact Kd.N_nil _ _ _ _ _ | exact Kd.V_nil _ _ _ _ _ | exact Kd.Q_nil _ _ _ _ _ | exact Kd.S_nil _ _ _ _ _⟩, ⟨by (with_reducible repeat (first | refine blk_drewN ?_ _ | refine blk_drew ?_ | refine blk_alloc ?_ _)); refine blk_far ?_ NB410_414.out _; (with_reducible repeat (first | refine blk_drewN ?_ _ | refine blk_drew ?_ | refine blk_alloc ?_ _)); refine blk_far ?_ NB410_414.out _; (with_reducible repeat (first | refine blk_drewN ?_ _ | refine blk_drew ?_ | refine blk_alloc ?_ _)); refine blk_far ?_ NB410_414.out _; (with_reducible repeat (first | refine blk_drewN ?_ _ | refine blk_drew ?_ | refine blk_alloc ?_ _)); exact BK410.out⟩, ⟨by (with_reducible repeat (first | refine blk_drewN ?_ _ | refine blk_drew ?_ | refine blk_alloc ?_ _)); refine blk_put (cs := #[.bool a0_0, .int .u64 a0_1, .int .u64 0]) ?_ 2 _ rfl; (with_reducible repeat (first | refine blk_drewN ?_ _ | refine blk_drew ?_ | refine blk_alloc ?_ _)); refine blk_put (cs := #[.bool a0_0, .int .u64 0, .int .u64 0]) ?_ 1 _ rfl; (with_reducible repeat (first | refine blk_drewN ?_ _ | refine blk_drew ?_ | refine blk_alloc ?_ _)); refine blk_put (cs := #[.bool false, .int .u64 0, .int .u64 0]) ?_ 0 _ rfl; (with_reducible repeat (first | refine blk_drewN ?_ _ | refine blk_drew ?_ | refine blk_alloc ?_ _)); exact BK414.out⟩, ⟨pE HB⟩⟩
    case round =>
     clear H'
     try clear c27
     try clear hcz28_0 hcz28_1 hcz28_2 hcz28_3 hcz28_4 hcz28_5
     try clear hcz31_0 hcz31_1 hcz31_2
     try clear hfz28_0 hfz28_1 hfz28_2 hfz28_3 hfz28_4 hfz28_5
     try clear hfz31_0 hfz31_1 hfz31_2
     obtain ⟨x3_2, x5_2, x415000_2, x415001_2, x415002_2, rfl, HA, HK2, HO_3, BK410, BK414, HB⟩ := hrel
     cases gk with
     | zero => exact absurd HA.out (by simp [ddiref03_Cover.l0])
     | succ k2 =>
      have H := HA.out
      clear HA
      simp only [ddiref03_Cover.l0] at H
      by_cases c32 : x5_2 < 300
      ·
       rw [if_pos c32] at H
       have c32b0 := decide_eq_true c32
       clear c32
       replace H := Option.bind_eq_some_iff.mp H
       obtain ⟨⟨t415, t416, t417, t418⟩, A330, H⟩ := H
       replace H : (if x3_2.length < 4398046511104 then ((some (x3_2 ++ [(⟨(⟨t415, t416, t417⟩ : S24), t418⟩ : S26)] : List (S26))).bind fun y420 => ((ddiref03_Bounds.f k2 t415 t416 t417 t418).bind fun bt423 => (if (bt423.2.2.2.1 == a0_3 && (bt423.2.2.2.2.1 == a0_4 && (bt423.2.2.2.2.2.1 == a0_5))) = true then (some y420) else ((ddiref02_Add.f bt423.2.2.2.1 bt423.2.2.2.2.1 bt423.2.2.2.2.2.1 1).bind fun bt431 => (ddiref03_Cover.l0 k2 y420 (wrap64 (x5_2 + 1)) a0_0 a0_1 a0_2 a0_3 a0_4 a0_5 bt431.1 bt431.2.1 bt431.2.2.1))))) else (none)) = some r := H
       have A33 := Aside0.mk A330
       clear A330
       by_cases c34 : x3_2.length < 4398046511104
       ·
        rw [if_pos c34] at H
        have LMc34 := Aside0.mk c34
        clear c34
        obtain ⟨y420, hy420⟩ : ∃ y_ : List (S26), y_ = (x3_2 ++ [(⟨(⟨t415, t416, t417⟩ : S24), t418⟩ : S26)]) := ⟨_, rfl⟩
        replace H : ((ddiref03_Bounds.f k2 t415 t416 t417 t418).bind fun bt423 => (if (bt423.2.2.2.1 == a0_3 && (bt423.2.2.2.2.1 == a0_4 && (bt423.2.2.2.2.2.1 == a0_5))) = true then (some y420) else ((ddiref02_Add.f bt423.2.2.2.1 bt423.2.2.2.2.1 bt423.2.2.2.2.2.1 1).bind fun bt431 => (ddiref03_Cover.l0 k2 y420 (wrap64 (x5_2 + 1)) a0_0 a0_1 a0_2 a0_3 a0_4 a0_5 bt431.1 bt431.2.1 bt431.2.2.1)))) = some r := by first | (rw [hy420]; with_reducible exact H) | (have H2_ := (Option.bind_some _ _).symm.trans H; rw [hy420]; with_reducible exact H2_) | (have H2_ := (Option.bind_some _ _).symm.trans H; with_reducible exact H2_) | with_reducible exact H | (rw [hy420]; exact H) | exact H
        have Ny420 := Aside0.mk hy420
        clear hy420
        replace H := Option.bind_eq_some_iff.mp H
        obtain ⟨⟨t423, t424, t425, t426, t427, t428, t429⟩, A350, H⟩ := H
        replace H : (if (t426 == a0_3 && (t427 == a0_4 && (t428 == a0_5))) = true then (some y420) else ((ddiref02_Add.f t426 t427 t428 1).bind fun bt431 => (ddiref03_Cover.l0 k2 y420 (wrap64 (x5_2 + 1)) a0_0 a0_1 a0_2 a0_3 a0_4 a0_5 bt431.1 bt431.2.1 bt431.2.2.1))) = some r := H
        have A35 := Aside0.mk A350
        clear A350
        by_cases c36 : (t426 == a0_3 && (t427 == a0_4 && (t428 == a0_5))) = true
        ·
         rw [if_pos c36] at H
         have c36b0 : (t426 == a0_3 && (t427 == a0_4 && (t428 == a0_5))) = true := c36
         (try (have c36b1 : decide (t426 = a0_3 && (t427 == a0_4 && (t428 == a0_5))) = true := by simpa using c36))
         (try (have c36b2 : (t426 == a0_3 && (t427 == a0_4 && (t428 == a0_5))) = true := by simpa using c36))
         clear c36
         obtain rfl := Option.some.inj H
         have hnb37 := NB414_410.out
         have hnc37 := NB410_414.out
         obtain ⟨hcz38_0, hcz38_1, hcz38_2, hfz38_0, hfz38_1, hfz38_2⟩ := pC3 BK414
         obtain ⟨hcz39_0, hcz39_1, hcz39_2, hcz39_3, hcz39_4, hcz39_5, hfz39_0, hfz39_1, hfz39_2, hfz39_3, hfz39_4, hfz39_5⟩ := pC6 BK410
         go_wp2_with (first | ((with_reducible refine gate_callee (f := 56) rfl ?_); refine goesA (some 47) Tryz.func56 #[.agg #[.bool x415000_2, .int .u64 x415001_2, .int .u64 x415002_2], .agg #[.bool a0_3, .int .u64 a0_4, .int .u64 a0_5]] ?_; (with_reducible refine (ddiref03_biggest.calls k2 x415000_2 x415001_2 x415002_2 a0_3 a0_4 a0_5 t415 t416 t417 t418 _ A33.out).mono ?_); rintro e w40 ⟨rfl, hb⟩; refine ⟨_, rfl, ?_⟩; replace HO_3 := Aside0.mk (Kd.R_below (by (with_reducible repeat (first | apply Kd.R_alloc | apply Kd.R_drewN | apply Kd.R_drew)); exact HO_3.out) hb); replace BK410 := (pB BK410 hb); replace BK414 := (pB BK414 hb); replace HB := (pS HB hb); (try clear hb); (try clear hk)) | ((with_reducible refine gate_dst (N := 6) rfl ?_); refine boxA (N := 6) (cs := #[.bool false, .int .u64 0, .int .u64 0, .int .i64 0]) (t := 26) ?_; intro gb419 hg w41 hbox hb; have BK419 := Aside0.mk (hbox); have GW419 := (pZ HB hg); have GE419 := (pZ HB hg); have NB410_419 := (pL BK410 hg); have NB419_410 := (pG BK410 hg); have NB414_419 := (pL BK414 hg); have NB419_414 := (pG BK414 hg); replace HO_3 := Aside0.mk (Kd.R_below (Kd.R_elderB (by (with_reducible repeat (first | apply Kd.R_alloc | apply Kd.R_drewN | apply Kd.R_drew)); exact HO_3.out) gb419 (Nat.le_of_eq hg.symm)) hb); replace BK410 := (pB BK410 hb); replace BK414 := (pB BK414 hb); replace HB := (pS HB hb); clear hb hbox hg; have hnb42 := NB419_410.out; have hnc42 := NB410_419.out; have hnb43 := NB419_414.out; have hnc43 := NB414_419.out; obtain ⟨hcz44_0, hcz44_1, hcz44_2, hcz44_3, hfz44_0, hfz44_1, hfz44_2, hfz44_3⟩ := pC4 BK419) | ((with_reducible refine gate_builtin (b := .append) (xs := #[.tmp 48, .tmp 50]) rfl ?_); at_builtin; refine Kd.R_append k26 (w0 := w) w.heap.size rfl (.tmp 48) (.tmp 50) 45 26 (.agg #[(.bool false), (.int .u64 0), (.int .u64 0), (.int .i64 0)]) 32 rfl Tryz.underlying45 info26 rfl (by decide) (by omega) u3 x3_2 (⟨(⟨t415, t416, t417⟩ : S24), t418⟩ : S26) [.bool t415, .int .u64 t416, .int .u64 t417, .int .i64 t418] (fun k_ => k_ ≠ gb419) (fun _ => False) rfl (by first | (go_simp; done) | (go_simp; rfl)) ?aP (fun _ hk => hk.elim) ?aF ?aO ?aB ?aS ?aL ?_; (case aP => exact k26_mkM _ _ _ (⟨(⟨t415, t416, t417⟩ : S24), t418⟩ : S26)); (case aB => exact (by repeat (first | (with_reducible first | exact HB.out | apply below_alloc | apply pw_below_drewN | apply below_drew1 | refine below_set ?_ GE410.out | refine below_set ?_ GE414.out | refine below_set ?_ GE419.out) | exact HB.out))); (case aF => exact (fun k_ hk => Kd.freshB (g := gb419) (o := .cells #[.bool t415, .int .u64 t416, .int .u64 t417, .int .i64 t418] 26 (0, 0)) (pP (pP (pP (pP (pM BK419))))) k_ hk)); (case aO => exact (by (with_reducible repeat (first | apply Kd.R_alloc | apply Kd.R_drewN | apply Kd.R_drew)); exact Kd.R_mono (Kd.R_far (p := ⟨gb419, 3, none⟩) (Kd.R_far (p := ⟨gb419, 2, none⟩) (Kd.R_far (p := ⟨gb419, 1, none⟩) (Kd.R_far (p := ⟨gb419, 0, none⟩) (Kd.R_mono HO_3.out (fun k_ hk => (⟨hk, hk.2⟩ : _ ∧ k_ ≠ gb419))) (fun _ hk => hk.2) (.bool t415)) (fun _ hk => hk.2) (.int .u64 t416)) (fun _ hk => hk.2) (.int .u64 t417)) (fun _ hk => hk.2) (.int .i64 t418)) (fun _ hk => hk.1.2))); (case aS => exact (below_size (by repeat (first | (with_reducible first | exact HB.out | apply below_alloc | apply pw_below_drewN | apply below_drew1 | refine below_set ?_ GE410.out | refine below_set ?_ GE414.out | refine below_set ?_ GE419.out) | exact HB.out)))); (case aL => have := LMc34.out; omega); intro v421 w45 ho hb hg hat; rw [← Ny420.out] at ho; have HO422 := Aside0.mk (ho); replace BK410 := Aside0.mk (blk_grown (g := gb410) (o := .cells #[.bool a0_0, .int .u64 a0_1, .int .u64 a0_2, .bool a0_3, .int .u64 a0_4, .int .u64 a0_5] 33 (0, 0)) (pK NB410_419 (pK NB410_419 (pK NB410_419 (pK NB410_419 (pM BK410))))) hg (Kd.R_ne HO_3.out BK410.out (by decide))); replace BK414 := Aside0.mk (blk_grown (g := gb414) (o := .cells #[.bool x415000_2, .int .u64 x415001_2, .int .u64 x415002_2] 24 (0, 0)) (pK NB414_419 (pK NB414_419 (pK NB414_419 (pK NB414_419 (pM BK414))))) hg (Kd.R_ne HO_3.out BK414.out (by decide))); replace BK419 := Aside0.mk (blk_grown (g := gb419) (o := .cells #[.bool t415, .int .u64 t416, .int .u64 t417, .int .i64 t418] 26 (0, 0)) (pP (pP (pP (pP (pM BK419))))) hg (Kd.R_away HO_3.out (fun _ hk => hk.2))); replace HB := Aside0.mk (hb); clear HO_3; clear ho hb hg hat; obtain ⟨hcz46_0, hcz46_1, hcz46_2, hcz46_3, hfz46_0, hfz46_1, hfz46_2, hfz46_3⟩ := pC4 BK419) | ((with_reducible refine gate_callee (f := 11) rfl ?_); refine goesA (some 54) Tryz.func11 #[.agg #[.bool t415, .int .u64 t416, .int .u64 t417, .int .i64 t418]] ?_; (with_reducible refine (ddiref03_Bounds.calls k2 t415 t416 t417 t418 t423 t424 t425 t426 t427 t428 t429 _ A35.out).mono ?_); rintro e w47 ⟨rfl, hb⟩; refine ⟨_, rfl, ?_⟩; replace HO422 := Aside0.mk (Kd.R_below (by (with_reducible repeat (first | apply Kd.R_alloc | apply Kd.R_drewN | apply Kd.R_drew)); exact HO422.out) hb); replace BK410 := (pB BK410 hb); replace BK414 := (pB BK414 hb); replace BK419 := (pB BK419 hb); replace HB := (pS HB hb); (try clear hb); (try clear hk)) | ((with_reducible refine gate_dst (N := 7) rfl ?_); refine boxA (N := 7) (cs := #[.bool false, .int .u64 0, .int .u64 0, .bool false, .int .u64 0, .int .u64 0]) (t := 33) ?_; intro gb430 hg w48 hbox hb; have BK430 := Aside0.mk (hbox); have GW430 := (pZ HB hg); have GE430 := (pZ HB hg); have NB410_430 := (pL BK410 hg); have NB430_410 := (pG BK410 hg); have NB414_430 := (pL BK414 hg); have NB430_414 := (pG BK414 hg); have NB419_430 := (pL BK419 hg); have NB430_419 := (pG BK419 hg); replace HO422 := Aside0.mk (Kd.R_below (by (with_reducible repeat (first | apply Kd.R_alloc | apply Kd.R_drewN | apply Kd.R_drew)); exact HO422.out) hb); replace BK410 := (pB BK410 hb); replace BK414 := (pB BK414 hb); replace BK419 := (pB BK419 hb); replace HB := (pS HB hb); clear hb hbox hg; have hnb49 := NB430_410.out; have hnc49 := NB410_430.out; have hnb50 := NB430_414.out; have hnc50 := NB414_430.out; have hnb51 := NB430_419.out; have hnc51 := NB419_430.out; obtain ⟨hcz52_0, hcz52_1, hcz52_2, hcz52_3, hcz52_4, hcz52_5, hfz52_0, hfz52_1, hfz52_2, hfz52_3, hfz52_4, hfz52_5⟩ := pC6 BK430) | ((with_reducible refine gate_store (t := 33) (p := 7) rfl ?_); refine store_event (t := 33) (p := 7) (v := ?vo_w53) (w1 := ((((((w48.setCell ⟨gb430, 0, none⟩ (.bool t423)).setCell ⟨gb430, 1, none⟩ (.int .u64 t424)).setCell ⟨gb430, 2, none⟩ (.int .u64 t425)).setCell ⟨gb430, 3, none⟩ (.bool t426)).setCell ⟨gb430, 4, none⟩ (.int .u64 t427)).setCell ⟨gb430, 5, none⟩ (.int .u64 t428))) ?hg ?ho ?hn ?hr ?_; (case ho => rfl); (case hg => rfl); (case hn => rfl); (case hr => first | (exact Ext.run_store_chain 33 _ _ rfl _ _ _ _ rfl rfl (pM BK430) (by kernel_rfl) rfl rfl rfl) | (go_simp; done) | (go_simp; rfl)); intro w53 hw; replace HO422 : Aside0 (Kd.R k26 26 w53 w.heap.size (fun k_ => k_ ≠ gb419) v421 y420) := ⟨(by rw [hw]; exact (by (with_reducible repeat (first | apply Kd.R_alloc | apply Kd.R_drewN | apply Kd.R_drew)); exact Kd.R_mono (Kd.R_far (p := ⟨gb430, 5, none⟩) (Kd.R_far (p := ⟨gb430, 4, none⟩) (Kd.R_far (p := ⟨gb430, 3, none⟩) (Kd.R_far (p := ⟨gb430, 2, none⟩) (Kd.R_far (p := ⟨gb430, 1, none⟩) (Kd.R_far (p := ⟨gb430, 0, none⟩) (Kd.R_types HO422.out BK430.out (by decide)) (fun _ hk => hk.2) (.bool t423)) (fun _ hk => hk.2) (.int .u64 t424)) (fun _ hk => hk.2) (.int .u64 t425)) (fun _ hk => hk.2) (.bool t426)) (fun _ hk => hk.2) (.int .u64 t427)) (fun _ hk => hk.2) (.int .u64 t428)) (fun _ hk => hk.1)))⟩; replace BK410 : Aside0 (w53.heap[gb410]? = some (.cells #[.bool a0_0, .int .u64 a0_1, .int .u64 a0_2, .bool a0_3, .int .u64 a0_4, .int .u64 a0_5] 33 (0, 0))) := (pW hw (pK NB410_430 (pK NB410_430 (pK NB410_430 (pK NB410_430 (pK NB410_430 (pK NB410_430 (pM BK410)))))))); replace BK414 : Aside0 (w53.heap[gb414]? = some (.cells #[.bool x415000_2, .int .u64 x415001_2, .int .u64 x415002_2] 24 (0, 0))) := (pW hw (pK NB414_430 (pK NB414_430 (pK NB414_430 (pK NB414_430 (pK NB414_430 (pK NB414_430 (pM BK414)))))))); replace BK419 : Aside0 (w53.heap[gb419]? = some (.cells #[.bool t415, .int .u64 t416, .int .u64 t417, .int .i64 t418] 26 (0, 0))) := (pW hw (pK NB419_430 (pK NB419_430 (pK NB419_430 (pK NB419_430 (pK NB419_430 (pK NB419_430 (pM BK419)))))))); replace BK430 : Aside0 (w53.heap[gb430]? = some (.cells #[.bool t423, .int .u64 t424, .int .u64 t425, .bool t426, .int .u64 t427, .int .u64 t428] 33 (0, 0))) := (pW hw (pP (pP (pP (pP (pP (pP (pM BK430)))))))); replace HB : Aside0 (Below w.heap.size w w53) := ⟨(by rw [hw]; exact (by repeat (first | (with_reducible first | exact HB.out | apply below_alloc | apply pw_below_drewN | apply below_drew1 | refine below_set ?_ GE410.out | refine below_set ?_ GE414.out | refine below_set ?_ GE419.out | refine below_set ?_ GE430.out) | exact HB.out)))⟩; clear hw; obtain ⟨hcz54_0, hcz54_1, hcz54_2, hcz54_3, hcz54_4, hcz54_5, hfz54_0, hfz54_1, hfz54_2, hfz54_3, hfz54_4, hfz54_5⟩ := pC6 BK430; obtain ⟨hcz55_0, hcz55_1, hcz55_2, hcz55_3, hcz55_4, hcz55_5, hfz55_0, hfz55_1, hfz55_2, hfz55_3, hfz55_4, hfz55_5⟩ := pC6 BK410))
         go_ret
         exact ⟨_, by first | rfl | (simp [errW_none, errW_some] <;> rfl) | (simp [*, errW_none, errW_some] <;> rfl), by (with_reducible repeat (first | apply Kd.R_alloc | apply Kd.R_drewN | apply Kd.R_drew)); exact Kd.R_mono HO422.out (fun _ hk => trivial), by repeat (first | (with_reducible first | exact HB.out | apply below_alloc | apply pw_below_drewN | apply below_drew1 | refine below_set ?_ GE410.out | refine below_set ?_ GE414.out | refine below_set ?_ GE419.out | refine below_set ?_ GE430.out) | exact HB.out)⟩
        ·
         rw [if_neg c36] at H
         have c36b0 : (t426 == a0_3 && (t427 == a0_4 && (t428 == a0_5))) = false := by simpa using c36
         (try (have c36b1 : decide (t426 = a0_3 && (t427 == a0_4 && (t428 == a0_5))) = false := by simpa using c36))
         (try (have c36b2 : (t426 == a0_3 && (t427 == a0_4 && (t428 == a0_5))) = false := by simpa using c36))
         (try (have c36b3 : ¬ (t426 = a0_3 && (t427 == a0_4 && (t428 == a0_5))) := by simpa using c36))
         clear c36
         replace H := Option.bind_eq_some_iff.mp H
         obtain ⟨⟨t431, t432, t433, t434⟩, A560, H⟩ := H
         replace H : (ddiref03_Cover.l0 k2 y420 (wrap64 (x5_2 + 1)) a0_0 a0_1 a0_2 a0_3 a0_4 a0_5 t431 t432 t433) = some r := H
         have A56 := Aside0.mk A560
         clear A560
         have H' := Aside0.mk H
         clear H
         have hnb57 := NB414_410.out
         have hnc57 := NB410_414.out
         obtain ⟨hcz58_0, hcz58_1, hcz58_2, hfz58_0, hfz58_1, hfz58_2⟩ := pC3 BK414
         obtain ⟨hcz59_0, hcz59_1, hcz59_2, hcz59_3, hcz59_4, hcz59_5, hfz59_0, hfz59_1, hfz59_2, hfz59_3, hfz59_4, hfz59_5⟩ := pC6 BK410
         go_wp2_with (first | ((with_reducible refine gate_callee (f := 56) rfl ?_); refine goesA (some 47) Tryz.func56 #[.agg #[.bool x415000_2, .int .u64 x415001_2, .int .u64 x415002_2], .agg #[.bool a0_3, .int .u64 a0_4, .int .u64 a0_5]] ?_; (with_reducible refine (ddiref03_biggest.calls k2 x415000_2 x415001_2 x415002_2 a0_3 a0_4 a0_5 t415 t416 t417 t418 _ A33.out).mono ?_); rintro e w60 ⟨rfl, hb⟩; refine ⟨_, rfl, ?_⟩; replace HO_3 := Aside0.mk (Kd.R_below (by (with_reducible repeat (first | apply Kd.R_alloc | apply Kd.R_drewN | apply Kd.R_drew)); exact HO_3.out) hb); replace BK410 := (pB BK410 hb); replace BK414 := (pB BK414 hb); replace HB := (pS HB hb); (try clear hb); (try clear hk)) | ((with_reducible refine gate_dst (N := 6) rfl ?_); refine boxA (N := 6) (cs := #[.bool false, .int .u64 0, .int .u64 0, .int .i64 0]) (t := 26) ?_; intro gb419 hg w61 hbox hb; have BK419 := Aside0.mk (hbox); have GW419 := (pZ HB hg); have GE419 := (pZ HB hg); have NB410_419 := (pL BK410 hg); have NB419_410 := (pG BK410 hg); have NB414_419 := (pL BK414 hg); have NB419_414 := (pG BK414 hg); replace HO_3 := Aside0.mk (Kd.R_below (Kd.R_elderB (by (with_reducible repeat (first | apply Kd.R_alloc | apply Kd.R_drewN | apply Kd.R_drew)); exact HO_3.out) gb419 (Nat.le_of_eq hg.symm)) hb); replace BK410 := (pB BK410 hb); replace BK414 := (pB BK414 hb); replace HB := (pS HB hb); clear hb hbox hg; have hnb62 := NB419_410.out; have hnc62 := NB410_419.out; have hnb63 := NB419_414.out; have hnc63 := NB414_419.out; obtain ⟨hcz64_0, hcz64_1, hcz64_2, hcz64_3, hfz64_0, hfz64_1, hfz64_2, hfz64_3⟩ := pC4 BK419) | ((with_reducible refine gate_builtin (b := .append) (xs := #[.tmp 48, .tmp 50]) rfl ?_); at_builtin; refine Kd.R_append k26 (w0 := w) w.heap.size rfl (.tmp 48) (.tmp 50) 45 26 (.agg #[(.bool false), (.int .u64 0), (.int .u64 0), (.int .i64 0)]) 32 rfl Tryz.underlying45 info26 rfl (by decide) (by omega) u3 x3_2 (⟨(⟨t415, t416, t417⟩ : S24), t418⟩ : S26) [.bool t415, .int .u64 t416, .int .u64 t417, .int .i64 t418] (fun k_ => k_ ≠ gb419) (fun _ => False) rfl (by first | (go_simp; done) | (go_simp; rfl)) ?aP (fun _ hk => hk.elim) ?aF ?aO ?aB ?aS ?aL ?_; (case aP => exact k26_mkM _ _ _ (⟨(⟨t415, t416, t417⟩ : S24), t418⟩ : S26)); (case aB => exact (by repeat (first | (with_reducible first | exact HB.out | apply below_alloc | apply pw_below_drewN | apply below_drew1 | refine below_set ?_ GE410.out | refine below_set ?_ GE414.out | refine below_set ?_ GE419.out) | exact HB.out))); (case aF => exact (fun k_ hk => Kd.freshB (g := gb419) (o := .cells #[.bool t415, .int .u64 t416, .int .u64 t417, .int .i64 t418] 26 (0, 0)) (pP (pP (pP (pP (pM BK419))))) k_ hk)); (case aO => exact (by (with_reducible repeat (first | apply Kd.R_alloc | apply Kd.R_drewN | apply Kd.R_drew)); exact Kd.R_mono (Kd.R_far (p := ⟨gb419, 3, none⟩) (Kd.R_far (p := ⟨gb419, 2, none⟩) (Kd.R_far (p := ⟨gb419, 1, none⟩) (Kd.R_far (p := ⟨gb419, 0, none⟩) (Kd.R_mono HO_3.out (fun k_ hk => (⟨hk, hk.2⟩ : _ ∧ k_ ≠ gb419))) (fun _ hk => hk.2) (.bool t415)) (fun _ hk => hk.2) (.int .u64 t416)) (fun _ hk => hk.2) (.int .u64 t417)) (fun _ hk => hk.2) (.int .i64 t418)) (fun _ hk => hk.1.2))); (case aS => exact (below_size (by repeat (first | (with_reducible first | exact HB.out | apply below_alloc | apply pw_below_drewN | apply below_drew1 | refine below_set ?_ GE410.out | refine below_set ?_ GE414.out | refine below_set ?_ GE419.out) | exact HB.out)))); (case aL => have := LMc34.out; omega); intro v421 w65 ho hb hg hat; rw [← Ny420.out] at ho; have HO422 := Aside0.mk (ho); replace BK410 := Aside0.mk (blk_grown (g := gb410) (o := .cells #[.bool a0_0, .int .u64 a0_1, .int .u64 a0_2, .bool a0_3, .int .u64 a0_4, .int .u64 a0_5] 33 (0, 0)) (pK NB410_419 (pK NB410_419 (pK NB410_419 (pK NB410_419 (pM BK410))))) hg (Kd.R_ne HO_3.out BK410.out (by decide))); replace BK414 := Aside0.mk (blk_grown (g := gb414) (o := .cells #[.bool x415000_2, .int .u64 x415001_2, .int .u64 x415002_2] 24 (0, 0)) (pK NB414_419 (pK NB414_419 (pK NB414_419 (pK NB414_419 (pM BK414))))) hg (Kd.R_ne HO_3.out BK414.out (by decide))); replace BK419 := Aside0.mk (blk_grown (g := gb419) (o := .cells #[.bool t415, .int .u64 t416, .int .u64 t417, .int .i64 t418] 26 (0, 0)) (pP (pP (pP (pP (pM BK419))))) hg (Kd.R_away HO_3.out (fun _ hk => hk.2))); replace HB := Aside0.mk (hb); clear HO_3; clear ho hb hg hat; obtain ⟨hcz66_0, hcz66_1, hcz66_2, hcz66_3, hfz66_0, hfz66_1, hfz66_2, hfz66_3⟩ := pC4 BK419) | ((with_reducible refine gate_callee (f := 11) rfl ?_); refine goesA (some 54) Tryz.func11 #[.agg #[.bool t415, .int .u64 t416, .int .u64 t417, .int .i64 t418]] ?_; (with_reducible refine (ddiref03_Bounds.calls k2 t415 t416 t417 t418 t423 t424 t425 t426 t427 t428 t429 _ A35.out).mono ?_); rintro e w67 ⟨rfl, hb⟩; refine ⟨_, rfl, ?_⟩; replace HO422 := Aside0.mk (Kd.R_below (by (with_reducible repeat (first | apply Kd.R_alloc | apply Kd.R_drewN | apply Kd.R_drew)); exact HO422.out) hb); replace BK410 := (pB BK410 hb); replace BK414 := (pB BK414 hb); replace BK419 := (pB BK419 hb); replace HB := (pS HB hb); (try clear hb); (try clear hk)) | ((with_reducible refine gate_dst (N := 7) rfl ?_); refine boxA (N := 7) (cs := #[.bool false, .int .u64 0, .int .u64 0, .bool false, .int .u64 0, .int .u64 0]) (t := 33) ?_; intro gb430 hg w68 hbox hb; have BK430 := Aside0.mk (hbox); have GW430 := (pZ HB hg); have GE430 := (pZ HB hg); have NB410_430 := (pL BK410 hg); have NB430_410 := (pG BK410 hg); have NB414_430 := (pL BK414 hg); have NB430_414 := (pG BK414 hg); have NB419_430 := (pL BK419 hg); have NB430_419 := (pG BK419 hg); replace HO422 := Aside0.mk (Kd.R_below (by (with_reducible repeat (first | apply Kd.R_alloc | apply Kd.R_drewN | apply Kd.R_drew)); exact HO422.out) hb); replace BK410 := (pB BK410 hb); replace BK414 := (pB BK414 hb); replace BK419 := (pB BK419 hb); replace HB := (pS HB hb); clear hb hbox hg; have hnb69 := NB430_410.out; have hnc69 := NB410_430.out; have hnb70 := NB430_414.out; have hnc70 := NB414_430.out; have hnb71 := NB430_419.out; have hnc71 := NB419_430.out; obtain ⟨hcz72_0, hcz72_1, hcz72_2, hcz72_3, hcz72_4, hcz72_5, hfz72_0, hfz72_1, hfz72_2, hfz72_3, hfz72_4, hfz72_5⟩ := pC6 BK430) | ((with_reducible refine gate_store (t := 33) (p := 7) rfl ?_); refine store_event (t := 33) (p := 7) (v := ?vo_w73) (w1 := ((((((w68.setCell ⟨gb430, 0, none⟩ (.bool t423)).setCell ⟨gb430, 1, none⟩ (.int .u64 t424)).setCell ⟨gb430, 2, none⟩ (.int .u64 t425)).setCell ⟨gb430, 3, none⟩ (.bool t426)).setCell ⟨gb430, 4, none⟩ (.int .u64 t427)).setCell ⟨gb430, 5, none⟩ (.int .u64 t428))) ?hg ?ho ?hn ?hr ?_; (case ho => rfl); (case hg => rfl); (case hn => rfl); (case hr => first | (exact Ext.run_store_chain 33 _ _ rfl _ _ _ _ rfl rfl (pM BK430) (by kernel_rfl) rfl rfl rfl) | (go_simp; done) | (go_simp; rfl)); intro w73 hw; replace HO422 : Aside0 (Kd.R k26 26 w73 w.heap.size (fun k_ => k_ ≠ gb419) v421 y420) := ⟨(by rw [hw]; exact (by (with_reducible repeat (first | apply Kd.R_alloc | apply Kd.R_drewN | apply Kd.R_drew)); exact Kd.R_mono (Kd.R_far (p := ⟨gb430, 5, none⟩) (Kd.R_far (p := ⟨gb430, 4, none⟩) (Kd.R_far (p := ⟨gb430, 3, none⟩) (Kd.R_far (p := ⟨gb430, 2, none⟩) (Kd.R_far (p := ⟨gb430, 1, none⟩) (Kd.R_far (p := ⟨gb430, 0, none⟩) (Kd.R_types HO422.out BK430.out (by decide)) (fun _ hk => hk.2) (.bool t423)) (fun _ hk => hk.2) (.int .u64 t424)) (fun _ hk => hk.2) (.int .u64 t425)) (fun _ hk => hk.2) (.bool t426)) (fun _ hk => hk.2) (.int .u64 t427)) (fun _ hk => hk.2) (.int .u64 t428)) (fun _ hk => hk.1)))⟩; replace BK410 : Aside0 (w73.heap[gb410]? = some (.cells #[.bool a0_0, .int .u64 a0_1, .int .u64 a0_2, .bool a0_3, .int .u64 a0_4, .int .u64 a0_5] 33 (0, 0))) := (pW hw (pK NB410_430 (pK NB410_430 (pK NB410_430 (pK NB410_430 (pK NB410_430 (pK NB410_430 (pM BK410)))))))); replace BK414 : Aside0 (w73.heap[gb414]? = some (.cells #[.bool x415000_2, .int .u64 x415001_2, .int .u64 x415002_2] 24 (0, 0))) := (pW hw (pK NB414_430 (pK NB414_430 (pK NB414_430 (pK NB414_430 (pK NB414_430 (pK NB414_430 (pM BK414)))))))); replace BK419 : Aside0 (w73.heap[gb419]? = some (.cells #[.bool t415, .int .u64 t416, .int .u64 t417, .int .i64 t418] 26 (0, 0))) := (pW hw (pK NB419_430 (pK NB419_430 (pK NB419_430 (pK NB419_430 (pK NB419_430 (pK NB419_430 (pM BK419)))))))); replace BK430 : Aside0 (w73.heap[gb430]? = some (.cells #[.bool t423, .int .u64 t424, .int .u64 t425, .bool t426, .int .u64 t427, .int .u64 t428] 33 (0, 0))) := (pW hw (pP (pP (pP (pP (pP (pP (pM BK430)))))))); replace HB : Aside0 (Below w.heap.size w w73) := ⟨(by rw [hw]; exact (by repeat (first | (with_reducible first | exact HB.out | apply below_alloc | apply pw_below_drewN | apply below_drew1 | refine below_set ?_ GE410.out | refine below_set ?_ GE414.out | refine below_set ?_ GE419.out | refine below_set ?_ GE430.out) | exact HB.out)))⟩; clear hw; obtain ⟨hcz74_0, hcz74_1, hcz74_2, hcz74_3, hcz74_4, hcz74_5, hfz74_0, hfz74_1, hfz74_2, hfz74_3, hfz74_4, hfz74_5⟩ := pC6 BK430; obtain ⟨hcz75_0, hcz75_1, hcz75_2, hcz75_3, hcz75_4, hcz75_5, hfz75_0, hfz75_1, hfz75_2, hfz75_3, hfz75_4, hfz75_5⟩ := pC6 BK410) | ((with_reducible refine gate_callee (f := 57) rfl ?_); refine goesA (some 66) Tryz.func57 #[.agg #[.bool t426, .int .u64 t427, .int .u64 t428], .int .u64 1] ?_; (with_reducible refine (ddiref02_Add.calls t426 t427 t428 1 t431 t432 t433 t434 _ A56.out).mono ?_); rintro e w76 ⟨rfl, hb⟩; refine ⟨_, rfl, ?_⟩; replace HO422 := Aside0.mk (Kd.R_below (by (with_reducible repeat (first | apply Kd.R_alloc | apply Kd.R_drewN | apply Kd.R_drew)); exact HO422.out) hb); replace BK410 := (pB BK410 hb); replace BK414 := (pB BK414 hb); replace BK419 := (pB BK419 hb); replace BK430 := (pB BK430 hb); replace HB := (pS HB hb); (try clear hb); (try clear hk)) | ((with_reducible refine gate_dst (N := 9) rfl ?_); refine boxA (N := 9) (cs := #[.bool false, .int .u64 0, .int .u64 0]) (t := 24) ?_; intro gb435 hg w77 hbox hb; have BK435 := Aside0.mk (hbox); have GE435 := (pZ HB hg); have NB410_435 := (pL BK410 hg); have NB435_410 := (pG BK410 hg); have NB414_435 := (pL BK414 hg); have NB435_414 := (pG BK414 hg); have NB419_435 := (pL BK419 hg); have NB435_419 := (pG BK419 hg); have NB430_435 := (pL BK430 hg); have NB435_430 := (pG BK430 hg); replace HO422 := Aside0.mk (Kd.R_below (by (with_reducible repeat (first | apply Kd.R_alloc | apply Kd.R_drewN | apply Kd.R_drew)); exact HO422.out) hb); replace BK410 := (pB BK410 hb); replace BK414 := (pB BK414 hb); replace BK419 := (pB BK419 hb); replace BK430 := (pB BK430 hb); replace HB := (pS HB hb); clear hb hbox hg; have hnb78 := NB435_410.out; have hnc78 := NB410_435.out; have hnb79 := NB435_414.out; have hnc79 := NB414_435.out; have hnb80 := NB435_419.out; have hnc80 := NB419_435.out; have hnb81 := NB435_430.out; have hnc81 := NB430_435.out; obtain ⟨hcz82_0, hcz82_1, hcz82_2, hfz82_0, hfz82_1, hfz82_2⟩ := pC3 BK435; obtain ⟨hcz83_0, hcz83_1, hcz83_2, hfz83_0, hfz83_1, hfz83_2⟩ := pC3 BK414) | ((with_reducible refine gate_store (t := 24) (p := 4) rfl ?_); refine store_event (t := 24) (p := 4) (v := ?vo_w84) (w1 := ((((((w77.setCell ⟨gb435, 0, none⟩ (.bool t431)).setCell ⟨gb435, 1, none⟩ (.int .u64 t432)).setCell ⟨gb435, 2, none⟩ (.int .u64 t433)).setCell ⟨gb414, 0, none⟩ (.bool t431)).setCell ⟨gb414, 1, none⟩ (.int .u64 t432)).setCell ⟨gb414, 2, none⟩ (.int .u64 t433))) ?hg ?ho ?hn ?hr ?_; (case ho => rfl); (case hg => rfl); (case hn => rfl); (case hr => first | (exact Ext.run_store_chain 24 _ _ rfl _ _ _ _ rfl rfl (pK NB414_435 (pK NB414_435 (pK NB414_435 (pM BK414)))) (by kernel_rfl) rfl rfl rfl) | (go_simp; done) | (go_simp; rfl)); intro w84 hw; replace HO422 : Aside0 (Kd.R k26 26 w84 w.heap.size (fun k_ => k_ ≠ gb419) v421 y420) := ⟨(by rw [hw]; exact (by (with_reducible repeat (first | apply Kd.R_alloc | apply Kd.R_drewN | apply Kd.R_drew)); exact Kd.R_mono (Kd.R_far (p := ⟨gb414, 2, none⟩) (Kd.R_far (p := ⟨gb414, 1, none⟩) (Kd.R_far (p := ⟨gb414, 0, none⟩) (Kd.R_far (p := ⟨gb435, 2, none⟩) (Kd.R_far (p := ⟨gb435, 1, none⟩) (Kd.R_far (p := ⟨gb435, 0, none⟩) (Kd.R_types (Kd.R_types HO422.out BK435.out (by decide)) BK414.out (by decide)) (fun _ hk => hk.1.2) (.bool t431)) (fun _ hk => hk.1.2) (.int .u64 t432)) (fun _ hk => hk.1.2) (.int .u64 t433)) (fun _ hk => hk.2) (.bool t431)) (fun _ hk => hk.2) (.int .u64 t432)) (fun _ hk => hk.2) (.int .u64 t433)) (fun _ hk => hk.1.1)))⟩; replace BK410 : Aside0 (w84.heap[gb410]? = some (.cells #[.bool a0_0, .int .u64 a0_1, .int .u64 a0_2, .bool a0_3, .int .u64 a0_4, .int .u64 a0_5] 33 (0, 0))) := (pW hw (pK NB410_414 (pK NB410_414 (pK NB410_414 (pK NB410_435 (pK NB410_435 (pK NB410_435 (pM BK410)))))))); replace BK414 : Aside0 (w84.heap[gb414]? = some (.cells #[.bool t431, .int .u64 t432, .int .u64 t433] 24 (0, 0))) := (pW hw (pP (pP (pP (pK NB414_435 (pK NB414_435 (pK NB414_435 (pM BK414)))))))); replace BK419 : Aside0 (w84.heap[gb419]? = some (.cells #[.bool t415, .int .u64 t416, .int .u64 t417, .int .i64 t418] 26 (0, 0))) := (pW hw (pK NB419_414 (pK NB419_414 (pK NB419_414 (pK NB419_435 (pK NB419_435 (pK NB419_435 (pM BK419)))))))); replace BK430 : Aside0 (w84.heap[gb430]? = some (.cells #[.bool t423, .int .u64 t424, .int .u64 t425, .bool t426, .int .u64 t427, .int .u64 t428] 33 (0, 0))) := (pW hw (pK NB430_414 (pK NB430_414 (pK NB430_414 (pK NB430_435 (pK NB430_435 (pK NB430_435 (pM BK430)))))))); replace BK435 : Aside0 (w84.heap[gb435]? = some (.cells #[.bool t431, .int .u64 t432, .int .u64 t433] 24 (0, 0))) := (pW hw (pK NB435_414 (pK NB435_414 (pK NB435_414 (pP (pP (pP (pM BK435)))))))); replace HB : Aside0 (Below w.heap.size w w84) := ⟨(by rw [hw]; exact (by repeat (first | (with_reducible first | exact HB.out | apply below_alloc | apply pw_below_drewN | apply below_drew1 | refine below_set ?_ GE410.out | refine below_set ?_ GE414.out | refine below_set ?_ GE419.out | refine below_set ?_ GE430.out | refine below_set ?_ GE435.out) | exact HB.out)))⟩; clear hw))
         go_roundg k2
         case measure => have := HJ1.out; have := HK2.out; omega
         case rel => exact ⟨(y420), (wrap64 (x5_2 + 1)), (t431), (t432), (t433), pT, H', ⟨by have := HJ1.out; have := HK2.out; omega⟩, ⟨by (with_reducible repeat (first | apply Kd.R_alloc | apply Kd.R_drewN | apply Kd.R_drew)); exact Kd.R_mono HO422.out (fun _ hk => trivial)⟩, ⟨pM BK410⟩, ⟨pM BK414⟩, ⟨pE HB⟩⟩
       ·
        rw [if_neg c34] at H
        exact absurd H (by simp)
      ·
       rw [if_neg c32] at H
       have c32b0 := decide_eq_false c32
       clear c32
       obtain rfl := Option.some.inj H
       go_wp2
       go_ret
       exact ⟨_, by first | rfl | (simp [errW_none, errW_some] <;> rfl) | (simp [*, errW_none, errW_some] <;> rfl), by (with_reducible repeat (first | apply Kd.R_alloc | apply Kd.R_drewN | apply Kd.R_drew)); exact HO_3.out, by repeat (first | (with_reducible first | exact HB.out | apply below_alloc | apply pw_below_drewN | apply below_drew1 | refine below_set ?_ GE410.out | refine below_set ?_ GE414.out) | exact HB.out)⟩
end Go.Proofs.YteflcmmandlknaaGreatDoor.PA
