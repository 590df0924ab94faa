/- The Go functions in Lean, with the proofs that the code comes to these answers: printed by this session's program (wip/px) out of the seat's translation. Conditions: each theorem's own. -/
import Derived.Test.YteflcmmandlknaaDoorPAx0
import Derived.Test.YteflcmmandlknaaDoorPAx2
import Derived.Test.YteflcmmandlknaaDoorPAx3
import Derived.Test.YteflcmmandlknaaDoorPAx5
import Derived.Test.YteflcmmandlknaaDoorPAx10
import Derived.Test.YteflcmmandlknaaDoorPAx11
import Derived.Test.YteflcmmandlknaaDoorPAx13
import Derived.Test.YteflcmmandlknaaDoorPAx15
namespace Go.Proofs.YteflcmmandlknaaDoor.PA
open Go.RowKit Go.Proofs.YteflcmmandlknaaDoorW.PrintWords Go.Proofs.YteflcmmandlknaaDoorW.PrintLast Go.Proofs.YteflcmmandlknaaDoorW.PrintMore
attribute [local go_sem] max2_int min2_int max_two min_two max_three min_three max_four min_four   -- for this text's walks alone
attribute [local go_sem ↓] Ext.isSome_setCell
open Press
set_option linter.unusedVariables false
set_option linter.unusedSimpArgs false

attribute [local go_sem high] eqA26
/-! ### ddilaw03_PrefixHalves: function 6 -/
mutual
def ddilaw03_PrefixHalves.j0 : Nat → Bool → Bool → Int → Int → Int → Bool → Int → Int → Bool → Int → Int → Int → Bool → Int → Int → Int → Option (Bool)
 | 0, _, _, _, _, _, _, _, _, _, _, _, _, _, _, _, _ => none
 | k + 1, x78, x432000, x432001, x432002, x432003, x433000, x433001, x433002, x443000, x443001, x443002, x443003, x444000, x444001, x444002, x444003 => if x78 = true then (none) else ((prefix_Contains.f x443000 x443001 x443002 x443003 x433000 x433001 x433002).bind fun t453 => ((prefix_Contains.f x444000 x444001 x444002 x444003 x433000 x433001 x433002).bind fun t454 => (if t453 = true then (if t454 = true then (ddilaw03_PrefixHalves.j1 k true x432000 x432001 x432002 x432003 x443000 x443001 x443002 x443003 x444000 x444001 x444002 x444003) else ((prefix_Contains.f x432000 x432001 x432002 x432003 x433000 x433001 x433002).bind fun t455 => (ddilaw03_PrefixHalves.j1 k (true != t455) x432000 x432001 x432002 x432003 x443000 x443001 x443002 x443003 x444000 x444001 x444002 x444003))) else ((prefix_Contains.f x432000 x432001 x432002 x432003 x433000 x433001 x433002).bind fun t456 => (ddilaw03_PrefixHalves.j1 k (t454 != t456) x432000 x432001 x432002 x432003 x443000 x443001 x443002 x443003 x444000 x444001 x444002 x444003)))))
def ddilaw03_PrefixHalves.j1 : Nat → Bool → Bool → Int → Int → Int → Bool → Int → Int → Int → Bool → Int → Int → Int → Option (Bool)
 | 0, _, _, _, _, _, _, _, _, _, _, _, _, _ => none
 | k + 1, x98, x432000, x432001, x432002, x432003, x443000, x443001, x443002, x443003, x444000, x444001, x444002, x444003 => if x98 = true then (none) else ((prefix_Part.f k x432000 x432001 x432002 x432003 (wrap64 (x432003 + 1)) 0).bind fun bt457 => ((prefix_Part.f k x432000 x432001 x432002 x432003 (wrap64 (x432003 + 1)) 1).bind fun bt463 => ((prefix_Part.f k x432000 x432001 x432002 x432003 (wrap64 (x432003 + 1)) 2).bind fun bt469 => ((prefix_Size.f x432000 x432001 x432002 x432003).bind fun bt475 => ((prefix_Size.f x443000 x443001 x443002 x443003).bind fun bt477 => (if bt457.2.2.2.2 = true then (if bt463.2.2.2.2 = true then (if bt469.2.2.2.2 = true then (none) else (if ((bt457.1 == x443000 && (bt457.2.1 == x443001 && (bt457.2.2.1 == x443002))) && (bt457.2.2.2.1 == x443003)) = true then (if ((bt463.1 == x444000 && (bt463.2.1 == x444001 && (bt463.2.2.1 == x444002))) && (bt463.2.2.2.1 == x444003)) = true then (if bt475.2 = true then (if bt477.2 = true then (if bt475.1 = (IntKind.u64.wrap (2 * bt477.1)) then ((ddilaw03_awake.f k).bind fun t479 => (some t479)) else (none)) else (none)) else ((ddilaw03_awake.f k).bind fun t480 => (some t480))) else (none)) else (none))) else (none)) else (none)))))))
end
def ddilaw03_PrefixHalves.f (k : Nat) (a0_0 : Bool) (a0_1 : Int) (a0_2 : Int) (a0_3 : Int) (a1_0 : Bool) (a1_1 : Int) (a1_2 : Int) : Option (Bool) := (prefix_Halves.f k a0_0 a0_1 a0_2 a0_3).bind fun bt433 => (if bt433.2.2.2.2.2.2.2.2 = true then ((prefix_Overlap.f bt433.1 bt433.2.1 bt433.2.2.1 bt433.2.2.2.1 bt433.2.2.2.2.1 bt433.2.2.2.2.2.1 bt433.2.2.2.2.2.2.1 bt433.2.2.2.2.2.2.2.1).bind fun t449 => (if t449 = true then (ddilaw03_PrefixHalves.j0 k true a0_0 a0_1 a0_2 a0_3 a1_0 a1_1 a1_2 bt433.1 bt433.2.1 bt433.2.2.1 bt433.2.2.2.1 bt433.2.2.2.2.1 bt433.2.2.2.2.2.1 bt433.2.2.2.2.2.2.1 bt433.2.2.2.2.2.2.2.1) else ((prefix_Within.f bt433.1 bt433.2.1 bt433.2.2.1 bt433.2.2.2.1 a0_0 a0_1 a0_2 a0_3).bind fun t450 => (if t450 = true then ((prefix_Within.f bt433.2.2.2.2.1 bt433.2.2.2.2.2.1 bt433.2.2.2.2.2.2.1 bt433.2.2.2.2.2.2.2.1 a0_0 a0_1 a0_2 a0_3).bind fun t451 => (if t451 = true then ((prefix_Compare.f k bt433.1 bt433.2.1 bt433.2.2.1 bt433.2.2.2.1 bt433.2.2.2.2.1 bt433.2.2.2.2.2.1 bt433.2.2.2.2.2.2.1 bt433.2.2.2.2.2.2.2.1).bind fun t452 => (ddilaw03_PrefixHalves.j0 k (decide (t452 ≥ 0)) a0_0 a0_1 a0_2 a0_3 a1_0 a1_1 a1_2 bt433.1 bt433.2.1 bt433.2.2.1 bt433.2.2.2.1 bt433.2.2.2.2.1 bt433.2.2.2.2.2.1 bt433.2.2.2.2.2.2.1 bt433.2.2.2.2.2.2.2.1)) else (ddilaw03_PrefixHalves.j0 k true a0_0 a0_1 a0_2 a0_3 a1_0 a1_1 a1_2 bt433.1 bt433.2.1 bt433.2.2.1 bt433.2.2.2.1 bt433.2.2.2.2.1 bt433.2.2.2.2.2.1 bt433.2.2.2.2.2.2.1 bt433.2.2.2.2.2.2.2.1))) else (ddilaw03_PrefixHalves.j0 k true a0_0 a0_1 a0_2 a0_3 a1_0 a1_1 a1_2 bt433.1 bt433.2.1 bt433.2.2.1 bt433.2.2.2.1 bt433.2.2.2.2.1 bt433.2.2.2.2.2.1 bt433.2.2.2.2.2.2.1 bt433.2.2.2.2.2.2.2.1))))) else ((prefix_Size.f a0_0 a0_1 a0_2 a0_3).bind fun bt444 => (if ((!bt433.1 && (bt433.2.1 == 0 && (bt433.2.2.1 == 0))) && (bt433.2.2.2.1 == 0)) = true then (if ((!bt433.2.2.2.2.1 && (bt433.2.2.2.2.2.1 == 0 && (bt433.2.2.2.2.2.2.1 == 0))) && (bt433.2.2.2.2.2.2.2.1 == 0)) = true then ((prefix_Valid.f a0_0 a0_1 a0_2 a0_3).bind fun t446 => (if t446 = true then (if bt444.2 = true then (if bt444.1 = 1 then ((ddilaw03_awake.f k).bind fun t447 => (some t447)) else (none)) else (none)) else ((ddilaw03_awake.f k).bind fun t448 => (some t448)))) else (none)) else (none))))
theorem ddilaw03_PrefixHalves.mono_l : ∀ k, (∀ y0 y1 y2 y3 y4 y5 y6 y7 y8 y9 y10 y11 y12 y13 y14 y15, LeO (ddilaw03_PrefixHalves.j0 k y0 y1 y2 y3 y4 y5 y6 y7 y8 y9 y10 y11 y12 y13 y14 y15) (ddilaw03_PrefixHalves.j0 (k + 1) y0 y1 y2 y3 y4 y5 y6 y7 y8 y9 y10 y11 y12 y13 y14 y15)) ∧ (∀ y0 y1 y2 y3 y4 y5 y6 y7 y8 y9 y10 y11 y12, LeO (ddilaw03_PrefixHalves.j1 k y0 y1 y2 y3 y4 y5 y6 y7 y8 y9 y10 y11 y12) (ddilaw03_PrefixHalves.j1 (k + 1) y0 y1 y2 y3 y4 y5 y6 y7 y8 y9 y10 y11 y12))
 | 0 => ⟨fun _ _ _ _ _ _ _ _ _ _ _ _ _ _ _ _ r h => by simp [ddilaw03_PrefixHalves.j0] at h, fun _ _ _ _ _ _ _ _ _ _ _ _ _ r h => by simp [ddilaw03_PrefixHalves.j1] at h⟩
 | k + 1 => by
  obtain ⟨ih0, ih1⟩ := ddilaw03_PrefixHalves.mono_l k
  refine ⟨?_, ?_⟩
  ·
   intro y0 y1 y2 y3 y4 y5 y6 y7 y8 y9 y10 y11 y12 y13 y14 y15
   unfold ddilaw03_PrefixHalves.j0
   repeat' first
   | (with_reducible exact ih0 _ _ _ _ _ _ _ _ _ _ _ _ _ _ _ _)
   | (with_reducible exact ih1 _ _ _ _ _ _ _ _ _ _ _ _ _)
   | (with_reducible exact ddilaw03_awake.mono _)
   | (with_reducible exact prefix_Compare.mono _ _ _ _ _ _ _ _ _)
   | (with_reducible exact prefix_Halves.mono _ _ _ _ _)
   | (with_reducible exact prefix_Part.mono _ _ _ _ _ _ _)
   | (with_reducible exact LeO.refl _)
   | (with_reducible exact LeO.none _)
   | (with_reducible refine LeO.ite ?_ ?_)
   | (with_reducible refine LeO.bind ?_ (fun _ => ?_))
   | exact ih0 _ _ _ _ _ _ _ _ _ _ _ _ _ _ _ _
   | exact ih1 _ _ _ _ _ _ _ _ _ _ _ _ _
   | exact ddilaw03_awake.mono _
   | exact prefix_Compare.mono _ _ _ _ _ _ _ _ _
   | exact prefix_Halves.mono _ _ _ _ _
   | exact prefix_Part.mono _ _ _ _ _ _ _
   | exact LeO.none _
   | refine LeO.ite ?_ ?_
   | refine LeO.bind ?_ (fun _ => ?_)
  ·
   intro y0 y1 y2 y3 y4 y5 y6 y7 y8 y9 y10 y11 y12
   unfold ddilaw03_PrefixHalves.j1
   repeat' first
   | (with_reducible exact ih0 _ _ _ _ _ _ _ _ _ _ _ _ _ _ _ _)
   | (with_reducible exact ih1 _ _ _ _ _ _ _ _ _ _ _ _ _)
   | (with_reducible exact ddilaw03_awake.mono _)
   | (with_reducible exact prefix_Compare.mono _ _ _ _ _ _ _ _ _)
   | (with_reducible exact prefix_Halves.mono _ _ _ _ _)
   | (with_reducible exact prefix_Part.mono _ _ _ _ _ _ _)
   | (with_reducible exact LeO.refl _)
   | (with_reducible exact LeO.none _)
   | (with_reducible refine LeO.ite ?_ ?_)
   | (with_reducible refine LeO.bind ?_ (fun _ => ?_))
   | exact ih0 _ _ _ _ _ _ _ _ _ _ _ _ _ _ _ _
   | exact ih1 _ _ _ _ _ _ _ _ _ _ _ _ _
   | exact ddilaw03_awake.mono _
   | exact prefix_Compare.mono _ _ _ _ _ _ _ _ _
   | exact prefix_Halves.mono _ _ _ _ _
   | exact prefix_Part.mono _ _ _ _ _ _ _
   | exact LeO.none _
   | refine LeO.ite ?_ ?_
   | refine LeO.bind ?_ (fun _ => ?_)
theorem ddilaw03_PrefixHalves.mono : ∀ a0 a1 a2 a3 a4 a5 a6 k, LeO (ddilaw03_PrefixHalves.f k a0 a1 a2 a3 a4 a5 a6) (ddilaw03_PrefixHalves.f (k + 1) a0 a1 a2 a3 a4 a5 a6) := by
 intro a0 a1 a2 a3 a4 a5 a6 k
 obtain ⟨ih0, ih1⟩ := ddilaw03_PrefixHalves.mono_l k
 unfold ddilaw03_PrefixHalves.f
 repeat' first
  | (with_reducible exact ih0 _ _ _ _ _ _ _ _ _ _ _ _ _ _ _ _)
  | (with_reducible exact ih1 _ _ _ _ _ _ _ _ _ _ _ _ _)
  | (with_reducible exact ddilaw03_awake.mono _)
  | (with_reducible exact prefix_Compare.mono _ _ _ _ _ _ _ _ _)
  | (with_reducible exact prefix_Halves.mono _ _ _ _ _)
  | (with_reducible exact prefix_Part.mono _ _ _ _ _ _ _)
  | (with_reducible exact LeO.refl _)
  | (with_reducible exact LeO.none _)
  | (with_reducible refine LeO.ite ?_ ?_)
  | (with_reducible refine LeO.bind ?_ (fun _ => ?_))
  | exact ih0 _ _ _ _ _ _ _ _ _ _ _ _ _ _ _ _
  | exact ih1 _ _ _ _ _ _ _ _ _ _ _ _ _
  | exact ddilaw03_awake.mono _
  | exact prefix_Compare.mono _ _ _ _ _ _ _ _ _
  | exact prefix_Halves.mono _ _ _ _ _
  | exact prefix_Part.mono _ _ _ _ _ _ _
  | exact LeO.none _
  | refine LeO.ite ?_ ?_
  | refine LeO.bind ?_ (fun _ => ?_)
def ddilaw03_PrefixHalves.T7 : Bool × List (List Nat × List Nat) := (true, [([], []), ([], []), ([0, 1], [0, 1]), ([], []), ([], []), ([3, 4, 2], [3, 4]), ([2, 5, 0, 1, 2], [2]), ([5, 6, 0, 1, 2, 3, 4, 5, 6], [5])])
def ddilaw03_PrefixHalves.B7 : List Nat := [0, 0, 3, 0, 0, 31, 63, 127]
theorem ddilaw03_PrefixHalves.tab7 : rtab .any (opsOf Tryd.f6 7) = ddilaw03_PrefixHalves.T7 := by kernel_rfl
theorem ddilaw03_PrefixHalves.bits7 : waitsOk ddilaw03_PrefixHalves.T7.2 ddilaw03_PrefixHalves.B7 = true := by kernel_rfl
set_option maxHeartbeats 40000000 in
set_option maxRecDepth 100000 in
theorem ddilaw03_PrefixHalves.calls (k : Nat) (a0_0 : Bool) (a0_1 : Int) (a0_2 : Int) (a0_3 : Int) (a1_0 : Bool) (a1_1 : Int) (a1_2 : Int) (r : Bool) (w : World) (hLD : Laid w) (h : ddilaw03_PrefixHalves.f k a0_0 a0_1 a0_2 a0_3 a1_0 a1_1 a1_2 = some r) :
 Calls Tryd.prog 6 #[.agg #[.bool a0_0, .int .u64 a0_1, .int .u64 a0_2, .int .i64 a0_3], .agg #[.bool a1_0, .int .u64 a1_1, .int .u64 a1_2]] w fun e w' => e = .returned (.bool r) ∧ Below w.heap.size w w' := by
 have hu26 := Tryd.underlying26
 have hu24 := Tryd.underlying24
 have HLD := Aside0.mk hLD
 clear hLD
 have HB := Aside0.mk (Below.refl w.heap.size w)
 have H : ((prefix_Halves.f k a0_0 a0_1 a0_2 a0_3).bind fun bt433 => (if bt433.2.2.2.2.2.2.2.2 = true then ((prefix_Overlap.f bt433.1 bt433.2.1 bt433.2.2.1 bt433.2.2.2.1 bt433.2.2.2.2.1 bt433.2.2.2.2.2.1 bt433.2.2.2.2.2.2.1 bt433.2.2.2.2.2.2.2.1).bind fun t449 => (if t449 = true then (ddilaw03_PrefixHalves.j0 k true a0_0 a0_1 a0_2 a0_3 a1_0 a1_1 a1_2 bt433.1 bt433.2.1 bt433.2.2.1 bt433.2.2.2.1 bt433.2.2.2.2.1 bt433.2.2.2.2.2.1 bt433.2.2.2.2.2.2.1 bt433.2.2.2.2.2.2.2.1) else ((prefix_Within.f bt433.1 bt433.2.1 bt433.2.2.1 bt433.2.2.2.1 a0_0 a0_1 a0_2 a0_3).bind fun t450 => (if t450 = true then ((prefix_Within.f bt433.2.2.2.2.1 bt433.2.2.2.2.2.1 bt433.2.2.2.2.2.2.1 bt433.2.2.2.2.2.2.2.1 a0_0 a0_1 a0_2 a0_3).bind fun t451 => (if t451 = true then ((prefix_Compare.f k bt433.1 bt433.2.1 bt433.2.2.1 bt433.2.2.2.1 bt433.2.2.2.2.1 bt433.2.2.2.2.2.1 bt433.2.2.2.2.2.2.1 bt433.2.2.2.2.2.2.2.1).bind fun t452 => (ddilaw03_PrefixHalves.j0 k (decide (t452 ≥ 0)) a0_0 a0_1 a0_2 a0_3 a1_0 a1_1 a1_2 bt433.1 bt433.2.1 bt433.2.2.1 bt433.2.2.2.1 bt433.2.2.2.2.1 bt433.2.2.2.2.2.1 bt433.2.2.2.2.2.2.1 bt433.2.2.2.2.2.2.2.1)) else (ddilaw03_PrefixHalves.j0 k true a0_0 a0_1 a0_2 a0_3 a1_0 a1_1 a1_2 bt433.1 bt433.2.1 bt433.2.2.1 bt433.2.2.2.1 bt433.2.2.2.2.1 bt433.2.2.2.2.2.1 bt433.2.2.2.2.2.2.1 bt433.2.2.2.2.2.2.2.1))) else (ddilaw03_PrefixHalves.j0 k true a0_0 a0_1 a0_2 a0_3 a1_0 a1_1 a1_2 bt433.1 bt433.2.1 bt433.2.2.1 bt433.2.2.2.1 bt433.2.2.2.2.1 bt433.2.2.2.2.2.1 bt433.2.2.2.2.2.2.1 bt433.2.2.2.2.2.2.2.1))))) else ((prefix_Size.f a0_0 a0_1 a0_2 a0_3).bind fun bt444 => (if ((!bt433.1 && (bt433.2.1 == 0 && (bt433.2.2.1 == 0))) && (bt433.2.2.2.1 == 0)) = true then (if ((!bt433.2.2.2.2.1 && (bt433.2.2.2.2.2.1 == 0 && (bt433.2.2.2.2.2.2.1 == 0))) && (bt433.2.2.2.2.2.2.2.1 == 0)) = true then ((prefix_Valid.f a0_0 a0_1 a0_2 a0_3).bind fun t446 => (if t446 = true then (if bt444.2 = true then (if bt444.1 = 1 then ((ddilaw03_awake.f k).bind fun t447 => (some t447)) else (none)) else (none)) else ((ddilaw03_awake.f k).bind fun t448 => (some t448)))) else (none)) else (none))))) = some r := h
 clear h
 replace H := Option.bind_eq_some_iff.mp H
 obtain ⟨⟨t433, t434, t435, t436, t437, t438, t439, t440, t441⟩, A30, H⟩ := H
 replace H : (if t441 = true then ((prefix_Overlap.f t433 t434 t435 t436 t437 t438 t439 t440).bind fun t449 => (if t449 = true then (ddilaw03_PrefixHalves.j0 k true a0_0 a0_1 a0_2 a0_3 a1_0 a1_1 a1_2 t433 t434 t435 t436 t437 t438 t439 t440) else ((prefix_Within.f t433 t434 t435 t436 a0_0 a0_1 a0_2 a0_3).bind fun t450 => (if t450 = true then ((prefix_Within.f t437 t438 t439 t440 a0_0 a0_1 a0_2 a0_3).bind fun t451 => (if t451 = true then ((prefix_Compare.f k t433 t434 t435 t436 t437 t438 t439 t440).bind fun t452 => (ddilaw03_PrefixHalves.j0 k (decide (t452 ≥ 0)) a0_0 a0_1 a0_2 a0_3 a1_0 a1_1 a1_2 t433 t434 t435 t436 t437 t438 t439 t440)) else (ddilaw03_PrefixHalves.j0 k true a0_0 a0_1 a0_2 a0_3 a1_0 a1_1 a1_2 t433 t434 t435 t436 t437 t438 t439 t440))) else (ddilaw03_PrefixHalves.j0 k true a0_0 a0_1 a0_2 a0_3 a1_0 a1_1 a1_2 t433 t434 t435 t436 t437 t438 t439 t440))))) else ((prefix_Size.f a0_0 a0_1 a0_2 a0_3).bind fun bt444 => (if ((!t433 && (t434 == 0 && (t435 == 0))) && (t436 == 0)) = true then (if ((!t437 && (t438 == 0 && (t439 == 0))) && (t440 == 0)) = true then ((prefix_Valid.f a0_0 a0_1 a0_2 a0_3).bind fun t446 => (if t446 = true then (if bt444.2 = true then (if bt444.1 = 1 then ((ddilaw03_awake.f k).bind fun t447 => (some t447)) else (none)) else (none)) else ((ddilaw03_awake.f k).bind fun t448 => (some t448)))) else (none)) else (none)))) = some r := H
 have A3 := Aside0.mk A30
 clear A30
 by_cases c4 : t441 = true
 ·
  subst c4
  rw [if_pos rfl] at H
  have HC5 := Aside0.mk H
  clear H
  go_enter Tryd.func6, Tryd.ntmps6
  go_upto_region 5 with (first | ((with_reducible refine gate_dst (N := 2) rfl ?_); refine boxA (N := 2) (cs := #[.bool a0_0, .int .u64 a0_1, .int .u64 a0_2, .int .i64 a0_3]) (t := 26) ?_; intro gb431 hg w6 hbox hb; have BK431 := Aside0.mk (hbox); have GW431 := (pZ HB hg); have GE431 := (pZ HB hg); replace HB := (pS HB hb); clear hb hbox hg) | ((with_reducible refine gate_dst (N := 3) rfl ?_); refine boxA (N := 3) (cs := #[.bool a1_0, .int .u64 a1_1, .int .u64 a1_2]) (t := 24) ?_; intro gb432 hg w7 hbox hb; have BK432 := Aside0.mk (hbox); have GW432 := (pZ HB hg); have GE432 := (pZ HB hg); have NB431_432 := (pL BK431 hg); have NB432_431 := (pG BK431 hg); replace BK431 := (pB BK431 hb); replace HB := (pS HB hb); clear hb hbox hg; have hnb8 := NB431_432.out; have hnc8 := NB432_431.out; obtain ⟨hcz9_0, hcz9_1, hcz9_2, hcz9_3, hfz9_0, hfz9_1, hfz9_2, hfz9_3⟩ := pC4 BK431) | ((with_reducible refine gate_callee (f := 22) rfl ?_); refine goesA (some 24) Tryd.func22 #[.agg #[.bool a0_0, .int .u64 a0_1, .int .u64 a0_2, .int .i64 a0_3]] ?_; (with_reducible refine (prefix_Halves.calls k a0_0 a0_1 a0_2 a0_3 t433 t434 t435 t436 t437 t438 t439 t440 true _ A3.out).mono ?_); rintro e w10 ⟨rfl, hb⟩; refine ⟨_, rfl, ?_⟩; replace BK431 := (pB BK431 hb); replace BK432 := (pB BK432 hb); replace HB := (pS HB hb); (try clear hb)) | ((with_reducible refine gate_dst (N := 5) rfl ?_); refine boxA (N := 5) (cs := #[.bool false, .int .u64 0, .int .u64 0, .int .i64 0]) (t := 26) ?_; intro gb442 hg w11 hbox hb; have BK442 := Aside0.mk (hbox); have GW442 := (pZ HB hg); have GE442 := (pZ HB hg); have NB431_442 := (pL BK431 hg); have NB442_431 := (pG BK431 hg); have NB432_442 := (pL BK432 hg); have NB442_432 := (pG BK432 hg); replace BK431 := (pB BK431 hb); replace BK432 := (pB BK432 hb); replace HB := (pS HB hb); clear hb hbox hg) | ((with_reducible refine gate_dst (N := 6) rfl ?_); refine boxA (N := 6) (cs := #[.bool false, .int .u64 0, .int .u64 0, .int .i64 0]) (t := 26) ?_; intro gb443 hg w12 hbox hb; have BK443 := Aside0.mk (hbox); have GW443 := (pZ HB hg); have GE443 := (pZ HB hg); have NB431_443 := (pL BK431 hg); have NB443_431 := (pG BK431 hg); have NB432_443 := (pL BK432 hg); have NB443_432 := (pG BK432 hg); have NB442_443 := (pL BK442 hg); have NB443_442 := (pG BK442 hg); replace BK431 := (pB BK431 hb); replace BK432 := (pB BK432 hb); replace BK442 := (pB BK442 hb); replace HB := (pS HB hb); clear hb hbox hg; have hnb13 := NB442_431.out; have hnc13 := NB431_442.out; have hnb14 := NB442_432.out; have hnc14 := NB432_442.out; have hnb15 := NB442_443.out; have hnc15 := NB443_442.out; obtain ⟨hcz16_0, hcz16_1, hcz16_2, hcz16_3, hfz16_0, hfz16_1, hfz16_2, hfz16_3⟩ := pC4 BK442; have hnb17 := NB443_431.out; have hnc17 := NB431_443.out; have hnb18 := NB443_432.out; have hnc18 := NB432_443.out; obtain ⟨hcz19_0, hcz19_1, hcz19_2, hcz19_3, hfz19_0, hfz19_1, hfz19_2, hfz19_3⟩ := pC4 BK443) | ((with_reducible refine gate_store (t := 26) (p := 6) rfl ?_); refine store_event (t := 26) (p := 6) (v := ?vo_w20) (w1 := ((((((((w12.setCell ⟨gb442, 0, none⟩ (.bool t433)).setCell ⟨gb442, 1, none⟩ (.int .u64 t434)).setCell ⟨gb442, 2, none⟩ (.int .u64 t435)).setCell ⟨gb442, 3, none⟩ (.int .i64 t436)).setCell ⟨gb443, 0, none⟩ (.bool t437)).setCell ⟨gb443, 1, none⟩ (.int .u64 t438)).setCell ⟨gb443, 2, none⟩ (.int .u64 t439)).setCell ⟨gb443, 3, none⟩ (.int .i64 t440))) ?hg ?ho ?hn ?hr ?_; (case ho => rfl); (case hg => rfl); (case hn => rfl); (case hr => first | (exact Ext.run_store_chain 26 _ _ rfl _ _ _ _ rfl rfl (pK NB443_442 (pK NB443_442 (pK NB443_442 (pK NB443_442 (pM BK443))))) (by kernel_rfl) rfl rfl rfl) | (go_simp; done) | (go_simp; rfl)); intro w20 hw; replace BK431 : Aside0 (w20.heap[gb431]? = some (.cells #[.bool a0_0, .int .u64 a0_1, .int .u64 a0_2, .int .i64 a0_3] 26 (0, 0))) := (pW hw (pK NB431_443 (pK NB431_443 (pK NB431_443 (pK NB431_443 (pK NB431_442 (pK NB431_442 (pK NB431_442 (pK NB431_442 (pM BK431)))))))))); replace BK432 : Aside0 (w20.heap[gb432]? = some (.cells #[.bool a1_0, .int .u64 a1_1, .int .u64 a1_2] 24 (0, 0))) := (pW hw (pK NB432_443 (pK NB432_443 (pK NB432_443 (pK NB432_443 (pK NB432_442 (pK NB432_442 (pK NB432_442 (pK NB432_442 (pM BK432)))))))))); replace BK442 : Aside0 (w20.heap[gb442]? = some (.cells #[.bool t433, .int .u64 t434, .int .u64 t435, .int .i64 t436] 26 (0, 0))) := (pW hw (pK NB442_443 (pK NB442_443 (pK NB442_443 (pK NB442_443 (pP (pP (pP (pP (pM BK442)))))))))); replace BK443 : Aside0 (w20.heap[gb443]? = some (.cells #[.bool t437, .int .u64 t438, .int .u64 t439, .int .i64 t440] 26 (0, 0))) := (pW hw (pP (pP (pP (pP (pK NB443_442 (pK NB443_442 (pK NB443_442 (pK NB443_442 (pM BK443)))))))))); replace HB : Aside0 (Below w.heap.size w w20) := ⟨(by rw [hw]; exact (by repeat (first | (with_reducible first | exact HB.out | apply below_alloc | apply pw_below_drewN | apply below_drew1 | refine below_set ?_ GE431.out | refine below_set ?_ GE432.out | refine below_set ?_ GE442.out | refine below_set ?_ GE443.out) | exact HB.out)))⟩; clear hw))
  (try simp only [Act.put, List.setIfInBounds_toArray, List.set_cons_zero, List.set_cons_succ])
  go_cut [78] (fun v78 wc => ∃ (kq : Nat) (x78_4 : Bool), v78 = .bool x78_4 ∧ Aside0 (ddilaw03_PrefixHalves.j0 kq x78_4 a0_0 a0_1 a0_2 a0_3 a1_0 a1_1 a1_2 t433 t434 t435 t436 t437 t438 t439 t440 = some r) ∧ Aside0 (kq ≤ k) ∧ Aside0 (wc.heap[gb431]? = some (.cells #[.bool a0_0, .int .u64 a0_1, .int .u64 a0_2, .int .i64 a0_3] 26 (0, 0))) ∧ Aside0 (wc.heap[gb432]? = some (.cells #[.bool a1_0, .int .u64 a1_1, .int .u64 a1_2] 24 (0, 0))) ∧ Aside0 (wc.heap[gb442]? = some (.cells #[.bool t433, .int .u64 t434, .int .u64 t435, .int .i64 t436] 26 (0, 0))) ∧ Aside0 (wc.heap[gb443]? = some (.cells #[.bool t437, .int .u64 t438, .int .u64 t439, .int .i64 t440] 26 (0, 0))) ∧ Aside0 (Below w.heap.size w wc))
  case first =>
   have H := HC5.out
   clear HC5
   replace H := Option.bind_eq_some_iff.mp H
   obtain ⟨t449, A210, H⟩ := H
   replace H : (if t449 = true then (ddilaw03_PrefixHalves.j0 k true a0_0 a0_1 a0_2 a0_3 a1_0 a1_1 a1_2 t433 t434 t435 t436 t437 t438 t439 t440) else ((prefix_Within.f t433 t434 t435 t436 a0_0 a0_1 a0_2 a0_3).bind fun t450 => (if t450 = true then ((prefix_Within.f t437 t438 t439 t440 a0_0 a0_1 a0_2 a0_3).bind fun t451 => (if t451 = true then ((prefix_Compare.f k t433 t434 t435 t436 t437 t438 t439 t440).bind fun t452 => (ddilaw03_PrefixHalves.j0 k (decide (t452 ≥ 0)) a0_0 a0_1 a0_2 a0_3 a1_0 a1_1 a1_2 t433 t434 t435 t436 t437 t438 t439 t440)) else (ddilaw03_PrefixHalves.j0 k true a0_0 a0_1 a0_2 a0_3 a1_0 a1_1 a1_2 t433 t434 t435 t436 t437 t438 t439 t440))) else (ddilaw03_PrefixHalves.j0 k true a0_0 a0_1 a0_2 a0_3 a1_0 a1_1 a1_2 t433 t434 t435 t436 t437 t438 t439 t440)))) = some r := H
   have A21 := Aside0.mk A210
   clear A210
   by_cases c22 : t449 = true
   ·
    subst c22
    rw [if_pos rfl] at H
    have H' := Aside0.mk H
    clear H
    have hnb23 := NB442_431.out
    have hnc23 := NB431_442.out
    have hnb24 := NB442_432.out
    have hnc24 := NB432_442.out
    have hnb25 := NB442_443.out
    have hnc25 := NB443_442.out
    obtain ⟨hcz26_0, hcz26_1, hcz26_2, hcz26_3, hfz26_0, hfz26_1, hfz26_2, hfz26_3⟩ := pC4 BK442
    have hnb27 := NB443_431.out
    have hnc27 := NB431_443.out
    have hnb28 := NB443_432.out
    have hnc28 := NB432_443.out
    obtain ⟨hcz29_0, hcz29_1, hcz29_2, hcz29_3, hfz29_0, hfz29_1, hfz29_2, hfz29_3⟩ := pC4 BK443
    go_wp2_with (first | ((with_reducible refine gate_callee (f := 19) rfl ?_); refine goesA (some 60) Tryd.func19 #[.agg #[.bool t433, .int .u64 t434, .int .u64 t435, .int .i64 t436], .agg #[.bool t437, .int .u64 t438, .int .u64 t439, .int .i64 t440]] ?_; (with_reducible refine (prefix_Overlap.calls t433 t434 t435 t436 t437 t438 t439 t440 true _ A21.out).mono ?_); rintro e w30 ⟨rfl, hb⟩; refine ⟨_, rfl, ?_⟩; replace BK431 := (pB BK431 hb); replace BK432 := (pB BK432 hb); replace BK442 := (pB BK442 hb); replace BK443 := (pB BK443 hb); replace HB := (pS HB hb); (try clear hb)))
    go_meet
    case rel => exact ⟨_, (true), pT, H', ⟨by first | omega | exact Nat.le_refl _⟩, ⟨pM BK431⟩, ⟨pM BK432⟩, ⟨pM BK442⟩, ⟨pM BK443⟩, ⟨pE HB⟩⟩
   ·
    replace c22 := Bool.eq_false_iff.mpr c22
    subst c22
    rw [if_neg (show ¬ (false = true) by decide)] at H
    replace H := Option.bind_eq_some_iff.mp H
    obtain ⟨t450, A310, H⟩ := H
    replace H : (if t450 = true then ((prefix_Within.f t437 t438 t439 t440 a0_0 a0_1 a0_2 a0_3).bind fun t451 => (if t451 = true then ((prefix_Compare.f k t433 t434 t435 t436 t437 t438 t439 t440).bind fun t452 => (ddilaw03_PrefixHalves.j0 k (decide (t452 ≥ 0)) a0_0 a0_1 a0_2 a0_3 a1_0 a1_1 a1_2 t433 t434 t435 t436 t437 t438 t439 t440)) else (ddilaw03_PrefixHalves.j0 k true a0_0 a0_1 a0_2 a0_3 a1_0 a1_1 a1_2 t433 t434 t435 t436 t437 t438 t439 t440))) else (ddilaw03_PrefixHalves.j0 k true a0_0 a0_1 a0_2 a0_3 a1_0 a1_1 a1_2 t433 t434 t435 t436 t437 t438 t439 t440)) = some r := H
    have A31 := Aside0.mk A310
    clear A310
    by_cases c32 : t450 = true
    ·
     subst c32
     rw [if_pos rfl] at H
     replace H := Option.bind_eq_some_iff.mp H
     obtain ⟨t451, A330, H⟩ := H
     replace H : (if t451 = true then ((prefix_Compare.f k t433 t434 t435 t436 t437 t438 t439 t440).bind fun t452 => (ddilaw03_PrefixHalves.j0 k (decide (t452 ≥ 0)) a0_0 a0_1 a0_2 a0_3 a1_0 a1_1 a1_2 t433 t434 t435 t436 t437 t438 t439 t440)) else (ddilaw03_PrefixHalves.j0 k true a0_0 a0_1 a0_2 a0_3 a1_0 a1_1 a1_2 t433 t434 t435 t436 t437 t438 t439 t440)) = some r := H
     have A33 := Aside0.mk A330
     clear A330
     by_cases c34 : t451 = true
     ·
      subst c34
      rw [if_pos rfl] at H
      replace H := Option.bind_eq_some_iff.mp H
      obtain ⟨t452, A350, H⟩ := H
      replace H : (ddilaw03_PrefixHalves.j0 k (decide (t452 ≥ 0)) a0_0 a0_1 a0_2 a0_3 a1_0 a1_1 a1_2 t433 t434 t435 t436 t437 t438 t439 t440) = some r := H
      have A35 := Aside0.mk A350
      clear A350
      have H' := Aside0.mk H
      clear H
      have hnb36 := NB442_431.out
      have hnc36 := NB431_442.out
      have hnb37 := NB442_432.out
      have hnc37 := NB432_442.out
      have hnb38 := NB442_443.out
      have hnc38 := NB443_442.out
      obtain ⟨hcz39_0, hcz39_1, hcz39_2, hcz39_3, hfz39_0, hfz39_1, hfz39_2, hfz39_3⟩ := pC4 BK442
      have hnb40 := NB443_431.out
      have hnc40 := NB431_443.out
      have hnb41 := NB443_432.out
      have hnc41 := NB432_443.out
      obtain ⟨hcz42_0, hcz42_1, hcz42_2, hcz42_3, hfz42_0, hfz42_1, hfz42_2, hfz42_3⟩ := pC4 BK443
      go_wp2_with (first | ((with_reducible refine gate_callee (f := 19) rfl ?_); refine goesA (some 60) Tryd.func19 #[.agg #[.bool t433, .int .u64 t434, .int .u64 t435, .int .i64 t436], .agg #[.bool t437, .int .u64 t438, .int .u64 t439, .int .i64 t440]] ?_; (with_reducible refine (prefix_Overlap.calls t433 t434 t435 t436 t437 t438 t439 t440 false _ A21.out).mono ?_); rintro e w43 ⟨rfl, hb⟩; refine ⟨_, rfl, ?_⟩; replace BK431 := (pB BK431 hb); replace BK432 := (pB BK432 hb); replace BK442 := (pB BK442 hb); replace BK443 := (pB BK443 hb); replace HB := (pS HB hb); (try clear hb); obtain ⟨hcz44_0, hcz44_1, hcz44_2, hcz44_3, hfz44_0, hfz44_1, hfz44_2, hfz44_3⟩ := pC4 BK442; have hnb45 := NB431_432.out; have hnc45 := NB432_431.out; obtain ⟨hcz46_0, hcz46_1, hcz46_2, hcz46_3, hfz46_0, hfz46_1, hfz46_2, hfz46_3⟩ := pC4 BK431) | (go_at_call 20; (with_reducible refine (prefix_Within.calls t433 t434 t435 t436 a0_0 a0_1 a0_2 a0_3 true _ A31.out).mono ?_); rintro e w47 ⟨rfl, hb⟩; replace BK431 := (pB BK431 hb); replace BK432 := (pB BK432 hb); replace BK442 := (pB BK442 hb); replace BK443 := (pB BK443 hb); replace HB := (pS HB hb); (try clear hb); obtain ⟨hcz48_0, hcz48_1, hcz48_2, hcz48_3, hfz48_0, hfz48_1, hfz48_2, hfz48_3⟩ := pC4 BK443; obtain ⟨hcz49_0, hcz49_1, hcz49_2, hcz49_3, hfz49_0, hfz49_1, hfz49_2, hfz49_3⟩ := pC4 BK431) | (go_at_call 20; (with_reducible refine (prefix_Within.calls t437 t438 t439 t440 a0_0 a0_1 a0_2 a0_3 true _ A33.out).mono ?_); rintro e w50 ⟨rfl, hb⟩; replace BK431 := (pB BK431 hb); replace BK432 := (pB BK432 hb); replace BK442 := (pB BK442 hb); replace BK443 := (pB BK443 hb); replace HB := (pS HB hb); (try clear hb); obtain ⟨hcz51_0, hcz51_1, hcz51_2, hcz51_3, hfz51_0, hfz51_1, hfz51_2, hfz51_3⟩ := pC4 BK442; obtain ⟨hcz52_0, hcz52_1, hcz52_2, hcz52_3, hfz52_0, hfz52_1, hfz52_2, hfz52_3⟩ := pC4 BK443) | (go_at_call 21; (with_reducible refine (prefix_Compare.calls k t433 t434 t435 t436 t437 t438 t439 t440 t452 _ A35.out).mono ?_); rintro e w53 ⟨rfl, hb⟩; replace BK431 := (pB BK431 hb); replace BK432 := (pB BK432 hb); replace BK442 := (pB BK442 hb); replace BK443 := (pB BK443 hb); replace HB := (pS HB hb); (try clear hb)))
      go_meet
      case rel => exact ⟨_, (decide (t452 ≥ 0)), pT, H', ⟨by first | omega | exact Nat.le_refl _⟩, ⟨pM BK431⟩, ⟨pM BK432⟩, ⟨pM BK442⟩, ⟨pM BK443⟩, ⟨pE HB⟩⟩
     ·
      replace c34 := Bool.eq_false_iff.mpr c34
      subst c34
      rw [if_neg (show ¬ (false = true) by decide)] at H
      have H' := Aside0.mk H
      clear H
      have hnb54 := NB442_431.out
      have hnc54 := NB431_442.out
      have hnb55 := NB442_432.out
      have hnc55 := NB432_442.out
      have hnb56 := NB442_443.out
      have hnc56 := NB443_442.out
      obtain ⟨hcz57_0, hcz57_1, hcz57_2, hcz57_3, hfz57_0, hfz57_1, hfz57_2, hfz57_3⟩ := pC4 BK442
      have hnb58 := NB443_431.out
      have hnc58 := NB431_443.out
      have hnb59 := NB443_432.out
      have hnc59 := NB432_443.out
      obtain ⟨hcz60_0, hcz60_1, hcz60_2, hcz60_3, hfz60_0, hfz60_1, hfz60_2, hfz60_3⟩ := pC4 BK443
      go_wp2_with (first | ((with_reducible refine gate_callee (f := 19) rfl ?_); refine goesA (some 60) Tryd.func19 #[.agg #[.bool t433, .int .u64 t434, .int .u64 t435, .int .i64 t436], .agg #[.bool t437, .int .u64 t438, .int .u64 t439, .int .i64 t440]] ?_; (with_reducible refine (prefix_Overlap.calls t433 t434 t435 t436 t437 t438 t439 t440 false _ A21.out).mono ?_); rintro e w61 ⟨rfl, hb⟩; refine ⟨_, rfl, ?_⟩; replace BK431 := (pB BK431 hb); replace BK432 := (pB BK432 hb); replace BK442 := (pB BK442 hb); replace BK443 := (pB BK443 hb); replace HB := (pS HB hb); (try clear hb); obtain ⟨hcz62_0, hcz62_1, hcz62_2, hcz62_3, hfz62_0, hfz62_1, hfz62_2, hfz62_3⟩ := pC4 BK442; have hnb63 := NB431_432.out; have hnc63 := NB432_431.out; obtain ⟨hcz64_0, hcz64_1, hcz64_2, hcz64_3, hfz64_0, hfz64_1, hfz64_2, hfz64_3⟩ := pC4 BK431) | (go_at_call 20; (with_reducible refine (prefix_Within.calls t433 t434 t435 t436 a0_0 a0_1 a0_2 a0_3 true _ A31.out).mono ?_); rintro e w65 ⟨rfl, hb⟩; replace BK431 := (pB BK431 hb); replace BK432 := (pB BK432 hb); replace BK442 := (pB BK442 hb); replace BK443 := (pB BK443 hb); replace HB := (pS HB hb); (try clear hb); obtain ⟨hcz66_0, hcz66_1, hcz66_2, hcz66_3, hfz66_0, hfz66_1, hfz66_2, hfz66_3⟩ := pC4 BK443; obtain ⟨hcz67_0, hcz67_1, hcz67_2, hcz67_3, hfz67_0, hfz67_1, hfz67_2, hfz67_3⟩ := pC4 BK431) | (go_at_call 20; (with_reducible refine (prefix_Within.calls t437 t438 t439 t440 a0_0 a0_1 a0_2 a0_3 false _ A33.out).mono ?_); rintro e w68 ⟨rfl, hb⟩; replace BK431 := (pB BK431 hb); replace BK432 := (pB BK432 hb); replace BK442 := (pB BK442 hb); replace BK443 := (pB BK443 hb); replace HB := (pS HB hb); (try clear hb)))
      go_meet
      case rel => exact ⟨_, (true), pT, H', ⟨by first | omega | exact Nat.le_refl _⟩, ⟨pM BK431⟩, ⟨pM BK432⟩, ⟨pM BK442⟩, ⟨pM BK443⟩, ⟨pE HB⟩⟩
    ·
     replace c32 := Bool.eq_false_iff.mpr c32
     subst c32
     rw [if_neg (show ¬ (false = true) by decide)] at H
     have H' := Aside0.mk H
     clear H
     have hnb69 := NB442_431.out
     have hnc69 := NB431_442.out
     have hnb70 := NB442_432.out
     have hnc70 := NB432_442.out
     have hnb71 := NB442_443.out
     have hnc71 := NB443_442.out
     obtain ⟨hcz72_0, hcz72_1, hcz72_2, hcz72_3, hfz72_0, hfz72_1, hfz72_2, hfz72_3⟩ := pC4 BK442
     have hnb73 := NB443_431.out
     have hnc73 := NB431_443.out
     have hnb74 := NB443_432.out
     have hnc74 := NB432_443.out
     obtain ⟨hcz75_0, hcz75_1, hcz75_2, hcz75_3, hfz75_0, hfz75_1, hfz75_2, hfz75_3⟩ := pC4 BK443
     go_wp2_with (first | ((with_reducible refine gate_callee (f := 19) rfl ?_); refine goesA (some 60) Tryd.func19 #[.agg #[.bool t433, .int .u64 t434, .int .u64 t435, .int .i64 t436], .agg #[.bool t437, .int .u64 t438, .int .u64 t439, .int .i64 t440]] ?_; (with_reducible refine (prefix_Overlap.calls t433 t434 t435 t436 t437 t438 t439 t440 false _ A21.out).mono ?_); rintro e w76 ⟨rfl, hb⟩; refine ⟨_, rfl, ?_⟩; replace BK431 := (pB BK431 hb); replace BK432 := (pB BK432 hb); replace BK442 := (pB BK442 hb); replace BK443 := (pB BK443 hb); replace HB := (pS HB hb); (try clear hb); obtain ⟨hcz77_0, hcz77_1, hcz77_2, hcz77_3, hfz77_0, hfz77_1, hfz77_2, hfz77_3⟩ := pC4 BK442; have hnb78 := NB431_432.out; have hnc78 := NB432_431.out; obtain ⟨hcz79_0, hcz79_1, hcz79_2, hcz79_3, hfz79_0, hfz79_1, hfz79_2, hfz79_3⟩ := pC4 BK431) | (go_at_call 20; (with_reducible refine (prefix_Within.calls t433 t434 t435 t436 a0_0 a0_1 a0_2 a0_3 false _ A31.out).mono ?_); rintro e w80 ⟨rfl, hb⟩; replace BK431 := (pB BK431 hb); replace BK432 := (pB BK432 hb); replace BK442 := (pB BK442 hb); replace BK443 := (pB BK443 hb); replace HB := (pS HB hb); (try clear hb)))
     go_meet
     case rel => exact ⟨_, (true), pT, H', ⟨by first | omega | exact Nat.le_refl _⟩, ⟨pM BK431⟩, ⟨pM BK432⟩, ⟨pM BK442⟩, ⟨pM BK443⟩, ⟨pE HB⟩⟩
  case rest =>
   clear HC5
   try clear c1
   try clear c2
   try clear p2
   try clear c3
   try clear c4
   try clear c5
   try clear c6
   try clear c7
   try clear c8
   try clear c13
   try clear c14
   try clear c15
   try clear c17
   try clear c18
   try clear c19
   try clear c22
   try clear c23
   try clear c24
   try clear c25
   try clear c27
   try clear c28
   try clear c32
   try clear c34
   try clear c36
   try clear c37
   try clear c38
   try clear c40
   try clear c41
   try clear c45
   try clear c54
   try clear c55
   try clear c56
   try clear c58
   try clear c59
   try clear c63
   try clear c69
   try clear c70
   try clear c71
   try clear c73
   try clear c74
   try clear c78
   try clear hcz16_0 hcz16_1 hcz16_2 hcz16_3
   try clear hcz19_0 hcz19_1 hcz19_2 hcz19_3
   try clear hcz26_0 hcz26_1 hcz26_2 hcz26_3
   try clear hcz29_0 hcz29_1 hcz29_2 hcz29_3
   try clear hcz39_0 hcz39_1 hcz39_2 hcz39_3
   try clear hcz42_0 hcz42_1 hcz42_2 hcz42_3
   try clear hcz44_0 hcz44_1 hcz44_2 hcz44_3
   try clear hcz46_0 hcz46_1 hcz46_2 hcz46_3
   try clear hcz48_0 hcz48_1 hcz48_2 hcz48_3
   try clear hcz49_0 hcz49_1 hcz49_2 hcz49_3
   try clear hcz51_0 hcz51_1 hcz51_2 hcz51_3
   try clear hcz52_0 hcz52_1 hcz52_2 hcz52_3
   try clear hcz57_0 hcz57_1 hcz57_2 hcz57_3
   try clear hcz60_0 hcz60_1 hcz60_2 hcz60_3
   try clear hcz62_0 hcz62_1 hcz62_2 hcz62_3
   try clear hcz64_0 hcz64_1 hcz64_2 hcz64_3
   try clear hcz66_0 hcz66_1 hcz66_2 hcz66_3
   try clear hcz67_0 hcz67_1 hcz67_2 hcz67_3
   try clear hcz72_0 hcz72_1 hcz72_2 hcz72_3
   try clear hcz75_0 hcz75_1 hcz75_2 hcz75_3
   try clear hcz77_0 hcz77_1 hcz77_2 hcz77_3
   try clear hcz79_0 hcz79_1 hcz79_2 hcz79_3
   try clear hcz9_0 hcz9_1 hcz9_2 hcz9_3
   try clear hfz16_0 hfz16_1 hfz16_2 hfz16_3
   try clear hfz19_0 hfz19_1 hfz19_2 hfz19_3
   try clear hfz26_0 hfz26_1 hfz26_2 hfz26_3
   try clear hfz29_0 hfz29_1 hfz29_2 hfz29_3
   try clear hfz39_0 hfz39_1 hfz39_2 hfz39_3
   try clear hfz42_0 hfz42_1 hfz42_2 hfz42_3
   try clear hfz44_0 hfz44_1 hfz44_2 hfz44_3
   try clear hfz46_0 hfz46_1 hfz46_2 hfz46_3
   try clear hfz48_0 hfz48_1 hfz48_2 hfz48_3
   try clear hfz49_0 hfz49_1 hfz49_2 hfz49_3
   try clear hfz51_0 hfz51_1 hfz51_2 hfz51_3
   try clear hfz52_0 hfz52_1 hfz52_2 hfz52_3
   try clear hfz57_0 hfz57_1 hfz57_2 hfz57_3
   try clear hfz60_0 hfz60_1 hfz60_2 hfz60_3
   try clear hfz62_0 hfz62_1 hfz62_2 hfz62_3
   try clear hfz64_0 hfz64_1 hfz64_2 hfz64_3
   try clear hfz66_0 hfz66_1 hfz66_2 hfz66_3
   try clear hfz67_0 hfz67_1 hfz67_2 hfz67_3
   try clear hfz72_0 hfz72_1 hfz72_2 hfz72_3
   try clear hfz75_0 hfz75_1 hfz75_2 hfz75_3
   try clear hfz77_0 hfz77_1 hfz77_2 hfz77_3
   try clear hfz79_0 hfz79_1 hfz79_2 hfz79_3
   try clear hfz9_0 hfz9_1 hfz9_2 hfz9_3
   obtain ⟨kq, x78_4, rfl, HA, HJ4, BK431, BK432, BK442, BK443, HB⟩ := hcut
   cases kq with
   | zero => exact absurd HA.out (by simp [ddilaw03_PrefixHalves.j0])
   | succ kj4 =>
    have H := HA.out
    clear HA
    simp only [ddilaw03_PrefixHalves.j0] at H
    by_cases c81 : x78_4 = true
    ·
     subst c81
     rw [if_pos rfl] at H
     exact absurd H (by simp)
    ·
     replace c81 := Bool.eq_false_iff.mpr c81
     subst c81
     rw [if_neg (show ¬ (false = true) by decide)] at H
     replace H := Option.bind_eq_some_iff.mp H
     obtain ⟨t453, A820, H⟩ := H
     replace H : ((prefix_Contains.f t437 t438 t439 t440 a1_0 a1_1 a1_2).bind fun t454 => (if t453 = true then (if t454 = true then (ddilaw03_PrefixHalves.j1 kj4 true a0_0 a0_1 a0_2 a0_3 t433 t434 t435 t436 t437 t438 t439 t440) else ((prefix_Contains.f a0_0 a0_1 a0_2 a0_3 a1_0 a1_1 a1_2).bind fun t455 => (ddilaw03_PrefixHalves.j1 kj4 (true != t455) a0_0 a0_1 a0_2 a0_3 t433 t434 t435 t436 t437 t438 t439 t440))) else ((prefix_Contains.f a0_0 a0_1 a0_2 a0_3 a1_0 a1_1 a1_2).bind fun t456 => (ddilaw03_PrefixHalves.j1 kj4 (t454 != t456) a0_0 a0_1 a0_2 a0_3 t433 t434 t435 t436 t437 t438 t439 t440)))) = some r := H
     have A82 := Aside0.mk A820
     clear A820
     replace H := Option.bind_eq_some_iff.mp H
     obtain ⟨t454, A830, H⟩ := H
     replace H : (if t453 = true then (if t454 = true then (ddilaw03_PrefixHalves.j1 kj4 true a0_0 a0_1 a0_2 a0_3 t433 t434 t435 t436 t437 t438 t439 t440) else ((prefix_Contains.f a0_0 a0_1 a0_2 a0_3 a1_0 a1_1 a1_2).bind fun t455 => (ddilaw03_PrefixHalves.j1 kj4 (true != t455) a0_0 a0_1 a0_2 a0_3 t433 t434 t435 t436 t437 t438 t439 t440))) else ((prefix_Contains.f a0_0 a0_1 a0_2 a0_3 a1_0 a1_1 a1_2).bind fun t456 => (ddilaw03_PrefixHalves.j1 kj4 (t454 != t456) a0_0 a0_1 a0_2 a0_3 t433 t434 t435 t436 t437 t438 t439 t440))) = some r := H
     have A83 := Aside0.mk A830
     clear A830
     have HC84 := Aside0.mk H
     clear H
     try go_wp2
     replace BK431 := Aside0.mk (blk_drew BK431.out)
     replace BK432 := Aside0.mk (blk_drew BK432.out)
     replace BK442 := Aside0.mk (blk_drew BK442.out)
     replace BK443 := Aside0.mk (blk_drew BK443.out)
     replace HB := Aside0.mk (below_drew1 HB.out)
     refine start_ (n := 8) (S := fun w' => w'.cell? ⟨gb442, 0, none⟩ = some (.bool t433) ∧ w'.cell? ⟨gb442, 1, none⟩ = some (.int .u64 t434) ∧ w'.cell? ⟨gb442, 2, none⟩ = some (.int .u64 t435) ∧ w'.cell? ⟨gb442, 3, none⟩ = some (.int .i64 t436) ∧ w'.cell? ⟨gb432, 0, none⟩ = some (.bool a1_0) ∧ w'.cell? ⟨gb432, 1, none⟩ = some (.int .u64 a1_1) ∧ w'.cell? ⟨gb432, 2, none⟩ = some (.int .u64 a1_2) ∧ w'.cell? ⟨gb443, 0, none⟩ = some (.bool t437) ∧ w'.cell? ⟨gb443, 1, none⟩ = some (.int .u64 t438) ∧ w'.cell? ⟨gb443, 2, none⟩ = some (.int .u64 t439) ∧ w'.cell? ⟨gb443, 3, none⟩ = some (.int .i64 t440)) (ds := []) (tk 8 0) (by kernel_rfl) rfl rfl ⟨(blk_cell BK442.out 0).trans rfl, (blk_cell BK442.out 1).trans rfl, (blk_cell BK442.out 2).trans rfl, (blk_cell BK442.out 3).trans rfl, (blk_cell BK432.out 0).trans rfl, (blk_cell BK432.out 1).trans rfl, (blk_cell BK432.out 2).trans rfl, (blk_cell BK443.out 0).trans rfl, (blk_cell BK443.out 1).trans rfl, (blk_cell BK443.out 2).trans rfl, (blk_cell BK443.out 3).trans rfl⟩ (fun hHeld => ?_); refine with_tabW ddilaw03_PrefixHalves.tab7 ddilaw03_PrefixHalves.bits7 (fun HT_ HW_ => ?_)
     generalize wc.drew = w85 at BK431 BK432 BK442 BK443 HB hHeld ⊢
     refine takeA (i := 0) (some 79) HT_ HW_ (tk 8 1) hHeld ?_
     refine takeA (i := 1) (some 80) HT_ HW_ (tk 8 2) hHeld ?_
     refine takeA (i := 3) (some 82) HT_ HW_ (tr [2, 1, 1, 4]) hHeld ?_
     refine takeA (i := 4) (some 83) HT_ HW_ (tr [2, 1, 2, 3]) hHeld ?_
     refine one_ (i := 2) (N := some 81) (tk 8 5) rfl rfl (one_of HT_.out (by kernel_rfl)) (by decide) (fun K hK => ?_)
     refine goesR Tryd.func10 #[.agg #[.bool t433, .int .u64 t434, .int .u64 t435, .int .i64 t436], .agg #[.bool a1_0, .int .u64 a1_1, .int .u64 a1_2]] ?_
     with_reducible refine (prefix_Contains.calls t433 t434 t435 t436 a1_0 a1_1 a1_2 t453 _ A82.out).mono ?_
     rintro e w86 ⟨rfl, hb⟩
     refine ⟨_, rfl, ?_⟩
     replace BK431 := (pB BK431 hb)
     replace BK432 := (pB BK432 hb)
     replace BK442 := (pB BK442 hb)
     replace BK443 := (pB BK443 hb)
     replace HB := (pS HB hb)
     (try clear hb)
     refine hK.out _ _ ⟨(blk_cell BK442.out 0).trans rfl, (blk_cell BK442.out 1).trans rfl, (blk_cell BK442.out 2).trans rfl, (blk_cell BK442.out 3).trans rfl, (blk_cell BK432.out 0).trans rfl, (blk_cell BK432.out 1).trans rfl, (blk_cell BK432.out 2).trans rfl, (blk_cell BK443.out 0).trans rfl, (blk_cell BK443.out 1).trans rfl, (blk_cell BK443.out 2).trans rfl, (blk_cell BK443.out 3).trans rfl⟩ (fun hHeld => ?_)
     clear hK K
     refine normA (N := some 81) ?_
     refine one_ (i := 5) (N := some 84) (tk 8 6) rfl rfl (one_of HT_.out (by kernel_rfl)) (by decide) (fun K hK => ?_)
     refine goesR Tryd.func10 #[.agg #[.bool t437, .int .u64 t438, .int .u64 t439, .int .i64 t440], .agg #[.bool a1_0, .int .u64 a1_1, .int .u64 a1_2]] ?_
     with_reducible refine (prefix_Contains.calls t437 t438 t439 t440 a1_0 a1_1 a1_2 t454 _ A83.out).mono ?_
     rintro e w87 ⟨rfl, hb⟩
     refine ⟨_, rfl, ?_⟩
     replace BK431 := (pB BK431 hb)
     replace BK432 := (pB BK432 hb)
     replace BK442 := (pB BK442 hb)
     replace BK443 := (pB BK443 hb)
     replace HB := (pS HB hb)
     (try clear hb)
     refine hK.out _ _ ⟨(blk_cell BK442.out 0).trans rfl, (blk_cell BK442.out 1).trans rfl, (blk_cell BK442.out 2).trans rfl, (blk_cell BK442.out 3).trans rfl, (blk_cell BK432.out 0).trans rfl, (blk_cell BK432.out 1).trans rfl, (blk_cell BK432.out 2).trans rfl, (blk_cell BK443.out 0).trans rfl, (blk_cell BK443.out 1).trans rfl, (blk_cell BK443.out 2).trans rfl, (blk_cell BK443.out 3).trans rfl⟩ (fun hHeld => ?_)
     clear hK K
     refine normA (N := some 84) ?_
     refine pureA (i := 6) (some 10) HT_ (tk 8 7) ?_
     refine pureA (i := 7) (some 11) HT_ (tk 8 8) ?_
     refine done_ (done_of HT_.out (by kernel_rfl)) ?_
     go_upto_region 8 with (fail)
     go_cut [98] (fun v98 wc => ∃ (kq : Nat) (x98_83 : Bool), v98 = .bool x98_83 ∧ Aside0 (ddilaw03_PrefixHalves.j1 kq x98_83 a0_0 a0_1 a0_2 a0_3 t433 t434 t435 t436 t437 t438 t439 t440 = some r) ∧ Aside0 (kq ≤ kj4) ∧ Aside0 (wc.heap[gb431]? = some (.cells #[.bool a0_0, .int .u64 a0_1, .int .u64 a0_2, .int .i64 a0_3] 26 (0, 0))) ∧ Aside0 (wc.heap[gb432]? = some (.cells #[.bool a1_0, .int .u64 a1_1, .int .u64 a1_2] 24 (0, 0))) ∧ Aside0 (wc.heap[gb442]? = some (.cells #[.bool t433, .int .u64 t434, .int .u64 t435, .int .i64 t436] 26 (0, 0))) ∧ Aside0 (wc.heap[gb443]? = some (.cells #[.bool t437, .int .u64 t438, .int .u64 t439, .int .i64 t440] 26 (0, 0))) ∧ Aside0 (Below w.heap.size w wc))
     case first =>
      have H := HC84.out
      clear HC84
      by_cases c88 : t453 = true
      ·
       subst c88
       rw [if_pos rfl] at H
       by_cases c89 : t454 = true
       ·
        subst c89
        rw [if_pos rfl] at H
        have H' := Aside0.mk H
        clear H
        go_wp2
        go_meet
        case rel => exact ⟨_, (true), pT, H', ⟨by have := HJ4.out; first | omega | exact Nat.le_refl _⟩, ⟨pM BK431⟩, ⟨pM BK432⟩, ⟨pM BK442⟩, ⟨pM BK443⟩, ⟨pE HB⟩⟩
       ·
        replace c89 := Bool.eq_false_iff.mpr c89
        subst c89
        rw [if_neg (show ¬ (false = true) by decide)] at H
        replace H := Option.bind_eq_some_iff.mp H
        obtain ⟨t455, A900, H⟩ := H
        replace H : (ddilaw03_PrefixHalves.j1 kj4 (true != t455) a0_0 a0_1 a0_2 a0_3 t433 t434 t435 t436 t437 t438 t439 t440) = some r := H
        have A90 := Aside0.mk A900
        clear A900
        have H' := Aside0.mk H
        clear H
        have hnb91 := NB431_432.out
        have hnc91 := NB432_431.out
        have hnb92 := NB431_442.out
        have hnc92 := NB442_431.out
        have hnb93 := NB431_443.out
        have hnc93 := NB443_431.out
        obtain ⟨hcz94_0, hcz94_1, hcz94_2, hcz94_3, hfz94_0, hfz94_1, hfz94_2, hfz94_3⟩ := pC4 BK431
        have hnb95 := NB432_442.out
        have hnc95 := NB442_432.out
        have hnb96 := NB432_443.out
        have hnc96 := NB443_432.out
        obtain ⟨hcz97_0, hcz97_1, hcz97_2, hfz97_0, hfz97_1, hfz97_2⟩ := pC3 BK432
        go_wp2_with (first | (go_at_call 10; (with_reducible refine (prefix_Contains.calls a0_0 a0_1 a0_2 a0_3 a1_0 a1_1 a1_2 t455 _ A90.out).mono ?_); rintro e w98 ⟨rfl, hb⟩; replace BK431 := (pB BK431 hb); replace BK432 := (pB BK432 hb); replace BK442 := (pB BK442 hb); replace BK443 := (pB BK443 hb); replace HB := (pS HB hb); (try clear hb)))
        go_meet
        case rel => exact ⟨_, ((true != t455)), pT, H', ⟨by have := HJ4.out; first | omega | exact Nat.le_refl _⟩, ⟨pM BK431⟩, ⟨pM BK432⟩, ⟨pM BK442⟩, ⟨pM BK443⟩, ⟨pE HB⟩⟩
      ·
       replace c88 := Bool.eq_false_iff.mpr c88
       subst c88
       rw [if_neg (show ¬ (false = true) by decide)] at H
       replace H := Option.bind_eq_some_iff.mp H
       obtain ⟨t456, A990, H⟩ := H
       replace H : (ddilaw03_PrefixHalves.j1 kj4 (t454 != t456) a0_0 a0_1 a0_2 a0_3 t433 t434 t435 t436 t437 t438 t439 t440) = some r := H
       have A99 := Aside0.mk A990
       clear A990
       have H' := Aside0.mk H
       clear H
       have hnb100 := NB431_432.out
       have hnc100 := NB432_431.out
       have hnb101 := NB431_442.out
       have hnc101 := NB442_431.out
       have hnb102 := NB431_443.out
       have hnc102 := NB443_431.out
       obtain ⟨hcz103_0, hcz103_1, hcz103_2, hcz103_3, hfz103_0, hfz103_1, hfz103_2, hfz103_3⟩ := pC4 BK431
       have hnb104 := NB432_442.out
       have hnc104 := NB442_432.out
       have hnb105 := NB432_443.out
       have hnc105 := NB443_432.out
       obtain ⟨hcz106_0, hcz106_1, hcz106_2, hfz106_0, hfz106_1, hfz106_2⟩ := pC3 BK432
       go_wp2_with (first | (go_at_call 10; (with_reducible refine (prefix_Contains.calls a0_0 a0_1 a0_2 a0_3 a1_0 a1_1 a1_2 t456 _ A99.out).mono ?_); rintro e w107 ⟨rfl, hb⟩; replace BK431 := (pB BK431 hb); replace BK432 := (pB BK432 hb); replace BK442 := (pB BK442 hb); replace BK443 := (pB BK443 hb); replace HB := (pS HB hb); (try clear hb)))
       go_meet
       case rel => exact ⟨_, ((t454 != t456)), pT, H', ⟨by have := HJ4.out; first | omega | exact Nat.le_refl _⟩, ⟨pM BK431⟩, ⟨pM BK432⟩, ⟨pM BK442⟩, ⟨pM BK443⟩, ⟨pE HB⟩⟩
     case rest =>
      clear HC84
      try clear c1
      try clear c2
      try clear p2
      try clear c3
      try clear c4
      try clear c5
      try clear c6
      try clear c7
      try clear c8
      try clear c9
      try clear c10
      try clear c13
      try clear c14
      try clear c15
      try clear c17
      try clear c18
      try clear c19
      try clear c22
      try clear c23
      try clear c24
      try clear c25
      try clear c27
      try clear c28
      try clear c32
      try clear c34
      try clear c36
      try clear c37
      try clear c38
      try clear c40
      try clear c41
      try clear c45
      try clear c54
      try clear c55
      try clear c56
      try clear c58
      try clear c59
      try clear c63
      try clear c69
      try clear c70
      try clear c71
      try clear c73
      try clear c74
      try clear c78
      try clear c81
      try clear c88
      try clear c89
      try clear c91
      try clear c92
      try clear c93
      try clear c95
      try clear c96
      try clear c100
      try clear c101
      try clear c102
      try clear c104
      try clear c105
      try clear hcz103_0 hcz103_1 hcz103_2 hcz103_3
      try clear hcz106_0 hcz106_1 hcz106_2
      try clear hcz16_0 hcz16_1 hcz16_2 hcz16_3
      try clear hcz19_0 hcz19_1 hcz19_2 hcz19_3
      try clear hcz26_0 hcz26_1 hcz26_2 hcz26_3
      try clear hcz29_0 hcz29_1 hcz29_2 hcz29_3
      try clear hcz39_0 hcz39_1 hcz39_2 hcz39_3
      try clear hcz42_0 hcz42_1 hcz42_2 hcz42_3
      try clear hcz44_0 hcz44_1 hcz44_2 hcz44_3
      try clear hcz46_0 hcz46_1 hcz46_2 hcz46_3
      try clear hcz48_0 hcz48_1 hcz48_2 hcz48_3
      try clear hcz49_0 hcz49_1 hcz49_2 hcz49_3
      try clear hcz51_0 hcz51_1 hcz51_2 hcz51_3
      try clear hcz52_0 hcz52_1 hcz52_2 hcz52_3
      try clear hcz57_0 hcz57_1 hcz57_2 hcz57_3
      try clear hcz60_0 hcz60_1 hcz60_2 hcz60_3
      try clear hcz62_0 hcz62_1 hcz62_2 hcz62_3
      try clear hcz64_0 hcz64_1 hcz64_2 hcz64_3
      try clear hcz66_0 hcz66_1 hcz66_2 hcz66_3
      try clear hcz67_0 hcz67_1 hcz67_2 hcz67_3
      try clear hcz72_0 hcz72_1 hcz72_2 hcz72_3
      try clear hcz75_0 hcz75_1 hcz75_2 hcz75_3
      try clear hcz77_0 hcz77_1 hcz77_2 hcz77_3
      try clear hcz79_0 hcz79_1 hcz79_2 hcz79_3
      try clear hcz94_0 hcz94_1 hcz94_2 hcz94_3
      try clear hcz97_0 hcz97_1 hcz97_2
      try clear hcz9_0 hcz9_1 hcz9_2 hcz9_3
      try clear hfz103_0 hfz103_1 hfz103_2 hfz103_3
      try clear hfz106_0 hfz106_1 hfz106_2
      try clear hfz16_0 hfz16_1 hfz16_2 hfz16_3
      try clear hfz19_0 hfz19_1 hfz19_2 hfz19_3
      try clear hfz26_0 hfz26_1 hfz26_2 hfz26_3
      try clear hfz29_0 hfz29_1 hfz29_2 hfz29_3
      try clear hfz39_0 hfz39_1 hfz39_2 hfz39_3
      try clear hfz42_0 hfz42_1 hfz42_2 hfz42_3
      try clear hfz44_0 hfz44_1 hfz44_2 hfz44_3
      try clear hfz46_0 hfz46_1 hfz46_2 hfz46_3
      try clear hfz48_0 hfz48_1 hfz48_2 hfz48_3
      try clear hfz49_0 hfz49_1 hfz49_2 hfz49_3
      try clear hfz51_0 hfz51_1 hfz51_2 hfz51_3
      try clear hfz52_0 hfz52_1 hfz52_2 hfz52_3
      try clear hfz57_0 hfz57_1 hfz57_2 hfz57_3
      try clear hfz60_0 hfz60_1 hfz60_2 hfz60_3
      try clear hfz62_0 hfz62_1 hfz62_2 hfz62_3
      try clear hfz64_0 hfz64_1 hfz64_2 hfz64_3
      try clear hfz66_0 hfz66_1 hfz66_2 hfz66_3
      try clear hfz67_0 hfz67_1 hfz67_2 hfz67_3
      try clear hfz72_0 hfz72_1 hfz72_2 hfz72_3
      try clear hfz75_0 hfz75_1 hfz75_2 hfz75_3
      try clear hfz77_0 hfz77_1 hfz77_2 hfz77_3
      try clear hfz79_0 hfz79_1 hfz79_2 hfz79_3
      try clear hfz94_0 hfz94_1 hfz94_2 hfz94_3
      try clear hfz97_0 hfz97_1 hfz97_2
      try clear hfz9_0 hfz9_1 hfz9_2 hfz9_3
      try clear p2
      obtain ⟨kq, x98_83, rfl, HA, HJ83, BK431, BK432, BK442, BK443, HB⟩ := hcut
      cases kq with
      | zero => exact absurd HA.out (by simp [ddilaw03_PrefixHalves.j1])
      | succ kj83 =>
       have H := HA.out
       clear HA
       simp only [ddilaw03_PrefixHalves.j1] at H
       by_cases c108 : x98_83 = true
       ·
        subst c108
        rw [if_pos rfl] at H
        exact absurd H (by simp)
       ·
        replace c108 := Bool.eq_false_iff.mpr c108
        subst c108
        rw [if_neg (show ¬ (false = true) by decide)] at H
        replace H := Option.bind_eq_some_iff.mp H
        obtain ⟨⟨t457, t458, t459, t460, t461⟩, A1090, H⟩ := H
        replace H : ((prefix_Part.f kj83 a0_0 a0_1 a0_2 a0_3 (wrap64 (a0_3 + 1)) 1).bind fun bt463 => ((prefix_Part.f kj83 a0_0 a0_1 a0_2 a0_3 (wrap64 (a0_3 + 1)) 2).bind fun bt469 => ((prefix_Size.f a0_0 a0_1 a0_2 a0_3).bind fun bt475 => ((prefix_Size.f t433 t434 t435 t436).bind fun bt477 => (if t461 = true then (if bt463.2.2.2.2 = true then (if bt469.2.2.2.2 = true then (none) else (if ((t457 == t433 && (t458 == t434 && (t459 == t435))) && (t460 == t436)) = true then (if ((bt463.1 == t437 && (bt463.2.1 == t438 && (bt463.2.2.1 == t439))) && (bt463.2.2.2.1 == t440)) = true then (if bt475.2 = true then (if bt477.2 = true then (if bt475.1 = (IntKind.u64.wrap (2 * bt477.1)) then ((ddilaw03_awake.f kj83).bind fun t479 => (some t479)) else (none)) else (none)) else ((ddilaw03_awake.f kj83).bind fun t480 => (some t480))) else (none)) else (none))) else (none)) else (none)))))) = some r := H
        have A109 := Aside0.mk A1090
        clear A1090
        replace H := Option.bind_eq_some_iff.mp H
        obtain ⟨⟨t463, t464, t465, t466, t467⟩, A1100, H⟩ := H
        replace H : ((prefix_Part.f kj83 a0_0 a0_1 a0_2 a0_3 (wrap64 (a0_3 + 1)) 2).bind fun bt469 => ((prefix_Size.f a0_0 a0_1 a0_2 a0_3).bind fun bt475 => ((prefix_Size.f t433 t434 t435 t436).bind fun bt477 => (if t461 = true then (if t467 = true then (if bt469.2.2.2.2 = true then (none) else (if ((t457 == t433 && (t458 == t434 && (t459 == t435))) && (t460 == t436)) = true then (if ((t463 == t437 && (t464 == t438 && (t465 == t439))) && (t466 == t440)) = true then (if bt475.2 = true then (if bt477.2 = true then (if bt475.1 = (IntKind.u64.wrap (2 * bt477.1)) then ((ddilaw03_awake.f kj83).bind fun t479 => (some t479)) else (none)) else (none)) else ((ddilaw03_awake.f kj83).bind fun t480 => (some t480))) else (none)) else (none))) else (none)) else (none))))) = some r := H
        have A110 := Aside0.mk A1100
        clear A1100
        replace H := Option.bind_eq_some_iff.mp H
        obtain ⟨⟨t469, t470, t471, t472, t473⟩, A1110, H⟩ := H
        replace H : ((prefix_Size.f a0_0 a0_1 a0_2 a0_3).bind fun bt475 => ((prefix_Size.f t433 t434 t435 t436).bind fun bt477 => (if t461 = true then (if t467 = true then (if t473 = true then (none) else (if ((t457 == t433 && (t458 == t434 && (t459 == t435))) && (t460 == t436)) = true then (if ((t463 == t437 && (t464 == t438 && (t465 == t439))) && (t466 == t440)) = true then (if bt475.2 = true then (if bt477.2 = true then (if bt475.1 = (IntKind.u64.wrap (2 * bt477.1)) then ((ddilaw03_awake.f kj83).bind fun t479 => (some t479)) else (none)) else (none)) else ((ddilaw03_awake.f kj83).bind fun t480 => (some t480))) else (none)) else (none))) else (none)) else (none)))) = some r := H
        have A111 := Aside0.mk A1110
        clear A1110
        replace H := Option.bind_eq_some_iff.mp H
        obtain ⟨⟨t475, t476⟩, A1120, H⟩ := H
        replace H : ((prefix_Size.f t433 t434 t435 t436).bind fun bt477 => (if t461 = true then (if t467 = true then (if t473 = true then (none) else (if ((t457 == t433 && (t458 == t434 && (t459 == t435))) && (t460 == t436)) = true then (if ((t463 == t437 && (t464 == t438 && (t465 == t439))) && (t466 == t440)) = true then (if t476 = true then (if bt477.2 = true then (if t475 = (IntKind.u64.wrap (2 * bt477.1)) then ((ddilaw03_awake.f kj83).bind fun t479 => (some t479)) else (none)) else (none)) else ((ddilaw03_awake.f kj83).bind fun t480 => (some t480))) else (none)) else (none))) else (none)) else (none))) = some r := H
        have A112 := Aside0.mk A1120
        clear A1120
        replace H := Option.bind_eq_some_iff.mp H
        obtain ⟨⟨t477, t478⟩, A1130, H⟩ := H
        replace H : (if t461 = true then (if t467 = true then (if t473 = true then (none) else (if ((t457 == t433 && (t458 == t434 && (t459 == t435))) && (t460 == t436)) = true then (if ((t463 == t437 && (t464 == t438 && (t465 == t439))) && (t466 == t440)) = true then (if t476 = true then (if t478 = true then (if t475 = (IntKind.u64.wrap (2 * t477)) then ((ddilaw03_awake.f kj83).bind fun t479 => (some t479)) else (none)) else (none)) else ((ddilaw03_awake.f kj83).bind fun t480 => (some t480))) else (none)) else (none))) else (none)) else (none)) = some r := H
        have A113 := Aside0.mk A1130
        clear A1130
        by_cases c114 : t461 = true
        ·
         subst c114
         rw [if_pos rfl] at H
         by_cases c115 : t467 = true
         ·
          subst c115
          rw [if_pos rfl] at H
          by_cases c116 : t473 = true
          ·
           subst c116
           rw [if_pos rfl] at H
           exact absurd H (by simp)
          ·
           replace c116 := Bool.eq_false_iff.mpr c116
           subst c116
           rw [if_neg (show ¬ (false = true) by decide)] at H
           by_cases c117 : ((t457 == t433 && (t458 == t434 && (t459 == t435))) && (t460 == t436)) = true
           ·
            rw [if_pos c117] at H
            have c117b0 : ((t457 == t433 && (t458 == t434 && (t459 == t435))) && (t460 == t436)) = true := c117
            clear c117
            by_cases c118 : ((t463 == t437 && (t464 == t438 && (t465 == t439))) && (t466 == t440)) = true
            ·
             rw [if_pos c118] at H
             have c118b0 : ((t463 == t437 && (t464 == t438 && (t465 == t439))) && (t466 == t440)) = true := c118
             clear c118
             by_cases c119 : t476 = true
             ·
              subst c119
              rw [if_pos rfl] at H
              by_cases c120 : t478 = true
              ·
               subst c120
               rw [if_pos rfl] at H
               by_cases c121 : t475 = (IntKind.u64.wrap (2 * t477))
               ·
                rw [if_pos c121] at H
                have c121b0 : (t475 == (IntKind.u64.wrap (2 * t477))) = true := beq_iff_eq.mpr c121
                have c121b1 : (t475 != (IntKind.u64.wrap (2 * t477))) = false := bne_eq_false_iff_eq.mpr c121
                clear c121
                replace H := Option.bind_eq_some_iff.mp H
                obtain ⟨t479, A1220, H⟩ := H
                replace H : (some t479) = some r := H
                have A122 := Aside0.mk A1220
                clear A1220
                obtain rfl := Option.some.inj H
                have hnb123 := NB431_432.out
                have hnc123 := NB432_431.out
                have hnb124 := NB431_442.out
                have hnc124 := NB442_431.out
                have hnb125 := NB431_443.out
                have hnc125 := NB443_431.out
                obtain ⟨hcz126_0, hcz126_1, hcz126_2, hcz126_3, hfz126_0, hfz126_1, hfz126_2, hfz126_3⟩ := pC4 BK431
                go_wp2_with (first | ((with_reducible refine gate_callee (f := 24) rfl ?_); refine goesA (some 104) Tryd.func24 #[.agg #[.bool a0_0, .int .u64 a0_1, .int .u64 a0_2, .int .i64 a0_3], .int .i64 (wrap64 (a0_3 + 1)), .int .u64 0] ?_; (with_reducible refine (prefix_Part.calls kj83 a0_0 a0_1 a0_2 a0_3 (wrap64 (a0_3 + 1)) 0 t457 t458 t459 t460 true _ A109.out).mono ?_); rintro e w127 ⟨rfl, hb⟩; refine ⟨_, rfl, ?_⟩; replace BK431 := (pB BK431 hb); replace BK432 := (pB BK432 hb); replace BK442 := (pB BK442 hb); replace BK443 := (pB BK443 hb); replace HB := (pS HB hb); (try clear hb)) | ((with_reducible refine gate_dst (N := 12) rfl ?_); refine boxA (N := 12) (cs := #[.bool false, .int .u64 0, .int .u64 0, .int .i64 0]) (t := 26) ?_; intro gb462 hg w128 hbox hb; have BK462 := Aside0.mk (hbox); have GW462 := (pZ HB hg); have GE462 := (pZ HB hg); have NB431_462 := (pL BK431 hg); have NB462_431 := (pG BK431 hg); have NB432_462 := (pL BK432 hg); have NB462_432 := (pG BK432 hg); have NB442_462 := (pL BK442 hg); have NB462_442 := (pG BK442 hg); have NB443_462 := (pL BK443 hg); have NB462_443 := (pG BK443 hg); replace BK431 := (pB BK431 hb); replace BK432 := (pB BK432 hb); replace BK442 := (pB BK442 hb); replace BK443 := (pB BK443 hb); replace HB := (pS HB hb); clear hb hbox hg; have hnb129 := NB462_431.out; have hnc129 := NB431_462.out; have hnb130 := NB462_432.out; have hnc130 := NB432_462.out; have hnb131 := NB462_442.out; have hnc131 := NB442_462.out; have hnb132 := NB462_443.out; have hnc132 := NB443_462.out; obtain ⟨hcz133_0, hcz133_1, hcz133_2, hcz133_3, hfz133_0, hfz133_1, hfz133_2, hfz133_3⟩ := pC4 BK462; obtain ⟨hcz134_0, hcz134_1, hcz134_2, hcz134_3, hfz134_0, hfz134_1, hfz134_2, hfz134_3⟩ := pC4 BK431) | ((with_reducible refine gate_callee (f := 24) rfl ?_); refine goesA (some 112) Tryd.func24 #[.agg #[.bool a0_0, .int .u64 a0_1, .int .u64 a0_2, .int .i64 a0_3], .int .i64 (wrap64 (a0_3 + 1)), .int .u64 1] ?_; (with_reducible refine (prefix_Part.calls kj83 a0_0 a0_1 a0_2 a0_3 (wrap64 (a0_3 + 1)) 1 t463 t464 t465 t466 true _ A110.out).mono ?_); rintro e w135 ⟨rfl, hb⟩; refine ⟨_, rfl, ?_⟩; replace BK431 := (pD hb (pK NB431_462 (pK NB431_462 (pK NB431_462 (pK NB431_462 (pM BK431)))))); replace BK432 := (pD hb (pK NB432_462 (pK NB432_462 (pK NB432_462 (pK NB432_462 (pM BK432)))))); replace BK442 := (pD hb (pK NB442_462 (pK NB442_462 (pK NB442_462 (pK NB442_462 (pM BK442)))))); replace BK443 := (pD hb (pK NB443_462 (pK NB443_462 (pK NB443_462 (pK NB443_462 (pM BK443)))))); replace BK462 := (pD hb (pP (pP (pP (pP (pM BK462)))))); replace HB := (pS HB hb); (try clear hb)) | ((with_reducible refine gate_dst (N := 14) rfl ?_); refine boxA (N := 14) (cs := #[.bool false, .int .u64 0, .int .u64 0, .int .i64 0]) (t := 26) ?_; intro gb468 hg w136 hbox hb; have BK468 := Aside0.mk (hbox); have GW468 := (pZ HB hg); have GE468 := (pZ HB hg); have NB431_468 := (pL BK431 hg); have NB468_431 := (pG BK431 hg); have NB432_468 := (pL BK432 hg); have NB468_432 := (pG BK432 hg); have NB442_468 := (pL BK442 hg); have NB468_442 := (pG BK442 hg); have NB443_468 := (pL BK443 hg); have NB468_443 := (pG BK443 hg); have NB462_468 := (pL BK462 hg); have NB468_462 := (pG BK462 hg); replace BK431 := (pB BK431 hb); replace BK432 := (pB BK432 hb); replace BK442 := (pB BK442 hb); replace BK443 := (pB BK443 hb); replace BK462 := (pB BK462 hb); replace HB := (pS HB hb); clear hb hbox hg; have hnb137 := NB468_431.out; have hnc137 := NB431_468.out; have hnb138 := NB468_432.out; have hnc138 := NB432_468.out; have hnb139 := NB468_442.out; have hnc139 := NB442_468.out; have hnb140 := NB468_443.out; have hnc140 := NB443_468.out; have hnb141 := NB468_462.out; have hnc141 := NB462_468.out; obtain ⟨hcz142_0, hcz142_1, hcz142_2, hcz142_3, hfz142_0, hfz142_1, hfz142_2, hfz142_3⟩ := pC4 BK468; obtain ⟨hcz143_0, hcz143_1, hcz143_2, hcz143_3, hfz143_0, hfz143_1, hfz143_2, hfz143_3⟩ := pC4 BK431) | ((with_reducible refine gate_callee (f := 24) rfl ?_); refine goesA (some 120) Tryd.func24 #[.agg #[.bool a0_0, .int .u64 a0_1, .int .u64 a0_2, .int .i64 a0_3], .int .i64 (wrap64 (a0_3 + 1)), .int .u64 2] ?_; (with_reducible refine (prefix_Part.calls kj83 a0_0 a0_1 a0_2 a0_3 (wrap64 (a0_3 + 1)) 2 t469 t470 t471 t472 false _ A111.out).mono ?_); rintro e w144 ⟨rfl, hb⟩; refine ⟨_, rfl, ?_⟩; replace BK431 := (pD hb (pK NB431_468 (pK NB431_468 (pK NB431_468 (pK NB431_468 (pM BK431)))))); replace BK432 := (pD hb (pK NB432_468 (pK NB432_468 (pK NB432_468 (pK NB432_468 (pM BK432)))))); replace BK442 := (pD hb (pK NB442_468 (pK NB442_468 (pK NB442_468 (pK NB442_468 (pM BK442)))))); replace BK443 := (pD hb (pK NB443_468 (pK NB443_468 (pK NB443_468 (pK NB443_468 (pM BK443)))))); replace BK462 := (pD hb (pK NB462_468 (pK NB462_468 (pK NB462_468 (pK NB462_468 (pM BK462)))))); replace BK468 := (pD hb (pP (pP (pP (pP (pM BK468)))))); replace HB := (pS HB hb); (try clear hb)) | ((with_reducible refine gate_dst (N := 16) rfl ?_); refine boxA (N := 16) (cs := #[.bool false, .int .u64 0, .int .u64 0, .int .i64 0]) (t := 26) ?_; intro gb474 hg w145 hbox hb; have BK474 := Aside0.mk (hbox); have GW474 := (pZ HB hg); have GE474 := (pZ HB hg); have NB431_474 := (pL BK431 hg); have NB474_431 := (pG BK431 hg); have NB432_474 := (pL BK432 hg); have NB474_432 := (pG BK432 hg); have NB442_474 := (pL BK442 hg); have NB474_442 := (pG BK442 hg); have NB443_474 := (pL BK443 hg); have NB474_443 := (pG BK443 hg); have NB462_474 := (pL BK462 hg); have NB474_462 := (pG BK462 hg); have NB468_474 := (pL BK468 hg); have NB474_468 := (pG BK468 hg); replace BK431 := (pB BK431 hb); replace BK432 := (pB BK432 hb); replace BK442 := (pB BK442 hb); replace BK443 := (pB BK443 hb); replace BK462 := (pB BK462 hb); replace BK468 := (pB BK468 hb); replace HB := (pS HB hb); clear hb hbox hg; have hnb146 := NB474_431.out; have hnc146 := NB431_474.out; have hnb147 := NB474_432.out; have hnc147 := NB432_474.out; have hnb148 := NB474_442.out; have hnc148 := NB442_474.out; have hnb149 := NB474_443.out; have hnc149 := NB443_474.out; have hnb150 := NB474_462.out; have hnc150 := NB462_474.out; have hnb151 := NB474_468.out; have hnc151 := NB468_474.out; obtain ⟨hcz152_0, hcz152_1, hcz152_2, hcz152_3, hfz152_0, hfz152_1, hfz152_2, hfz152_3⟩ := pC4 BK474; obtain ⟨hcz153_0, hcz153_1, hcz153_2, hcz153_3, hfz153_0, hfz153_1, hfz153_2, hfz153_3⟩ := pC4 BK431) | ((with_reducible refine gate_callee (f := 23) rfl ?_); refine goesA (some 125) Tryd.func23 #[.agg #[.bool a0_0, .int .u64 a0_1, .int .u64 a0_2, .int .i64 a0_3]] ?_; (with_reducible refine (prefix_Size.calls a0_0 a0_1 a0_2 a0_3 t475 true _ A112.out).mono ?_); rintro e w154 ⟨rfl, hb⟩; refine ⟨_, rfl, ?_⟩; replace BK431 := (pD hb (pK NB431_474 (pK NB431_474 (pK NB431_474 (pK NB431_474 (pM BK431)))))); replace BK432 := (pD hb (pK NB432_474 (pK NB432_474 (pK NB432_474 (pK NB432_474 (pM BK432)))))); replace BK442 := (pD hb (pK NB442_474 (pK NB442_474 (pK NB442_474 (pK NB442_474 (pM BK442)))))); replace BK443 := (pD hb (pK NB443_474 (pK NB443_474 (pK NB443_474 (pK NB443_474 (pM BK443)))))); replace BK462 := (pD hb (pK NB462_474 (pK NB462_474 (pK NB462_474 (pK NB462_474 (pM BK462)))))); replace BK468 := (pD hb (pK NB468_474 (pK NB468_474 (pK NB468_474 (pK NB468_474 (pM BK468)))))); replace BK474 := (pD hb (pP (pP (pP (pP (pM BK474)))))); replace HB := (pS HB hb); (try clear hb); have hnb155 := NB442_432.out; have hnc155 := NB432_442.out; have hnb156 := NB442_443.out; have hnc156 := NB443_442.out; obtain ⟨hcz157_0, hcz157_1, hcz157_2, hcz157_3, hfz157_0, hfz157_1, hfz157_2, hfz157_3⟩ := pC4 BK442) | ((with_reducible refine gate_callee (f := 23) rfl ?_); refine goesA (some 130) Tryd.func23 #[.agg #[.bool t433, .int .u64 t434, .int .u64 t435, .int .i64 t436]] ?_; (with_reducible refine (prefix_Size.calls t433 t434 t435 t436 t477 true _ A113.out).mono ?_); rintro e w158 ⟨rfl, hb⟩; refine ⟨_, rfl, ?_⟩; replace BK431 := (pB BK431 hb); replace BK432 := (pB BK432 hb); replace BK442 := (pB BK442 hb); replace BK443 := (pB BK443 hb); replace BK462 := (pB BK462 hb); replace BK468 := (pB BK468 hb); replace BK474 := (pB BK474 hb); replace HB := (pS HB hb); (try clear hb); obtain ⟨hcz159_0, hcz159_1, hcz159_2, hcz159_3, hfz159_0, hfz159_1, hfz159_2, hfz159_3⟩ := pC4 BK462; obtain ⟨hcz160_0, hcz160_1, hcz160_2, hcz160_3, hfz160_0, hfz160_1, hfz160_2, hfz160_3⟩ := pC4 BK442; obtain ⟨hcz161_0, hcz161_1, hcz161_2, hcz161_3, hfz161_0, hfz161_1, hfz161_2, hfz161_3⟩ := pC4 BK468; have hnb162 := NB443_432.out; have hnc162 := NB432_443.out; obtain ⟨hcz163_0, hcz163_1, hcz163_2, hcz163_3, hfz163_0, hfz163_1, hfz163_2, hfz163_3⟩ := pC4 BK443) | (go_at_call 11; (with_reducible refine (ddilaw03_awake.calls kj83  t479 _ ?side1 A122.out).mono ?_); (case side1 => exact Laid.below HLD.out (pE HB)); rintro e w164 ⟨rfl, hb⟩; replace BK431 := (pB BK431 hb); replace BK432 := (pB BK432 hb); replace BK442 := (pB BK442 hb); replace BK443 := (pB BK443 hb); replace BK462 := (pB BK462 hb); replace BK468 := (pB BK468 hb); replace BK474 := (pB BK474 hb); replace HB := (pS HB hb); (try clear hb)))
                go_ret
                exact pR (pE HB)
               ·
                rw [if_neg c121] at H
                exact absurd H (by simp)
              ·
               replace c120 := Bool.eq_false_iff.mpr c120
               subst c120
               rw [if_neg (show ¬ (false = true) by decide)] at H
               exact absurd H (by simp)
             ·
              replace c119 := Bool.eq_false_iff.mpr c119
              subst c119
              rw [if_neg (show ¬ (false = true) by decide)] at H
              replace H := Option.bind_eq_some_iff.mp H
              obtain ⟨t480, A1650, H⟩ := H
              replace H : (some t480) = some r := H
              have A165 := Aside0.mk A1650
              clear A1650
              obtain rfl := Option.some.inj H
              have hnb166 := NB431_432.out
              have hnc166 := NB432_431.out
              have hnb167 := NB431_442.out
              have hnc167 := NB442_431.out
              have hnb168 := NB431_443.out
              have hnc168 := NB443_431.out
              obtain ⟨hcz169_0, hcz169_1, hcz169_2, hcz169_3, hfz169_0, hfz169_1, hfz169_2, hfz169_3⟩ := pC4 BK431
              go_wp2_with (first | ((with_reducible refine gate_callee (f := 24) rfl ?_); refine goesA (some 104) Tryd.func24 #[.agg #[.bool a0_0, .int .u64 a0_1, .int .u64 a0_2, .int .i64 a0_3], .int .i64 (wrap64 (a0_3 + 1)), .int .u64 0] ?_; (with_reducible refine (prefix_Part.calls kj83 a0_0 a0_1 a0_2 a0_3 (wrap64 (a0_3 + 1)) 0 t457 t458 t459 t460 true _ A109.out).mono ?_); rintro e w170 ⟨rfl, hb⟩; refine ⟨_, rfl, ?_⟩; replace BK431 := (pB BK431 hb); replace BK432 := (pB BK432 hb); replace BK442 := (pB BK442 hb); replace BK443 := (pB BK443 hb); replace HB := (pS HB hb); (try clear hb)) | ((with_reducible refine gate_dst (N := 12) rfl ?_); refine boxA (N := 12) (cs := #[.bool false, .int .u64 0, .int .u64 0, .int .i64 0]) (t := 26) ?_; intro gb462 hg w171 hbox hb; have BK462 := Aside0.mk (hbox); have GW462 := (pZ HB hg); have GE462 := (pZ HB hg); have NB431_462 := (pL BK431 hg); have NB462_431 := (pG BK431 hg); have NB432_462 := (pL BK432 hg); have NB462_432 := (pG BK432 hg); have NB442_462 := (pL BK442 hg); have NB462_442 := (pG BK442 hg); have NB443_462 := (pL BK443 hg); have NB462_443 := (pG BK443 hg); replace BK431 := (pB BK431 hb); replace BK432 := (pB BK432 hb); replace BK442 := (pB BK442 hb); replace BK443 := (pB BK443 hb); replace HB := (pS HB hb); clear hb hbox hg; have hnb172 := NB462_431.out; have hnc172 := NB431_462.out; have hnb173 := NB462_432.out; have hnc173 := NB432_462.out; have hnb174 := NB462_442.out; have hnc174 := NB442_462.out; have hnb175 := NB462_443.out; have hnc175 := NB443_462.out; obtain ⟨hcz176_0, hcz176_1, hcz176_2, hcz176_3, hfz176_0, hfz176_1, hfz176_2, hfz176_3⟩ := pC4 BK462; obtain ⟨hcz177_0, hcz177_1, hcz177_2, hcz177_3, hfz177_0, hfz177_1, hfz177_2, hfz177_3⟩ := pC4 BK431) | ((with_reducible refine gate_callee (f := 24) rfl ?_); refine goesA (some 112) Tryd.func24 #[.agg #[.bool a0_0, .int .u64 a0_1, .int .u64 a0_2, .int .i64 a0_3], .int .i64 (wrap64 (a0_3 + 1)), .int .u64 1] ?_; (with_reducible refine (prefix_Part.calls kj83 a0_0 a0_1 a0_2 a0_3 (wrap64 (a0_3 + 1)) 1 t463 t464 t465 t466 true _ A110.out).mono ?_); rintro e w178 ⟨rfl, hb⟩; refine ⟨_, rfl, ?_⟩; replace BK431 := (pD hb (pK NB431_462 (pK NB431_462 (pK NB431_462 (pK NB431_462 (pM BK431)))))); replace BK432 := (pD hb (pK NB432_462 (pK NB432_462 (pK NB432_462 (pK NB432_462 (pM BK432)))))); replace BK442 := (pD hb (pK NB442_462 (pK NB442_462 (pK NB442_462 (pK NB442_462 (pM BK442)))))); replace BK443 := (pD hb (pK NB443_462 (pK NB443_462 (pK NB443_462 (pK NB443_462 (pM BK443)))))); replace BK462 := (pD hb (pP (pP (pP (pP (pM BK462)))))); replace HB := (pS HB hb); (try clear hb)) | ((with_reducible refine gate_dst (N := 14) rfl ?_); refine boxA (N := 14) (cs := #[.bool false, .int .u64 0, .int .u64 0, .int .i64 0]) (t := 26) ?_; intro gb468 hg w179 hbox hb; have BK468 := Aside0.mk (hbox); have GW468 := (pZ HB hg); have GE468 := (pZ HB hg); have NB431_468 := (pL BK431 hg); have NB468_431 := (pG BK431 hg); have NB432_468 := (pL BK432 hg); have NB468_432 := (pG BK432 hg); have NB442_468 := (pL BK442 hg); have NB468_442 := (pG BK442 hg); have NB443_468 := (pL BK443 hg); have NB468_443 := (pG BK443 hg); have NB462_468 := (pL BK462 hg); have NB468_462 := (pG BK462 hg); replace BK431 := (pB BK431 hb); replace BK432 := (pB BK432 hb); replace BK442 := (pB BK442 hb); replace BK443 := (pB BK443 hb); replace BK462 := (pB BK462 hb); replace HB := (pS HB hb); clear hb hbox hg; have hnb180 := NB468_431.out; have hnc180 := NB431_468.out; have hnb181 := NB468_432.out; have hnc181 := NB432_468.out; have hnb182 := NB468_442.out; have hnc182 := NB442_468.out; have hnb183 := NB468_443.out; have hnc183 := NB443_468.out; have hnb184 := NB468_462.out; have hnc184 := NB462_468.out; obtain ⟨hcz185_0, hcz185_1, hcz185_2, hcz185_3, hfz185_0, hfz185_1, hfz185_2, hfz185_3⟩ := pC4 BK468; obtain ⟨hcz186_0, hcz186_1, hcz186_2, hcz186_3, hfz186_0, hfz186_1, hfz186_2, hfz186_3⟩ := pC4 BK431) | ((with_reducible refine gate_callee (f := 24) rfl ?_); refine goesA (some 120) Tryd.func24 #[.agg #[.bool a0_0, .int .u64 a0_1, .int .u64 a0_2, .int .i64 a0_3], .int .i64 (wrap64 (a0_3 + 1)), .int .u64 2] ?_; (with_reducible refine (prefix_Part.calls kj83 a0_0 a0_1 a0_2 a0_3 (wrap64 (a0_3 + 1)) 2 t469 t470 t471 t472 false _ A111.out).mono ?_); rintro e w187 ⟨rfl, hb⟩; refine ⟨_, rfl, ?_⟩; replace BK431 := (pD hb (pK NB431_468 (pK NB431_468 (pK NB431_468 (pK NB431_468 (pM BK431)))))); replace BK432 := (pD hb (pK NB432_468 (pK NB432_468 (pK NB432_468 (pK NB432_468 (pM BK432)))))); replace BK442 := (pD hb (pK NB442_468 (pK NB442_468 (pK NB442_468 (pK NB442_468 (pM BK442)))))); replace BK443 := (pD hb (pK NB443_468 (pK NB443_468 (pK NB443_468 (pK NB443_468 (pM BK443)))))); replace BK462 := (pD hb (pK NB462_468 (pK NB462_468 (pK NB462_468 (pK NB462_468 (pM BK462)))))); replace BK468 := (pD hb (pP (pP (pP (pP (pM BK468)))))); replace HB := (pS HB hb); (try clear hb)) | ((with_reducible refine gate_dst (N := 16) rfl ?_); refine boxA (N := 16) (cs := #[.bool false, .int .u64 0, .int .u64 0, .int .i64 0]) (t := 26) ?_; intro gb474 hg w188 hbox hb; have BK474 := Aside0.mk (hbox); have GW474 := (pZ HB hg); have GE474 := (pZ HB hg); have NB431_474 := (pL BK431 hg); have NB474_431 := (pG BK431 hg); have NB432_474 := (pL BK432 hg); have NB474_432 := (pG BK432 hg); have NB442_474 := (pL BK442 hg); have NB474_442 := (pG BK442 hg); have NB443_474 := (pL BK443 hg); have NB474_443 := (pG BK443 hg); have NB462_474 := (pL BK462 hg); have NB474_462 := (pG BK462 hg); have NB468_474 := (pL BK468 hg); have NB474_468 := (pG BK468 hg); replace BK431 := (pB BK431 hb); replace BK432 := (pB BK432 hb); replace BK442 := (pB BK442 hb); replace BK443 := (pB BK443 hb); replace BK462 := (pB BK462 hb); replace BK468 := (pB BK468 hb); replace HB := (pS HB hb); clear hb hbox hg; have hnb189 := NB474_431.out; have hnc189 := NB431_474.out; have hnb190 := NB474_432.out; have hnc190 := NB432_474.out; have hnb191 := NB474_442.out; have hnc191 := NB442_474.out; have hnb192 := NB474_443.out; have hnc192 := NB443_474.out; have hnb193 := NB474_462.out; have hnc193 := NB462_474.out; have hnb194 := NB474_468.out; have hnc194 := NB468_474.out; obtain ⟨hcz195_0, hcz195_1, hcz195_2, hcz195_3, hfz195_0, hfz195_1, hfz195_2, hfz195_3⟩ := pC4 BK474; obtain ⟨hcz196_0, hcz196_1, hcz196_2, hcz196_3, hfz196_0, hfz196_1, hfz196_2, hfz196_3⟩ := pC4 BK431) | ((with_reducible refine gate_callee (f := 23) rfl ?_); refine goesA (some 125) Tryd.func23 #[.agg #[.bool a0_0, .int .u64 a0_1, .int .u64 a0_2, .int .i64 a0_3]] ?_; (with_reducible refine (prefix_Size.calls a0_0 a0_1 a0_2 a0_3 t475 false _ A112.out).mono ?_); rintro e w197 ⟨rfl, hb⟩; refine ⟨_, rfl, ?_⟩; replace BK431 := (pD hb (pK NB431_474 (pK NB431_474 (pK NB431_474 (pK NB431_474 (pM BK431)))))); replace BK432 := (pD hb (pK NB432_474 (pK NB432_474 (pK NB432_474 (pK NB432_474 (pM BK432)))))); replace BK442 := (pD hb (pK NB442_474 (pK NB442_474 (pK NB442_474 (pK NB442_474 (pM BK442)))))); replace BK443 := (pD hb (pK NB443_474 (pK NB443_474 (pK NB443_474 (pK NB443_474 (pM BK443)))))); replace BK462 := (pD hb (pK NB462_474 (pK NB462_474 (pK NB462_474 (pK NB462_474 (pM BK462)))))); replace BK468 := (pD hb (pK NB468_474 (pK NB468_474 (pK NB468_474 (pK NB468_474 (pM BK468)))))); replace BK474 := (pD hb (pP (pP (pP (pP (pM BK474)))))); replace HB := (pS HB hb); (try clear hb); have hnb198 := NB442_432.out; have hnc198 := NB432_442.out; have hnb199 := NB442_443.out; have hnc199 := NB443_442.out; obtain ⟨hcz200_0, hcz200_1, hcz200_2, hcz200_3, hfz200_0, hfz200_1, hfz200_2, hfz200_3⟩ := pC4 BK442) | ((with_reducible refine gate_callee (f := 23) rfl ?_); refine goesA (some 130) Tryd.func23 #[.agg #[.bool t433, .int .u64 t434, .int .u64 t435, .int .i64 t436]] ?_; (with_reducible refine (prefix_Size.calls t433 t434 t435 t436 t477 t478 _ A113.out).mono ?_); rintro e w201 ⟨rfl, hb⟩; refine ⟨_, rfl, ?_⟩; replace BK431 := (pB BK431 hb); replace BK432 := (pB BK432 hb); replace BK442 := (pB BK442 hb); replace BK443 := (pB BK443 hb); replace BK462 := (pB BK462 hb); replace BK468 := (pB BK468 hb); replace BK474 := (pB BK474 hb); replace HB := (pS HB hb); (try clear hb); obtain ⟨hcz202_0, hcz202_1, hcz202_2, hcz202_3, hfz202_0, hfz202_1, hfz202_2, hfz202_3⟩ := pC4 BK462; obtain ⟨hcz203_0, hcz203_1, hcz203_2, hcz203_3, hfz203_0, hfz203_1, hfz203_2, hfz203_3⟩ := pC4 BK442; obtain ⟨hcz204_0, hcz204_1, hcz204_2, hcz204_3, hfz204_0, hfz204_1, hfz204_2, hfz204_3⟩ := pC4 BK468; have hnb205 := NB443_432.out; have hnc205 := NB432_443.out; obtain ⟨hcz206_0, hcz206_1, hcz206_2, hcz206_3, hfz206_0, hfz206_1, hfz206_2, hfz206_3⟩ := pC4 BK443) | (go_at_call 11; (with_reducible refine (ddilaw03_awake.calls kj83  t480 _ ?side1 A165.out).mono ?_); (case side1 => exact Laid.below HLD.out (pE HB)); rintro e w207 ⟨rfl, hb⟩; replace BK431 := (pB BK431 hb); replace BK432 := (pB BK432 hb); replace BK442 := (pB BK442 hb); replace BK443 := (pB BK443 hb); replace BK462 := (pB BK462 hb); replace BK468 := (pB BK468 hb); replace BK474 := (pB BK474 hb); replace HB := (pS HB hb); (try clear hb)))
              go_ret
              exact pR (pE HB)
            ·
             rw [if_neg c118] at H
             exact absurd H (by simp)
           ·
            rw [if_neg c117] at H
            exact absurd H (by simp)
         ·
          replace c115 := Bool.eq_false_iff.mpr c115
          subst c115
          rw [if_neg (show ¬ (false = true) by decide)] at H
          exact absurd H (by simp)
        ·
         replace c114 := Bool.eq_false_iff.mpr c114
         subst c114
         rw [if_neg (show ¬ (false = true) by decide)] at H
         exact absurd H (by simp)
 ·
  replace c4 := Bool.eq_false_iff.mpr c4
  subst c4
  rw [if_neg (show ¬ (false = true) by decide)] at H
  replace H := Option.bind_eq_some_iff.mp H
  obtain ⟨⟨t444, t445⟩, A2080, H⟩ := H
  replace H : (if ((!t433 && (t434 == 0 && (t435 == 0))) && (t436 == 0)) = true then (if ((!t437 && (t438 == 0 && (t439 == 0))) && (t440 == 0)) = true then ((prefix_Valid.f a0_0 a0_1 a0_2 a0_3).bind fun t446 => (if t446 = true then (if t445 = true then (if t444 = 1 then ((ddilaw03_awake.f k).bind fun t447 => (some t447)) else (none)) else (none)) else ((ddilaw03_awake.f k).bind fun t448 => (some t448)))) else (none)) else (none)) = some r := H
  have A208 := Aside0.mk A2080
  clear A2080
  by_cases c209 : ((!t433 && (t434 == 0 && (t435 == 0))) && (t436 == 0)) = true
  ·
   rw [if_pos c209] at H
   have c209b0 : ((!t433 && (t434 == 0 && (t435 == 0))) && (t436 == 0)) = true := c209
   clear c209
   by_cases c210 : ((!t437 && (t438 == 0 && (t439 == 0))) && (t440 == 0)) = true
   ·
    rw [if_pos c210] at H
    have c210b0 : ((!t437 && (t438 == 0 && (t439 == 0))) && (t440 == 0)) = true := c210
    clear c210
    replace H := Option.bind_eq_some_iff.mp H
    obtain ⟨t446, A2110, H⟩ := H
    replace H : (if t446 = true then (if t445 = true then (if t444 = 1 then ((ddilaw03_awake.f k).bind fun t447 => (some t447)) else (none)) else (none)) else ((ddilaw03_awake.f k).bind fun t448 => (some t448))) = some r := H
    have A211 := Aside0.mk A2110
    clear A2110
    by_cases c212 : t446 = true
    ·
     subst c212
     rw [if_pos rfl] at H
     by_cases c213 : t445 = true
     ·
      subst c213
      rw [if_pos rfl] at H
      by_cases c214 : t444 = 1
      ·
       rw [if_pos c214] at H
       have c214b0 : (t444 == 1) = true := beq_iff_eq.mpr c214
       have c214b1 : (t444 != 1) = false := bne_eq_false_iff_eq.mpr c214
       clear c214
       replace H := Option.bind_eq_some_iff.mp H
       obtain ⟨t447, A2150, H⟩ := H
       replace H : (some t447) = some r := H
       have A215 := Aside0.mk A2150
       clear A2150
       obtain rfl := Option.some.inj H
       go_enter Tryd.func6, Tryd.ntmps6
       go_wp2_with (first | ((with_reducible refine gate_dst (N := 2) rfl ?_); refine boxA (N := 2) (cs := #[.bool a0_0, .int .u64 a0_1, .int .u64 a0_2, .int .i64 a0_3]) (t := 26) ?_; intro gb431 hg w216 hbox hb; have BK431 := Aside0.mk (hbox); have GW431 := (pZ HB hg); have GE431 := (pZ HB hg); replace HB := (pS HB hb); clear hb hbox hg) | ((with_reducible refine gate_dst (N := 3) rfl ?_); refine boxA (N := 3) (cs := #[.bool a1_0, .int .u64 a1_1, .int .u64 a1_2]) (t := 24) ?_; intro gb432 hg w217 hbox hb; have BK432 := Aside0.mk (hbox); have GW432 := (pZ HB hg); have GE432 := (pZ HB hg); have NB431_432 := (pL BK431 hg); have NB432_431 := (pG BK431 hg); replace BK431 := (pB BK431 hb); replace HB := (pS HB hb); clear hb hbox hg; have hnb218 := NB431_432.out; have hnc218 := NB432_431.out; obtain ⟨hcz219_0, hcz219_1, hcz219_2, hcz219_3, hfz219_0, hfz219_1, hfz219_2, hfz219_3⟩ := pC4 BK431) | ((with_reducible refine gate_callee (f := 22) rfl ?_); refine goesA (some 24) Tryd.func22 #[.agg #[.bool a0_0, .int .u64 a0_1, .int .u64 a0_2, .int .i64 a0_3]] ?_; (with_reducible refine (prefix_Halves.calls k a0_0 a0_1 a0_2 a0_3 t433 t434 t435 t436 t437 t438 t439 t440 false _ A3.out).mono ?_); rintro e w220 ⟨rfl, hb⟩; refine ⟨_, rfl, ?_⟩; replace BK431 := (pB BK431 hb); replace BK432 := (pB BK432 hb); replace HB := (pS HB hb); (try clear hb)) | ((with_reducible refine gate_dst (N := 5) rfl ?_); refine boxA (N := 5) (cs := #[.bool false, .int .u64 0, .int .u64 0, .int .i64 0]) (t := 26) ?_; intro gb442 hg w221 hbox hb; have BK442 := Aside0.mk (hbox); have GW442 := (pZ HB hg); have GE442 := (pZ HB hg); have NB431_442 := (pL BK431 hg); have NB442_431 := (pG BK431 hg); have NB432_442 := (pL BK432 hg); have NB442_432 := (pG BK432 hg); replace BK431 := (pB BK431 hb); replace BK432 := (pB BK432 hb); replace HB := (pS HB hb); clear hb hbox hg) | ((with_reducible refine gate_dst (N := 6) rfl ?_); refine boxA (N := 6) (cs := #[.bool false, .int .u64 0, .int .u64 0, .int .i64 0]) (t := 26) ?_; intro gb443 hg w222 hbox hb; have BK443 := Aside0.mk (hbox); have GW443 := (pZ HB hg); have GE443 := (pZ HB hg); have NB431_443 := (pL BK431 hg); have NB443_431 := (pG BK431 hg); have NB432_443 := (pL BK432 hg); have NB443_432 := (pG BK432 hg); have NB442_443 := (pL BK442 hg); have NB443_442 := (pG BK442 hg); replace BK431 := (pB BK431 hb); replace BK432 := (pB BK432 hb); replace BK442 := (pB BK442 hb); replace HB := (pS HB hb); clear hb hbox hg; have hnb223 := NB442_431.out; have hnc223 := NB431_442.out; have hnb224 := NB442_432.out; have hnc224 := NB432_442.out; have hnb225 := NB442_443.out; have hnc225 := NB443_442.out; obtain ⟨hcz226_0, hcz226_1, hcz226_2, hcz226_3, hfz226_0, hfz226_1, hfz226_2, hfz226_3⟩ := pC4 BK442; have hnb227 := NB443_431.out; have hnc227 := NB431_443.out; have hnb228 := NB443_432.out; have hnc228 := NB432_443.out; obtain ⟨hcz229_0, hcz229_1, hcz229_2, hcz229_3, hfz229_0, hfz229_1, hfz229_2, hfz229_3⟩ := pC4 BK443) | ((with_reducible refine gate_store (t := 26) (p := 6) rfl ?_); refine store_event (t := 26) (p := 6) (v := ?vo_w230) (w1 := ((((((((w222.setCell ⟨gb442, 0, none⟩ (.bool t433)).setCell ⟨gb442, 1, none⟩ (.int .u64 t434)).setCell ⟨gb442, 2, none⟩ (.int .u64 t435)).setCell ⟨gb442, 3, none⟩ (.int .i64 t436)).setCell ⟨gb443, 0, none⟩ (.bool t437)).setCell ⟨gb443, 1, none⟩ (.int .u64 t438)).setCell ⟨gb443, 2, none⟩ (.int .u64 t439)).setCell ⟨gb443, 3, none⟩ (.int .i64 t440))) ?hg ?ho ?hn ?hr ?_; (case ho => rfl); (case hg => rfl); (case hn => rfl); (case hr => first | (exact Ext.run_store_chain 26 _ _ rfl _ _ _ _ rfl rfl (pK NB443_442 (pK NB443_442 (pK NB443_442 (pK NB443_442 (pM BK443))))) (by kernel_rfl) rfl rfl rfl) | (go_simp; done) | (go_simp; rfl)); intro w230 hw; replace BK431 : Aside0 (w230.heap[gb431]? = some (.cells #[.bool a0_0, .int .u64 a0_1, .int .u64 a0_2, .int .i64 a0_3] 26 (0, 0))) := (pW hw (pK NB431_443 (pK NB431_443 (pK NB431_443 (pK NB431_443 (pK NB431_442 (pK NB431_442 (pK NB431_442 (pK NB431_442 (pM BK431)))))))))); replace BK432 : Aside0 (w230.heap[gb432]? = some (.cells #[.bool a1_0, .int .u64 a1_1, .int .u64 a1_2] 24 (0, 0))) := (pW hw (pK NB432_443 (pK NB432_443 (pK NB432_443 (pK NB432_443 (pK NB432_442 (pK NB432_442 (pK NB432_442 (pK NB432_442 (pM BK432)))))))))); replace BK442 : Aside0 (w230.heap[gb442]? = some (.cells #[.bool t433, .int .u64 t434, .int .u64 t435, .int .i64 t436] 26 (0, 0))) := (pW hw (pK NB442_443 (pK NB442_443 (pK NB442_443 (pK NB442_443 (pP (pP (pP (pP (pM BK442)))))))))); replace BK443 : Aside0 (w230.heap[gb443]? = some (.cells #[.bool t437, .int .u64 t438, .int .u64 t439, .int .i64 t440] 26 (0, 0))) := (pW hw (pP (pP (pP (pP (pK NB443_442 (pK NB443_442 (pK NB443_442 (pK NB443_442 (pM BK443)))))))))); replace HB : Aside0 (Below w.heap.size w w230) := ⟨(by rw [hw]; exact (by repeat (first | (with_reducible first | exact HB.out | apply below_alloc | apply pw_below_drewN | apply below_drew1 | refine below_set ?_ GE431.out | refine below_set ?_ GE432.out | refine below_set ?_ GE442.out | refine below_set ?_ GE443.out) | exact HB.out)))⟩; clear hw; obtain ⟨hcz231_0, hcz231_1, hcz231_2, hcz231_3, hfz231_0, hfz231_1, hfz231_2, hfz231_3⟩ := pC4 BK431) | ((with_reducible refine gate_callee (f := 23) rfl ?_); refine goesA (some 32) Tryd.func23 #[.agg #[.bool a0_0, .int .u64 a0_1, .int .u64 a0_2, .int .i64 a0_3]] ?_; (with_reducible refine (prefix_Size.calls a0_0 a0_1 a0_2 a0_3 t444 true _ A208.out).mono ?_); rintro e w232 ⟨rfl, hb⟩; refine ⟨_, rfl, ?_⟩; replace BK431 := (pB BK431 hb); replace BK432 := (pB BK432 hb); replace BK442 := (pB BK442 hb); replace BK443 := (pB BK443 hb); replace HB := (pS HB hb); (try clear hb); obtain ⟨hcz233_0, hcz233_1, hcz233_2, hcz233_3, hfz233_0, hfz233_1, hfz233_2, hfz233_3⟩ := pC4 BK442; obtain ⟨hcz234_0, hcz234_1, hcz234_2, hcz234_3, hfz234_0, hfz234_1, hfz234_2, hfz234_3⟩ := pC4 BK443; obtain ⟨hcz235_0, hcz235_1, hcz235_2, hcz235_3, hfz235_0, hfz235_1, hfz235_2, hfz235_3⟩ := pC4 BK431) | (go_at_call 9; (with_reducible refine (prefix_Valid.calls a0_0 a0_1 a0_2 a0_3 true _ A211.out).mono ?_); rintro e w236 ⟨rfl, hb⟩; replace BK431 := (pB BK431 hb); replace BK432 := (pB BK432 hb); replace BK442 := (pB BK442 hb); replace BK443 := (pB BK443 hb); replace HB := (pS HB hb); (try clear hb)) | (go_at_call 11; (with_reducible refine (ddilaw03_awake.calls k  t447 _ ?side1 A215.out).mono ?_); (case side1 => exact Laid.below HLD.out (pE HB)); rintro e w237 ⟨rfl, hb⟩; replace BK431 := (pB BK431 hb); replace BK432 := (pB BK432 hb); replace BK442 := (pB BK442 hb); replace BK443 := (pB BK443 hb); replace HB := (pS HB hb); (try clear hb)))
       go_ret
       exact pR (pE HB)
      ·
       rw [if_neg c214] at H
       exact absurd H (by simp)
     ·
      replace c213 := Bool.eq_false_iff.mpr c213
      subst c213
      rw [if_neg (show ¬ (false = true) by decide)] at H
      exact absurd H (by simp)
    ·
     replace c212 := Bool.eq_false_iff.mpr c212
     subst c212
     rw [if_neg (show ¬ (false = true) by decide)] at H
     replace H := Option.bind_eq_some_iff.mp H
     obtain ⟨t448, A2380, H⟩ := H
     replace H : (some t448) = some r := H
     have A238 := Aside0.mk A2380
     clear A2380
     obtain rfl := Option.some.inj H
     go_enter Tryd.func6, Tryd.ntmps6
     go_wp2_with (first | ((with_reducible refine gate_dst (N := 2) rfl ?_); refine boxA (N := 2) (cs := #[.bool a0_0, .int .u64 a0_1, .int .u64 a0_2, .int .i64 a0_3]) (t := 26) ?_; intro gb431 hg w239 hbox hb; have BK431 := Aside0.mk (hbox); have GW431 := (pZ HB hg); have GE431 := (pZ HB hg); replace HB := (pS HB hb); clear hb hbox hg) | ((with_reducible refine gate_dst (N := 3) rfl ?_); refine boxA (N := 3) (cs := #[.bool a1_0, .int .u64 a1_1, .int .u64 a1_2]) (t := 24) ?_; intro gb432 hg w240 hbox hb; have BK432 := Aside0.mk (hbox); have GW432 := (pZ HB hg); have GE432 := (pZ HB hg); have NB431_432 := (pL BK431 hg); have NB432_431 := (pG BK431 hg); replace BK431 := (pB BK431 hb); replace HB := (pS HB hb); clear hb hbox hg; have hnb241 := NB431_432.out; have hnc241 := NB432_431.out; obtain ⟨hcz242_0, hcz242_1, hcz242_2, hcz242_3, hfz242_0, hfz242_1, hfz242_2, hfz242_3⟩ := pC4 BK431) | ((with_reducible refine gate_callee (f := 22) rfl ?_); refine goesA (some 24) Tryd.func22 #[.agg #[.bool a0_0, .int .u64 a0_1, .int .u64 a0_2, .int .i64 a0_3]] ?_; (with_reducible refine (prefix_Halves.calls k a0_0 a0_1 a0_2 a0_3 t433 t434 t435 t436 t437 t438 t439 t440 false _ A3.out).mono ?_); rintro e w243 ⟨rfl, hb⟩; refine ⟨_, rfl, ?_⟩; replace BK431 := (pB BK431 hb); replace BK432 := (pB BK432 hb); replace HB := (pS HB hb); (try clear hb)) | ((with_reducible refine gate_dst (N := 5) rfl ?_); refine boxA (N := 5) (cs := #[.bool false, .int .u64 0, .int .u64 0, .int .i64 0]) (t := 26) ?_; intro gb442 hg w244 hbox hb; have BK442 := Aside0.mk (hbox); have GW442 := (pZ HB hg); have GE442 := (pZ HB hg); have NB431_442 := (pL BK431 hg); have NB442_431 := (pG BK431 hg); have NB432_442 := (pL BK432 hg); have NB442_432 := (pG BK432 hg); replace BK431 := (pB BK431 hb); replace BK432 := (pB BK432 hb); replace HB := (pS HB hb); clear hb hbox hg) | ((with_reducible refine gate_dst (N := 6) rfl ?_); refine boxA (N := 6) (cs := #[.bool false, .int .u64 0, .int .u64 0, .int .i64 0]) (t := 26) ?_; intro gb443 hg w245 hbox hb; have BK443 := Aside0.mk (hbox); have GW443 := (pZ HB hg); have GE443 := (pZ HB hg); have NB431_443 := (pL BK431 hg); have NB443_431 := (pG BK431 hg); have NB432_443 := (pL BK432 hg); have NB443_432 := (pG BK432 hg); have NB442_443 := (pL BK442 hg); have NB443_442 := (pG BK442 hg); replace BK431 := (pB BK431 hb); replace BK432 := (pB BK432 hb); replace BK442 := (pB BK442 hb); replace HB := (pS HB hb); clear hb hbox hg; have hnb246 := NB442_431.out; have hnc246 := NB431_442.out; have hnb247 := NB442_432.out; have hnc247 := NB432_442.out; have hnb248 := NB442_443.out; have hnc248 := NB443_442.out; obtain ⟨hcz249_0, hcz249_1, hcz249_2, hcz249_3, hfz249_0, hfz249_1, hfz249_2, hfz249_3⟩ := pC4 BK442; have hnb250 := NB443_431.out; have hnc250 := NB431_443.out; have hnb251 := NB443_432.out; have hnc251 := NB432_443.out; obtain ⟨hcz252_0, hcz252_1, hcz252_2, hcz252_3, hfz252_0, hfz252_1, hfz252_2, hfz252_3⟩ := pC4 BK443) | ((with_reducible refine gate_store (t := 26) (p := 6) rfl ?_); refine store_event (t := 26) (p := 6) (v := ?vo_w253) (w1 := ((((((((w245.setCell ⟨gb442, 0, none⟩ (.bool t433)).setCell ⟨gb442, 1, none⟩ (.int .u64 t434)).setCell ⟨gb442, 2, none⟩ (.int .u64 t435)).setCell ⟨gb442, 3, none⟩ (.int .i64 t436)).setCell ⟨gb443, 0, none⟩ (.bool t437)).setCell ⟨gb443, 1, none⟩ (.int .u64 t438)).setCell ⟨gb443, 2, none⟩ (.int .u64 t439)).setCell ⟨gb443, 3, none⟩ (.int .i64 t440))) ?hg ?ho ?hn ?hr ?_; (case ho => rfl); (case hg => rfl); (case hn => rfl); (case hr => first | (exact Ext.run_store_chain 26 _ _ rfl _ _ _ _ rfl rfl (pK NB443_442 (pK NB443_442 (pK NB443_442 (pK NB443_442 (pM BK443))))) (by kernel_rfl) rfl rfl rfl) | (go_simp; done) | (go_simp; rfl)); intro w253 hw; replace BK431 : Aside0 (w253.heap[gb431]? = some (.cells #[.bool a0_0, .int .u64 a0_1, .int .u64 a0_2, .int .i64 a0_3] 26 (0, 0))) := (pW hw (pK NB431_443 (pK NB431_443 (pK NB431_443 (pK NB431_443 (pK NB431_442 (pK NB431_442 (pK NB431_442 (pK NB431_442 (pM BK431)))))))))); replace BK432 : Aside0 (w253.heap[gb432]? = some (.cells #[.bool a1_0, .int .u64 a1_1, .int .u64 a1_2] 24 (0, 0))) := (pW hw (pK NB432_443 (pK NB432_443 (pK NB432_443 (pK NB432_443 (pK NB432_442 (pK NB432_442 (pK NB432_442 (pK NB432_442 (pM BK432)))))))))); replace BK442 : Aside0 (w253.heap[gb442]? = some (.cells #[.bool t433, .int .u64 t434, .int .u64 t435, .int .i64 t436] 26 (0, 0))) := (pW hw (pK NB442_443 (pK NB442_443 (pK NB442_443 (pK NB442_443 (pP (pP (pP (pP (pM BK442)))))))))); replace BK443 : Aside0 (w253.heap[gb443]? = some (.cells #[.bool t437, .int .u64 t438, .int .u64 t439, .int .i64 t440] 26 (0, 0))) := (pW hw (pP (pP (pP (pP (pK NB443_442 (pK NB443_442 (pK NB443_442 (pK NB443_442 (pM BK443)))))))))); replace HB : Aside0 (Below w.heap.size w w253) := ⟨(by rw [hw]; exact (by repeat (first | (with_reducible first | exact HB.out | apply below_alloc | apply pw_below_drewN | apply below_drew1 | refine below_set ?_ GE431.out | refine below_set ?_ GE432.out | refine below_set ?_ GE442.out | refine below_set ?_ GE443.out) | exact HB.out)))⟩; clear hw; obtain ⟨hcz254_0, hcz254_1, hcz254_2, hcz254_3, hfz254_0, hfz254_1, hfz254_2, hfz254_3⟩ := pC4 BK431) | ((with_reducible refine gate_callee (f := 23) rfl ?_); refine goesA (some 32) Tryd.func23 #[.agg #[.bool a0_0, .int .u64 a0_1, .int .u64 a0_2, .int .i64 a0_3]] ?_; (with_reducible refine (prefix_Size.calls a0_0 a0_1 a0_2 a0_3 t444 t445 _ A208.out).mono ?_); rintro e w255 ⟨rfl, hb⟩; refine ⟨_, rfl, ?_⟩; replace BK431 := (pB BK431 hb); replace BK432 := (pB BK432 hb); replace BK442 := (pB BK442 hb); replace BK443 := (pB BK443 hb); replace HB := (pS HB hb); (try clear hb); obtain ⟨hcz256_0, hcz256_1, hcz256_2, hcz256_3, hfz256_0, hfz256_1, hfz256_2, hfz256_3⟩ := pC4 BK442; obtain ⟨hcz257_0, hcz257_1, hcz257_2, hcz257_3, hfz257_0, hfz257_1, hfz257_2, hfz257_3⟩ := pC4 BK443; obtain ⟨hcz258_0, hcz258_1, hcz258_2, hcz258_3, hfz258_0, hfz258_1, hfz258_2, hfz258_3⟩ := pC4 BK431) | (go_at_call 9; (with_reducible refine (prefix_Valid.calls a0_0 a0_1 a0_2 a0_3 false _ A211.out).mono ?_); rintro e w259 ⟨rfl, hb⟩; replace BK431 := (pB BK431 hb); replace BK432 := (pB BK432 hb); replace BK442 := (pB BK442 hb); replace BK443 := (pB BK443 hb); replace HB := (pS HB hb); (try clear hb)) | (go_at_call 11; (with_reducible refine (ddilaw03_awake.calls k  t448 _ ?side1 A238.out).mono ?_); (case side1 => exact Laid.below HLD.out (pE HB)); rintro e w260 ⟨rfl, hb⟩; replace BK431 := (pB BK431 hb); replace BK432 := (pB BK432 hb); replace BK442 := (pB BK442 hb); replace BK443 := (pB BK443 hb); replace HB := (pS HB hb); (try clear hb)))
     go_ret
     exact pR (pE HB)
   ·
    rw [if_neg c210] at H
    exact absurd H (by simp)
  ·
   rw [if_neg c209] at H
   exact absurd H (by simp)

end Go.Proofs.YteflcmmandlknaaDoor.PA
