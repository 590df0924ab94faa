/- The Go functions in Lean, with the proofs that the code comes to these answers: printed by this session's program (wip/px) out of the seat's translation. Conditions: each theorem's own. -/
import Derived.Test.YteflcmmandlknaaDoorPAx0
import Derived.Test.YteflcmmandlknaaDoorPAx1
import Derived.Test.YteflcmmandlknaaDoorPAx2
import Derived.Test.YteflcmmandlknaaDoorPAx3
import Derived.Test.YteflcmmandlknaaDoorPAx5
import Derived.Test.YteflcmmandlknaaDoorPAx8
import Derived.Test.YteflcmmandlknaaDoorPAx11
import Derived.Test.YteflcmmandlknaaDoorPAx13
namespace Go.Proofs.YteflcmmandlknaaDoor.PA
open Go.RowKit Go.Proofs.YteflcmmandlknaaDoorW.PrintWords Go.Proofs.YteflcmmandlknaaDoorW.PrintLast Go.Proofs.YteflcmmandlknaaDoorW.PrintMore
attribute [local go_sem] max2_int min2_int max_two min_two max_three min_three max_four min_four   -- for this text's walks alone
attribute [local go_sem ↓] Ext.isSome_setCell
open Press
set_option linter.unusedVariables false
set_option linter.unusedSimpArgs false

attribute [local go_sem high] eqA24 eqA26
/-! ### ddilaw03_PrefixBack: function 3 -/
mutual
def ddilaw03_PrefixBack.j0 : Nat → Bool → Bool → Int → Int → Int → Bool → Int → Int → Bool → Int → Int → Bool → Int → Int → Option (Bool)
 | 0, _, _, _, _, _, _, _, _, _, _, _, _, _, _ => none
 | k + 1, x83, x345000, x345001, x345002, x345003, x346000, x346001, x346002, x365000, x365001, x365002, x365003, x365004, x365005 => if x83 = true then (none) else ((prefix_Of.f x346000 x346001 x346002 x345003).bind fun bt367 => ((prefix_Contains.f x345000 x345001 x345002 x345003 x346000 x346001 x346002).bind fun t373 => (if bt367.2.2.2.2 = true then (ddilaw03_PrefixBack.j1 k (t373 != ((bt367.1 == x345000 && (bt367.2.1 == x345001 && (bt367.2.2.1 == x345002))) && (bt367.2.2.2.1 == x345003))) x345000 x345001 x345002 x345003 x365000 x365001 x365002 x365003 x365004 x365005) else (ddilaw03_PrefixBack.j1 k (t373 != false) x345000 x345001 x345002 x345003 x365000 x365001 x365002 x365003 x365004 x365005))))
def ddilaw03_PrefixBack.j1 : Nat → Bool → Bool → Int → Int → Int → Bool → Int → Int → Bool → Int → Int → Option (Bool)
 | 0, _, _, _, _, _, _, _, _, _, _, _ => none
 | k + 1, x100, x345000, x345001, x345002, x345003, x365000, x365001, x365002, x365003, x365004, x365005 => if x100 = true then (none) else ((addr_Add.f x365003 x365004 x365005 1).bind fun bt374 => (if bt374.2.2.2 = true then ((prefix_Contains.f x345000 x345001 x345002 x345003 bt374.1 bt374.2.1 bt374.2.2.1).bind fun t379 => (if t379 = true then (none) else ((ddilaw03_awake.f k).bind fun t380 => (some t380)))) else ((ddilaw03_awake.f k).bind fun t381 => (some t381))))
end
def ddilaw03_PrefixBack.f (k : Nat) (a0_0 : Bool) (a0_1 : Int) (a0_2 : Int) (a0_3 : Int) (a1_0 : Bool) (a1_1 : Int) (a1_2 : Int) : Option (Bool) := (prefix_Print.f k a0_0 a0_1 a0_2 a0_3).bind fun bt346 => ((prefix_Valid.f a0_0 a0_1 a0_2 a0_3).bind fun t348 => (if t348 = true then ((prefix_Parse.f k bt346.1).bind fun bt351 => ((prefix_Bounds.f a0_0 a0_1 a0_2 a0_3).bind fun bt357 => (if bt346.2 = 0 then (if bt351.2.2.2.2 = 0 then (if ((!(bt351.1 == a0_0) || (!(bt351.2.1 == a0_1) || (!(bt351.2.2.1 == a0_2)))) || (!(bt351.2.2.2.1 == a0_3))) = true then (ddilaw03_PrefixBack.j0 k true a0_0 a0_1 a0_2 a0_3 a1_0 a1_1 a1_2 bt357.1 bt357.2.1 bt357.2.2.1 bt357.2.2.2.1 bt357.2.2.2.2.1 bt357.2.2.2.2.2.1) else (if bt357.2.2.2.2.2.2 = true then (if (!(bt357.1 == a0_0) || (!(bt357.2.1 == a0_1) || (!(bt357.2.2.1 == a0_2)))) = true then (ddilaw03_PrefixBack.j0 k true a0_0 a0_1 a0_2 a0_3 a1_0 a1_1 a1_2 bt357.1 bt357.2.1 bt357.2.2.1 bt357.2.2.2.1 bt357.2.2.2.2.1 bt357.2.2.2.2.2.1) else ((prefix_Contains.f a0_0 a0_1 a0_2 a0_3 bt357.1 bt357.2.1 bt357.2.2.1).bind fun t365 => (if t365 = true then ((prefix_Contains.f a0_0 a0_1 a0_2 a0_3 bt357.2.2.2.1 bt357.2.2.2.2.1 bt357.2.2.2.2.2.1).bind fun t366 => (ddilaw03_PrefixBack.j0 k (!t366) a0_0 a0_1 a0_2 a0_3 a1_0 a1_1 a1_2 bt357.1 bt357.2.1 bt357.2.2.1 bt357.2.2.2.1 bt357.2.2.2.2.1 bt357.2.2.2.2.2.1)) else (ddilaw03_PrefixBack.j0 k true a0_0 a0_1 a0_2 a0_3 a1_0 a1_1 a1_2 bt357.1 bt357.2.1 bt357.2.2.1 bt357.2.2.2.1 bt357.2.2.2.2.1 bt357.2.2.2.2.2.1)))) else (ddilaw03_PrefixBack.j0 k true a0_0 a0_1 a0_2 a0_3 a1_0 a1_1 a1_2 bt357.1 bt357.2.1 bt357.2.2.1 bt357.2.2.2.1 bt357.2.2.2.2.1 bt357.2.2.2.2.2.1))) else (ddilaw03_PrefixBack.j0 k true a0_0 a0_1 a0_2 a0_3 a1_0 a1_1 a1_2 bt357.1 bt357.2.1 bt357.2.2.1 bt357.2.2.2.1 bt357.2.2.2.2.1 bt357.2.2.2.2.2.1)) else (ddilaw03_PrefixBack.j0 k true a0_0 a0_1 a0_2 a0_3 a1_0 a1_1 a1_2 bt357.1 bt357.2.1 bt357.2.2.1 bt357.2.2.2.1 bt357.2.2.2.2.1 bt357.2.2.2.2.2.1)))) else (if bt346.2 = 3 then (if bt346.1.toList = ([] : List UInt8) then ((prefix_Contains.f a0_0 a0_1 a0_2 a0_3 a1_0 a1_1 a1_2).bind fun t349 => (if t349 = true then (none) else ((ddilaw03_awake.f k).bind fun t350 => (some t350)))) else (none)) else (none))))
theorem ddilaw03_PrefixBack.mono_l : ∀ k, (∀ y0 y1 y2 y3 y4 y5 y6 y7 y8 y9 y10 y11 y12 y13, LeO (ddilaw03_PrefixBack.j0 k y0 y1 y2 y3 y4 y5 y6 y7 y8 y9 y10 y11 y12 y13) (ddilaw03_PrefixBack.j0 (k + 1) y0 y1 y2 y3 y4 y5 y6 y7 y8 y9 y10 y11 y12 y13)) ∧ (∀ y0 y1 y2 y3 y4 y5 y6 y7 y8 y9 y10, LeO (ddilaw03_PrefixBack.j1 k y0 y1 y2 y3 y4 y5 y6 y7 y8 y9 y10) (ddilaw03_PrefixBack.j1 (k + 1) y0 y1 y2 y3 y4 y5 y6 y7 y8 y9 y10))
 | 0 => ⟨fun _ _ _ _ _ _ _ _ _ _ _ _ _ _ r h => by simp [ddilaw03_PrefixBack.j0] at h, fun _ _ _ _ _ _ _ _ _ _ _ r h => by simp [ddilaw03_PrefixBack.j1] at h⟩
 | k + 1 => by
  obtain ⟨ih0, ih1⟩ := ddilaw03_PrefixBack.mono_l k
  refine ⟨?_, ?_⟩
  ·
   intro y0 y1 y2 y3 y4 y5 y6 y7 y8 y9 y10 y11 y12 y13
   unfold ddilaw03_PrefixBack.j0
   repeat' first
   | (with_reducible exact ih0 _ _ _ _ _ _ _ _ _ _ _ _ _ _)
   | (with_reducible exact ih1 _ _ _ _ _ _ _ _ _ _ _)
   | (with_reducible exact ddilaw03_awake.mono _)
   | (with_reducible exact prefix_Parse.mono _ _)
   | (with_reducible exact prefix_Print.mono _ _ _ _ _)
   | (with_reducible exact LeO.refl _)
   | (with_reducible exact LeO.none _)
   | (with_reducible refine LeO.ite ?_ ?_)
   | (with_reducible refine LeO.bind ?_ (fun _ => ?_))
   | exact ih0 _ _ _ _ _ _ _ _ _ _ _ _ _ _
   | exact ih1 _ _ _ _ _ _ _ _ _ _ _
   | exact ddilaw03_awake.mono _
   | exact prefix_Parse.mono _ _
   | exact prefix_Print.mono _ _ _ _ _
   | exact LeO.none _
   | refine LeO.ite ?_ ?_
   | refine LeO.bind ?_ (fun _ => ?_)
  ·
   intro y0 y1 y2 y3 y4 y5 y6 y7 y8 y9 y10
   unfold ddilaw03_PrefixBack.j1
   repeat' first
   | (with_reducible exact ih0 _ _ _ _ _ _ _ _ _ _ _ _ _ _)
   | (with_reducible exact ih1 _ _ _ _ _ _ _ _ _ _ _)
   | (with_reducible exact ddilaw03_awake.mono _)
   | (with_reducible exact prefix_Parse.mono _ _)
   | (with_reducible exact prefix_Print.mono _ _ _ _ _)
   | (with_reducible exact LeO.refl _)
   | (with_reducible exact LeO.none _)
   | (with_reducible refine LeO.ite ?_ ?_)
   | (with_reducible refine LeO.bind ?_ (fun _ => ?_))
   | exact ih0 _ _ _ _ _ _ _ _ _ _ _ _ _ _
   | exact ih1 _ _ _ _ _ _ _ _ _ _ _
   | exact ddilaw03_awake.mono _
   | exact prefix_Parse.mono _ _
   | exact prefix_Print.mono _ _ _ _ _
   | exact LeO.none _
   | refine LeO.ite ?_ ?_
   | refine LeO.bind ?_ (fun _ => ?_)
theorem ddilaw03_PrefixBack.mono : ∀ a0 a1 a2 a3 a4 a5 a6 k, LeO (ddilaw03_PrefixBack.f k a0 a1 a2 a3 a4 a5 a6) (ddilaw03_PrefixBack.f (k + 1) a0 a1 a2 a3 a4 a5 a6) := by
 intro a0 a1 a2 a3 a4 a5 a6 k
 obtain ⟨ih0, ih1⟩ := ddilaw03_PrefixBack.mono_l k
 unfold ddilaw03_PrefixBack.f
 repeat' first
  | (with_reducible exact ih0 _ _ _ _ _ _ _ _ _ _ _ _ _ _)
  | (with_reducible exact ih1 _ _ _ _ _ _ _ _ _ _ _)
  | (with_reducible exact ddilaw03_awake.mono _)
  | (with_reducible exact prefix_Parse.mono _ _)
  | (with_reducible exact prefix_Print.mono _ _ _ _ _)
  | (with_reducible exact LeO.refl _)
  | (with_reducible exact LeO.none _)
  | (with_reducible refine LeO.ite ?_ ?_)
  | (with_reducible refine LeO.bind ?_ (fun _ => ?_))
  | exact ih0 _ _ _ _ _ _ _ _ _ _ _ _ _ _
  | exact ih1 _ _ _ _ _ _ _ _ _ _ _
  | exact ddilaw03_awake.mono _
  | exact prefix_Parse.mono _ _
  | exact prefix_Print.mono _ _ _ _ _
  | exact LeO.none _
  | refine LeO.ite ?_ ?_
  | refine LeO.bind ?_ (fun _ => ?_)
set_option maxHeartbeats 40000000 in
set_option maxRecDepth 100000 in
theorem ddilaw03_PrefixBack.calls (k : Nat) (a0_0 : Bool) (a0_1 : Int) (a0_2 : Int) (a0_3 : Int) (a1_0 : Bool) (a1_1 : Int) (a1_2 : Int) (r : Bool) (w : World) (hLD : Laid w) (h : ddilaw03_PrefixBack.f k a0_0 a0_1 a0_2 a0_3 a1_0 a1_1 a1_2 = some r) :
 Calls Tryd.prog 3 #[.agg #[.bool a0_0, .int .u64 a0_1, .int .u64 a0_2, .int .i64 a0_3], .agg #[.bool a1_0, .int .u64 a1_1, .int .u64 a1_2]] w fun e w' => e = .returned (.bool r) ∧ Below w.heap.size w w' := by
 have hu26 := Tryd.underlying26
 have hu24 := Tryd.underlying24
 have hu36 := Tryd.underlying36
 have HLD := Aside0.mk hLD
 clear hLD
 have HB := Aside0.mk (Below.refl w.heap.size w)
 have H : ((prefix_Print.f k a0_0 a0_1 a0_2 a0_3).bind fun bt346 => ((prefix_Valid.f a0_0 a0_1 a0_2 a0_3).bind fun t348 => (if t348 = true then ((prefix_Parse.f k bt346.1).bind fun bt351 => ((prefix_Bounds.f a0_0 a0_1 a0_2 a0_3).bind fun bt357 => (if bt346.2 = 0 then (if bt351.2.2.2.2 = 0 then (if ((!(bt351.1 == a0_0) || (!(bt351.2.1 == a0_1) || (!(bt351.2.2.1 == a0_2)))) || (!(bt351.2.2.2.1 == a0_3))) = true then (ddilaw03_PrefixBack.j0 k true a0_0 a0_1 a0_2 a0_3 a1_0 a1_1 a1_2 bt357.1 bt357.2.1 bt357.2.2.1 bt357.2.2.2.1 bt357.2.2.2.2.1 bt357.2.2.2.2.2.1) else (if bt357.2.2.2.2.2.2 = true then (if (!(bt357.1 == a0_0) || (!(bt357.2.1 == a0_1) || (!(bt357.2.2.1 == a0_2)))) = true then (ddilaw03_PrefixBack.j0 k true a0_0 a0_1 a0_2 a0_3 a1_0 a1_1 a1_2 bt357.1 bt357.2.1 bt357.2.2.1 bt357.2.2.2.1 bt357.2.2.2.2.1 bt357.2.2.2.2.2.1) else ((prefix_Contains.f a0_0 a0_1 a0_2 a0_3 bt357.1 bt357.2.1 bt357.2.2.1).bind fun t365 => (if t365 = true then ((prefix_Contains.f a0_0 a0_1 a0_2 a0_3 bt357.2.2.2.1 bt357.2.2.2.2.1 bt357.2.2.2.2.2.1).bind fun t366 => (ddilaw03_PrefixBack.j0 k (!t366) a0_0 a0_1 a0_2 a0_3 a1_0 a1_1 a1_2 bt357.1 bt357.2.1 bt357.2.2.1 bt357.2.2.2.1 bt357.2.2.2.2.1 bt357.2.2.2.2.2.1)) else (ddilaw03_PrefixBack.j0 k true a0_0 a0_1 a0_2 a0_3 a1_0 a1_1 a1_2 bt357.1 bt357.2.1 bt357.2.2.1 bt357.2.2.2.1 bt357.2.2.2.2.1 bt357.2.2.2.2.2.1)))) else (ddilaw03_PrefixBack.j0 k true a0_0 a0_1 a0_2 a0_3 a1_0 a1_1 a1_2 bt357.1 bt357.2.1 bt357.2.2.1 bt357.2.2.2.1 bt357.2.2.2.2.1 bt357.2.2.2.2.2.1))) else (ddilaw03_PrefixBack.j0 k true a0_0 a0_1 a0_2 a0_3 a1_0 a1_1 a1_2 bt357.1 bt357.2.1 bt357.2.2.1 bt357.2.2.2.1 bt357.2.2.2.2.1 bt357.2.2.2.2.2.1)) else (ddilaw03_PrefixBack.j0 k true a0_0 a0_1 a0_2 a0_3 a1_0 a1_1 a1_2 bt357.1 bt357.2.1 bt357.2.2.1 bt357.2.2.2.1 bt357.2.2.2.2.1 bt357.2.2.2.2.2.1)))) else (if bt346.2 = 3 then (if bt346.1.toList = ([] : List UInt8) then ((prefix_Contains.f a0_0 a0_1 a0_2 a0_3 a1_0 a1_1 a1_2).bind fun t349 => (if t349 = true then (none) else ((ddilaw03_awake.f k).bind fun t350 => (some t350)))) else (none)) else (none))))) = some r := h
 clear h
 replace H := Option.bind_eq_some_iff.mp H
 obtain ⟨⟨t346, t347⟩, A30, H⟩ := H
 replace H : ((prefix_Valid.f a0_0 a0_1 a0_2 a0_3).bind fun t348 => (if t348 = true then ((prefix_Parse.f k t346).bind fun bt351 => ((prefix_Bounds.f a0_0 a0_1 a0_2 a0_3).bind fun bt357 => (if t347 = 0 then (if bt351.2.2.2.2 = 0 then (if ((!(bt351.1 == a0_0) || (!(bt351.2.1 == a0_1) || (!(bt351.2.2.1 == a0_2)))) || (!(bt351.2.2.2.1 == a0_3))) = true then (ddilaw03_PrefixBack.j0 k true a0_0 a0_1 a0_2 a0_3 a1_0 a1_1 a1_2 bt357.1 bt357.2.1 bt357.2.2.1 bt357.2.2.2.1 bt357.2.2.2.2.1 bt357.2.2.2.2.2.1) else (if bt357.2.2.2.2.2.2 = true then (if (!(bt357.1 == a0_0) || (!(bt357.2.1 == a0_1) || (!(bt357.2.2.1 == a0_2)))) = true then (ddilaw03_PrefixBack.j0 k true a0_0 a0_1 a0_2 a0_3 a1_0 a1_1 a1_2 bt357.1 bt357.2.1 bt357.2.2.1 bt357.2.2.2.1 bt357.2.2.2.2.1 bt357.2.2.2.2.2.1) else ((prefix_Contains.f a0_0 a0_1 a0_2 a0_3 bt357.1 bt357.2.1 bt357.2.2.1).bind fun t365 => (if t365 = true then ((prefix_Contains.f a0_0 a0_1 a0_2 a0_3 bt357.2.2.2.1 bt357.2.2.2.2.1 bt357.2.2.2.2.2.1).bind fun t366 => (ddilaw03_PrefixBack.j0 k (!t366) a0_0 a0_1 a0_2 a0_3 a1_0 a1_1 a1_2 bt357.1 bt357.2.1 bt357.2.2.1 bt357.2.2.2.1 bt357.2.2.2.2.1 bt357.2.2.2.2.2.1)) else (ddilaw03_PrefixBack.j0 k true a0_0 a0_1 a0_2 a0_3 a1_0 a1_1 a1_2 bt357.1 bt357.2.1 bt357.2.2.1 bt357.2.2.2.1 bt357.2.2.2.2.1 bt357.2.2.2.2.2.1)))) else (ddilaw03_PrefixBack.j0 k true a0_0 a0_1 a0_2 a0_3 a1_0 a1_1 a1_2 bt357.1 bt357.2.1 bt357.2.2.1 bt357.2.2.2.1 bt357.2.2.2.2.1 bt357.2.2.2.2.2.1))) else (ddilaw03_PrefixBack.j0 k true a0_0 a0_1 a0_2 a0_3 a1_0 a1_1 a1_2 bt357.1 bt357.2.1 bt357.2.2.1 bt357.2.2.2.1 bt357.2.2.2.2.1 bt357.2.2.2.2.2.1)) else (ddilaw03_PrefixBack.j0 k true a0_0 a0_1 a0_2 a0_3 a1_0 a1_1 a1_2 bt357.1 bt357.2.1 bt357.2.2.1 bt357.2.2.2.1 bt357.2.2.2.2.1 bt357.2.2.2.2.2.1)))) else (if t347 = 3 then (if t346.toList = ([] : List UInt8) then ((prefix_Contains.f a0_0 a0_1 a0_2 a0_3 a1_0 a1_1 a1_2).bind fun t349 => (if t349 = true then (none) else ((ddilaw03_awake.f k).bind fun t350 => (some t350)))) else (none)) else (none)))) = some r := H
 have A3 := Aside0.mk A30
 clear A30
 replace H := Option.bind_eq_some_iff.mp H
 obtain ⟨t348, A40, H⟩ := H
 replace H : (if t348 = true then ((prefix_Parse.f k t346).bind fun bt351 => ((prefix_Bounds.f a0_0 a0_1 a0_2 a0_3).bind fun bt357 => (if t347 = 0 then (if bt351.2.2.2.2 = 0 then (if ((!(bt351.1 == a0_0) || (!(bt351.2.1 == a0_1) || (!(bt351.2.2.1 == a0_2)))) || (!(bt351.2.2.2.1 == a0_3))) = true then (ddilaw03_PrefixBack.j0 k true a0_0 a0_1 a0_2 a0_3 a1_0 a1_1 a1_2 bt357.1 bt357.2.1 bt357.2.2.1 bt357.2.2.2.1 bt357.2.2.2.2.1 bt357.2.2.2.2.2.1) else (if bt357.2.2.2.2.2.2 = true then (if (!(bt357.1 == a0_0) || (!(bt357.2.1 == a0_1) || (!(bt357.2.2.1 == a0_2)))) = true then (ddilaw03_PrefixBack.j0 k true a0_0 a0_1 a0_2 a0_3 a1_0 a1_1 a1_2 bt357.1 bt357.2.1 bt357.2.2.1 bt357.2.2.2.1 bt357.2.2.2.2.1 bt357.2.2.2.2.2.1) else ((prefix_Contains.f a0_0 a0_1 a0_2 a0_3 bt357.1 bt357.2.1 bt357.2.2.1).bind fun t365 => (if t365 = true then ((prefix_Contains.f a0_0 a0_1 a0_2 a0_3 bt357.2.2.2.1 bt357.2.2.2.2.1 bt357.2.2.2.2.2.1).bind fun t366 => (ddilaw03_PrefixBack.j0 k (!t366) a0_0 a0_1 a0_2 a0_3 a1_0 a1_1 a1_2 bt357.1 bt357.2.1 bt357.2.2.1 bt357.2.2.2.1 bt357.2.2.2.2.1 bt357.2.2.2.2.2.1)) else (ddilaw03_PrefixBack.j0 k true a0_0 a0_1 a0_2 a0_3 a1_0 a1_1 a1_2 bt357.1 bt357.2.1 bt357.2.2.1 bt357.2.2.2.1 bt357.2.2.2.2.1 bt357.2.2.2.2.2.1)))) else (ddilaw03_PrefixBack.j0 k true a0_0 a0_1 a0_2 a0_3 a1_0 a1_1 a1_2 bt357.1 bt357.2.1 bt357.2.2.1 bt357.2.2.2.1 bt357.2.2.2.2.1 bt357.2.2.2.2.2.1))) else (ddilaw03_PrefixBack.j0 k true a0_0 a0_1 a0_2 a0_3 a1_0 a1_1 a1_2 bt357.1 bt357.2.1 bt357.2.2.1 bt357.2.2.2.1 bt357.2.2.2.2.1 bt357.2.2.2.2.2.1)) else (ddilaw03_PrefixBack.j0 k true a0_0 a0_1 a0_2 a0_3 a1_0 a1_1 a1_2 bt357.1 bt357.2.1 bt357.2.2.1 bt357.2.2.2.1 bt357.2.2.2.2.1 bt357.2.2.2.2.2.1)))) else (if t347 = 3 then (if t346.toList = ([] : List UInt8) then ((prefix_Contains.f a0_0 a0_1 a0_2 a0_3 a1_0 a1_1 a1_2).bind fun t349 => (if t349 = true then (none) else ((ddilaw03_awake.f k).bind fun t350 => (some t350)))) else (none)) else (none))) = some r := H
 have A4 := Aside0.mk A40
 clear A40
 by_cases c5 : t348 = true
 ·
  subst c5
  rw [if_pos rfl] at H
  replace H := Option.bind_eq_some_iff.mp H
  obtain ⟨⟨t351, t352, t353, t354, t355⟩, A60, H⟩ := H
  replace H : ((prefix_Bounds.f a0_0 a0_1 a0_2 a0_3).bind fun bt357 => (if t347 = 0 then (if t355 = 0 then (if ((!(t351 == a0_0) || (!(t352 == a0_1) || (!(t353 == a0_2)))) || (!(t354 == a0_3))) = true then (ddilaw03_PrefixBack.j0 k true a0_0 a0_1 a0_2 a0_3 a1_0 a1_1 a1_2 bt357.1 bt357.2.1 bt357.2.2.1 bt357.2.2.2.1 bt357.2.2.2.2.1 bt357.2.2.2.2.2.1) else (if bt357.2.2.2.2.2.2 = true then (if (!(bt357.1 == a0_0) || (!(bt357.2.1 == a0_1) || (!(bt357.2.2.1 == a0_2)))) = true then (ddilaw03_PrefixBack.j0 k true a0_0 a0_1 a0_2 a0_3 a1_0 a1_1 a1_2 bt357.1 bt357.2.1 bt357.2.2.1 bt357.2.2.2.1 bt357.2.2.2.2.1 bt357.2.2.2.2.2.1) else ((prefix_Contains.f a0_0 a0_1 a0_2 a0_3 bt357.1 bt357.2.1 bt357.2.2.1).bind fun t365 => (if t365 = true then ((prefix_Contains.f a0_0 a0_1 a0_2 a0_3 bt357.2.2.2.1 bt357.2.2.2.2.1 bt357.2.2.2.2.2.1).bind fun t366 => (ddilaw03_PrefixBack.j0 k (!t366) a0_0 a0_1 a0_2 a0_3 a1_0 a1_1 a1_2 bt357.1 bt357.2.1 bt357.2.2.1 bt357.2.2.2.1 bt357.2.2.2.2.1 bt357.2.2.2.2.2.1)) else (ddilaw03_PrefixBack.j0 k true a0_0 a0_1 a0_2 a0_3 a1_0 a1_1 a1_2 bt357.1 bt357.2.1 bt357.2.2.1 bt357.2.2.2.1 bt357.2.2.2.2.1 bt357.2.2.2.2.2.1)))) else (ddilaw03_PrefixBack.j0 k true a0_0 a0_1 a0_2 a0_3 a1_0 a1_1 a1_2 bt357.1 bt357.2.1 bt357.2.2.1 bt357.2.2.2.1 bt357.2.2.2.2.1 bt357.2.2.2.2.2.1))) else (ddilaw03_PrefixBack.j0 k true a0_0 a0_1 a0_2 a0_3 a1_0 a1_1 a1_2 bt357.1 bt357.2.1 bt357.2.2.1 bt357.2.2.2.1 bt357.2.2.2.2.1 bt357.2.2.2.2.2.1)) else (ddilaw03_PrefixBack.j0 k true a0_0 a0_1 a0_2 a0_3 a1_0 a1_1 a1_2 bt357.1 bt357.2.1 bt357.2.2.1 bt357.2.2.2.1 bt357.2.2.2.2.1 bt357.2.2.2.2.2.1))) = some r := H
  have A6 := Aside0.mk A60
  clear A60
  replace H := Option.bind_eq_some_iff.mp H
  obtain ⟨⟨t357, t358, t359, t360, t361, t362, t363⟩, A70, H⟩ := H
  replace H : (if t347 = 0 then (if t355 = 0 then (if ((!(t351 == a0_0) || (!(t352 == a0_1) || (!(t353 == a0_2)))) || (!(t354 == a0_3))) = true then (ddilaw03_PrefixBack.j0 k true a0_0 a0_1 a0_2 a0_3 a1_0 a1_1 a1_2 t357 t358 t359 t360 t361 t362) else (if t363 = true then (if (!(t357 == a0_0) || (!(t358 == a0_1) || (!(t359 == a0_2)))) = true then (ddilaw03_PrefixBack.j0 k true a0_0 a0_1 a0_2 a0_3 a1_0 a1_1 a1_2 t357 t358 t359 t360 t361 t362) else ((prefix_Contains.f a0_0 a0_1 a0_2 a0_3 t357 t358 t359).bind fun t365 => (if t365 = true then ((prefix_Contains.f a0_0 a0_1 a0_2 a0_3 t360 t361 t362).bind fun t366 => (ddilaw03_PrefixBack.j0 k (!t366) a0_0 a0_1 a0_2 a0_3 a1_0 a1_1 a1_2 t357 t358 t359 t360 t361 t362)) else (ddilaw03_PrefixBack.j0 k true a0_0 a0_1 a0_2 a0_3 a1_0 a1_1 a1_2 t357 t358 t359 t360 t361 t362)))) else (ddilaw03_PrefixBack.j0 k true a0_0 a0_1 a0_2 a0_3 a1_0 a1_1 a1_2 t357 t358 t359 t360 t361 t362))) else (ddilaw03_PrefixBack.j0 k true a0_0 a0_1 a0_2 a0_3 a1_0 a1_1 a1_2 t357 t358 t359 t360 t361 t362)) else (ddilaw03_PrefixBack.j0 k true a0_0 a0_1 a0_2 a0_3 a1_0 a1_1 a1_2 t357 t358 t359 t360 t361 t362)) = some r := H
  have A7 := Aside0.mk A70
  clear A70
  have HC8 := Aside0.mk H
  clear H
  go_enter Tryd.func3, Tryd.ntmps3
  go_upto_region 6 with (first | ((with_reducible refine gate_dst (N := 2) rfl ?_); refine boxA (N := 2) (cs := #[.bool a0_0, .int .u64 a0_1, .int .u64 a0_2, .int .i64 a0_3]) (t := 26) ?_; intro gb344 hg w9 hbox hb; have BK344 := Aside0.mk (hbox); have GW344 := (pZ HB hg); have GE344 := (pZ HB hg); replace HB := (pS HB hb); clear hb hbox hg) | ((with_reducible refine gate_dst (N := 3) rfl ?_); refine boxA (N := 3) (cs := #[.bool a1_0, .int .u64 a1_1, .int .u64 a1_2]) (t := 24) ?_; intro gb345 hg w10 hbox hb; have BK345 := Aside0.mk (hbox); have GW345 := (pZ HB hg); have GE345 := (pZ HB hg); have NB344_345 := (pL BK344 hg); have NB345_344 := (pG BK344 hg); replace BK344 := (pB BK344 hb); replace HB := (pS HB hb); clear hb hbox hg; have hnb11 := NB344_345.out; have hnc11 := NB345_344.out; obtain ⟨hcz12_0, hcz12_1, hcz12_2, hcz12_3, hfz12_0, hfz12_1, hfz12_2, hfz12_3⟩ := pC4 BK344) | ((with_reducible refine gate_callee (f := 8) rfl ?_); refine goesA (some 17) Tryd.func8 #[.agg #[.bool a0_0, .int .u64 a0_1, .int .u64 a0_2, .int .i64 a0_3]] ?_; (with_reducible refine (prefix_Print.calls k a0_0 a0_1 a0_2 a0_3 t346 t347 _ ?side1 A3.out).mono ?_); (case side1 => exact Laid.below HLD.out (pE HB)); rintro e w13 ⟨rfl, hb⟩; refine ⟨_, rfl, ?_⟩; replace BK344 := (pB BK344 hb); replace BK345 := (pB BK345 hb); replace HB := (pS HB hb); (try clear hb); obtain ⟨hcz14_0, hcz14_1, hcz14_2, hcz14_3, hfz14_0, hfz14_1, hfz14_2, hfz14_3⟩ := pC4 BK344) | ((with_reducible refine gate_callee (f := 9) rfl ?_); refine goesA (some 21) Tryd.func9 #[.agg #[.bool a0_0, .int .u64 a0_1, .int .u64 a0_2, .int .i64 a0_3]] ?_; (with_reducible refine (prefix_Valid.calls a0_0 a0_1 a0_2 a0_3 true _ A4.out).mono ?_); rintro e w15 ⟨rfl, hb⟩; refine ⟨_, rfl, ?_⟩; replace BK344 := (pB BK344 hb); replace BK345 := (pB BK345 hb); replace HB := (pS HB hb); (try clear hb)) | ((with_reducible refine gate_callee (f := 12) rfl ?_); refine goesA (some 40) Tryd.func12 #[.string t346] ?_; (with_reducible refine (prefix_Parse.calls k t346 t351 t352 t353 t354 t355 _ ?side1 A6.out).mono ?_); (case side1 => exact Laid.below HLD.out (pE HB)); rintro e w16 ⟨rfl, hb⟩; refine ⟨_, rfl, ?_⟩; replace BK344 := (pB BK344 hb); replace BK345 := (pB BK345 hb); replace HB := (pS HB hb); (try clear hb)) | ((with_reducible refine gate_dst (N := 7) rfl ?_); refine boxA (N := 7) (cs := #[.bool false, .int .u64 0, .int .u64 0, .int .i64 0]) (t := 26) ?_; intro gb356 hg w17 hbox hb; have BK356 := Aside0.mk (hbox); have GW356 := (pZ HB hg); have GE356 := (pZ HB hg); have NB344_356 := (pL BK344 hg); have NB356_344 := (pG BK344 hg); have NB345_356 := (pL BK345 hg); have NB356_345 := (pG BK345 hg); replace BK344 := (pB BK344 hb); replace BK345 := (pB BK345 hb); replace HB := (pS HB hb); clear hb hbox hg; have hnb18 := NB356_344.out; have hnc18 := NB344_356.out; have hnb19 := NB356_345.out; have hnc19 := NB345_356.out; obtain ⟨hcz20_0, hcz20_1, hcz20_2, hcz20_3, hfz20_0, hfz20_1, hfz20_2, hfz20_3⟩ := pC4 BK356; obtain ⟨hcz21_0, hcz21_1, hcz21_2, hcz21_3, hfz21_0, hfz21_1, hfz21_2, hfz21_3⟩ := pC4 BK344) | ((with_reducible refine gate_callee (f := 13) rfl ?_); refine goesA (some 45) Tryd.func13 #[.agg #[.bool a0_0, .int .u64 a0_1, .int .u64 a0_2, .int .i64 a0_3]] ?_; (with_reducible refine (prefix_Bounds.calls a0_0 a0_1 a0_2 a0_3 t357 t358 t359 t360 t361 t362 t363 _ A7.out).mono ?_); rintro e w22 ⟨rfl, hb⟩; refine ⟨_, rfl, ?_⟩; replace BK344 := (pD hb (pK NB344_356 (pK NB344_356 (pK NB344_356 (pK NB344_356 (pM BK344)))))); replace BK345 := (pD hb (pK NB345_356 (pK NB345_356 (pK NB345_356 (pK NB345_356 (pM BK345)))))); replace BK356 := (pD hb (pP (pP (pP (pP (pM BK356)))))); replace HB := (pS HB hb); (try clear hb)) | ((with_reducible refine gate_dst (N := 9) rfl ?_); refine boxA (N := 9) (cs := #[.bool false, .int .u64 0, .int .u64 0, .bool false, .int .u64 0, .int .u64 0]) (t := 36) ?_; intro gb364 hg w23 hbox hb; have BK364 := Aside0.mk (hbox); have GW364 := (pZ HB hg); have GE364 := (pZ HB hg); have NB344_364 := (pL BK344 hg); have NB364_344 := (pG BK344 hg); have NB345_364 := (pL BK345 hg); have NB364_345 := (pG BK345 hg); have NB356_364 := (pL BK356 hg); have NB364_356 := (pG BK356 hg); replace BK344 := (pB BK344 hb); replace BK345 := (pB BK345 hb); replace BK356 := (pB BK356 hb); replace HB := (pS HB hb); clear hb hbox hg; have hnb24 := NB364_344.out; have hnc24 := NB344_364.out; have hnb25 := NB364_345.out; have hnc25 := NB345_364.out; have hnb26 := NB364_356.out; have hnc26 := NB356_364.out; obtain ⟨hcz27_0, hcz27_1, hcz27_2, hcz27_3, hcz27_4, hcz27_5, hfz27_0, hfz27_1, hfz27_2, hfz27_3, hfz27_4, hfz27_5⟩ := pC6 BK364) | ((with_reducible refine gate_store (t := 36) (p := 9) rfl ?_); refine store_event (t := 36) (p := 9) (v := ?vo_w28) (w1 := ((((((w23.setCell ⟨gb364, 0, none⟩ (.bool t357)).setCell ⟨gb364, 1, none⟩ (.int .u64 t358)).setCell ⟨gb364, 2, none⟩ (.int .u64 t359)).setCell ⟨gb364, 3, none⟩ (.bool t360)).setCell ⟨gb364, 4, none⟩ (.int .u64 t361)).setCell ⟨gb364, 5, none⟩ (.int .u64 t362))) ?hg ?ho ?hn ?hr ?_; (case ho => rfl); (case hg => rfl); (case hn => rfl); (case hr => first | (exact Ext.run_store_chain 36 _ _ rfl _ _ _ _ rfl rfl (pM BK364) (by kernel_rfl) rfl rfl rfl) | (go_simp; done) | (go_simp; rfl)); intro w28 hw; replace BK344 : Aside0 (w28.heap[gb344]? = some (.cells #[.bool a0_0, .int .u64 a0_1, .int .u64 a0_2, .int .i64 a0_3] 26 (0, 0))) := (pW hw (pK NB344_364 (pK NB344_364 (pK NB344_364 (pK NB344_364 (pK NB344_364 (pK NB344_364 (pM BK344)))))))); replace BK345 : Aside0 (w28.heap[gb345]? = some (.cells #[.bool a1_0, .int .u64 a1_1, .int .u64 a1_2] 24 (0, 0))) := (pW hw (pK NB345_364 (pK NB345_364 (pK NB345_364 (pK NB345_364 (pK NB345_364 (pK NB345_364 (pM BK345)))))))); replace BK356 : Aside0 (w28.heap[gb356]? = some (.cells #[.bool t351, .int .u64 t352, .int .u64 t353, .int .i64 t354] 26 (0, 0))) := (pW hw (pK NB356_364 (pK NB356_364 (pK NB356_364 (pK NB356_364 (pK NB356_364 (pK NB356_364 (pM BK356)))))))); replace BK364 : Aside0 (w28.heap[gb364]? = some (.cells #[.bool t357, .int .u64 t358, .int .u64 t359, .bool t360, .int .u64 t361, .int .u64 t362] 36 (0, 0))) := (pW hw (pP (pP (pP (pP (pP (pP (pM BK364)))))))); replace HB : Aside0 (Below w.heap.size w w28) := ⟨(by rw [hw]; exact (by repeat (first | (with_reducible first | exact HB.out | apply below_alloc | apply pw_below_drewN | apply below_drew1 | refine below_set ?_ GE344.out | refine below_set ?_ GE345.out | refine below_set ?_ GE356.out | refine below_set ?_ GE364.out) | exact HB.out)))⟩; clear hw))
  (try simp only [Act.put, List.setIfInBounds_toArray, List.set_cons_zero, List.set_cons_succ])
  go_cut [83] (fun v83 wc => ∃ (kq : Nat) (x83_7 : Bool), v83 = .bool x83_7 ∧ Aside0 (ddilaw03_PrefixBack.j0 kq x83_7 a0_0 a0_1 a0_2 a0_3 a1_0 a1_1 a1_2 t357 t358 t359 t360 t361 t362 = some r) ∧ Aside0 (kq ≤ k) ∧ Aside0 (wc.heap[gb344]? = some (.cells #[.bool a0_0, .int .u64 a0_1, .int .u64 a0_2, .int .i64 a0_3] 26 (0, 0))) ∧ Aside0 (wc.heap[gb345]? = some (.cells #[.bool a1_0, .int .u64 a1_1, .int .u64 a1_2] 24 (0, 0))) ∧ Aside0 (wc.heap[gb356]? = some (.cells #[.bool t351, .int .u64 t352, .int .u64 t353, .int .i64 t354] 26 (0, 0))) ∧ Aside0 (wc.heap[gb364]? = some (.cells #[.bool t357, .int .u64 t358, .int .u64 t359, .bool t360, .int .u64 t361, .int .u64 t362] 36 (0, 0))) ∧ Aside0 (Below w.heap.size w wc))
  case first =>
   have H := HC8.out
   clear HC8
   by_cases c29 : t347 = 0
   ·
    rw [if_pos c29] at H
    have c29b0 : (t347 == 0) = true := beq_iff_eq.mpr c29
    have c29b1 : (t347 != 0) = false := bne_eq_false_iff_eq.mpr c29
    clear c29
    (first | rw [c29b0] | (simp only [i64_w, i32_w]; rw [c29b0]) | skip)
    by_cases c30 : t355 = 0
    ·
     rw [if_pos c30] at H
     have c30b0 : (t355 == 0) = true := beq_iff_eq.mpr c30
     have c30b1 : (t355 != 0) = false := bne_eq_false_iff_eq.mpr c30
     clear c30
     by_cases c31 : ((!(t351 == a0_0) || (!(t352 == a0_1) || (!(t353 == a0_2)))) || (!(t354 == a0_3))) = true
     ·
      rw [if_pos c31] at H
      have c31b0 : ((!(t351 == a0_0) || (!(t352 == a0_1) || (!(t353 == a0_2)))) || (!(t354 == a0_3))) = true := c31
      clear c31
      have H' := Aside0.mk H
      clear H
      have hnb32 := NB356_344.out
      have hnc32 := NB344_356.out
      have hnb33 := NB356_345.out
      have hnc33 := NB345_356.out
      have hnb34 := NB356_364.out
      have hnc34 := NB364_356.out
      obtain ⟨hcz35_0, hcz35_1, hcz35_2, hcz35_3, hfz35_0, hfz35_1, hfz35_2, hfz35_3⟩ := pC4 BK356
      have hnb36 := NB344_345.out
      have hnc36 := NB345_344.out
      have hnb37 := NB344_364.out
      have hnc37 := NB364_344.out
      obtain ⟨hcz38_0, hcz38_1, hcz38_2, hcz38_3, hfz38_0, hfz38_1, hfz38_2, hfz38_3⟩ := pC4 BK344
      go_wp2
      refine Met.intro ?_
      go_step
      (repeat apply Exists.intro)
      refine ⟨?rel, ?heq_⟩
      case heq_ => first | rfl | (rw [c29b0]) | (simp only [c29b0])
      case rel => exact ⟨_, (true), pT, H', ⟨by first | omega | exact Nat.le_refl _⟩, ⟨pM BK344⟩, ⟨pM BK345⟩, ⟨pM BK356⟩, ⟨pM BK364⟩, ⟨pE HB⟩⟩
     ·
      rw [if_neg c31] at H
      have c31b0 : ((!(t351 == a0_0) || (!(t352 == a0_1) || (!(t353 == a0_2)))) || (!(t354 == a0_3))) = false := by simpa using c31
      clear c31
      by_cases c39 : t363 = true
      ·
       subst c39
       rw [if_pos rfl] at H
       by_cases c40 : (!(t357 == a0_0) || (!(t358 == a0_1) || (!(t359 == a0_2)))) = true
       ·
        rw [if_pos c40] at H
        have c40b0 : (!(t357 == a0_0) || (!(t358 == a0_1) || (!(t359 == a0_2)))) = true := c40
        clear c40
        have H' := Aside0.mk H
        clear H
        have hnb41 := NB356_344.out
        have hnc41 := NB344_356.out
        have hnb42 := NB356_345.out
        have hnc42 := NB345_356.out
        have hnb43 := NB356_364.out
        have hnc43 := NB364_356.out
        obtain ⟨hcz44_0, hcz44_1, hcz44_2, hcz44_3, hfz44_0, hfz44_1, hfz44_2, hfz44_3⟩ := pC4 BK356
        have hnb45 := NB344_345.out
        have hnc45 := NB345_344.out
        have hnb46 := NB344_364.out
        have hnc46 := NB364_344.out
        obtain ⟨hcz47_0, hcz47_1, hcz47_2, hcz47_3, hfz47_0, hfz47_1, hfz47_2, hfz47_3⟩ := pC4 BK344
        have hnb48 := NB364_345.out
        have hnc48 := NB345_364.out
        obtain ⟨hcz49_0, hcz49_1, hcz49_2, hcz49_3, hcz49_4, hcz49_5, hfz49_0, hfz49_1, hfz49_2, hfz49_3, hfz49_4, hfz49_5⟩ := pC6 BK364
        go_wp2
        refine Met.intro ?_
        go_step
        (repeat apply Exists.intro)
        refine ⟨?rel, ?heq_⟩
        case heq_ => first | rfl | (rw [c29b0]) | (simp only [c29b0])
        case rel => exact ⟨_, (true), pT, H', ⟨by first | omega | exact Nat.le_refl _⟩, ⟨pM BK344⟩, ⟨pM BK345⟩, ⟨pM BK356⟩, ⟨pM BK364⟩, ⟨pE HB⟩⟩
       ·
        rw [if_neg c40] at H
        have c40b0 : (!(t357 == a0_0) || (!(t358 == a0_1) || (!(t359 == a0_2)))) = false := by simpa using c40
        clear c40
        replace H := Option.bind_eq_some_iff.mp H
        obtain ⟨t365, A500, H⟩ := H
        replace H : (if t365 = true then ((prefix_Contains.f a0_0 a0_1 a0_2 a0_3 t360 t361 t362).bind fun t366 => (ddilaw03_PrefixBack.j0 k (!t366) a0_0 a0_1 a0_2 a0_3 a1_0 a1_1 a1_2 t357 t358 t359 t360 t361 t362)) else (ddilaw03_PrefixBack.j0 k true a0_0 a0_1 a0_2 a0_3 a1_0 a1_1 a1_2 t357 t358 t359 t360 t361 t362)) = some r := H
        have A50 := Aside0.mk A500
        clear A500
        by_cases c51 : t365 = true
        ·
         subst c51
         rw [if_pos rfl] at H
         replace H := Option.bind_eq_some_iff.mp H
         obtain ⟨t366, A520, H⟩ := H
         replace H : (ddilaw03_PrefixBack.j0 k (!t366) a0_0 a0_1 a0_2 a0_3 a1_0 a1_1 a1_2 t357 t358 t359 t360 t361 t362) = some r := H
         have A52 := Aside0.mk A520
         clear A520
         have H' := Aside0.mk H
         clear H
         have hnb53 := NB356_344.out
         have hnc53 := NB344_356.out
         have hnb54 := NB356_345.out
         have hnc54 := NB345_356.out
         have hnb55 := NB356_364.out
         have hnc55 := NB364_356.out
         obtain ⟨hcz56_0, hcz56_1, hcz56_2, hcz56_3, hfz56_0, hfz56_1, hfz56_2, hfz56_3⟩ := pC4 BK356
         have hnb57 := NB344_345.out
         have hnc57 := NB345_344.out
         have hnb58 := NB344_364.out
         have hnc58 := NB364_344.out
         obtain ⟨hcz59_0, hcz59_1, hcz59_2, hcz59_3, hfz59_0, hfz59_1, hfz59_2, hfz59_3⟩ := pC4 BK344
         have hnb60 := NB364_345.out
         have hnc60 := NB345_364.out
         obtain ⟨hcz61_0, hcz61_1, hcz61_2, hcz61_3, hcz61_4, hcz61_5, hfz61_0, hfz61_1, hfz61_2, hfz61_3, hfz61_4, hfz61_5⟩ := pC6 BK364
         go_wp2_with (first | (go_at_call 10; (with_reducible refine (prefix_Contains.calls a0_0 a0_1 a0_2 a0_3 t357 t358 t359 true _ A50.out).mono ?_); rintro e w62 ⟨rfl, hb⟩; replace BK344 := (pB BK344 hb); replace BK345 := (pB BK345 hb); replace BK356 := (pB BK356 hb); replace BK364 := (pB BK364 hb); replace HB := (pS HB hb); (try clear hb); obtain ⟨hcz63_0, hcz63_1, hcz63_2, hcz63_3, hfz63_0, hfz63_1, hfz63_2, hfz63_3⟩ := pC4 BK344; obtain ⟨hcz64_0, hcz64_1, hcz64_2, hcz64_3, hcz64_4, hcz64_5, hfz64_0, hfz64_1, hfz64_2, hfz64_3, hfz64_4, hfz64_5⟩ := pC6 BK364) | (go_at_call 10; (with_reducible refine (prefix_Contains.calls a0_0 a0_1 a0_2 a0_3 t360 t361 t362 t366 _ A52.out).mono ?_); rintro e w65 ⟨rfl, hb⟩; replace BK344 := (pB BK344 hb); replace BK345 := (pB BK345 hb); replace BK356 := (pB BK356 hb); replace BK364 := (pB BK364 hb); replace HB := (pS HB hb); (try clear hb)))
         refine Met.intro ?_
         go_step
         (repeat apply Exists.intro)
         refine ⟨?rel, ?heq_⟩
         case heq_ => first | rfl | (rw [c29b0]) | (simp only [c29b0])
         case rel => exact ⟨_, (!t366), pT, H', ⟨by first | omega | exact Nat.le_refl _⟩, ⟨pM BK344⟩, ⟨pM BK345⟩, ⟨pM BK356⟩, ⟨pM BK364⟩, ⟨pE HB⟩⟩
        ·
         replace c51 := Bool.eq_false_iff.mpr c51
         subst c51
         rw [if_neg (show ¬ (false = true) by decide)] at H
         have H' := Aside0.mk H
         clear H
         have hnb66 := NB356_344.out
         have hnc66 := NB344_356.out
         have hnb67 := NB356_345.out
         have hnc67 := NB345_356.out
         have hnb68 := NB356_364.out
         have hnc68 := NB364_356.out
         obtain ⟨hcz69_0, hcz69_1, hcz69_2, hcz69_3, hfz69_0, hfz69_1, hfz69_2, hfz69_3⟩ := pC4 BK356
         have hnb70 := NB344_345.out
         have hnc70 := NB345_344.out
         have hnb71 := NB344_364.out
         have hnc71 := NB364_344.out
         obtain ⟨hcz72_0, hcz72_1, hcz72_2, hcz72_3, hfz72_0, hfz72_1, hfz72_2, hfz72_3⟩ := pC4 BK344
         have hnb73 := NB364_345.out
         have hnc73 := NB345_364.out
         obtain ⟨hcz74_0, hcz74_1, hcz74_2, hcz74_3, hcz74_4, hcz74_5, hfz74_0, hfz74_1, hfz74_2, hfz74_3, hfz74_4, hfz74_5⟩ := pC6 BK364
         go_wp2_with (first | (go_at_call 10; (with_reducible refine (prefix_Contains.calls a0_0 a0_1 a0_2 a0_3 t357 t358 t359 false _ A50.out).mono ?_); rintro e w75 ⟨rfl, hb⟩; replace BK344 := (pB BK344 hb); replace BK345 := (pB BK345 hb); replace BK356 := (pB BK356 hb); replace BK364 := (pB BK364 hb); replace HB := (pS HB hb); (try clear hb)))
         refine Met.intro ?_
         go_step
         (repeat apply Exists.intro)
         refine ⟨?rel, ?heq_⟩
         case heq_ => first | rfl | (rw [c29b0]) | (simp only [c29b0])
         case rel => exact ⟨_, (true), pT, H', ⟨by first | omega | exact Nat.le_refl _⟩, ⟨pM BK344⟩, ⟨pM BK345⟩, ⟨pM BK356⟩, ⟨pM BK364⟩, ⟨pE HB⟩⟩
      ·
       replace c39 := Bool.eq_false_iff.mpr c39
       subst c39
       rw [if_neg (show ¬ (false = true) by decide)] at H
       have H' := Aside0.mk H
       clear H
       have hnb76 := NB356_344.out
       have hnc76 := NB344_356.out
       have hnb77 := NB356_345.out
       have hnc77 := NB345_356.out
       have hnb78 := NB356_364.out
       have hnc78 := NB364_356.out
       obtain ⟨hcz79_0, hcz79_1, hcz79_2, hcz79_3, hfz79_0, hfz79_1, hfz79_2, hfz79_3⟩ := pC4 BK356
       have hnb80 := NB344_345.out
       have hnc80 := NB345_344.out
       have hnb81 := NB344_364.out
       have hnc81 := NB364_344.out
       obtain ⟨hcz82_0, hcz82_1, hcz82_2, hcz82_3, hfz82_0, hfz82_1, hfz82_2, hfz82_3⟩ := pC4 BK344
       go_wp2
       refine Met.intro ?_
       go_step
       (repeat apply Exists.intro)
       refine ⟨?rel, ?heq_⟩
       case heq_ => first | rfl | (rw [c29b0]) | (simp only [c29b0])
       case rel => exact ⟨_, (true), pT, H', ⟨by first | omega | exact Nat.le_refl _⟩, ⟨pM BK344⟩, ⟨pM BK345⟩, ⟨pM BK356⟩, ⟨pM BK364⟩, ⟨pE HB⟩⟩
    ·
     rw [if_neg c30] at H
     have c30b0 : (t355 == 0) = false := beq_eq_false_iff_ne.mpr c30
     have c30b1 : (t355 != 0) = true := bne_iff_ne.mpr c30
     have H' := Aside0.mk H
     clear H
     go_wp2
     refine Met.intro ?_
     go_step
     (repeat apply Exists.intro)
     refine ⟨?rel, ?heq_⟩
     case heq_ => first | rfl | (rw [c29b0]) | (simp only [c29b0])
     case rel => exact ⟨_, (true), pT, H', ⟨by first | omega | exact Nat.le_refl _⟩, ⟨pM BK344⟩, ⟨pM BK345⟩, ⟨pM BK356⟩, ⟨pM BK364⟩, ⟨pE HB⟩⟩
   ·
    rw [if_neg c29] at H
    have c29b0 : (t347 == 0) = false := beq_eq_false_iff_ne.mpr c29
    have c29b1 : (t347 != 0) = true := bne_iff_ne.mpr c29
    (first | rw [c29b0] | (simp only [i64_w, i32_w]; rw [c29b0]) | skip)
    have H' := Aside0.mk H
    clear H
    go_wp2
    refine Met.intro ?_
    go_step
    (repeat apply Exists.intro)
    refine ⟨?rel, ?heq_⟩
    case heq_ => first | rfl | (rw [c29b0]) | (simp only [c29b0])
    case rel => exact ⟨_, (true), pT, H', ⟨by first | omega | exact Nat.le_refl _⟩, ⟨pM BK344⟩, ⟨pM BK345⟩, ⟨pM BK356⟩, ⟨pM BK364⟩, ⟨pE HB⟩⟩
  case rest =>
   clear HC8
   try clear c1
   try clear c2
   try clear p2
   try clear c3
   try clear c4
   try clear c5
   try clear c6
   try clear c7
   try clear c8
   try clear c9
   try clear c11
   try clear c12
   try clear c13
   try clear c18
   try clear c19
   try clear c24
   try clear c25
   try clear c26
   try clear c29
   try clear c29b0
   try clear c29b1
   try clear c30
   try clear c30b0
   try clear c30b1
   try clear c31
   try clear c31b0
   try clear c32
   try clear c33
   try clear c34
   try clear c36
   try clear c37
   try clear c39
   try clear c40
   try clear c40b0
   try clear c41
   try clear c42
   try clear c43
   try clear c45
   try clear c46
   try clear c48
   try clear c51
   try clear c53
   try clear c54
   try clear c55
   try clear c57
   try clear c58
   try clear c60
   try clear c66
   try clear c67
   try clear c68
   try clear c70
   try clear c71
   try clear c73
   try clear c76
   try clear c77
   try clear c78
   try clear c80
   try clear c81
   try clear hcz12_0 hcz12_1 hcz12_2 hcz12_3
   try clear hcz14_0 hcz14_1 hcz14_2 hcz14_3
   try clear hcz20_0 hcz20_1 hcz20_2 hcz20_3
   try clear hcz21_0 hcz21_1 hcz21_2 hcz21_3
   try clear hcz27_0 hcz27_1 hcz27_2 hcz27_3 hcz27_4 hcz27_5
   try clear hcz35_0 hcz35_1 hcz35_2 hcz35_3
   try clear hcz38_0 hcz38_1 hcz38_2 hcz38_3
   try clear hcz44_0 hcz44_1 hcz44_2 hcz44_3
   try clear hcz47_0 hcz47_1 hcz47_2 hcz47_3
   try clear hcz49_0 hcz49_1 hcz49_2 hcz49_3 hcz49_4 hcz49_5
   try clear hcz56_0 hcz56_1 hcz56_2 hcz56_3
   try clear hcz59_0 hcz59_1 hcz59_2 hcz59_3
   try clear hcz61_0 hcz61_1 hcz61_2 hcz61_3 hcz61_4 hcz61_5
   try clear hcz63_0 hcz63_1 hcz63_2 hcz63_3
   try clear hcz64_0 hcz64_1 hcz64_2 hcz64_3 hcz64_4 hcz64_5
   try clear hcz69_0 hcz69_1 hcz69_2 hcz69_3
   try clear hcz72_0 hcz72_1 hcz72_2 hcz72_3
   try clear hcz74_0 hcz74_1 hcz74_2 hcz74_3 hcz74_4 hcz74_5
   try clear hcz79_0 hcz79_1 hcz79_2 hcz79_3
   try clear hcz82_0 hcz82_1 hcz82_2 hcz82_3
   try clear hfz12_0 hfz12_1 hfz12_2 hfz12_3
   try clear hfz14_0 hfz14_1 hfz14_2 hfz14_3
   try clear hfz20_0 hfz20_1 hfz20_2 hfz20_3
   try clear hfz21_0 hfz21_1 hfz21_2 hfz21_3
   try clear hfz27_0 hfz27_1 hfz27_2 hfz27_3 hfz27_4 hfz27_5
   try clear hfz35_0 hfz35_1 hfz35_2 hfz35_3
   try clear hfz38_0 hfz38_1 hfz38_2 hfz38_3
   try clear hfz44_0 hfz44_1 hfz44_2 hfz44_3
   try clear hfz47_0 hfz47_1 hfz47_2 hfz47_3
   try clear hfz49_0 hfz49_1 hfz49_2 hfz49_3 hfz49_4 hfz49_5
   try clear hfz56_0 hfz56_1 hfz56_2 hfz56_3
   try clear hfz59_0 hfz59_1 hfz59_2 hfz59_3
   try clear hfz61_0 hfz61_1 hfz61_2 hfz61_3 hfz61_4 hfz61_5
   try clear hfz63_0 hfz63_1 hfz63_2 hfz63_3
   try clear hfz64_0 hfz64_1 hfz64_2 hfz64_3 hfz64_4 hfz64_5
   try clear hfz69_0 hfz69_1 hfz69_2 hfz69_3
   try clear hfz72_0 hfz72_1 hfz72_2 hfz72_3
   try clear hfz74_0 hfz74_1 hfz74_2 hfz74_3 hfz74_4 hfz74_5
   try clear hfz79_0 hfz79_1 hfz79_2 hfz79_3
   try clear hfz82_0 hfz82_1 hfz82_2 hfz82_3
   obtain ⟨kq, x83_7, rfl, HA, HJ7, BK344, BK345, BK356, BK364, HB⟩ := hcut
   cases kq with
   | zero => exact absurd HA.out (by simp [ddilaw03_PrefixBack.j0])
   | succ kj7 =>
    have H := HA.out
    clear HA
    simp only [ddilaw03_PrefixBack.j0] at H
    by_cases c83 : x83_7 = true
    ·
     subst c83
     rw [if_pos rfl] at H
     exact absurd H (by simp)
    ·
     replace c83 := Bool.eq_false_iff.mpr c83
     subst c83
     rw [if_neg (show ¬ (false = true) by decide)] at H
     replace H := Option.bind_eq_some_iff.mp H
     obtain ⟨⟨t367, t368, t369, t370, t371⟩, A840, H⟩ := H
     replace H : ((prefix_Contains.f a0_0 a0_1 a0_2 a0_3 a1_0 a1_1 a1_2).bind fun t373 => (if t371 = true then (ddilaw03_PrefixBack.j1 kj7 (t373 != ((t367 == a0_0 && (t368 == a0_1 && (t369 == a0_2))) && (t370 == a0_3))) a0_0 a0_1 a0_2 a0_3 t357 t358 t359 t360 t361 t362) else (ddilaw03_PrefixBack.j1 kj7 (t373 != false) a0_0 a0_1 a0_2 a0_3 t357 t358 t359 t360 t361 t362))) = some r := H
     have A84 := Aside0.mk A840
     clear A840
     have HC85 := Aside0.mk H
     clear H
     have hnb86 := NB345_344.out
     have hnc86 := NB344_345.out
     have hnb87 := NB345_356.out
     have hnc87 := NB356_345.out
     have hnb88 := NB345_364.out
     have hnc88 := NB364_345.out
     obtain ⟨hcz89_0, hcz89_1, hcz89_2, hfz89_0, hfz89_1, hfz89_2⟩ := pC3 BK345
     have hnb90 := NB344_356.out
     have hnc90 := NB356_344.out
     have hnb91 := NB344_364.out
     have hnc91 := NB364_344.out
     obtain ⟨hcz92_0, hcz92_1, hcz92_2, hcz92_3, hfz92_0, hfz92_1, hfz92_2, hfz92_3⟩ := pC4 BK344
     go_upto_region 9 with (first | ((with_reducible refine gate_callee (f := 14) rfl ?_); refine goesA (some 88) Tryd.func14 #[.agg #[.bool a1_0, .int .u64 a1_1, .int .u64 a1_2], .int .i64 a0_3] ?_; (with_reducible refine (prefix_Of.calls a1_0 a1_1 a1_2 a0_3 t367 t368 t369 t370 t371 _ A84.out).mono ?_); rintro e w93 ⟨rfl, hb⟩; refine ⟨_, rfl, ?_⟩; replace BK344 := (pB BK344 hb); replace BK345 := (pB BK345 hb); replace BK356 := (pB BK356 hb); replace BK364 := (pB BK364 hb); replace HB := (pS HB hb); (try clear hb)) | ((with_reducible refine gate_dst (N := 11) rfl ?_); refine boxA (N := 11) (cs := #[.bool false, .int .u64 0, .int .u64 0, .int .i64 0]) (t := 26) ?_; intro gb372 hg w94 hbox hb; have BK372 := Aside0.mk (hbox); have GW372 := (pZ HB hg); have GE372 := (pZ HB hg); have NB344_372 := (pL BK344 hg); have NB372_344 := (pG BK344 hg); have NB345_372 := (pL BK345 hg); have NB372_345 := (pG BK345 hg); have NB356_372 := (pL BK356 hg); have NB372_356 := (pG BK356 hg); have NB364_372 := (pL BK364 hg); have NB372_364 := (pG BK364 hg); replace BK344 := (pB BK344 hb); replace BK345 := (pB BK345 hb); replace BK356 := (pB BK356 hb); replace BK364 := (pB BK364 hb); replace HB := (pS HB hb); clear hb hbox hg; have hnb95 := NB372_344.out; have hnc95 := NB344_372.out; have hnb96 := NB372_345.out; have hnc96 := NB345_372.out; have hnb97 := NB372_356.out; have hnc97 := NB356_372.out; have hnb98 := NB372_364.out; have hnc98 := NB364_372.out; obtain ⟨hcz99_0, hcz99_1, hcz99_2, hcz99_3, hfz99_0, hfz99_1, hfz99_2, hfz99_3⟩ := pC4 BK372))
     (try simp only [Act.put, List.setIfInBounds_toArray, List.set_cons_zero, List.set_cons_succ])
     go_cut [100] (fun v100 wc => ∃ (kq : Nat) (x100_84 : Bool), v100 = .bool x100_84 ∧ Aside0 (ddilaw03_PrefixBack.j1 kq x100_84 a0_0 a0_1 a0_2 a0_3 t357 t358 t359 t360 t361 t362 = some r) ∧ Aside0 (kq ≤ kj7) ∧ Aside0 (wc.heap[gb344]? = some (.cells #[.bool a0_0, .int .u64 a0_1, .int .u64 a0_2, .int .i64 a0_3] 26 (0, 0))) ∧ Aside0 (wc.heap[gb345]? = some (.cells #[.bool a1_0, .int .u64 a1_1, .int .u64 a1_2] 24 (0, 0))) ∧ Aside0 (wc.heap[gb356]? = some (.cells #[.bool t351, .int .u64 t352, .int .u64 t353, .int .i64 t354] 26 (0, 0))) ∧ Aside0 (wc.heap[gb364]? = some (.cells #[.bool t357, .int .u64 t358, .int .u64 t359, .bool t360, .int .u64 t361, .int .u64 t362] 36 (0, 0))) ∧ Aside0 (wc.heap[gb372]? = some (.cells #[.bool t367, .int .u64 t368, .int .u64 t369, .int .i64 t370] 26 (0, 0))) ∧ Aside0 (Below w.heap.size w wc))
     case first =>
      have H := HC85.out
      clear HC85
      replace H := Option.bind_eq_some_iff.mp H
      obtain ⟨t373, A1000, H⟩ := H
      replace H : (if t371 = true then (ddilaw03_PrefixBack.j1 kj7 (t373 != ((t367 == a0_0 && (t368 == a0_1 && (t369 == a0_2))) && (t370 == a0_3))) a0_0 a0_1 a0_2 a0_3 t357 t358 t359 t360 t361 t362) else (ddilaw03_PrefixBack.j1 kj7 (t373 != false) a0_0 a0_1 a0_2 a0_3 t357 t358 t359 t360 t361 t362)) = some r := H
      have A100 := Aside0.mk A1000
      clear A1000
      by_cases c101 : t371 = true
      ·
       subst c101
       rw [if_pos rfl] at H
       have H' := Aside0.mk H
       clear H
       have hnb102 := NB344_345.out
       have hnc102 := NB345_344.out
       have hnb103 := NB344_356.out
       have hnc103 := NB356_344.out
       have hnb104 := NB344_364.out
       have hnc104 := NB364_344.out
       have hnb105 := NB344_372.out
       have hnc105 := NB372_344.out
       obtain ⟨hcz106_0, hcz106_1, hcz106_2, hcz106_3, hfz106_0, hfz106_1, hfz106_2, hfz106_3⟩ := pC4 BK344
       have hnb107 := NB345_356.out
       have hnc107 := NB356_345.out
       have hnb108 := NB345_364.out
       have hnc108 := NB364_345.out
       have hnb109 := NB345_372.out
       have hnc109 := NB372_345.out
       obtain ⟨hcz110_0, hcz110_1, hcz110_2, hfz110_0, hfz110_1, hfz110_2⟩ := pC3 BK345
       go_wp2_with (first | ((with_reducible refine gate_callee (f := 10) rfl ?_); refine goesA (some 93) Tryd.func10 #[.agg #[.bool a0_0, .int .u64 a0_1, .int .u64 a0_2, .int .i64 a0_3], .agg #[.bool a1_0, .int .u64 a1_1, .int .u64 a1_2]] ?_; (with_reducible refine (prefix_Contains.calls a0_0 a0_1 a0_2 a0_3 a1_0 a1_1 a1_2 t373 _ A100.out).mono ?_); rintro e w111 ⟨rfl, hb⟩; refine ⟨_, rfl, ?_⟩; replace BK344 := (pD hb (pK NB344_372 (pK NB344_372 (pK NB344_372 (pK NB344_372 (pM BK344)))))); replace BK345 := (pD hb (pK NB345_372 (pK NB345_372 (pK NB345_372 (pK NB345_372 (pM BK345)))))); replace BK356 := (pD hb (pK NB356_372 (pK NB356_372 (pK NB356_372 (pK NB356_372 (pM BK356)))))); replace BK364 := (pD hb (pK NB364_372 (pK NB364_372 (pK NB364_372 (pK NB364_372 (pM BK364)))))); replace BK372 := (pD hb (pP (pP (pP (pP (pM BK372)))))); replace HB := (pS HB hb); (try clear hb); have hnb112 := NB372_356.out; have hnc112 := NB356_372.out; have hnb113 := NB372_364.out; have hnc113 := NB364_372.out; obtain ⟨hcz114_0, hcz114_1, hcz114_2, hcz114_3, hfz114_0, hfz114_1, hfz114_2, hfz114_3⟩ := pC4 BK372; obtain ⟨hcz115_0, hcz115_1, hcz115_2, hcz115_3, hfz115_0, hfz115_1, hfz115_2, hfz115_3⟩ := pC4 BK344))
       go_meet
       case rel => exact ⟨_, ((t373 != ((t367 == a0_0 && (t368 == a0_1 && (t369 == a0_2))) && (t370 == a0_3)))), pT, H', ⟨by have := HJ7.out; first | omega | exact Nat.le_refl _⟩, ⟨pM BK344⟩, ⟨pM BK345⟩, ⟨pM BK356⟩, ⟨pM BK364⟩, ⟨pM BK372⟩, ⟨pE HB⟩⟩
      ·
       replace c101 := Bool.eq_false_iff.mpr c101
       subst c101
       rw [if_neg (show ¬ (false = true) by decide)] at H
       have H' := Aside0.mk H
       clear H
       have hnb116 := NB344_345.out
       have hnc116 := NB345_344.out
       have hnb117 := NB344_356.out
       have hnc117 := NB356_344.out
       have hnb118 := NB344_364.out
       have hnc118 := NB364_344.out
       have hnb119 := NB344_372.out
       have hnc119 := NB372_344.out
       obtain ⟨hcz120_0, hcz120_1, hcz120_2, hcz120_3, hfz120_0, hfz120_1, hfz120_2, hfz120_3⟩ := pC4 BK344
       have hnb121 := NB345_356.out
       have hnc121 := NB356_345.out
       have hnb122 := NB345_364.out
       have hnc122 := NB364_345.out
       have hnb123 := NB345_372.out
       have hnc123 := NB372_345.out
       obtain ⟨hcz124_0, hcz124_1, hcz124_2, hfz124_0, hfz124_1, hfz124_2⟩ := pC3 BK345
       go_wp2_with (first | ((with_reducible refine gate_callee (f := 10) rfl ?_); refine goesA (some 93) Tryd.func10 #[.agg #[.bool a0_0, .int .u64 a0_1, .int .u64 a0_2, .int .i64 a0_3], .agg #[.bool a1_0, .int .u64 a1_1, .int .u64 a1_2]] ?_; (with_reducible refine (prefix_Contains.calls a0_0 a0_1 a0_2 a0_3 a1_0 a1_1 a1_2 t373 _ A100.out).mono ?_); rintro e w125 ⟨rfl, hb⟩; refine ⟨_, rfl, ?_⟩; replace BK344 := (pD hb (pK NB344_372 (pK NB344_372 (pK NB344_372 (pK NB344_372 (pM BK344)))))); replace BK345 := (pD hb (pK NB345_372 (pK NB345_372 (pK NB345_372 (pK NB345_372 (pM BK345)))))); replace BK356 := (pD hb (pK NB356_372 (pK NB356_372 (pK NB356_372 (pK NB356_372 (pM BK356)))))); replace BK364 := (pD hb (pK NB364_372 (pK NB364_372 (pK NB364_372 (pK NB364_372 (pM BK364)))))); replace BK372 := (pD hb (pP (pP (pP (pP (pM BK372)))))); replace HB := (pS HB hb); (try clear hb)))
       go_meet
       case rel => exact ⟨_, ((t373 != false)), pT, H', ⟨by have := HJ7.out; first | omega | exact Nat.le_refl _⟩, ⟨pM BK344⟩, ⟨pM BK345⟩, ⟨pM BK356⟩, ⟨pM BK364⟩, ⟨pM BK372⟩, ⟨pE HB⟩⟩
     case rest =>
      clear HC85
      try clear c1
      try clear c2
      try clear p2
      try clear c3
      try clear c4
      try clear c5
      try clear c6
      try clear c7
      try clear c8
      try clear c9
      try clear c10
      try clear c11
      try clear c12
      try clear c13
      try clear c14
      try clear c18
      try clear c19
      try clear c24
      try clear c25
      try clear c26
      try clear c29
      try clear c29b0
      try clear c29b1
      try clear c30
      try clear c30b0
      try clear c30b1
      try clear c31
      try clear c31b0
      try clear c32
      try clear c33
      try clear c34
      try clear c36
      try clear c37
      try clear c39
      try clear c40
      try clear c40b0
      try clear c41
      try clear c42
      try clear c43
      try clear c45
      try clear c46
      try clear c48
      try clear c51
      try clear c53
      try clear c54
      try clear c55
      try clear c57
      try clear c58
      try clear c60
      try clear c66
      try clear c67
      try clear c68
      try clear c70
      try clear c71
      try clear c73
      try clear c76
      try clear c77
      try clear c78
      try clear c80
      try clear c81
      try clear c83
      try clear c86
      try clear c87
      try clear c88
      try clear c90
      try clear c91
      try clear c95
      try clear c96
      try clear c97
      try clear c98
      try clear c101
      try clear c102
      try clear c103
      try clear c104
      try clear c105
      try clear c107
      try clear c108
      try clear c109
      try clear c112
      try clear c113
      try clear c116
      try clear c117
      try clear c118
      try clear c119
      try clear c121
      try clear c122
      try clear c123
      try clear hcz106_0 hcz106_1 hcz106_2 hcz106_3
      try clear hcz110_0 hcz110_1 hcz110_2
      try clear hcz114_0 hcz114_1 hcz114_2 hcz114_3
      try clear hcz115_0 hcz115_1 hcz115_2 hcz115_3
      try clear hcz120_0 hcz120_1 hcz120_2 hcz120_3
      try clear hcz124_0 hcz124_1 hcz124_2
      try clear hcz12_0 hcz12_1 hcz12_2 hcz12_3
      try clear hcz14_0 hcz14_1 hcz14_2 hcz14_3
      try clear hcz20_0 hcz20_1 hcz20_2 hcz20_3
      try clear hcz21_0 hcz21_1 hcz21_2 hcz21_3
      try clear hcz27_0 hcz27_1 hcz27_2 hcz27_3 hcz27_4 hcz27_5
      try clear hcz35_0 hcz35_1 hcz35_2 hcz35_3
      try clear hcz38_0 hcz38_1 hcz38_2 hcz38_3
      try clear hcz44_0 hcz44_1 hcz44_2 hcz44_3
      try clear hcz47_0 hcz47_1 hcz47_2 hcz47_3
      try clear hcz49_0 hcz49_1 hcz49_2 hcz49_3 hcz49_4 hcz49_5
      try clear hcz56_0 hcz56_1 hcz56_2 hcz56_3
      try clear hcz59_0 hcz59_1 hcz59_2 hcz59_3
      try clear hcz61_0 hcz61_1 hcz61_2 hcz61_3 hcz61_4 hcz61_5
      try clear hcz63_0 hcz63_1 hcz63_2 hcz63_3
      try clear hcz64_0 hcz64_1 hcz64_2 hcz64_3 hcz64_4 hcz64_5
      try clear hcz69_0 hcz69_1 hcz69_2 hcz69_3
      try clear hcz72_0 hcz72_1 hcz72_2 hcz72_3
      try clear hcz74_0 hcz74_1 hcz74_2 hcz74_3 hcz74_4 hcz74_5
      try clear hcz79_0 hcz79_1 hcz79_2 hcz79_3
      try clear hcz82_0 hcz82_1 hcz82_2 hcz82_3
      try clear hcz89_0 hcz89_1 hcz89_2
      try clear hcz92_0 hcz92_1 hcz92_2 hcz92_3
      try clear hcz99_0 hcz99_1 hcz99_2 hcz99_3
      try clear hfz106_0 hfz106_1 hfz106_2 hfz106_3
      try clear hfz110_0 hfz110_1 hfz110_2
      try clear hfz114_0 hfz114_1 hfz114_2 hfz114_3
      try clear hfz115_0 hfz115_1 hfz115_2 hfz115_3
      try clear hfz120_0 hfz120_1 hfz120_2 hfz120_3
      try clear hfz124_0 hfz124_1 hfz124_2
      try clear hfz12_0 hfz12_1 hfz12_2 hfz12_3
      try clear hfz14_0 hfz14_1 hfz14_2 hfz14_3
      try clear hfz20_0 hfz20_1 hfz20_2 hfz20_3
      try clear hfz21_0 hfz21_1 hfz21_2 hfz21_3
      try clear hfz27_0 hfz27_1 hfz27_2 hfz27_3 hfz27_4 hfz27_5
      try clear hfz35_0 hfz35_1 hfz35_2 hfz35_3
      try clear hfz38_0 hfz38_1 hfz38_2 hfz38_3
      try clear hfz44_0 hfz44_1 hfz44_2 hfz44_3
      try clear hfz47_0 hfz47_1 hfz47_2 hfz47_3
      try clear hfz49_0 hfz49_1 hfz49_2 hfz49_3 hfz49_4 hfz49_5
      try clear hfz56_0 hfz56_1 hfz56_2 hfz56_3
      try clear hfz59_0 hfz59_1 hfz59_2 hfz59_3
      try clear hfz61_0 hfz61_1 hfz61_2 hfz61_3 hfz61_4 hfz61_5
      try clear hfz63_0 hfz63_1 hfz63_2 hfz63_3
      try clear hfz64_0 hfz64_1 hfz64_2 hfz64_3 hfz64_4 hfz64_5
      try clear hfz69_0 hfz69_1 hfz69_2 hfz69_3
      try clear hfz72_0 hfz72_1 hfz72_2 hfz72_3
      try clear hfz74_0 hfz74_1 hfz74_2 hfz74_3 hfz74_4 hfz74_5
      try clear hfz79_0 hfz79_1 hfz79_2 hfz79_3
      try clear hfz82_0 hfz82_1 hfz82_2 hfz82_3
      try clear hfz89_0 hfz89_1 hfz89_2
      try clear hfz92_0 hfz92_1 hfz92_2 hfz92_3
      try clear hfz99_0 hfz99_1 hfz99_2 hfz99_3
      try clear p2
      obtain ⟨kq, x100_84, rfl, HA, HJ84, BK344, BK345, BK356, BK364, BK372, HB⟩ := hcut
      cases kq with
      | zero => exact absurd HA.out (by simp [ddilaw03_PrefixBack.j1])
      | succ kj84 =>
       have H := HA.out
       clear HA
       simp only [ddilaw03_PrefixBack.j1] at H
       by_cases c126 : x100_84 = true
       ·
        subst c126
        rw [if_pos rfl] at H
        exact absurd H (by simp)
       ·
        replace c126 := Bool.eq_false_iff.mpr c126
        subst c126
        rw [if_neg (show ¬ (false = true) by decide)] at H
        replace H := Option.bind_eq_some_iff.mp H
        obtain ⟨⟨t374, t375, t376, t377⟩, A1270, H⟩ := H
        replace H : (if t377 = true then ((prefix_Contains.f a0_0 a0_1 a0_2 a0_3 t374 t375 t376).bind fun t379 => (if t379 = true then (none) else ((ddilaw03_awake.f kj84).bind fun t380 => (some t380)))) else ((ddilaw03_awake.f kj84).bind fun t381 => (some t381))) = some r := H
        have A127 := Aside0.mk A1270
        clear A1270
        by_cases c128 : t377 = true
        ·
         subst c128
         rw [if_pos rfl] at H
         replace H := Option.bind_eq_some_iff.mp H
         obtain ⟨t379, A1290, H⟩ := H
         replace H : (if t379 = true then (none) else ((ddilaw03_awake.f kj84).bind fun t380 => (some t380))) = some r := H
         have A129 := Aside0.mk A1290
         clear A1290
         by_cases c130 : t379 = true
         ·
          subst c130
          rw [if_pos rfl] at H
          exact absurd H (by simp)
         ·
          replace c130 := Bool.eq_false_iff.mpr c130
          subst c130
          rw [if_neg (show ¬ (false = true) by decide)] at H
          replace H := Option.bind_eq_some_iff.mp H
          obtain ⟨t380, A1310, H⟩ := H
          replace H : (some t380) = some r := H
          have A131 := Aside0.mk A1310
          clear A1310
          obtain rfl := Option.some.inj H
          have hnb132 := NB364_344.out
          have hnc132 := NB344_364.out
          have hnb133 := NB364_345.out
          have hnc133 := NB345_364.out
          have hnb134 := NB364_356.out
          have hnc134 := NB356_364.out
          have hnb135 := NB364_372.out
          have hnc135 := NB372_364.out
          obtain ⟨hcz136_0, hcz136_1, hcz136_2, hcz136_3, hcz136_4, hcz136_5, hfz136_0, hfz136_1, hfz136_2, hfz136_3, hfz136_4, hfz136_5⟩ := pC6 BK364
          go_wp2_with (first | ((with_reducible refine gate_callee (f := 15) rfl ?_); refine goesA (some 104) Tryd.func15 #[.agg #[.bool t360, .int .u64 t361, .int .u64 t362], .int .u64 1] ?_; (with_reducible refine (addr_Add.calls t360 t361 t362 1 t374 t375 t376 true _ A127.out).mono ?_); rintro e w137 ⟨rfl, hb⟩; refine ⟨_, rfl, ?_⟩; replace BK344 := (pB BK344 hb); replace BK345 := (pB BK345 hb); replace BK356 := (pB BK356 hb); replace BK364 := (pB BK364 hb); replace BK372 := (pB BK372 hb); replace HB := (pS HB hb); (try clear hb)) | ((with_reducible refine gate_dst (N := 13) rfl ?_); refine boxA (N := 13) (cs := #[.bool false, .int .u64 0, .int .u64 0]) (t := 24) ?_; intro gb378 hg w138 hbox hb; have BK378 := Aside0.mk (hbox); have GW378 := (pZ HB hg); have GE378 := (pZ HB hg); have NB344_378 := (pL BK344 hg); have NB378_344 := (pG BK344 hg); have NB345_378 := (pL BK345 hg); have NB378_345 := (pG BK345 hg); have NB356_378 := (pL BK356 hg); have NB378_356 := (pG BK356 hg); have NB364_378 := (pL BK364 hg); have NB378_364 := (pG BK364 hg); have NB372_378 := (pL BK372 hg); have NB378_372 := (pG BK372 hg); replace BK344 := (pB BK344 hb); replace BK345 := (pB BK345 hb); replace BK356 := (pB BK356 hb); replace BK364 := (pB BK364 hb); replace BK372 := (pB BK372 hb); replace HB := (pS HB hb); clear hb hbox hg; have hnb139 := NB378_344.out; have hnc139 := NB344_378.out; have hnb140 := NB378_345.out; have hnc140 := NB345_378.out; have hnb141 := NB378_356.out; have hnc141 := NB356_378.out; have hnb142 := NB378_364.out; have hnc142 := NB364_378.out; have hnb143 := NB378_372.out; have hnc143 := NB372_378.out; obtain ⟨hcz144_0, hcz144_1, hcz144_2, hfz144_0, hfz144_1, hfz144_2⟩ := pC3 BK378; have hnb145 := NB344_345.out; have hnc145 := NB345_344.out; have hnb146 := NB344_356.out; have hnc146 := NB356_344.out; have hnb147 := NB344_372.out; have hnc147 := NB372_344.out; obtain ⟨hcz148_0, hcz148_1, hcz148_2, hcz148_3, hfz148_0, hfz148_1, hfz148_2, hfz148_3⟩ := pC4 BK344) | (go_at_call 10; (with_reducible refine (prefix_Contains.calls a0_0 a0_1 a0_2 a0_3 t374 t375 t376 false _ A129.out).mono ?_); rintro e w149 ⟨rfl, hb⟩; replace BK344 := (pD hb (pK NB344_378 (pK NB344_378 (pK NB344_378 (pM BK344))))); replace BK345 := (pD hb (pK NB345_378 (pK NB345_378 (pK NB345_378 (pM BK345))))); replace BK356 := (pD hb (pK NB356_378 (pK NB356_378 (pK NB356_378 (pM BK356))))); replace BK364 := (pD hb (pK NB364_378 (pK NB364_378 (pK NB364_378 (pM BK364))))); replace BK372 := (pD hb (pK NB372_378 (pK NB372_378 (pK NB372_378 (pM BK372))))); replace BK378 := (pD hb (pP (pP (pP (pM BK378))))); replace HB := (pS HB hb); (try clear hb)) | (go_at_call 11; (with_reducible refine (ddilaw03_awake.calls kj84  t380 _ ?side1 A131.out).mono ?_); (case side1 => exact Laid.below HLD.out (pE HB)); rintro e w150 ⟨rfl, hb⟩; replace BK344 := (pB BK344 hb); replace BK345 := (pB BK345 hb); replace BK356 := (pB BK356 hb); replace BK364 := (pB BK364 hb); replace BK372 := (pB BK372 hb); replace BK378 := (pB BK378 hb); replace HB := (pS HB hb); (try clear hb)))
          go_ret
          exact pR (pE HB)
        ·
         replace c128 := Bool.eq_false_iff.mpr c128
         subst c128
         rw [if_neg (show ¬ (false = true) by decide)] at H
         replace H := Option.bind_eq_some_iff.mp H
         obtain ⟨t381, A1510, H⟩ := H
         replace H : (some t381) = some r := H
         have A151 := Aside0.mk A1510
         clear A1510
         obtain rfl := Option.some.inj H
         have hnb152 := NB364_344.out
         have hnc152 := NB344_364.out
         have hnb153 := NB364_345.out
         have hnc153 := NB345_364.out
         have hnb154 := NB364_356.out
         have hnc154 := NB356_364.out
         have hnb155 := NB364_372.out
         have hnc155 := NB372_364.out
         obtain ⟨hcz156_0, hcz156_1, hcz156_2, hcz156_3, hcz156_4, hcz156_5, hfz156_0, hfz156_1, hfz156_2, hfz156_3, hfz156_4, hfz156_5⟩ := pC6 BK364
         go_wp2_with (first | ((with_reducible refine gate_callee (f := 15) rfl ?_); refine goesA (some 104) Tryd.func15 #[.agg #[.bool t360, .int .u64 t361, .int .u64 t362], .int .u64 1] ?_; (with_reducible refine (addr_Add.calls t360 t361 t362 1 t374 t375 t376 false _ A127.out).mono ?_); rintro e w157 ⟨rfl, hb⟩; refine ⟨_, rfl, ?_⟩; replace BK344 := (pB BK344 hb); replace BK345 := (pB BK345 hb); replace BK356 := (pB BK356 hb); replace BK364 := (pB BK364 hb); replace BK372 := (pB BK372 hb); replace HB := (pS HB hb); (try clear hb)) | ((with_reducible refine gate_dst (N := 13) rfl ?_); refine boxA (N := 13) (cs := #[.bool false, .int .u64 0, .int .u64 0]) (t := 24) ?_; intro gb378 hg w158 hbox hb; have BK378 := Aside0.mk (hbox); have GW378 := (pZ HB hg); have GE378 := (pZ HB hg); have NB344_378 := (pL BK344 hg); have NB378_344 := (pG BK344 hg); have NB345_378 := (pL BK345 hg); have NB378_345 := (pG BK345 hg); have NB356_378 := (pL BK356 hg); have NB378_356 := (pG BK356 hg); have NB364_378 := (pL BK364 hg); have NB378_364 := (pG BK364 hg); have NB372_378 := (pL BK372 hg); have NB378_372 := (pG BK372 hg); replace BK344 := (pB BK344 hb); replace BK345 := (pB BK345 hb); replace BK356 := (pB BK356 hb); replace BK364 := (pB BK364 hb); replace BK372 := (pB BK372 hb); replace HB := (pS HB hb); clear hb hbox hg; have hnb159 := NB378_344.out; have hnc159 := NB344_378.out; have hnb160 := NB378_345.out; have hnc160 := NB345_378.out; have hnb161 := NB378_356.out; have hnc161 := NB356_378.out; have hnb162 := NB378_364.out; have hnc162 := NB364_378.out; have hnb163 := NB378_372.out; have hnc163 := NB372_378.out; obtain ⟨hcz164_0, hcz164_1, hcz164_2, hfz164_0, hfz164_1, hfz164_2⟩ := pC3 BK378) | (go_at_call 11; (with_reducible refine (ddilaw03_awake.calls kj84  t381 _ ?side1 A151.out).mono ?_); (case side1 => exact Laid.below HLD.out (pE HB)); rintro e w165 ⟨rfl, hb⟩; replace BK344 := (pD hb (pK NB344_378 (pK NB344_378 (pK NB344_378 (pM BK344))))); replace BK345 := (pD hb (pK NB345_378 (pK NB345_378 (pK NB345_378 (pM BK345))))); replace BK356 := (pD hb (pK NB356_378 (pK NB356_378 (pK NB356_378 (pM BK356))))); replace BK364 := (pD hb (pK NB364_378 (pK NB364_378 (pK NB364_378 (pM BK364))))); replace BK372 := (pD hb (pK NB372_378 (pK NB372_378 (pK NB372_378 (pM BK372))))); replace BK378 := (pD hb (pP (pP (pP (pM BK378))))); replace HB := (pS HB hb); (try clear hb)))
         go_ret
         exact pR (pE HB)
 ·
  replace c5 := Bool.eq_false_iff.mpr c5
  subst c5
  rw [if_neg (show ¬ (false = true) by decide)] at H
  by_cases c166 : t347 = 3
  ·
   rw [if_pos c166] at H
   have c166b0 : (t347 == 3) = true := beq_iff_eq.mpr c166
   have c166b1 : (t347 != 3) = false := bne_eq_false_iff_eq.mpr c166
   clear c166
   by_cases c167 : t346.toList = ([] : List UInt8)
   ·
    rw [if_pos c167] at H
    have c167b0 : (t346.toList == ([] : List UInt8)) = true := beq_iff_eq.mpr c167
    have c167b1 : (t346.toList != ([] : List UInt8)) = false := bne_eq_false_iff_eq.mpr c167
    clear c167
    replace H := Option.bind_eq_some_iff.mp H
    obtain ⟨t349, A1680, H⟩ := H
    replace H : (if t349 = true then (none) else ((ddilaw03_awake.f k).bind fun t350 => (some t350))) = some r := H
    have A168 := Aside0.mk A1680
    clear A1680
    by_cases c169 : t349 = true
    ·
     subst c169
     rw [if_pos rfl] at H
     exact absurd H (by simp)
    ·
     replace c169 := Bool.eq_false_iff.mpr c169
     subst c169
     rw [if_neg (show ¬ (false = true) by decide)] at H
     replace H := Option.bind_eq_some_iff.mp H
     obtain ⟨t350, A1700, H⟩ := H
     replace H : (some t350) = some r := H
     have A170 := Aside0.mk A1700
     clear A1700
     obtain rfl := Option.some.inj H
     go_enter Tryd.func3, Tryd.ntmps3
     go_wp2_with (first | ((with_reducible refine gate_dst (N := 2) rfl ?_); refine boxA (N := 2) (cs := #[.bool a0_0, .int .u64 a0_1, .int .u64 a0_2, .int .i64 a0_3]) (t := 26) ?_; intro gb344 hg w171 hbox hb; have BK344 := Aside0.mk (hbox); have GW344 := (pZ HB hg); have GE344 := (pZ HB hg); replace HB := (pS HB hb); clear hb hbox hg) | ((with_reducible refine gate_dst (N := 3) rfl ?_); refine boxA (N := 3) (cs := #[.bool a1_0, .int .u64 a1_1, .int .u64 a1_2]) (t := 24) ?_; intro gb345 hg w172 hbox hb; have BK345 := Aside0.mk (hbox); have GW345 := (pZ HB hg); have GE345 := (pZ HB hg); have NB344_345 := (pL BK344 hg); have NB345_344 := (pG BK344 hg); replace BK344 := (pB BK344 hb); replace HB := (pS HB hb); clear hb hbox hg; have hnb173 := NB344_345.out; have hnc173 := NB345_344.out; obtain ⟨hcz174_0, hcz174_1, hcz174_2, hcz174_3, hfz174_0, hfz174_1, hfz174_2, hfz174_3⟩ := pC4 BK344) | ((with_reducible refine gate_callee (f := 8) rfl ?_); refine goesA (some 17) Tryd.func8 #[.agg #[.bool a0_0, .int .u64 a0_1, .int .u64 a0_2, .int .i64 a0_3]] ?_; (with_reducible refine (prefix_Print.calls k a0_0 a0_1 a0_2 a0_3 t346 t347 _ ?side1 A3.out).mono ?_); (case side1 => exact Laid.below HLD.out (pE HB)); rintro e w175 ⟨rfl, hb⟩; refine ⟨_, rfl, ?_⟩; replace BK344 := (pB BK344 hb); replace BK345 := (pB BK345 hb); replace HB := (pS HB hb); (try clear hb); obtain ⟨hcz176_0, hcz176_1, hcz176_2, hcz176_3, hfz176_0, hfz176_1, hfz176_2, hfz176_3⟩ := pC4 BK344) | ((with_reducible refine gate_callee (f := 9) rfl ?_); refine goesA (some 21) Tryd.func9 #[.agg #[.bool a0_0, .int .u64 a0_1, .int .u64 a0_2, .int .i64 a0_3]] ?_; (with_reducible refine (prefix_Valid.calls a0_0 a0_1 a0_2 a0_3 false _ A4.out).mono ?_); rintro e w177 ⟨rfl, hb⟩; refine ⟨_, rfl, ?_⟩; replace BK344 := (pB BK344 hb); replace BK345 := (pB BK345 hb); replace HB := (pS HB hb); (try clear hb); obtain ⟨hcz178_0, hcz178_1, hcz178_2, hcz178_3, hfz178_0, hfz178_1, hfz178_2, hfz178_3⟩ := pC4 BK344; obtain ⟨hcz179_0, hcz179_1, hcz179_2, hfz179_0, hfz179_1, hfz179_2⟩ := pC3 BK345) | (go_at_call 10; (with_reducible refine (prefix_Contains.calls a0_0 a0_1 a0_2 a0_3 a1_0 a1_1 a1_2 false _ A168.out).mono ?_); rintro e w180 ⟨rfl, hb⟩; replace BK344 := (pB BK344 hb); replace BK345 := (pB BK345 hb); replace HB := (pS HB hb); (try clear hb)) | (go_at_call 11; (with_reducible refine (ddilaw03_awake.calls k  t350 _ ?side1 A170.out).mono ?_); (case side1 => exact Laid.below HLD.out (pE HB)); rintro e w181 ⟨rfl, hb⟩; replace BK344 := (pB BK344 hb); replace BK345 := (pB BK345 hb); replace HB := (pS HB hb); (try clear hb)))
     go_ret
     exact pR (pE HB)
   ·
    rw [if_neg c167] at H
    exact absurd H (by simp)
  ·
   rw [if_neg c166] at H
   exact absurd H (by simp)

end Go.Proofs.YteflcmmandlknaaDoor.PA
