/- The Go functions in Lean, with the proofs that the code comes to these answers: printed by this session's program (wip/px) out of the seat's translation. Conditions: each theorem's own. -/
import Derived.Test.YteflcmmandlknaaGreatDoorPAx0
import Derived.Test.YteflcmmandlknaaGreatDoorPAx2
import Derived.Test.YteflcmmandlknaaGreatDoorPAx6
import Derived.Test.YteflcmmandlknaaGreatDoorPAx7
import Derived.Test.YteflcmmandlknaaGreatDoorPAx8
import Derived.Test.YteflcmmandlknaaGreatDoorPAx9
import Derived.Test.YteflcmmandlknaaGreatDoorPAx10
namespace Go.Proofs.YteflcmmandlknaaGreatDoor.PA
open Go.RowKit Go.Proofs.YteflcmmandlknaaGreatDoorW.PrintWords Go.Proofs.YteflcmmandlknaaGreatDoorW.PrintLast Go.Proofs.YteflcmmandlknaaGreatDoorW.PrintMore
attribute [local go_sem] max2_int min2_int max_two min_two max_three min_three max_four min_four   -- for this text's walks alone
attribute [local go_sem ↓] Ext.isSome_setCell
open Press
set_option linter.unusedVariables false
set_option linter.unusedSimpArgs false
attribute [local go_sem high] eqA26
/-! ### ddilaw03_awake: function 9 -/
def ddilaw03_awake.j0 : Nat → ByteArray → List (S26) → ByteArray → Int → Bool → Bool → Int → Int → Int → Bool → Int → Int → Int → Bool → Int → Int → Int → Option (Bool)
 | 0, _, _, _, _, _, _, _, _, _, _, _, _, _, _, _, _, _ => none
 | k + 1, x5, x10, x11, x13, x74, x270000, x270001, x270002, x270003, x296000, x296001, x296002, x296003, x297000, x297001, x297002, x297003 => if x74 = true then (none) else ((ddilaw03_four.f 167772160 8).bind fun bt312 => (if ((x270000 == bt312.1 && (x270001 == bt312.2.1 && (x270002 == bt312.2.2.1))) && (x270003 == bt312.2.2.2)) = true then (if x5.toList = ([49, 48, 46, 48, 46, 48, 46, 52, 47, 51, 48] : List UInt8) then ((ddilaw03_four.f 167772160 9).bind fun bt316 => (if ((x296000 == bt316.1 && (x296001 == bt316.2.1 && (x296002 == bt316.2.2.1))) && (x296003 == bt316.2.2.2)) = true then ((ddilaw03_four.f 176160768 9).bind fun bt320 => (if ((x297000 == bt320.1 && (x297001 == bt320.2.1 && (x297002 == bt320.2.2.1))) && (x297003 == bt320.2.2.2)) = true then (if 1 < (x10.length : Int) then ((ddilaw03_four.f 167772162 31).bind fun bt325 => (if ((((rd_T26 x10 1).f0.f0) == bt325.1 && (((rd_T26 x10 1).f0.f1) == bt325.2.1 && (((rd_T26 x10 1).f0.f2) == bt325.2.2.1))) && (((rd_T26 x10 1).f1) == bt325.2.2.2)) = true then (if x11.toList = ([50, 46, 49, 48, 46, 105, 110, 45, 97, 100, 100, 114, 46, 97, 114, 112, 97, 46] : List UInt8) then (some (x13 == 4)) else (none)) else (none))) else (none)) else (none))) else (none))) else (none)) else (none)))
def ddilaw03_awake.f (k : Nat)  : Option (Bool) := (prefix_Parse.f k (⟨#[49, 48, 46, 48, 46, 48, 46, 48, 47, 56]⟩ : ByteArray)).bind fun bt264 => ((prefix_Parse.f k (⟨#[49, 48, 46, 48, 46, 48, 46, 49, 47, 56]⟩ : ByteArray)).bind fun bt270 => ((ddilaw03_four.f 167772164 30).bind fun bt276 => ((prefix_Print.f k bt276.1 bt276.2.1 bt276.2.2.1 bt276.2.2.2).bind fun bt280 => ((ddilaw03_four.f 167772160 8).bind fun bt282 => ((prefix_Halves.f k bt282.1 bt282.2.1 bt282.2.2.1 bt282.2.2.2).bind fun bt286 => ((prefix_Cover.f k false 0 167772161 false 0 167772164).bind fun t297 => ((ddilaw03_four.f 167903232 16).bind fun bt300 => ((prefix_Zone.f k bt300.1 bt300.2.1 bt300.2.2.1 bt300.2.2.2).bind fun bt304 => ((ddilaw03_four.f 167772164 30).bind fun bt306 => ((prefix_Size.f bt306.1 bt306.2.1 bt306.2.2.1 bt306.2.2.2).bind fun bt310 => (if bt264.2.2.2.2 = 0 then (if bt270.2.2.2.2 = 3 then (if bt280.2 = 0 then (if bt286.2.2.2.2.2.2.2.2 = true then (if bt304.2 = true then (if bt310.2 = true then (ddilaw03_awake.j0 k bt280.1 t297 bt304.1 bt310.1 ((t297.length : Int) != 3) bt264.1 bt264.2.1 bt264.2.2.1 bt264.2.2.2.1 bt286.1 bt286.2.1 bt286.2.2.1 bt286.2.2.2.1 bt286.2.2.2.2.1 bt286.2.2.2.2.2.1 bt286.2.2.2.2.2.2.1 bt286.2.2.2.2.2.2.2.1) else (ddilaw03_awake.j0 k bt280.1 t297 bt304.1 bt310.1 true bt264.1 bt264.2.1 bt264.2.2.1 bt264.2.2.2.1 bt286.1 bt286.2.1 bt286.2.2.1 bt286.2.2.2.1 bt286.2.2.2.2.1 bt286.2.2.2.2.2.1 bt286.2.2.2.2.2.2.1 bt286.2.2.2.2.2.2.2.1)) else (ddilaw03_awake.j0 k bt280.1 t297 bt304.1 bt310.1 true bt264.1 bt264.2.1 bt264.2.2.1 bt264.2.2.2.1 bt286.1 bt286.2.1 bt286.2.2.1 bt286.2.2.2.1 bt286.2.2.2.2.1 bt286.2.2.2.2.2.1 bt286.2.2.2.2.2.2.1 bt286.2.2.2.2.2.2.2.1)) else (ddilaw03_awake.j0 k bt280.1 t297 bt304.1 bt310.1 true bt264.1 bt264.2.1 bt264.2.2.1 bt264.2.2.2.1 bt286.1 bt286.2.1 bt286.2.2.1 bt286.2.2.2.1 bt286.2.2.2.2.1 bt286.2.2.2.2.2.1 bt286.2.2.2.2.2.2.1 bt286.2.2.2.2.2.2.2.1)) else (ddilaw03_awake.j0 k bt280.1 t297 bt304.1 bt310.1 true bt264.1 bt264.2.1 bt264.2.2.1 bt264.2.2.2.1 bt286.1 bt286.2.1 bt286.2.2.1 bt286.2.2.2.1 bt286.2.2.2.2.1 bt286.2.2.2.2.2.1 bt286.2.2.2.2.2.2.1 bt286.2.2.2.2.2.2.2.1)) else (ddilaw03_awake.j0 k bt280.1 t297 bt304.1 bt310.1 true bt264.1 bt264.2.1 bt264.2.2.1 bt264.2.2.2.1 bt286.1 bt286.2.1 bt286.2.2.1 bt286.2.2.2.1 bt286.2.2.2.2.1 bt286.2.2.2.2.2.1 bt286.2.2.2.2.2.2.1 bt286.2.2.2.2.2.2.2.1)) else (ddilaw03_awake.j0 k bt280.1 t297 bt304.1 bt310.1 true bt264.1 bt264.2.1 bt264.2.2.1 bt264.2.2.2.1 bt286.1 bt286.2.1 bt286.2.2.1 bt286.2.2.2.1 bt286.2.2.2.2.1 bt286.2.2.2.2.2.1 bt286.2.2.2.2.2.2.1 bt286.2.2.2.2.2.2.2.1))))))))))))
theorem ddilaw03_awake.mono_l : ∀ k, (∀ y0 y1 y2 y3 y4 y5 y6 y7 y8 y9 y10 y11 y12 y13 y14 y15 y16, LeO (ddilaw03_awake.j0 k y0 y1 y2 y3 y4 y5 y6 y7 y8 y9 y10 y11 y12 y13 y14 y15 y16) (ddilaw03_awake.j0 (k + 1) y0 y1 y2 y3 y4 y5 y6 y7 y8 y9 y10 y11 y12 y13 y14 y15 y16))
 | 0 => fun _ _ _ _ _ _ _ _ _ _ _ _ _ _ _ _ _ r h => by simp [ddilaw03_awake.j0] at h
 | k + 1 => by
  have ih0 := ddilaw03_awake.mono_l k
  ·
   intro y0 y1 y2 y3 y4 y5 y6 y7 y8 y9 y10 y11 y12 y13 y14 y15 y16
   unfold ddilaw03_awake.j0
   repeat' with_reducible first | exact ih0 _ _ _ _ _ _ _ _ _ _ _ _ _ _ _ _ _ | exact prefix_Cover.mono _ _ _ _ _ _ _ | exact prefix_Halves.mono _ _ _ _ _ | exact prefix_Parse.mono _ _ | exact prefix_Print.mono _ _ _ _ _ | exact prefix_Zone.mono _ _ _ _ _ | exact LeO.refl _ | exact LeO.none _ | refine LeO.ite ?_ ?_ | refine LeO.bind ?_ (fun _ => ?_)
theorem ddilaw03_awake.mono : ∀ k, LeO (ddilaw03_awake.f k ) (ddilaw03_awake.f (k + 1) ) := by
 intro  k
 have ih0 := ddilaw03_awake.mono_l k
 unfold ddilaw03_awake.f
 repeat' with_reducible first | exact ih0 _ _ _ _ _ _ _ _ _ _ _ _ _ _ _ _ _ | exact prefix_Cover.mono _ _ _ _ _ _ _ | exact prefix_Halves.mono _ _ _ _ _ | exact prefix_Parse.mono _ _ | exact prefix_Print.mono _ _ _ _ _ | exact prefix_Zone.mono _ _ _ _ _ | exact LeO.refl _ | exact LeO.none _ | refine LeO.ite ?_ ?_ | refine LeO.bind ?_ (fun _ => ?_)
def ddilaw03_awake.T10 : Bool × List (List Nat × List Nat) := (true, [([], []), ([], []), ([0, 1], [0, 1]), ([2, 1], [2]), ([3], [3]), ([4, 3], [3, 4]), ([3, 5], [3, 5]), ([6, 3], [6]), ([7], [7]), ([7, 7], [7]), ([8, 9, 7], [7, 8, 9]), ([7, 10], [7, 10]), ([11, 9], [11]), ([12], [12]), ([12, 12], [12]), ([13, 14, 12], [12, 13, 14]), ([12, 15], [12, 15]), ([16, 14], [16]), ([17], [17]), ([18, 17], [17, 18]), ([19, 17], [17, 19]), ([17, 17], [17]), ([20, 21, 17], [17, 20, 21]), ([17, 22], [17, 22]), ([23, 21], [23]), ([24], [24]), ([25, 24], [24, 25]), ([24, 26], [24, 26]), ([27, 24], [27]), ([28], [28]), ([29, 28], [28, 29]), ([28, 30], [28, 30]), ([31, 28, 0, 1, 2, 3, 4, 5, 6, 7, 8, 9, 10, 11, 12, 13, 14, 15, 16, 17, 18, 19, 20, 21, 22, 23, 24, 25, 26, 27, 28, 29, 30, 31], [31])])
def ddilaw03_awake.B10 : List Nat := [0, 0, 3, 7, 15, 31, 63, 127, 255, 255, 1023, 2047, 4095, 8191, 8191, 32767, 65535, 131071, 262143, 524287, 1048575, 262143, 4194303, 8388607, 16777215, 33554431, 67108863, 134217727, 268435455, 536870911, 1073741823, 2147483647, 4294967295]
theorem ddilaw03_awake.tab10 : rtab .any (opsOf Tryz.f9 10) = ddilaw03_awake.T10 := by kernel_rfl
theorem ddilaw03_awake.bits10 : waitsOk ddilaw03_awake.T10.2 ddilaw03_awake.B10 = true := by kernel_rfl
set_option maxHeartbeats 40000000 in
set_option maxRecDepth 100000 in
theorem ddilaw03_awake.calls (k : Nat)  (r : Bool) (w : World) (hLD : Laid w) (h : ddilaw03_awake.f k  = some r) :
 Calls Tryz.prog 9 #[] w fun e w' => e = .returned (.bool r) ∧ Below w.heap.size w w' := by
 have hbl36 : ∀ (x1_ : Bool) (x2_ : Int) (x3_ : Int) (x4_ : Bool) (x5_ : Int) (x6_ : Int), Tryz.prog.built 33 [(0, (.agg #[(.bool x1_), (.int .u64 x2_), (.int .u64 x3_)])), (1, (.agg #[(.bool x4_), (.int .u64 x5_), (.int .u64 x6_)]))] = some #[(.bool x1_), (.int .u64 x2_), (.int .u64 x3_), (.bool x4_), (.int .u64 x5_), (.int .u64 x6_)] := by intros; kernel_rfl
 have hu26 := Tryz.underlying26
 have hu24 := Tryz.underlying24
 have hu33 := Tryz.underlying33
 have HLD := Aside0.mk hLD
 clear hLD
 have HB := Aside0.mk (Below.refl w.heap.size w)
 have H : ((prefix_Parse.f k (⟨#[49, 48, 46, 48, 46, 48, 46, 48, 47, 56]⟩ : ByteArray)).bind fun bt264 => ((prefix_Parse.f k (⟨#[49, 48, 46, 48, 46, 48, 46, 49, 47, 56]⟩ : ByteArray)).bind fun bt270 => ((ddilaw03_four.f 167772164 30).bind fun bt276 => ((prefix_Print.f k bt276.1 bt276.2.1 bt276.2.2.1 bt276.2.2.2).bind fun bt280 => ((ddilaw03_four.f 167772160 8).bind fun bt282 => ((prefix_Halves.f k bt282.1 bt282.2.1 bt282.2.2.1 bt282.2.2.2).bind fun bt286 => ((prefix_Cover.f k false 0 167772161 false 0 167772164).bind fun t297 => ((ddilaw03_four.f 167903232 16).bind fun bt300 => ((prefix_Zone.f k bt300.1 bt300.2.1 bt300.2.2.1 bt300.2.2.2).bind fun bt304 => ((ddilaw03_four.f 167772164 30).bind fun bt306 => ((prefix_Size.f bt306.1 bt306.2.1 bt306.2.2.1 bt306.2.2.2).bind fun bt310 => (if bt264.2.2.2.2 = 0 then (if bt270.2.2.2.2 = 3 then (if bt280.2 = 0 then (if bt286.2.2.2.2.2.2.2.2 = true then (if bt304.2 = true then (if bt310.2 = true then (ddilaw03_awake.j0 k bt280.1 t297 bt304.1 bt310.1 ((t297.length : Int) != 3) bt264.1 bt264.2.1 bt264.2.2.1 bt264.2.2.2.1 bt286.1 bt286.2.1 bt286.2.2.1 bt286.2.2.2.1 bt286.2.2.2.2.1 bt286.2.2.2.2.2.1 bt286.2.2.2.2.2.2.1 bt286.2.2.2.2.2.2.2.1) else (ddilaw03_awake.j0 k bt280.1 t297 bt304.1 bt310.1 true bt264.1 bt264.2.1 bt264.2.2.1 bt264.2.2.2.1 bt286.1 bt286.2.1 bt286.2.2.1 bt286.2.2.2.1 bt286.2.2.2.2.1 bt286.2.2.2.2.2.1 bt286.2.2.2.2.2.2.1 bt286.2.2.2.2.2.2.2.1)) else (ddilaw03_awake.j0 k bt280.1 t297 bt304.1 bt310.1 true bt264.1 bt264.2.1 bt264.2.2.1 bt264.2.2.2.1 bt286.1 bt286.2.1 bt286.2.2.1 bt286.2.2.2.1 bt286.2.2.2.2.1 bt286.2.2.2.2.2.1 bt286.2.2.2.2.2.2.1 bt286.2.2.2.2.2.2.2.1)) else (ddilaw03_awake.j0 k bt280.1 t297 bt304.1 bt310.1 true bt264.1 bt264.2.1 bt264.2.2.1 bt264.2.2.2.1 bt286.1 bt286.2.1 bt286.2.2.1 bt286.2.2.2.1 bt286.2.2.2.2.1 bt286.2.2.2.2.2.1 bt286.2.2.2.2.2.2.1 bt286.2.2.2.2.2.2.2.1)) else (ddilaw03_awake.j0 k bt280.1 t297 bt304.1 bt310.1 true bt264.1 bt264.2.1 bt264.2.2.1 bt264.2.2.2.1 bt286.1 bt286.2.1 bt286.2.2.1 bt286.2.2.2.1 bt286.2.2.2.2.1 bt286.2.2.2.2.2.1 bt286.2.2.2.2.2.2.1 bt286.2.2.2.2.2.2.2.1)) else (ddilaw03_awake.j0 k bt280.1 t297 bt304.1 bt310.1 true bt264.1 bt264.2.1 bt264.2.2.1 bt264.2.2.2.1 bt286.1 bt286.2.1 bt286.2.2.1 bt286.2.2.2.1 bt286.2.2.2.2.1 bt286.2.2.2.2.2.1 bt286.2.2.2.2.2.2.1 bt286.2.2.2.2.2.2.2.1)) else (ddilaw03_awake.j0 k bt280.1 t297 bt304.1 bt310.1 true bt264.1 bt264.2.1 bt264.2.2.1 bt264.2.2.2.1 bt286.1 bt286.2.1 bt286.2.2.1 bt286.2.2.2.1 bt286.2.2.2.2.1 bt286.2.2.2.2.2.1 bt286.2.2.2.2.2.2.1 bt286.2.2.2.2.2.2.2.1))))))))))))) = some r := h
 clear h
 replace H := Option.bind_eq_some_iff.mp H
 obtain ⟨⟨t264, t265, t266, t267, t268⟩, A10, H⟩ := H
 replace H : ((prefix_Parse.f k (⟨#[49, 48, 46, 48, 46, 48, 46, 49, 47, 56]⟩ : ByteArray)).bind fun bt270 => ((ddilaw03_four.f 167772164 30).bind fun bt276 => ((prefix_Print.f k bt276.1 bt276.2.1 bt276.2.2.1 bt276.2.2.2).bind fun bt280 => ((ddilaw03_four.f 167772160 8).bind fun bt282 => ((prefix_Halves.f k bt282.1 bt282.2.1 bt282.2.2.1 bt282.2.2.2).bind fun bt286 => ((prefix_Cover.f k false 0 167772161 false 0 167772164).bind fun t297 => ((ddilaw03_four.f 167903232 16).bind fun bt300 => ((prefix_Zone.f k bt300.1 bt300.2.1 bt300.2.2.1 bt300.2.2.2).bind fun bt304 => ((ddilaw03_four.f 167772164 30).bind fun bt306 => ((prefix_Size.f bt306.1 bt306.2.1 bt306.2.2.1 bt306.2.2.2).bind fun bt310 => (if t268 = 0 then (if bt270.2.2.2.2 = 3 then (if bt280.2 = 0 then (if bt286.2.2.2.2.2.2.2.2 = true then (if bt304.2 = true then (if bt310.2 = true then (ddilaw03_awake.j0 k bt280.1 t297 bt304.1 bt310.1 ((t297.length : Int) != 3) t264 t265 t266 t267 bt286.1 bt286.2.1 bt286.2.2.1 bt286.2.2.2.1 bt286.2.2.2.2.1 bt286.2.2.2.2.2.1 bt286.2.2.2.2.2.2.1 bt286.2.2.2.2.2.2.2.1) else (ddilaw03_awake.j0 k bt280.1 t297 bt304.1 bt310.1 true t264 t265 t266 t267 bt286.1 bt286.2.1 bt286.2.2.1 bt286.2.2.2.1 bt286.2.2.2.2.1 bt286.2.2.2.2.2.1 bt286.2.2.2.2.2.2.1 bt286.2.2.2.2.2.2.2.1)) else (ddilaw03_awake.j0 k bt280.1 t297 bt304.1 bt310.1 true t264 t265 t266 t267 bt286.1 bt286.2.1 bt286.2.2.1 bt286.2.2.2.1 bt286.2.2.2.2.1 bt286.2.2.2.2.2.1 bt286.2.2.2.2.2.2.1 bt286.2.2.2.2.2.2.2.1)) else (ddilaw03_awake.j0 k bt280.1 t297 bt304.1 bt310.1 true t264 t265 t266 t267 bt286.1 bt286.2.1 bt286.2.2.1 bt286.2.2.2.1 bt286.2.2.2.2.1 bt286.2.2.2.2.2.1 bt286.2.2.2.2.2.2.1 bt286.2.2.2.2.2.2.2.1)) else (ddilaw03_awake.j0 k bt280.1 t297 bt304.1 bt310.1 true t264 t265 t266 t267 bt286.1 bt286.2.1 bt286.2.2.1 bt286.2.2.2.1 bt286.2.2.2.2.1 bt286.2.2.2.2.2.1 bt286.2.2.2.2.2.2.1 bt286.2.2.2.2.2.2.2.1)) else (ddilaw03_awake.j0 k bt280.1 t297 bt304.1 bt310.1 true t264 t265 t266 t267 bt286.1 bt286.2.1 bt286.2.2.1 bt286.2.2.2.1 bt286.2.2.2.2.1 bt286.2.2.2.2.2.1 bt286.2.2.2.2.2.2.1 bt286.2.2.2.2.2.2.2.1)) else (ddilaw03_awake.j0 k bt280.1 t297 bt304.1 bt310.1 true t264 t265 t266 t267 bt286.1 bt286.2.1 bt286.2.2.1 bt286.2.2.2.1 bt286.2.2.2.2.1 bt286.2.2.2.2.2.1 bt286.2.2.2.2.2.2.1 bt286.2.2.2.2.2.2.2.1)))))))))))) = some r := H
 have A1 := Aside0.mk A10
 clear A10
 replace H := Option.bind_eq_some_iff.mp H
 obtain ⟨⟨t270, t271, t272, t273, t274⟩, A20, H⟩ := H
 replace H : ((ddilaw03_four.f 167772164 30).bind fun bt276 => ((prefix_Print.f k bt276.1 bt276.2.1 bt276.2.2.1 bt276.2.2.2).bind fun bt280 => ((ddilaw03_four.f 167772160 8).bind fun bt282 => ((prefix_Halves.f k bt282.1 bt282.2.1 bt282.2.2.1 bt282.2.2.2).bind fun bt286 => ((prefix_Cover.f k false 0 167772161 false 0 167772164).bind fun t297 => ((ddilaw03_four.f 167903232 16).bind fun bt300 => ((prefix_Zone.f k bt300.1 bt300.2.1 bt300.2.2.1 bt300.2.2.2).bind fun bt304 => ((ddilaw03_four.f 167772164 30).bind fun bt306 => ((prefix_Size.f bt306.1 bt306.2.1 bt306.2.2.1 bt306.2.2.2).bind fun bt310 => (if t268 = 0 then (if t274 = 3 then (if bt280.2 = 0 then (if bt286.2.2.2.2.2.2.2.2 = true then (if bt304.2 = true then (if bt310.2 = true then (ddilaw03_awake.j0 k bt280.1 t297 bt304.1 bt310.1 ((t297.length : Int) != 3) t264 t265 t266 t267 bt286.1 bt286.2.1 bt286.2.2.1 bt286.2.2.2.1 bt286.2.2.2.2.1 bt286.2.2.2.2.2.1 bt286.2.2.2.2.2.2.1 bt286.2.2.2.2.2.2.2.1) else (ddilaw03_awake.j0 k bt280.1 t297 bt304.1 bt310.1 true t264 t265 t266 t267 bt286.1 bt286.2.1 bt286.2.2.1 bt286.2.2.2.1 bt286.2.2.2.2.1 bt286.2.2.2.2.2.1 bt286.2.2.2.2.2.2.1 bt286.2.2.2.2.2.2.2.1)) else (ddilaw03_awake.j0 k bt280.1 t297 bt304.1 bt310.1 true t264 t265 t266 t267 bt286.1 bt286.2.1 bt286.2.2.1 bt286.2.2.2.1 bt286.2.2.2.2.1 bt286.2.2.2.2.2.1 bt286.2.2.2.2.2.2.1 bt286.2.2.2.2.2.2.2.1)) else (ddilaw03_awake.j0 k bt280.1 t297 bt304.1 bt310.1 true t264 t265 t266 t267 bt286.1 bt286.2.1 bt286.2.2.1 bt286.2.2.2.1 bt286.2.2.2.2.1 bt286.2.2.2.2.2.1 bt286.2.2.2.2.2.2.1 bt286.2.2.2.2.2.2.2.1)) else (ddilaw03_awake.j0 k bt280.1 t297 bt304.1 bt310.1 true t264 t265 t266 t267 bt286.1 bt286.2.1 bt286.2.2.1 bt286.2.2.2.1 bt286.2.2.2.2.1 bt286.2.2.2.2.2.1 bt286.2.2.2.2.2.2.1 bt286.2.2.2.2.2.2.2.1)) else (ddilaw03_awake.j0 k bt280.1 t297 bt304.1 bt310.1 true t264 t265 t266 t267 bt286.1 bt286.2.1 bt286.2.2.1 bt286.2.2.2.1 bt286.2.2.2.2.1 bt286.2.2.2.2.2.1 bt286.2.2.2.2.2.2.1 bt286.2.2.2.2.2.2.2.1)) else (ddilaw03_awake.j0 k bt280.1 t297 bt304.1 bt310.1 true t264 t265 t266 t267 bt286.1 bt286.2.1 bt286.2.2.1 bt286.2.2.2.1 bt286.2.2.2.2.1 bt286.2.2.2.2.2.1 bt286.2.2.2.2.2.2.1 bt286.2.2.2.2.2.2.2.1))))))))))) = some r := H
 have A2 := Aside0.mk A20
 clear A20
 replace H := Option.bind_eq_some_iff.mp H
 obtain ⟨⟨t276, t277, t278, t279⟩, A30, H⟩ := H
 replace H : ((prefix_Print.f k t276 t277 t278 t279).bind fun bt280 => ((ddilaw03_four.f 167772160 8).bind fun bt282 => ((prefix_Halves.f k bt282.1 bt282.2.1 bt282.2.2.1 bt282.2.2.2).bind fun bt286 => ((prefix_Cover.f k false 0 167772161 false 0 167772164).bind fun t297 => ((ddilaw03_four.f 167903232 16).bind fun bt300 => ((prefix_Zone.f k bt300.1 bt300.2.1 bt300.2.2.1 bt300.2.2.2).bind fun bt304 => ((ddilaw03_four.f 167772164 30).bind fun bt306 => ((prefix_Size.f bt306.1 bt306.2.1 bt306.2.2.1 bt306.2.2.2).bind fun bt310 => (if t268 = 0 then (if t274 = 3 then (if bt280.2 = 0 then (if bt286.2.2.2.2.2.2.2.2 = true then (if bt304.2 = true then (if bt310.2 = true then (ddilaw03_awake.j0 k bt280.1 t297 bt304.1 bt310.1 ((t297.length : Int) != 3) t264 t265 t266 t267 bt286.1 bt286.2.1 bt286.2.2.1 bt286.2.2.2.1 bt286.2.2.2.2.1 bt286.2.2.2.2.2.1 bt286.2.2.2.2.2.2.1 bt286.2.2.2.2.2.2.2.1) else (ddilaw03_awake.j0 k bt280.1 t297 bt304.1 bt310.1 true t264 t265 t266 t267 bt286.1 bt286.2.1 bt286.2.2.1 bt286.2.2.2.1 bt286.2.2.2.2.1 bt286.2.2.2.2.2.1 bt286.2.2.2.2.2.2.1 bt286.2.2.2.2.2.2.2.1)) else (ddilaw03_awake.j0 k bt280.1 t297 bt304.1 bt310.1 true t264 t265 t266 t267 bt286.1 bt286.2.1 bt286.2.2.1 bt286.2.2.2.1 bt286.2.2.2.2.1 bt286.2.2.2.2.2.1 bt286.2.2.2.2.2.2.1 bt286.2.2.2.2.2.2.2.1)) else (ddilaw03_awake.j0 k bt280.1 t297 bt304.1 bt310.1 true t264 t265 t266 t267 bt286.1 bt286.2.1 bt286.2.2.1 bt286.2.2.2.1 bt286.2.2.2.2.1 bt286.2.2.2.2.2.1 bt286.2.2.2.2.2.2.1 bt286.2.2.2.2.2.2.2.1)) else (ddilaw03_awake.j0 k bt280.1 t297 bt304.1 bt310.1 true t264 t265 t266 t267 bt286.1 bt286.2.1 bt286.2.2.1 bt286.2.2.2.1 bt286.2.2.2.2.1 bt286.2.2.2.2.2.1 bt286.2.2.2.2.2.2.1 bt286.2.2.2.2.2.2.2.1)) else (ddilaw03_awake.j0 k bt280.1 t297 bt304.1 bt310.1 true t264 t265 t266 t267 bt286.1 bt286.2.1 bt286.2.2.1 bt286.2.2.2.1 bt286.2.2.2.2.1 bt286.2.2.2.2.2.1 bt286.2.2.2.2.2.2.1 bt286.2.2.2.2.2.2.2.1)) else (ddilaw03_awake.j0 k bt280.1 t297 bt304.1 bt310.1 true t264 t265 t266 t267 bt286.1 bt286.2.1 bt286.2.2.1 bt286.2.2.2.1 bt286.2.2.2.2.1 bt286.2.2.2.2.2.1 bt286.2.2.2.2.2.2.1 bt286.2.2.2.2.2.2.2.1)))))))))) = some r := H
 have A3 := Aside0.mk A30
 clear A30
 replace H := Option.bind_eq_some_iff.mp H
 obtain ⟨⟨t280, t281⟩, A40, H⟩ := H
 replace H : ((ddilaw03_four.f 167772160 8).bind fun bt282 => ((prefix_Halves.f k bt282.1 bt282.2.1 bt282.2.2.1 bt282.2.2.2).bind fun bt286 => ((prefix_Cover.f k false 0 167772161 false 0 167772164).bind fun t297 => ((ddilaw03_four.f 167903232 16).bind fun bt300 => ((prefix_Zone.f k bt300.1 bt300.2.1 bt300.2.2.1 bt300.2.2.2).bind fun bt304 => ((ddilaw03_four.f 167772164 30).bind fun bt306 => ((prefix_Size.f bt306.1 bt306.2.1 bt306.2.2.1 bt306.2.2.2).bind fun bt310 => (if t268 = 0 then (if t274 = 3 then (if t281 = 0 then (if bt286.2.2.2.2.2.2.2.2 = true then (if bt304.2 = true then (if bt310.2 = true then (ddilaw03_awake.j0 k t280 t297 bt304.1 bt310.1 ((t297.length : Int) != 3) t264 t265 t266 t267 bt286.1 bt286.2.1 bt286.2.2.1 bt286.2.2.2.1 bt286.2.2.2.2.1 bt286.2.2.2.2.2.1 bt286.2.2.2.2.2.2.1 bt286.2.2.2.2.2.2.2.1) else (ddilaw03_awake.j0 k t280 t297 bt304.1 bt310.1 true t264 t265 t266 t267 bt286.1 bt286.2.1 bt286.2.2.1 bt286.2.2.2.1 bt286.2.2.2.2.1 bt286.2.2.2.2.2.1 bt286.2.2.2.2.2.2.1 bt286.2.2.2.2.2.2.2.1)) else (ddilaw03_awake.j0 k t280 t297 bt304.1 bt310.1 true t264 t265 t266 t267 bt286.1 bt286.2.1 bt286.2.2.1 bt286.2.2.2.1 bt286.2.2.2.2.1 bt286.2.2.2.2.2.1 bt286.2.2.2.2.2.2.1 bt286.2.2.2.2.2.2.2.1)) else (ddilaw03_awake.j0 k t280 t297 bt304.1 bt310.1 true t264 t265 t266 t267 bt286.1 bt286.2.1 bt286.2.2.1 bt286.2.2.2.1 bt286.2.2.2.2.1 bt286.2.2.2.2.2.1 bt286.2.2.2.2.2.2.1 bt286.2.2.2.2.2.2.2.1)) else (ddilaw03_awake.j0 k t280 t297 bt304.1 bt310.1 true t264 t265 t266 t267 bt286.1 bt286.2.1 bt286.2.2.1 bt286.2.2.2.1 bt286.2.2.2.2.1 bt286.2.2.2.2.2.1 bt286.2.2.2.2.2.2.1 bt286.2.2.2.2.2.2.2.1)) else (ddilaw03_awake.j0 k t280 t297 bt304.1 bt310.1 true t264 t265 t266 t267 bt286.1 bt286.2.1 bt286.2.2.1 bt286.2.2.2.1 bt286.2.2.2.2.1 bt286.2.2.2.2.2.1 bt286.2.2.2.2.2.2.1 bt286.2.2.2.2.2.2.2.1)) else (ddilaw03_awake.j0 k t280 t297 bt304.1 bt310.1 true t264 t265 t266 t267 bt286.1 bt286.2.1 bt286.2.2.1 bt286.2.2.2.1 bt286.2.2.2.2.1 bt286.2.2.2.2.2.1 bt286.2.2.2.2.2.2.1 bt286.2.2.2.2.2.2.2.1))))))))) = some r := H
 have A4 := Aside0.mk A40
 clear A40
 replace H := Option.bind_eq_some_iff.mp H
 obtain ⟨⟨t282, t283, t284, t285⟩, A50, H⟩ := H
 replace H : ((prefix_Halves.f k t282 t283 t284 t285).bind fun bt286 => ((prefix_Cover.f k false 0 167772161 false 0 167772164).bind fun t297 => ((ddilaw03_four.f 167903232 16).bind fun bt300 => ((prefix_Zone.f k bt300.1 bt300.2.1 bt300.2.2.1 bt300.2.2.2).bind fun bt304 => ((ddilaw03_four.f 167772164 30).bind fun bt306 => ((prefix_Size.f bt306.1 bt306.2.1 bt306.2.2.1 bt306.2.2.2).bind fun bt310 => (if t268 = 0 then (if t274 = 3 then (if t281 = 0 then (if bt286.2.2.2.2.2.2.2.2 = true then (if bt304.2 = true then (if bt310.2 = true then (ddilaw03_awake.j0 k t280 t297 bt304.1 bt310.1 ((t297.length : Int) != 3) t264 t265 t266 t267 bt286.1 bt286.2.1 bt286.2.2.1 bt286.2.2.2.1 bt286.2.2.2.2.1 bt286.2.2.2.2.2.1 bt286.2.2.2.2.2.2.1 bt286.2.2.2.2.2.2.2.1) else (ddilaw03_awake.j0 k t280 t297 bt304.1 bt310.1 true t264 t265 t266 t267 bt286.1 bt286.2.1 bt286.2.2.1 bt286.2.2.2.1 bt286.2.2.2.2.1 bt286.2.2.2.2.2.1 bt286.2.2.2.2.2.2.1 bt286.2.2.2.2.2.2.2.1)) else (ddilaw03_awake.j0 k t280 t297 bt304.1 bt310.1 true t264 t265 t266 t267 bt286.1 bt286.2.1 bt286.2.2.1 bt286.2.2.2.1 bt286.2.2.2.2.1 bt286.2.2.2.2.2.1 bt286.2.2.2.2.2.2.1 bt286.2.2.2.2.2.2.2.1)) else (ddilaw03_awake.j0 k t280 t297 bt304.1 bt310.1 true t264 t265 t266 t267 bt286.1 bt286.2.1 bt286.2.2.1 bt286.2.2.2.1 bt286.2.2.2.2.1 bt286.2.2.2.2.2.1 bt286.2.2.2.2.2.2.1 bt286.2.2.2.2.2.2.2.1)) else (ddilaw03_awake.j0 k t280 t297 bt304.1 bt310.1 true t264 t265 t266 t267 bt286.1 bt286.2.1 bt286.2.2.1 bt286.2.2.2.1 bt286.2.2.2.2.1 bt286.2.2.2.2.2.1 bt286.2.2.2.2.2.2.1 bt286.2.2.2.2.2.2.2.1)) else (ddilaw03_awake.j0 k t280 t297 bt304.1 bt310.1 true t264 t265 t266 t267 bt286.1 bt286.2.1 bt286.2.2.1 bt286.2.2.2.1 bt286.2.2.2.2.1 bt286.2.2.2.2.2.1 bt286.2.2.2.2.2.2.1 bt286.2.2.2.2.2.2.2.1)) else (ddilaw03_awake.j0 k t280 t297 bt304.1 bt310.1 true t264 t265 t266 t267 bt286.1 bt286.2.1 bt286.2.2.1 bt286.2.2.2.1 bt286.2.2.2.2.1 bt286.2.2.2.2.2.1 bt286.2.2.2.2.2.2.1 bt286.2.2.2.2.2.2.2.1)))))))) = some r := H
 have A5 := Aside0.mk A50
 clear A50
 replace H := Option.bind_eq_some_iff.mp H
 obtain ⟨⟨t286, t287, t288, t289, t290, t291, t292, t293, t294⟩, A60, H⟩ := H
 replace H : ((prefix_Cover.f k false 0 167772161 false 0 167772164).bind fun t297 => ((ddilaw03_four.f 167903232 16).bind fun bt300 => ((prefix_Zone.f k bt300.1 bt300.2.1 bt300.2.2.1 bt300.2.2.2).bind fun bt304 => ((ddilaw03_four.f 167772164 30).bind fun bt306 => ((prefix_Size.f bt306.1 bt306.2.1 bt306.2.2.1 bt306.2.2.2).bind fun bt310 => (if t268 = 0 then (if t274 = 3 then (if t281 = 0 then (if t294 = true then (if bt304.2 = true then (if bt310.2 = true then (ddilaw03_awake.j0 k t280 t297 bt304.1 bt310.1 ((t297.length : Int) != 3) t264 t265 t266 t267 t286 t287 t288 t289 t290 t291 t292 t293) else (ddilaw03_awake.j0 k t280 t297 bt304.1 bt310.1 true t264 t265 t266 t267 t286 t287 t288 t289 t290 t291 t292 t293)) else (ddilaw03_awake.j0 k t280 t297 bt304.1 bt310.1 true t264 t265 t266 t267 t286 t287 t288 t289 t290 t291 t292 t293)) else (ddilaw03_awake.j0 k t280 t297 bt304.1 bt310.1 true t264 t265 t266 t267 t286 t287 t288 t289 t290 t291 t292 t293)) else (ddilaw03_awake.j0 k t280 t297 bt304.1 bt310.1 true t264 t265 t266 t267 t286 t287 t288 t289 t290 t291 t292 t293)) else (ddilaw03_awake.j0 k t280 t297 bt304.1 bt310.1 true t264 t265 t266 t267 t286 t287 t288 t289 t290 t291 t292 t293)) else (ddilaw03_awake.j0 k t280 t297 bt304.1 bt310.1 true t264 t265 t266 t267 t286 t287 t288 t289 t290 t291 t292 t293))))))) = some r := H
 have A6 := Aside0.mk A60
 clear A60
 replace H := Option.bind_eq_some_iff.mp H
 obtain ⟨t297, A70, H⟩ := H
 have A7 := Aside0.mk A70
 clear A70
 replace H := Option.bind_eq_some_iff.mp H
 obtain ⟨⟨t300, t301, t302, t303⟩, A80, H⟩ := H
 replace H : ((prefix_Zone.f k t300 t301 t302 t303).bind fun bt304 => ((ddilaw03_four.f 167772164 30).bind fun bt306 => ((prefix_Size.f bt306.1 bt306.2.1 bt306.2.2.1 bt306.2.2.2).bind fun bt310 => (if t268 = 0 then (if t274 = 3 then (if t281 = 0 then (if t294 = true then (if bt304.2 = true then (if bt310.2 = true then (ddilaw03_awake.j0 k t280 t297 bt304.1 bt310.1 ((t297.length : Int) != 3) t264 t265 t266 t267 t286 t287 t288 t289 t290 t291 t292 t293) else (ddilaw03_awake.j0 k t280 t297 bt304.1 bt310.1 true t264 t265 t266 t267 t286 t287 t288 t289 t290 t291 t292 t293)) else (ddilaw03_awake.j0 k t280 t297 bt304.1 bt310.1 true t264 t265 t266 t267 t286 t287 t288 t289 t290 t291 t292 t293)) else (ddilaw03_awake.j0 k t280 t297 bt304.1 bt310.1 true t264 t265 t266 t267 t286 t287 t288 t289 t290 t291 t292 t293)) else (ddilaw03_awake.j0 k t280 t297 bt304.1 bt310.1 true t264 t265 t266 t267 t286 t287 t288 t289 t290 t291 t292 t293)) else (ddilaw03_awake.j0 k t280 t297 bt304.1 bt310.1 true t264 t265 t266 t267 t286 t287 t288 t289 t290 t291 t292 t293)) else (ddilaw03_awake.j0 k t280 t297 bt304.1 bt310.1 true t264 t265 t266 t267 t286 t287 t288 t289 t290 t291 t292 t293))))) = some r := H
 have A8 := Aside0.mk A80
 clear A80
 replace H := Option.bind_eq_some_iff.mp H
 obtain ⟨⟨t304, t305⟩, A90, H⟩ := H
 replace H : ((ddilaw03_four.f 167772164 30).bind fun bt306 => ((prefix_Size.f bt306.1 bt306.2.1 bt306.2.2.1 bt306.2.2.2).bind fun bt310 => (if t268 = 0 then (if t274 = 3 then (if t281 = 0 then (if t294 = true then (if t305 = true then (if bt310.2 = true then (ddilaw03_awake.j0 k t280 t297 t304 bt310.1 ((t297.length : Int) != 3) t264 t265 t266 t267 t286 t287 t288 t289 t290 t291 t292 t293) else (ddilaw03_awake.j0 k t280 t297 t304 bt310.1 true t264 t265 t266 t267 t286 t287 t288 t289 t290 t291 t292 t293)) else (ddilaw03_awake.j0 k t280 t297 t304 bt310.1 true t264 t265 t266 t267 t286 t287 t288 t289 t290 t291 t292 t293)) else (ddilaw03_awake.j0 k t280 t297 t304 bt310.1 true t264 t265 t266 t267 t286 t287 t288 t289 t290 t291 t292 t293)) else (ddilaw03_awake.j0 k t280 t297 t304 bt310.1 true t264 t265 t266 t267 t286 t287 t288 t289 t290 t291 t292 t293)) else (ddilaw03_awake.j0 k t280 t297 t304 bt310.1 true t264 t265 t266 t267 t286 t287 t288 t289 t290 t291 t292 t293)) else (ddilaw03_awake.j0 k t280 t297 t304 bt310.1 true t264 t265 t266 t267 t286 t287 t288 t289 t290 t291 t292 t293)))) = some r := H
 have A9 := Aside0.mk A90
 clear A90
 replace H := Option.bind_eq_some_iff.mp H
 obtain ⟨⟨t306, t307, t308, t309⟩, A100, H⟩ := H
 replace H : ((prefix_Size.f t306 t307 t308 t309).bind fun bt310 => (if t268 = 0 then (if t274 = 3 then (if t281 = 0 then (if t294 = true then (if t305 = true then (if bt310.2 = true then (ddilaw03_awake.j0 k t280 t297 t304 bt310.1 ((t297.length : Int) != 3) t264 t265 t266 t267 t286 t287 t288 t289 t290 t291 t292 t293) else (ddilaw03_awake.j0 k t280 t297 t304 bt310.1 true t264 t265 t266 t267 t286 t287 t288 t289 t290 t291 t292 t293)) else (ddilaw03_awake.j0 k t280 t297 t304 bt310.1 true t264 t265 t266 t267 t286 t287 t288 t289 t290 t291 t292 t293)) else (ddilaw03_awake.j0 k t280 t297 t304 bt310.1 true t264 t265 t266 t267 t286 t287 t288 t289 t290 t291 t292 t293)) else (ddilaw03_awake.j0 k t280 t297 t304 bt310.1 true t264 t265 t266 t267 t286 t287 t288 t289 t290 t291 t292 t293)) else (ddilaw03_awake.j0 k t280 t297 t304 bt310.1 true t264 t265 t266 t267 t286 t287 t288 t289 t290 t291 t292 t293)) else (ddilaw03_awake.j0 k t280 t297 t304 bt310.1 true t264 t265 t266 t267 t286 t287 t288 t289 t290 t291 t292 t293))) = some r := H
 have A10 := Aside0.mk A100
 clear A100
 replace H := Option.bind_eq_some_iff.mp H
 obtain ⟨⟨t310, t311⟩, A110, H⟩ := H
 replace H : (if t268 = 0 then (if t274 = 3 then (if t281 = 0 then (if t294 = true then (if t305 = true then (if t311 = true then (ddilaw03_awake.j0 k t280 t297 t304 t310 ((t297.length : Int) != 3) t264 t265 t266 t267 t286 t287 t288 t289 t290 t291 t292 t293) else (ddilaw03_awake.j0 k t280 t297 t304 t310 true t264 t265 t266 t267 t286 t287 t288 t289 t290 t291 t292 t293)) else (ddilaw03_awake.j0 k t280 t297 t304 t310 true t264 t265 t266 t267 t286 t287 t288 t289 t290 t291 t292 t293)) else (ddilaw03_awake.j0 k t280 t297 t304 t310 true t264 t265 t266 t267 t286 t287 t288 t289 t290 t291 t292 t293)) else (ddilaw03_awake.j0 k t280 t297 t304 t310 true t264 t265 t266 t267 t286 t287 t288 t289 t290 t291 t292 t293)) else (ddilaw03_awake.j0 k t280 t297 t304 t310 true t264 t265 t266 t267 t286 t287 t288 t289 t290 t291 t292 t293)) else (ddilaw03_awake.j0 k t280 t297 t304 t310 true t264 t265 t266 t267 t286 t287 t288 t289 t290 t291 t292 t293)) = some r := H
 have A11 := Aside0.mk A110
 clear A110
 have HC12 := Aside0.mk H
 clear H
 go_enter Tryz.func9, Tryz.ntmps9
 go_upto_region 8 with (first | ((with_reducible refine gate_callee (f := 7) rfl ?_); refine goesA (some 16) Tryz.func7 #[.string (⟨#[49, 48, 46, 48, 46, 48, 46, 48, 47, 56]⟩ : ByteArray)] ?_; (with_reducible refine (prefix_Parse.calls k (⟨#[49, 48, 46, 48, 46, 48, 46, 48, 47, 56]⟩ : ByteArray) t264 t265 t266 t267 t268 _ ?side1 A1.out).mono ?_); (case side1 => exact Laid.below HLD.out (pE HB)); rintro e w13 ⟨rfl, hb⟩; refine ⟨_, rfl, ?_⟩; replace HB := (pS HB hb); (try clear hb); (try clear hk)) | ((with_reducible refine gate_dst (N := 1) rfl ?_); (try (refine gate_guard (by rfl) ?_; dsimp only)); refine boxA (N := 1) (cs := #[.bool false, .int .u64 0, .int .u64 0, .int .i64 0]) (t := 26) ?_; intro gb269 hg w14 hbox hb; have BK269 := Aside0.mk (hbox); have GE269 := (pZ HB hg); replace HB := (pS HB hb); clear hb hbox hg; obtain ⟨hcz15_0, hcz15_1, hcz15_2, hcz15_3, hfz15_0, hfz15_1, hfz15_2, hfz15_3⟩ := pC4 BK269) | ((with_reducible refine gate_callee (f := 7) rfl ?_); refine goesA (some 20) Tryz.func7 #[.string (⟨#[49, 48, 46, 48, 46, 48, 46, 49, 47, 56]⟩ : ByteArray)] ?_; (with_reducible refine (prefix_Parse.calls k (⟨#[49, 48, 46, 48, 46, 48, 46, 49, 47, 56]⟩ : ByteArray) t270 t271 t272 t273 t274 _ ?side1 A2.out).mono ?_); (case side1 => exact Laid.below HLD.out (pE HB)); rintro e w16 ⟨rfl, hb⟩; refine ⟨_, rfl, ?_⟩; replace BK269 := (pD hb (pP (pP (pP (pP (pM BK269)))))); replace HB := (pS HB hb); (try clear hb); (try clear hk)) | ((with_reducible refine gate_dst (N := 3) rfl ?_); (try (refine gate_guard (by rfl) ?_; dsimp only)); refine boxA (N := 3) (cs := #[.bool false, .int .u64 0, .int .u64 0, .int .i64 0]) (t := 26) ?_; intro gb275 hg w17 hbox hb; have BK275 := Aside0.mk (hbox); have GE275 := (pZ HB hg); have NB269_275 := (pL BK269 hg); have NB275_269 := (pG BK269 hg); replace BK269 := (pB BK269 hb); replace HB := (pS HB hb); clear hb hbox hg; have hnb18 := NB275_269.out; have hnc18 := NB269_275.out; obtain ⟨hcz19_0, hcz19_1, hcz19_2, hcz19_3, hfz19_0, hfz19_1, hfz19_2, hfz19_3⟩ := pC4 BK275) | ((with_reducible refine gate_callee (f := 42) rfl ?_); refine goesA (some 24) Tryz.func42 #[.int .u64 167772164, .int .i64 30] ?_; (with_reducible refine (ddilaw03_four.calls 167772164 30 t276 t277 t278 t279 _ A3.out).mono ?_); rintro e w20 ⟨rfl, hb⟩; refine ⟨_, rfl, ?_⟩; replace BK269 := (pD hb (pK NB269_275 (pK NB269_275 (pK NB269_275 (pK NB269_275 (pM BK269)))))); replace BK275 := (pD hb (pP (pP (pP (pP (pM BK275)))))); replace HB := (pS HB hb); (try clear hb); (try clear hk)) | ((with_reducible refine gate_callee (f := 22) rfl ?_); refine goesA (some 25) Tryz.func22 #[.agg #[.bool t276, .int .u64 t277, .int .u64 t278, .int .i64 t279]] ?_; (with_reducible refine (prefix_Print.calls k t276 t277 t278 t279 t280 t281 _ ?side1 A4.out).mono ?_); (case side1 => exact Laid.below HLD.out (pE HB)); rintro e w21 ⟨rfl, hb⟩; refine ⟨_, rfl, ?_⟩; replace BK269 := (pB BK269 hb); replace BK275 := (pB BK275 hb); replace HB := (pS HB hb); (try clear hb); (try clear hk)) | ((with_reducible refine gate_callee (f := 42) rfl ?_); refine goesA (some 29) Tryz.func42 #[.int .u64 167772160, .int .i64 8] ?_; (with_reducible refine (ddilaw03_four.calls 167772160 8 t282 t283 t284 t285 _ A5.out).mono ?_); rintro e w22 ⟨rfl, hb⟩; refine ⟨_, rfl, ?_⟩; replace BK269 := (pB BK269 hb); replace BK275 := (pB BK275 hb); replace HB := (pS HB hb); (try clear hb); (try clear hk)) | ((with_reducible refine gate_callee (f := 12) rfl ?_); refine goesA (some 30) Tryz.func12 #[.agg #[.bool t282, .int .u64 t283, .int .u64 t284, .int .i64 t285]] ?_; (with_reducible refine (prefix_Halves.calls k t282 t283 t284 t285 t286 t287 t288 t289 t290 t291 t292 t293 t294 _ A6.out).mono ?_); rintro e w23 ⟨rfl, hb⟩; refine ⟨_, rfl, ?_⟩; replace BK269 := (pB BK269 hb); replace BK275 := (pB BK275 hb); replace HB := (pS HB hb); (try clear hb); (try clear hk)) | ((with_reducible refine gate_dst (N := 7) rfl ?_); (try (refine gate_guard (by rfl) ?_; dsimp only)); refine boxA (N := 7) (cs := #[.bool false, .int .u64 0, .int .u64 0, .int .i64 0]) (t := 26) ?_; intro gb295 hg w24 hbox hb; have BK295 := Aside0.mk (hbox); have GE295 := (pZ HB hg); have NB269_295 := (pL BK269 hg); have NB295_269 := (pG BK269 hg); have NB275_295 := (pL BK275 hg); have NB295_275 := (pG BK275 hg); replace BK269 := (pB BK269 hb); replace BK275 := (pB BK275 hb); replace HB := (pS HB hb); clear hb hbox hg) | ((with_reducible refine gate_dst (N := 8) rfl ?_); (try (refine gate_guard (by rfl) ?_; dsimp only)); refine boxA (N := 8) (cs := #[.bool false, .int .u64 0, .int .u64 0, .int .i64 0]) (t := 26) ?_; intro gb296 hg w25 hbox hb; have BK296 := Aside0.mk (hbox); have GE296 := (pZ HB hg); have NB269_296 := (pL BK269 hg); have NB296_269 := (pG BK269 hg); have NB275_296 := (pL BK275 hg); have NB296_275 := (pG BK275 hg); have NB295_296 := (pL BK295 hg); have NB296_295 := (pG BK295 hg); replace BK269 := (pB BK269 hb); replace BK275 := (pB BK275 hb); replace BK295 := (pB BK295 hb); replace HB := (pS HB hb); clear hb hbox hg; have hnb26 := NB295_269.out; have hnc26 := NB269_295.out; have hnb27 := NB295_275.out; have hnc27 := NB275_295.out; have hnb28 := NB295_296.out; have hnc28 := NB296_295.out; obtain ⟨hcz29_0, hcz29_1, hcz29_2, hcz29_3, hfz29_0, hfz29_1, hfz29_2, hfz29_3⟩ := pC4 BK295; have hnb30 := NB296_269.out; have hnc30 := NB269_296.out; have hnb31 := NB296_275.out; have hnc31 := NB275_296.out; obtain ⟨hcz32_0, hcz32_1, hcz32_2, hcz32_3, hfz32_0, hfz32_1, hfz32_2, hfz32_3⟩ := pC4 BK296) | ((with_reducible refine gate_store (t := 26) (p := 8) rfl ?_); refine store_event (t := 26) (p := 8) (v := ?vo_w33) (w1 := ((((((((w25.setCell ⟨gb295, 0, none⟩ (.bool t286)).setCell ⟨gb295, 1, none⟩ (.int .u64 t287)).setCell ⟨gb295, 2, none⟩ (.int .u64 t288)).setCell ⟨gb295, 3, none⟩ (.int .i64 t289)).setCell ⟨gb296, 0, none⟩ (.bool t290)).setCell ⟨gb296, 1, none⟩ (.int .u64 t291)).setCell ⟨gb296, 2, none⟩ (.int .u64 t292)).setCell ⟨gb296, 3, none⟩ (.int .i64 t293))) ?hg ?ho ?hn ?hr ?_; (case ho => rfl); (case hg => rfl); (case hn => rfl); (case hr => first | (exact Ext.run_store_chain 26 _ _ rfl _ _ _ _ rfl rfl (pK NB296_295 (pK NB296_295 (pK NB296_295 (pK NB296_295 (pM BK296))))) (by kernel_rfl) rfl rfl rfl) | (go_simp; done) | (go_simp; rfl)); intro w33 hw; have n0_ : Aside0 (w33.heap[gb269]? = some (.cells #[.bool t264, .int .u64 t265, .int .u64 t266, .int .i64 t267] 26 (0, 0))) := (pW hw (pK NB269_296 (pK NB269_296 (pK NB269_296 (pK NB269_296 (pK NB269_295 (pK NB269_295 (pK NB269_295 (pK NB269_295 (pM BK269)))))))))); have n1_ : Aside0 (w33.heap[gb275]? = some (.cells #[.bool t270, .int .u64 t271, .int .u64 t272, .int .i64 t273] 26 (0, 0))) := (pW hw (pK NB275_296 (pK NB275_296 (pK NB275_296 (pK NB275_296 (pK NB275_295 (pK NB275_295 (pK NB275_295 (pK NB275_295 (pM BK275)))))))))); have n2_ : Aside0 (w33.heap[gb295]? = some (.cells #[.bool t286, .int .u64 t287, .int .u64 t288, .int .i64 t289] 26 (0, 0))) := (pW hw (pK NB295_296 (pK NB295_296 (pK NB295_296 (pK NB295_296 (pP (pP (pP (pP (pM BK295)))))))))); have n3_ : Aside0 (w33.heap[gb296]? = some (.cells #[.bool t290, .int .u64 t291, .int .u64 t292, .int .i64 t293] 26 (0, 0))) := (pW hw (pP (pP (pP (pP (pK NB296_295 (pK NB296_295 (pK NB296_295 (pK NB296_295 (pM BK296)))))))))); have n4_ : Aside0 (Below w.heap.size w w33) := ⟨(by rw [hw]; exact (by repeat (first | (with_reducible first | exact HB.out | apply below_alloc | apply pw_below_drewN | apply below_drew1 | refine below_set ?_ GE269.out | refine below_set ?_ GE275.out | refine below_set ?_ GE295.out | refine below_set ?_ GE296.out) | exact HB.out)))⟩; clear hw; clear BK269; clear BK275; clear BK295; clear BK296; clear HB; have BK269 := n0_; have BK275 := n1_; have BK295 := n2_; have BK296 := n3_; have HB := n4_; clear n0_ n1_ n2_ n3_ n4_) | ((with_reducible refine gate_callee (f := 20) rfl ?_); refine goesA (some 37) Tryz.func20 #[.agg #[.bool false, .int .u64 0, .int .u64 167772161, .bool false, .int .u64 0, .int .u64 167772164]] ?_; (with_reducible refine (prefix_Cover.calls k false 0 167772161 false 0 167772164 t297 _ ?side1 A7.out).mono ?_); (case side1 => exact Laid.below HLD.out (pE HB)); rintro e w34 ⟨v298, rfl, ho0, hb⟩; refine ⟨_, rfl, ?_⟩; have HO299 := Aside0.mk (Kd.R_lower (Kd.R_newB (Kd.R_newB (Kd.R_newB (Kd.R_newB ho0 (g := gb269) (o := .cells #[.bool t264, .int .u64 t265, .int .u64 t266, .int .i64 t267] 26 (0, 0)) (pM BK269)) (g := gb275) (o := .cells #[.bool t270, .int .u64 t271, .int .u64 t272, .int .i64 t273] 26 (0, 0)) (pM BK275)) (g := gb295) (o := .cells #[.bool t286, .int .u64 t287, .int .u64 t288, .int .i64 t289] 26 (0, 0)) (pM BK295)) (g := gb296) (o := .cells #[.bool t290, .int .u64 t291, .int .u64 t292, .int .i64 t293] 26 (0, 0)) (pM BK296)) (below_size (by repeat (first | (with_reducible first | exact HB.out | apply below_alloc | apply pw_below_drewN | apply below_drew1 | refine below_set ?_ GE269.out | refine below_set ?_ GE275.out | refine below_set ?_ GE295.out | refine below_set ?_ GE296.out) | exact HB.out)))); replace BK269 := (pB BK269 hb); replace BK275 := (pB BK275 hb); replace BK295 := (pB BK295 hb); replace BK296 := (pB BK296 hb); replace HB := (pS HB hb); (try clear hb); (try clear hk); (try clear ho0)) | ((with_reducible refine gate_callee (f := 42) rfl ?_); refine goesA (some 39) Tryz.func42 #[.int .u64 167903232, .int .i64 16] ?_; (with_reducible refine (ddilaw03_four.calls 167903232 16 t300 t301 t302 t303 _ A8.out).mono ?_); rintro e w35 ⟨rfl, hb⟩; refine ⟨_, rfl, ?_⟩; replace HO299 := Aside0.mk (Kd.R_below (by (with_reducible repeat (first | apply Kd.R_alloc | apply Kd.R_drewN | apply Kd.R_drew)); exact HO299.out) hb); replace BK269 := (pB BK269 hb); replace BK275 := (pB BK275 hb); replace BK295 := (pB BK295 hb); replace BK296 := (pB BK296 hb); replace HB := (pS HB hb); (try clear hb); (try clear hk)) | ((with_reducible refine gate_callee (f := 18) rfl ?_); refine goesA (some 40) Tryz.func18 #[.agg #[.bool t300, .int .u64 t301, .int .u64 t302, .int .i64 t303]] ?_; (with_reducible refine (prefix_Zone.calls k t300 t301 t302 t303 t304 t305 _ ?side1 A9.out).mono ?_); (case side1 => exact Laid.below HLD.out (pE HB)); rintro e w36 ⟨rfl, hb⟩; refine ⟨_, rfl, ?_⟩; replace HO299 := Aside0.mk (Kd.R_below (by (with_reducible repeat (first | apply Kd.R_alloc | apply Kd.R_drewN | apply Kd.R_drew)); exact HO299.out) hb); replace BK269 := (pB BK269 hb); replace BK275 := (pB BK275 hb); replace BK295 := (pB BK295 hb); replace BK296 := (pB BK296 hb); replace HB := (pS HB hb); (try clear hb); (try clear hk)) | ((with_reducible refine gate_callee (f := 42) rfl ?_); refine goesA (some 44) Tryz.func42 #[.int .u64 167772164, .int .i64 30] ?_; (with_reducible refine (ddilaw03_four.calls 167772164 30 t306 t307 t308 t309 _ A10.out).mono ?_); rintro e w37 ⟨rfl, hb⟩; refine ⟨_, rfl, ?_⟩; replace HO299 := Aside0.mk (Kd.R_below (by (with_reducible repeat (first | apply Kd.R_alloc | apply Kd.R_drewN | apply Kd.R_drew)); exact HO299.out) hb); replace BK269 := (pB BK269 hb); replace BK275 := (pB BK275 hb); replace BK295 := (pB BK295 hb); replace BK296 := (pB BK296 hb); replace HB := (pS HB hb); (try clear hb); (try clear hk)) | ((with_reducible refine gate_callee (f := 16) rfl ?_); refine goesA (some 45) Tryz.func16 #[.agg #[.bool t306, .int .u64 t307, .int .u64 t308, .int .i64 t309]] ?_; (with_reducible refine (prefix_Size.calls t306 t307 t308 t309 t310 t311 _ A11.out).mono ?_); rintro e w38 ⟨rfl, hb⟩; refine ⟨_, rfl, ?_⟩; replace HO299 := Aside0.mk (Kd.R_below (by (with_reducible repeat (first | apply Kd.R_alloc | apply Kd.R_drewN | apply Kd.R_drew)); exact HO299.out) hb); replace BK269 := (pB BK269 hb); replace BK275 := (pB BK275 hb); replace BK295 := (pB BK295 hb); replace BK296 := (pB BK296 hb); replace HB := (pS HB hb); (try clear hb); (try clear hk)))
 (try simp only [Act.put, List.setIfInBounds_toArray, List.set_cons_zero, List.set_cons_succ])
 go_cut [74] (fun v74 wc => ∃ (kq : Nat) (x74_11 : Bool), v74 = .bool x74_11 ∧ Aside0 (ddilaw03_awake.j0 kq t280 t297 t304 t310 x74_11 t264 t265 t266 t267 t286 t287 t288 t289 t290 t291 t292 t293 = some r) ∧ Aside0 (kq ≤ k) ∧ Aside0 (Kd.R k26 26 wc w.heap.size (fun k_ => k_ ≠ gb269 ∧ k_ ≠ gb275 ∧ k_ ≠ gb295 ∧ k_ ≠ gb296) v298 t297) ∧ Aside0 (wc.heap[gb269]? = some (.cells #[.bool t264, .int .u64 t265, .int .u64 t266, .int .i64 t267] 26 (0, 0))) ∧ Aside0 (wc.heap[gb275]? = some (.cells #[.bool t270, .int .u64 t271, .int .u64 t272, .int .i64 t273] 26 (0, 0))) ∧ Aside0 (wc.heap[gb295]? = some (.cells #[.bool t286, .int .u64 t287, .int .u64 t288, .int .i64 t289] 26 (0, 0))) ∧ Aside0 (wc.heap[gb296]? = some (.cells #[.bool t290, .int .u64 t291, .int .u64 t292, .int .i64 t293] 26 (0, 0))) ∧ Aside0 (Below w.heap.size w wc))
 case first =>
  have H := HC12.out
  clear HC12
  by_cases c39 : t268 = 0
  ·
   rw [if_pos c39] at H
   have c39b0 : (t268 == 0) = true := beq_iff_eq.mpr c39
   have c39b1 : (t268 != 0) = false := bne_eq_false_iff_eq.mpr c39
   clear c39
   (first | rw [c39b0] | (simp only [i64_w, i32_w]; rw [c39b0]) | skip)
   by_cases c40 : t274 = 3
   ·
    rw [if_pos c40] at H
    have c40b0 : (t274 == 3) = true := beq_iff_eq.mpr c40
    have c40b1 : (t274 != 3) = false := bne_eq_false_iff_eq.mpr c40
    clear c40
    by_cases c41 : t281 = 0
    ·
     rw [if_pos c41] at H
     have c41b0 : (t281 == 0) = true := beq_iff_eq.mpr c41
     have c41b1 : (t281 != 0) = false := bne_eq_false_iff_eq.mpr c41
     clear c41
     by_cases c42 : t294 = true
     ·
      subst c42
      rw [if_pos rfl] at H
      by_cases c43 : t305 = true
      ·
       subst c43
       rw [if_pos rfl] at H
       by_cases c44 : t311 = true
       ·
        subst c44
        rw [if_pos rfl] at H
        have H' := Aside0.mk H
        clear H
        obtain ⟨Ao45, co45, eo45⟩ := Kd.R_slice HO299.out
        subst eo45
        go_wp2_with (first | ((with_reducible refine gate_dst (N := 36) rfl ?_); refine Ext.wpList_buildC ?hgd 33 _ ?ho ?hb ?_; (case hgd => rfl); (case ho => rfl); (case hb => ((try go_simp); exact hbl36 _ _ _ _ _ _))))
        refine Met.intro ?_
        go_step
        (repeat apply Exists.intro)
        refine ⟨?rel, ?heq_⟩
        case heq_ => first | rfl | (rw [c39b0]) | (simp only [c39b0])
        case rel => exact ⟨_, (((t297.length : Int) != 3)), pT, H', ⟨by first | omega | exact Nat.le_refl _⟩, ⟨by (with_reducible repeat (first | apply Kd.R_alloc | apply Kd.R_drewN | apply Kd.R_drew)); exact Kd.R_mono HO299.out (fun _ hk => ⟨hk.1.1.1.2, ⟨hk.1.1.2, ⟨hk.1.2, hk.2⟩⟩⟩)⟩, ⟨pM BK269⟩, ⟨pM BK275⟩, ⟨pM BK295⟩, ⟨pM BK296⟩, ⟨pE HB⟩⟩
       ·
        replace c44 := Bool.eq_false_iff.mpr c44
        subst c44
        rw [if_neg (show ¬ (false = true) by decide)] at H
        have H' := Aside0.mk H
        clear H
        go_wp2_with (first | ((with_reducible refine gate_dst (N := 36) rfl ?_); refine Ext.wpList_buildC ?hgd 33 _ ?ho ?hb ?_; (case hgd => rfl); (case ho => rfl); (case hb => ((try go_simp); exact hbl36 _ _ _ _ _ _))))
        refine Met.intro ?_
        go_step
        (repeat apply Exists.intro)
        refine ⟨?rel, ?heq_⟩
        case heq_ => first | rfl | (rw [c39b0]) | (simp only [c39b0])
        case rel => exact ⟨_, (true), pT, H', ⟨by first | omega | exact Nat.le_refl _⟩, ⟨by (with_reducible repeat (first | apply Kd.R_alloc | apply Kd.R_drewN | apply Kd.R_drew)); exact Kd.R_mono HO299.out (fun _ hk => ⟨hk.1.1.1.2, ⟨hk.1.1.2, ⟨hk.1.2, hk.2⟩⟩⟩)⟩, ⟨pM BK269⟩, ⟨pM BK275⟩, ⟨pM BK295⟩, ⟨pM BK296⟩, ⟨pE HB⟩⟩
      ·
       replace c43 := Bool.eq_false_iff.mpr c43
       subst c43
       rw [if_neg (show ¬ (false = true) by decide)] at H
       have H' := Aside0.mk H
       clear H
       go_wp2_with (first | ((with_reducible refine gate_dst (N := 36) rfl ?_); refine Ext.wpList_buildC ?hgd 33 _ ?ho ?hb ?_; (case hgd => rfl); (case ho => rfl); (case hb => ((try go_simp); exact hbl36 _ _ _ _ _ _))))
       refine Met.intro ?_
       go_step
       (repeat apply Exists.intro)
       refine ⟨?rel, ?heq_⟩
       case heq_ => first | rfl | (rw [c39b0]) | (simp only [c39b0])
       case rel => exact ⟨_, (true), pT, H', ⟨by first | omega | exact Nat.le_refl _⟩, ⟨by (with_reducible repeat (first | apply Kd.R_alloc | apply Kd.R_drewN | apply Kd.R_drew)); exact Kd.R_mono HO299.out (fun _ hk => ⟨hk.1.1.1.2, ⟨hk.1.1.2, ⟨hk.1.2, hk.2⟩⟩⟩)⟩, ⟨pM BK269⟩, ⟨pM BK275⟩, ⟨pM BK295⟩, ⟨pM BK296⟩, ⟨pE HB⟩⟩
     ·
      replace c42 := Bool.eq_false_iff.mpr c42
      subst c42
      rw [if_neg (show ¬ (false = true) by decide)] at H
      have H' := Aside0.mk H
      clear H
      go_wp2_with (first | ((with_reducible refine gate_dst (N := 36) rfl ?_); refine Ext.wpList_buildC ?hgd 33 _ ?ho ?hb ?_; (case hgd => rfl); (case ho => rfl); (case hb => ((try go_simp); exact hbl36 _ _ _ _ _ _))))
      refine Met.intro ?_
      go_step
      (repeat apply Exists.intro)
      refine ⟨?rel, ?heq_⟩
      case heq_ => first | rfl | (rw [c39b0]) | (simp only [c39b0])
      case rel => exact ⟨_, (true), pT, H', ⟨by first | omega | exact Nat.le_refl _⟩, ⟨by (with_reducible repeat (first | apply Kd.R_alloc | apply Kd.R_drewN | apply Kd.R_drew)); exact Kd.R_mono HO299.out (fun _ hk => ⟨hk.1.1.1.2, ⟨hk.1.1.2, ⟨hk.1.2, hk.2⟩⟩⟩)⟩, ⟨pM BK269⟩, ⟨pM BK275⟩, ⟨pM BK295⟩, ⟨pM BK296⟩, ⟨pE HB⟩⟩
    ·
     rw [if_neg c41] at H
     have c41b0 : (t281 == 0) = false := beq_eq_false_iff_ne.mpr c41
     have c41b1 : (t281 != 0) = true := bne_iff_ne.mpr c41
     have H' := Aside0.mk H
     clear H
     go_wp2_with (first | ((with_reducible refine gate_dst (N := 36) rfl ?_); refine Ext.wpList_buildC ?hgd 33 _ ?ho ?hb ?_; (case hgd => rfl); (case ho => rfl); (case hb => ((try go_simp); exact hbl36 _ _ _ _ _ _))))
     refine Met.intro ?_
     go_step
     (repeat apply Exists.intro)
     refine ⟨?rel, ?heq_⟩
     case heq_ => first | rfl | (rw [c39b0]) | (simp only [c39b0])
     case rel => exact ⟨_, (true), pT, H', ⟨by first | omega | exact Nat.le_refl _⟩, ⟨by (with_reducible repeat (first | apply Kd.R_alloc | apply Kd.R_drewN | apply Kd.R_drew)); exact Kd.R_mono HO299.out (fun _ hk => ⟨hk.1.1.1.2, ⟨hk.1.1.2, ⟨hk.1.2, hk.2⟩⟩⟩)⟩, ⟨pM BK269⟩, ⟨pM BK275⟩, ⟨pM BK295⟩, ⟨pM BK296⟩, ⟨pE HB⟩⟩
   ·
    rw [if_neg c40] at H
    have c40b0 : (t274 == 3) = false := beq_eq_false_iff_ne.mpr c40
    have c40b1 : (t274 != 3) = true := bne_iff_ne.mpr c40
    have H' := Aside0.mk H
    clear H
    go_wp2_with (first | ((with_reducible refine gate_dst (N := 36) rfl ?_); refine Ext.wpList_buildC ?hgd 33 _ ?ho ?hb ?_; (case hgd => rfl); (case ho => rfl); (case hb => ((try go_simp); exact hbl36 _ _ _ _ _ _))))
    refine Met.intro ?_
    go_step
    (repeat apply Exists.intro)
    refine ⟨?rel, ?heq_⟩
    case heq_ => first | rfl | (rw [c39b0]) | (simp only [c39b0])
    case rel => exact ⟨_, (true), pT, H', ⟨by first | omega | exact Nat.le_refl _⟩, ⟨by (with_reducible repeat (first | apply Kd.R_alloc | apply Kd.R_drewN | apply Kd.R_drew)); exact Kd.R_mono HO299.out (fun _ hk => ⟨hk.1.1.1.2, ⟨hk.1.1.2, ⟨hk.1.2, hk.2⟩⟩⟩)⟩, ⟨pM BK269⟩, ⟨pM BK275⟩, ⟨pM BK295⟩, ⟨pM BK296⟩, ⟨pE HB⟩⟩
  ·
   rw [if_neg c39] at H
   have c39b0 : (t268 == 0) = false := beq_eq_false_iff_ne.mpr c39
   have c39b1 : (t268 != 0) = true := bne_iff_ne.mpr c39
   (first | rw [c39b0] | (simp only [i64_w, i32_w]; rw [c39b0]) | skip)
   have H' := Aside0.mk H
   clear H
   go_wp2_with (first | ((with_reducible refine gate_dst (N := 36) rfl ?_); refine Ext.wpList_buildC ?hgd 33 _ ?ho ?hb ?_; (case hgd => rfl); (case ho => rfl); (case hb => ((try go_simp); exact hbl36 _ _ _ _ _ _))))
   refine Met.intro ?_
   go_step
   (repeat apply Exists.intro)
   refine ⟨?rel, ?heq_⟩
   case heq_ => first | rfl | (rw [c39b0]) | (simp only [c39b0])
   case rel => exact ⟨_, (true), pT, H', ⟨by first | omega | exact Nat.le_refl _⟩, ⟨by (with_reducible repeat (first | apply Kd.R_alloc | apply Kd.R_drewN | apply Kd.R_drew)); exact Kd.R_mono HO299.out (fun _ hk => ⟨hk.1.1.1.2, ⟨hk.1.1.2, ⟨hk.1.2, hk.2⟩⟩⟩)⟩, ⟨pM BK269⟩, ⟨pM BK275⟩, ⟨pM BK295⟩, ⟨pM BK296⟩, ⟨pE HB⟩⟩
 case rest =>
  clear HC12
  try clear hcz15_0 hcz15_1 hcz15_2 hcz15_3
  try clear hcz19_0 hcz19_1 hcz19_2 hcz19_3
  try clear hcz29_0 hcz29_1 hcz29_2 hcz29_3
  try clear hcz32_0 hcz32_1 hcz32_2 hcz32_3
  try clear hfz15_0 hfz15_1 hfz15_2 hfz15_3
  try clear hfz19_0 hfz19_1 hfz19_2 hfz19_3
  try clear hfz29_0 hfz29_1 hfz29_2 hfz29_3
  try clear hfz32_0 hfz32_1 hfz32_2 hfz32_3
  obtain ⟨kq, x74_11, rfl, HA, HJ11, HO_10, BK269, BK275, BK295, BK296, HB⟩ := hcut
  cases kq with
  | zero => exact absurd HA.out (by simp [ddilaw03_awake.j0])
  | succ kj11 =>
   have H := HA.out
   clear HA
   simp only [ddilaw03_awake.j0] at H
   by_cases c46 : x74_11 = true
   ·
    subst c46
    rw [if_pos rfl] at H
    exact absurd H (by simp)
   ·
    replace c46 := Bool.eq_false_iff.mpr c46
    subst c46
    rw [if_neg (show ¬ (false = true) by decide)] at H
    replace H := Option.bind_eq_some_iff.mp H
    obtain ⟨⟨t312, t313, t314, t315⟩, A470, H⟩ := H
    replace H : (if ((t264 == t312 && (t265 == t313 && (t266 == t314))) && (t267 == t315)) = true then (if t280.toList = ([49, 48, 46, 48, 46, 48, 46, 52, 47, 51, 48] : List UInt8) then ((ddilaw03_four.f 167772160 9).bind fun bt316 => (if ((t286 == bt316.1 && (t287 == bt316.2.1 && (t288 == bt316.2.2.1))) && (t289 == bt316.2.2.2)) = true then ((ddilaw03_four.f 176160768 9).bind fun bt320 => (if ((t290 == bt320.1 && (t291 == bt320.2.1 && (t292 == bt320.2.2.1))) && (t293 == bt320.2.2.2)) = true then (if 1 < (t297.length : Int) then ((ddilaw03_four.f 167772162 31).bind fun bt325 => (if ((((rd_T26 t297 1).f0.f0) == bt325.1 && (((rd_T26 t297 1).f0.f1) == bt325.2.1 && (((rd_T26 t297 1).f0.f2) == bt325.2.2.1))) && (((rd_T26 t297 1).f1) == bt325.2.2.2)) = true then (if t304.toList = ([50, 46, 49, 48, 46, 105, 110, 45, 97, 100, 100, 114, 46, 97, 114, 112, 97, 46] : List UInt8) then (some (t310 == 4)) else (none)) else (none))) else (none)) else (none))) else (none))) else (none)) else (none)) = some r := H
    have A47 := Aside0.mk A470
    clear A470
    by_cases c48 : ((t264 == t312 && (t265 == t313 && (t266 == t314))) && (t267 == t315)) = true
    ·
     rw [if_pos c48] at H
     have c48b0 : ((t264 == t312 && (t265 == t313 && (t266 == t314))) && (t267 == t315)) = true := c48
     clear c48
     by_cases c49 : t280.toList = ([49, 48, 46, 48, 46, 48, 46, 52, 47, 51, 48] : List UInt8)
     ·
      rw [if_pos c49] at H
      have c49b0 : (t280.toList == ([49, 48, 46, 48, 46, 48, 46, 52, 47, 51, 48] : List UInt8)) = true := beq_iff_eq.mpr c49
      have c49b1 : (t280.toList != ([49, 48, 46, 48, 46, 48, 46, 52, 47, 51, 48] : List UInt8)) = false := bne_eq_false_iff_eq.mpr c49
      clear c49
      replace H := Option.bind_eq_some_iff.mp H
      obtain ⟨⟨t316, t317, t318, t319⟩, A500, H⟩ := H
      replace H : (if ((t286 == t316 && (t287 == t317 && (t288 == t318))) && (t289 == t319)) = true then ((ddilaw03_four.f 176160768 9).bind fun bt320 => (if ((t290 == bt320.1 && (t291 == bt320.2.1 && (t292 == bt320.2.2.1))) && (t293 == bt320.2.2.2)) = true then (if 1 < (t297.length : Int) then ((ddilaw03_four.f 167772162 31).bind fun bt325 => (if ((((rd_T26 t297 1).f0.f0) == bt325.1 && (((rd_T26 t297 1).f0.f1) == bt325.2.1 && (((rd_T26 t297 1).f0.f2) == bt325.2.2.1))) && (((rd_T26 t297 1).f1) == bt325.2.2.2)) = true then (if t304.toList = ([50, 46, 49, 48, 46, 105, 110, 45, 97, 100, 100, 114, 46, 97, 114, 112, 97, 46] : List UInt8) then (some (t310 == 4)) else (none)) else (none))) else (none)) else (none))) else (none)) = some r := H
      have A50 := Aside0.mk A500
      clear A500
      by_cases c51 : ((t286 == t316 && (t287 == t317 && (t288 == t318))) && (t289 == t319)) = true
      ·
       rw [if_pos c51] at H
       have c51b0 : ((t286 == t316 && (t287 == t317 && (t288 == t318))) && (t289 == t319)) = true := c51
       clear c51
       replace H := Option.bind_eq_some_iff.mp H
       obtain ⟨⟨t320, t321, t322, t323⟩, A520, H⟩ := H
       replace H : (if ((t290 == t320 && (t291 == t321 && (t292 == t322))) && (t293 == t323)) = true then (if 1 < (t297.length : Int) then ((ddilaw03_four.f 167772162 31).bind fun bt325 => (if ((((rd_T26 t297 1).f0.f0) == bt325.1 && (((rd_T26 t297 1).f0.f1) == bt325.2.1 && (((rd_T26 t297 1).f0.f2) == bt325.2.2.1))) && (((rd_T26 t297 1).f1) == bt325.2.2.2)) = true then (if t304.toList = ([50, 46, 49, 48, 46, 105, 110, 45, 97, 100, 100, 114, 46, 97, 114, 112, 97, 46] : List UInt8) then (some (t310 == 4)) else (none)) else (none))) else (none)) else (none)) = some r := H
       have A52 := Aside0.mk A520
       clear A520
       by_cases c53 : ((t290 == t320 && (t291 == t321 && (t292 == t322))) && (t293 == t323)) = true
       ·
        rw [if_pos c53] at H
        have c53b0 : ((t290 == t320 && (t291 == t321 && (t292 == t322))) && (t293 == t323)) = true := c53
        clear c53
        by_cases c54 : 1 < (t297.length : Int)
        ·
         rw [if_pos c54] at H
         have c54b0 := decide_eq_true c54
         have c54b1 : decide (1 < t297.length) = true := decide_eq_true (by omega)
         clear c54
         replace H := Option.bind_eq_some_iff.mp H
         obtain ⟨⟨t325, t326, t327, t328⟩, A550, H⟩ := H
         replace H : (if ((((rd_T26 t297 1).f0.f0) == t325 && (((rd_T26 t297 1).f0.f1) == t326 && (((rd_T26 t297 1).f0.f2) == t327))) && (((rd_T26 t297 1).f1) == t328)) = true then (if t304.toList = ([50, 46, 49, 48, 46, 105, 110, 45, 97, 100, 100, 114, 46, 97, 114, 112, 97, 46] : List UInt8) then (some (t310 == 4)) else (none)) else (none)) = some r := H
         have A55 := Aside0.mk A550
         clear A550
         by_cases c56 : ((((rd_T26 t297 1).f0.f0) == t325 && (((rd_T26 t297 1).f0.f1) == t326 && (((rd_T26 t297 1).f0.f2) == t327))) && (((rd_T26 t297 1).f1) == t328)) = true
         ·
          rw [if_pos c56] at H
          have c56b0 : ((((rd_T26 t297 1).f0.f0) == t325 && (((rd_T26 t297 1).f0.f1) == t326 && (((rd_T26 t297 1).f0.f2) == t327))) && (((rd_T26 t297 1).f1) == t328)) = true := c56
          clear c56
          by_cases c57 : t304.toList = ([50, 46, 49, 48, 46, 105, 110, 45, 97, 100, 100, 114, 46, 97, 114, 112, 97, 46] : List UInt8)
          ·
           rw [if_pos c57] at H
           have c57b0 : (t304.toList == ([50, 46, 49, 48, 46, 105, 110, 45, 97, 100, 100, 114, 46, 97, 114, 112, 97, 46] : List UInt8)) = true := beq_iff_eq.mpr c57
           have c57b1 : (t304.toList != ([50, 46, 49, 48, 46, 105, 110, 45, 97, 100, 100, 114, 46, 97, 114, 112, 97, 46] : List UInt8)) = false := bne_eq_false_iff_eq.mpr c57
           clear c57
           obtain rfl := Option.some.inj H
           try go_wp2_with (first | ((with_reducible refine gate_dst (N := 36) rfl ?_); refine Ext.wpList_buildC ?hgd 33 _ ?ho ?hb ?_; (case hgd => rfl); (case ho => rfl); (case hb => ((try go_simp); exact hbl36 _ _ _ _ _ _))))
           replace HO_10 := Aside0.mk (Kd.R_drew HO_10.out)
           replace BK269 := Aside0.mk (blk_drew BK269.out)
           replace BK275 := Aside0.mk (blk_drew BK275.out)
           replace BK295 := Aside0.mk (blk_drew BK295.out)
           replace BK296 := Aside0.mk (blk_drew BK296.out)
           replace HB := Aside0.mk (below_drew1 HB.out)
           have p324 : 0 ≤ (1 : Int) := (by omega)
           have q324 : 1 < (t297.length : Int) := oD
           (try (obtain ⟨gs_, cp_, hgs_, -⟩ := Kd.R_form HO_10.out (by omega); obtain ⟨oa_, hoa_⟩ : ∃ a_ : Option Addr, (some ⟨gs_, 0, none⟩ : Option Addr) = a_ := ⟨_, rfl⟩; rw [hoa_] at hgs_; clear hoa_; subst hgs_))
           obtain ⟨ad324, e324, hx324_0, hx324_1, hx324_2, hx324_3⟩ := at_T26 (Kd.R_reads' HO_10.out).2.2 1 p324 q324
           cases e324
           (try simp only [show (1 : Int).toNat = 1 from rfl, Nat.reduceMul, Nat.reduceEqDiff, Go.Addr.add, ↓reduceIte] at hx324_0)
           (try simp only [show (1 : Int).toNat = 1 from rfl, Nat.reduceMul, Nat.reduceEqDiff, Go.Addr.add, ↓reduceIte] at hx324_1)
           (try simp only [show (1 : Int).toNat = 1 from rfl, Nat.reduceMul, Nat.reduceEqDiff, Go.Addr.add, ↓reduceIte] at hx324_2)
           (try simp only [show (1 : Int).toNat = 1 from rfl, Nat.reduceMul, Nat.reduceEqDiff, Go.Addr.add, ↓reduceIte] at hx324_3)
           have qi324 : (1 < t297.length) = True := eq_true (by omega)
           (try rw [show ((1 : Int)).toNat = 1 from rfl] at hx324_0)
           (try rw [show 1 * 4 = 4 from rfl] at hx324_0)
           (try rw [show ((1 : Int)).toNat = 1 from rfl] at hx324_1)
           (try rw [show 1 * 4 = 4 from rfl] at hx324_1)
           (try rw [show ((1 : Int)).toNat = 1 from rfl] at hx324_2)
           (try rw [show 1 * 4 = 4 from rfl] at hx324_2)
           (try rw [show ((1 : Int)).toNat = 1 from rfl] at hx324_3)
           (try rw [show 1 * 4 = 4 from rfl] at hx324_3)
           replace p324 := eq_true p324
           replace q324 := eq_true q324
           refine start_ (n := 33) (S := fun w' => w'.cell? ⟨gb269, 0, none⟩ = some (.bool t264) ∧ w'.cell? ⟨gb269, 1, none⟩ = some (.int .u64 t265) ∧ w'.cell? ⟨gb269, 2, none⟩ = some (.int .u64 t266) ∧ w'.cell? ⟨gb269, 3, none⟩ = some (.int .i64 t267) ∧ w'.cell? ⟨gb295, 0, none⟩ = some (.bool t286) ∧ w'.cell? ⟨gb295, 1, none⟩ = some (.int .u64 t287) ∧ w'.cell? ⟨gb295, 2, none⟩ = some (.int .u64 t288) ∧ w'.cell? ⟨gb295, 3, none⟩ = some (.int .i64 t289) ∧ w'.cell? ⟨gb296, 0, none⟩ = some (.bool t290) ∧ w'.cell? ⟨gb296, 1, none⟩ = some (.int .u64 t291) ∧ w'.cell? ⟨gb296, 2, none⟩ = some (.int .u64 t292) ∧ w'.cell? ⟨gb296, 3, none⟩ = some (.int .i64 t293) ∧ w'.cell? ⟨ad324.block, ad324.off + 4, none⟩ = some (.bool ((rd_T26 t297 1).f0.f0)) ∧ w'.cell? ⟨ad324.block, ad324.off + 4 + 1, none⟩ = some (.int .u64 ((rd_T26 t297 1).f0.f1)) ∧ w'.cell? ⟨ad324.block, ad324.off + 4 + 2, none⟩ = some (.int .u64 ((rd_T26 t297 1).f0.f2)) ∧ w'.cell? ⟨ad324.block, ad324.off + 4 + 3, none⟩ = some (.int .i64 ((rd_T26 t297 1).f1))) (ds := []) (tk 33 0) (by kernel_rfl) rfl rfl ⟨bC BK269 0, bC BK269 1, bC BK269 2, bC BK269 3, bC BK295 0, bC BK295 1, bC BK295 2, bC BK295 3, bC BK296 0, bC BK296 1, bC BK296 2, bC BK296 3, hx324_0, hx324_1, hx324_2, hx324_3⟩ (fun hHeld => ?_); refine with_tabW ddilaw03_awake.tab10 ddilaw03_awake.bits10 (fun HT_ HW_ => ?_)
           generalize wc.drew = w58 at HO_10 BK269 BK275 BK295 BK296 HB hx324_0 hx324_1 hx324_2 hx324_3 hHeld ⊢
           refine takeA (i := 0) (some 75) HT_ HW_ (tk 33 1) hHeld ?_
           refine one_ (i := 1) (N := some 76) (tk 33 2) rfl rfl (one_of HT_.out (by kernel_rfl)) (by decide) (fun K hK => ?_)
           refine goesR Tryz.func42 #[.int .u64 167772160, .int .i64 8] ?_
           with_reducible refine (ddilaw03_four.calls 167772160 8 t312 t313 t314 t315 _ A47.out).mono ?_
           rintro e w59 ⟨rfl, hb⟩
           have hHe_ := pH hb hHeld
           refine ⟨_, rfl, ?_⟩
           replace HO_10 := Aside0.mk (Kd.R_below (by (with_reducible repeat (first | apply Kd.R_alloc | apply Kd.R_drewN | apply Kd.R_drew)); exact HO_10.out) hb)
           replace BK269 := (pB BK269 hb)
           replace BK275 := (pB BK275 hb)
           replace BK295 := (pB BK295 hb)
           replace BK296 := (pB BK296 hb)
           replace HB := (pS HB hb)
           (try clear hb)
           (try clear hk)
           refine hK.out _ _ ⟨bC BK269 0, bC BK269 1, bC BK269 2, bC BK269 3, bC BK295 0, bC BK295 1, bC BK295 2, bC BK295 3, bC BK296 0, bC BK296 1, bC BK296 2, bC BK296 3, hHe_.2.2.2.2.2.2.2.2.2.2.2.2.1, hHe_.2.2.2.2.2.2.2.2.2.2.2.2.2.1, hHe_.2.2.2.2.2.2.2.2.2.2.2.2.2.2.1, hHe_.2.2.2.2.2.2.2.2.2.2.2.2.2.2.2⟩ (fun hHeld => ?_)
           clear hK K
           refine normA (N := some 76) ?_
           refine pureA (i := 2) (some 77) HT_ (tk 33 3) ?_
           refine pureA (i := 3) (some 78) HT_ (tk 33 4) ?_
           refine pureA (i := 4) (some 79) HT_ (tk 33 5) ?_
           refine pureA (i := 5) (some 80) HT_ (tk 33 6) ?_
           refine pureA (i := 6) (some 81) HT_ (tk 33 7) ?_
           refine pureA (i := 7) (some 82) HT_ (tk 33 8) ?_
           refine takeA (i := 8) (some 83) HT_ HW_ (tk 33 9) hHeld ?_
           refine one_ (i := 9) (N := some 84) (tk 33 10) rfl rfl (one_of HT_.out (by kernel_rfl)) (by decide) (fun K hK => ?_)
           refine goesR Tryz.func42 #[.int .u64 167772160, .int .i64 9] ?_
           with_reducible refine (ddilaw03_four.calls 167772160 9 t316 t317 t318 t319 _ A50.out).mono ?_
           rintro e w60 ⟨rfl, hb⟩
           have hHe_ := pH hb hHeld
           refine ⟨_, rfl, ?_⟩
           replace HO_10 := Aside0.mk (Kd.R_below (by (with_reducible repeat (first | apply Kd.R_alloc | apply Kd.R_drewN | apply Kd.R_drew)); exact HO_10.out) hb)
           replace BK269 := (pB BK269 hb)
           replace BK275 := (pB BK275 hb)
           replace BK295 := (pB BK295 hb)
           replace BK296 := (pB BK296 hb)
           replace HB := (pS HB hb)
           (try clear hb)
           (try clear hk)
           refine hK.out _ _ ⟨bC BK269 0, bC BK269 1, bC BK269 2, bC BK269 3, bC BK295 0, bC BK295 1, bC BK295 2, bC BK295 3, bC BK296 0, bC BK296 1, bC BK296 2, bC BK296 3, hHe_.2.2.2.2.2.2.2.2.2.2.2.2.1, hHe_.2.2.2.2.2.2.2.2.2.2.2.2.2.1, hHe_.2.2.2.2.2.2.2.2.2.2.2.2.2.2.1, hHe_.2.2.2.2.2.2.2.2.2.2.2.2.2.2.2⟩ (fun hHeld => ?_)
           clear hK K
           refine normA (N := some 84) ?_
           refine pureA (i := 10) (some 85) HT_ (tk 33 11) ?_
           refine pureA (i := 11) (some 86) HT_ (tk 33 12) ?_
           refine pureA (i := 12) (some 87) HT_ (tk 33 13) ?_
           refine takeA (i := 13) (some 88) HT_ HW_ (tk 33 14) hHeld ?_
           refine one_ (i := 14) (N := some 89) (tk 33 15) rfl rfl (one_of HT_.out (by kernel_rfl)) (by decide) (fun K hK => ?_)
           refine goesR Tryz.func42 #[.int .u64 176160768, .int .i64 9] ?_
           with_reducible refine (ddilaw03_four.calls 176160768 9 t320 t321 t322 t323 _ A52.out).mono ?_
           rintro e w61 ⟨rfl, hb⟩
           have hHe_ := pH hb hHeld
           refine ⟨_, rfl, ?_⟩
           replace HO_10 := Aside0.mk (Kd.R_below (by (with_reducible repeat (first | apply Kd.R_alloc | apply Kd.R_drewN | apply Kd.R_drew)); exact HO_10.out) hb)
           replace BK269 := (pB BK269 hb)
           replace BK275 := (pB BK275 hb)
           replace BK295 := (pB BK295 hb)
           replace BK296 := (pB BK296 hb)
           replace HB := (pS HB hb)
           (try clear hb)
           (try clear hk)
           obtain ⟨Ao62, co62, eo62⟩ := Kd.R_slice HO_10.out
           (first | subst eo62 | (injection eo62 with f1_ f2_ f3_; have f4_ := f1_.symm; have f5_ := f3_.symm; clear f1_ f2_ f3_; subst f4_; subst f5_))
           refine hK.out _ _ ⟨bC BK269 0, bC BK269 1, bC BK269 2, bC BK269 3, bC BK295 0, bC BK295 1, bC BK295 2, bC BK295 3, bC BK296 0, bC BK296 1, bC BK296 2, bC BK296 3, hHe_.2.2.2.2.2.2.2.2.2.2.2.2.1, hHe_.2.2.2.2.2.2.2.2.2.2.2.2.2.1, hHe_.2.2.2.2.2.2.2.2.2.2.2.2.2.2.1, hHe_.2.2.2.2.2.2.2.2.2.2.2.2.2.2.2⟩ (fun hHeld => ?_)
           clear hK K
           refine normA (N := some 89) ?_
           refine pureA (i := 15) (some 90) HT_ (tk 33 16) ?_
           refine pureA (i := 16) (some 91) HT_ (tk 33 17) ?_
           refine pureA (i := 17) (some 92) HT_ (tk 33 18) ?_
           refine pureA (i := 18) (some 93) HT_ (tk 33 19) ?_
           refine pureA (i := 19) (some 94) HT_ (tk 33 20) ?_
           refine takeA (i := 20) (some 95) HT_ HW_ (tk 33 21) hHeld ?_
           refine one_ (i := 21) (N := some 96) (tk 33 22) rfl rfl (one_of HT_.out (by kernel_rfl)) (by decide) (fun K hK => ?_)
           refine goesR Tryz.func42 #[.int .u64 167772162, .int .i64 31] ?_
           with_reducible refine (ddilaw03_four.calls 167772162 31 t325 t326 t327 t328 _ A55.out).mono ?_
           rintro e w63 ⟨rfl, hb⟩
           have hHe_ := pH hb hHeld
           refine ⟨_, rfl, ?_⟩
           replace HO_10 := Aside0.mk (Kd.R_below (by (with_reducible repeat (first | apply Kd.R_alloc | apply Kd.R_drewN | apply Kd.R_drew)); exact HO_10.out) hb)
           replace BK269 := (pB BK269 hb)
           replace BK275 := (pB BK275 hb)
           replace BK295 := (pB BK295 hb)
           replace BK296 := (pB BK296 hb)
           replace HB := (pS HB hb)
           (try clear hb)
           (try clear hk)
           refine hK.out _ _ ⟨bC BK269 0, bC BK269 1, bC BK269 2, bC BK269 3, bC BK295 0, bC BK295 1, bC BK295 2, bC BK295 3, bC BK296 0, bC BK296 1, bC BK296 2, bC BK296 3, hHe_.2.2.2.2.2.2.2.2.2.2.2.2.1, hHe_.2.2.2.2.2.2.2.2.2.2.2.2.2.1, hHe_.2.2.2.2.2.2.2.2.2.2.2.2.2.2.1, hHe_.2.2.2.2.2.2.2.2.2.2.2.2.2.2.2⟩ (fun hHeld => ?_)
           clear hK K
           refine normA (N := some 96) ?_
           refine pureA (i := 22) (some 97) HT_ (tk 33 23) ?_
           refine pureA (i := 23) (some 98) HT_ (tk 33 24) ?_
           refine pureA (i := 24) (some 99) HT_ (tk 33 25) ?_
           refine pureA (i := 25) (some 100) HT_ (tk 33 26) ?_
           refine pureA (i := 26) (some 101) HT_ (tk 33 27) ?_
           refine pureA (i := 27) (some 102) HT_ (tk 33 28) ?_
           refine pureA (i := 28) (some 103) HT_ (tk 33 29) ?_
           refine pureA (i := 29) (some 104) HT_ (tk 33 30) ?_
           refine pureA (i := 30) (some 105) HT_ (tk 33 31) ?_
           refine pureA (i := 31) (some 106) HT_ (tk 33 32) ?_
           refine pureA (i := 32) (some 0) HT_ (tk 33 33) ?_
           refine done_ (done_of HT_.out (by kernel_rfl)) ?_
           try go_wp2_with (first | ((with_reducible refine gate_dst (N := 36) rfl ?_); refine Ext.wpList_buildC ?hgd 33 _ ?ho ?hb ?_; (case hgd => rfl); (case ho => rfl); (case hb => ((try go_simp); exact hbl36 _ _ _ _ _ _))))
           go_ret
           exact pR (pE HB)
          ·
           rw [if_neg c57] at H
           have c57b0 : (t304.toList == ([50, 46, 49, 48, 46, 105, 110, 45, 97, 100, 100, 114, 46, 97, 114, 112, 97, 46] : List UInt8)) = false := beq_eq_false_iff_ne.mpr c57
           have c57b1 : (t304.toList != ([50, 46, 49, 48, 46, 105, 110, 45, 97, 100, 100, 114, 46, 97, 114, 112, 97, 46] : List UInt8)) = true := bne_iff_ne.mpr c57
           exact absurd H (by simp)
         ·
          rw [if_neg c56] at H
          have c56b0 : ((((rd_T26 t297 1).f0.f0) == t325 && (((rd_T26 t297 1).f0.f1) == t326 && (((rd_T26 t297 1).f0.f2) == t327))) && (((rd_T26 t297 1).f1) == t328)) = false := by simpa using c56
          clear c56
          exact absurd H (by simp)
        ·
         rw [if_neg c54] at H
         exact absurd H (by simp)
       ·
        rw [if_neg c53] at H
        have c53b0 : ((t290 == t320 && (t291 == t321 && (t292 == t322))) && (t293 == t323)) = false := by simpa using c53
        clear c53
        exact absurd H (by simp)
      ·
       rw [if_neg c51] at H
       have c51b0 : ((t286 == t316 && (t287 == t317 && (t288 == t318))) && (t289 == t319)) = false := by simpa using c51
       clear c51
       exact absurd H (by simp)
     ·
      rw [if_neg c49] at H
      have c49b0 : (t280.toList == ([49, 48, 46, 48, 46, 48, 46, 52, 47, 51, 48] : List UInt8)) = false := beq_eq_false_iff_ne.mpr c49
      have c49b1 : (t280.toList != ([49, 48, 46, 48, 46, 48, 46, 52, 47, 51, 48] : List UInt8)) = true := bne_iff_ne.mpr c49
      exact absurd H (by simp)
    ·
     rw [if_neg c48] at H
     have c48b0 : ((t264 == t312 && (t265 == t313 && (t266 == t314))) && (t267 == t315)) = false := by simpa using c48
     clear c48
     exact absurd H (by simp)

/-! ### ddiref03_ones: function 44 -/
def ddiref03_ones.l0 : Nat → Int → Int → Int → Int → Option (Int × Int)
 | 0, _, _, _, _ => none
 | k + 1, x0, x4, x5, x6 => if x6 < x0 then (if x6 < 128 then (ddiref03_ones.l0 k x0 (IntKind.u64.wrap ((IntKind.u64.wrap (x4 * 2)) + (IntKind.u64.wrap (Int.tdiv x5 9223372036854775808)))) (IntKind.u64.wrap ((IntKind.u64.wrap (x5 * 2)) + 1)) (wrap64 (x6 + 1))) else (some (x4, x5))) else (some (x4, x5))
def ddiref03_ones.f (k : Nat) (a0 : Int) : Option (Int × Int) := ddiref03_ones.l0 k a0 0 0 0
theorem ddiref03_ones.mono_l : ∀ k, (∀ y0 y1 y2 y3, LeO (ddiref03_ones.l0 k y0 y1 y2 y3) (ddiref03_ones.l0 (k + 1) y0 y1 y2 y3))
 | 0 => fun _ _ _ _ r h => by simp [ddiref03_ones.l0] at h
 | k + 1 => by
  have ih0 := ddiref03_ones.mono_l k
  ·
   intro y0 y1 y2 y3
   unfold ddiref03_ones.l0
   repeat' with_reducible first | exact ih0 _ _ _ _ | exact LeO.refl _ | exact LeO.none _ | refine LeO.ite ?_ ?_ | refine LeO.bind ?_ (fun _ => ?_)
theorem ddiref03_ones.mono : ∀ a0 k, LeO (ddiref03_ones.f k a0) (ddiref03_ones.f (k + 1) a0) := by
 intro a0 k
 have ih0 := ddiref03_ones.mono_l k
 unfold ddiref03_ones.f
 repeat' with_reducible first | exact ih0 _ _ _ _ | exact LeO.refl _ | exact LeO.none _ | refine LeO.ite ?_ ?_ | refine LeO.bind ?_ (fun _ => ?_)
set_option maxHeartbeats 40000000 in
set_option maxRecDepth 100000 in
theorem ddiref03_ones.calls (k : Nat) (a0 : Int) (r1 : Int) (r2 : Int) (w : World) (h : ddiref03_ones.f k a0 = some (r1, r2)) :
 Calls Tryz.prog 44 #[.int .i64 a0] w fun e w' => e = .returned (.tuple #[.int .u64 r1, .int .u64 r2]) ∧ Drawn0 w w' := by
 have H : (ddiref03_ones.l0 k a0 0 0 0) = some (r1, r2) := h
 clear h
 have H' := Aside0.mk H
 clear H
 go_enter Tryz.func44, Tryz.ntmps44
 go_wp2
 go_loopg [4, 5, 6] k (fun kq v4 v5 v6 w' => ∃ (x4_1 : Int) (x5_1 : Int) (x6_1 : Int), v4 = .int .u64 x4_1 ∧ v5 = .int .u64 x5_1 ∧ v6 = .int .i64 x6_1 ∧ Aside0 (ddiref03_ones.l0 kq a0 x4_1 x5_1 x6_1 = some (r1, r2)) ∧ Aside0 (kq ≤ k) ∧ Drawn0 w w')
 case atStart => exact ⟨(0), (0), (0), pT, pT, pT, H', ⟨Nat.le_refl _⟩, by repeat (first | exact Drawn0.refl _ | apply Drawn0.step)⟩
 case round =>
  clear H'
  obtain ⟨x4_1, x5_1, x6_1, rfl, rfl, rfl, HA, HK1, ⟨m1, rfl⟩⟩ := hrel
  cases gk with
  | zero => exact absurd HA.out (by simp [ddiref03_ones.l0])
  | succ k1 =>
   have H := HA.out
   clear HA
   simp only [ddiref03_ones.l0] at H
   by_cases c2 : x6_1 < a0
   ·
    rw [if_pos c2] at H
    have c2b0 := decide_eq_true c2
    clear c2
    by_cases c3 : x6_1 < 128
    ·
     rw [if_pos c3] at H
     have c3b0 := decide_eq_true c3
     clear c3
     have H' := Aside0.mk H
     clear H
     go_wp2
     go_roundg k1
     case measure => have := HK1.out; omega
     case rel => exact ⟨(IntKind.u64.wrap ((IntKind.u64.wrap (x4_1 * 2)) + (IntKind.u64.wrap (Int.tdiv x5_1 9223372036854775808)))), (IntKind.u64.wrap ((IntKind.u64.wrap (x5_1 * 2)) + 1)), (wrap64 (x6_1 + 1)), pT, pT, pT, H', ⟨by have := HK1.out; omega⟩, by repeat (first | exact Drawn0.refl _ | apply Drawn0.step)⟩
    ·
     rw [if_neg c3] at H
     have c3b0 := decide_eq_false c3
     clear c3
     simp only [Option.some.injEq, Prod.mk.injEq] at H
     obtain ⟨rfl, rfl⟩ := H
     go_wp2
     go_ret2
     exact pV
   ·
    rw [if_neg c2] at H
    have c2b0 := decide_eq_false c2
    clear c2
    simp only [Option.some.injEq, Prod.mk.injEq] at H
    obtain ⟨rfl, rfl⟩ := H
    go_wp2
    go_ret2
    exact pV

/-! ### ddiref03_Long: function 45 -/
def ddiref03_Long.f (a0 : Bool) : Option (Int) := if a0 = true then (some 128) else (some 32)
set_option maxHeartbeats 40000000 in
set_option maxRecDepth 100000 in
theorem ddiref03_Long.calls (a0 : Bool) (r : Int) (w : World) (h : ddiref03_Long.f a0 = some r) :
 Calls Tryz.prog 45 #[.bool a0] w fun e w' => e = .returned (.int .i64 r) ∧ Drawn0 w w' := by
 have H : (if a0 = true then (some 128) else (some 32)) = some r := h
 clear h
 by_cases c2 : a0 = true
 ·
  subst c2
  rw [if_pos rfl] at H
  obtain rfl := Option.some.inj H
  go_enter Tryz.func45, Tryz.ntmps45
  go_wp2
  go_ret
  exact pV
 ·
  replace c2 := Bool.eq_false_iff.mpr c2
  subst c2
  rw [if_neg (show ¬ (false = true) by decide)] at H
  obtain rfl := Option.some.inj H
  go_enter Tryz.func45, Tryz.ntmps45
  go_wp2
  go_ret
  exact pV

/-! ### ddiref02_Valid: function 54 -/
def ddiref02_Valid.f (a0_0 : Bool) (a0_1 : Int) (a0_2 : Int) : Option (Bool) := if a0_0 = true then (some true) else (if a0_1 = 0 then (some (decide (a0_2 < 4294967296))) else (some false))
set_option maxHeartbeats 40000000 in
set_option maxRecDepth 100000 in
theorem ddiref02_Valid.calls (a0_0 : Bool) (a0_1 : Int) (a0_2 : Int) (r : Bool) (w : World) (h : ddiref02_Valid.f a0_0 a0_1 a0_2 = some r) :
 Calls Tryz.prog 54 #[.agg #[.bool a0_0, .int .u64 a0_1, .int .u64 a0_2]] w fun e w' => e = .returned (.bool r) ∧ Below w.heap.size w w' := by
 have hu24 := Tryz.underlying24
 have HB := Aside0.mk (Below.refl w.heap.size w)
 have H : (if a0_0 = true then (some true) else (if a0_1 = 0 then (some (decide (a0_2 < 4294967296))) else (some false))) = some r := h
 clear h
 by_cases c2 : a0_0 = true
 ·
  subst c2
  rw [if_pos rfl] at H
  obtain rfl := Option.some.inj H
  go_enter Tryz.func54, Tryz.ntmps54
  go_wp2_with (first | ((with_reducible refine gate_dst (N := 1) rfl ?_); refine boxA (N := 1) (cs := #[.bool true, .int .u64 a0_1, .int .u64 a0_2]) (t := 24) ?_; intro gb329 hg w3 hbox hb; have BK329 := Aside0.mk (hbox); have GE329 := (pZ HB hg); replace HB := (pS HB hb); clear hb hbox hg; obtain ⟨hcz4_0, hcz4_1, hcz4_2, hfz4_0, hfz4_1, hfz4_2⟩ := pC3 BK329))
  go_ret
  exact pR (pE HB)
 ·
  replace c2 := Bool.eq_false_iff.mpr c2
  subst c2
  rw [if_neg (show ¬ (false = true) by decide)] at H
  by_cases c5 : a0_1 = 0
  ·
   rw [if_pos c5] at H
   have c5b0 : (a0_1 == 0) = true := beq_iff_eq.mpr c5
   have c5b1 : (a0_1 != 0) = false := bne_eq_false_iff_eq.mpr c5
   clear c5
   obtain rfl := Option.some.inj H
   go_enter Tryz.func54, Tryz.ntmps54
   go_wp2_with (first | ((with_reducible refine gate_dst (N := 1) rfl ?_); refine boxA (N := 1) (cs := #[.bool false, .int .u64 a0_1, .int .u64 a0_2]) (t := 24) ?_; intro gb329 hg w6 hbox hb; have BK329 := Aside0.mk (hbox); have GE329 := (pZ HB hg); replace HB := (pS HB hb); clear hb hbox hg; obtain ⟨hcz7_0, hcz7_1, hcz7_2, hfz7_0, hfz7_1, hfz7_2⟩ := pC3 BK329))
   go_ret
   exact pR (pE HB)
  ·
   rw [if_neg c5] at H
   have c5b0 : (a0_1 == 0) = false := beq_eq_false_iff_ne.mpr c5
   have c5b1 : (a0_1 != 0) = true := bne_iff_ne.mpr c5
   obtain rfl := Option.some.inj H
   go_enter Tryz.func54, Tryz.ntmps54
   go_wp2_with (first | ((with_reducible refine gate_dst (N := 1) rfl ?_); refine boxA (N := 1) (cs := #[.bool false, .int .u64 a0_1, .int .u64 a0_2]) (t := 24) ?_; intro gb329 hg w8 hbox hb; have BK329 := Aside0.mk (hbox); have GE329 := (pZ HB hg); replace HB := (pS HB hb); clear hb hbox hg; obtain ⟨hcz9_0, hcz9_1, hcz9_2, hfz9_0, hfz9_1, hfz9_2⟩ := pC3 BK329))
   go_ret
   exact pR (pE HB)
end Go.Proofs.YteflcmmandlknaaGreatDoor.PA
