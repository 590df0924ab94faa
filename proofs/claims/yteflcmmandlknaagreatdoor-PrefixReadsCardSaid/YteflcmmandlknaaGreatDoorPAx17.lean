/- The Go functions in Lean, with the proofs that the code comes to these answers: printed by this session's program (wip/px) out of the seat's translation. Conditions: each theorem's own. -/
import Derived.Test.YteflcmmandlknaaGreatDoorPAx0
import Derived.Test.YteflcmmandlknaaGreatDoorPAx16
namespace Go.Proofs.YteflcmmandlknaaGreatDoor.PA
open Go.RowKit Go.Proofs.YteflcmmandlknaaGreatDoorW.PrintWords Go.Proofs.YteflcmmandlknaaGreatDoorW.PrintLast Go.Proofs.YteflcmmandlknaaGreatDoorW.PrintMore
attribute [local go_sem] max2_int min2_int max_two min_two max_three min_three max_four min_four   -- for this text's walks alone
attribute [local go_sem ↓] Ext.isSome_setCell
open Press
set_option linter.unusedVariables false
set_option linter.unusedSimpArgs false
/-! ### ddiref02_six: function 67 -/
mutual
def ddiref02_six.j0 : Nat → ByteArray → List Int → Int → Int → Bool → Option (Bool × Int × Int × Int)
 | 0, _, _, _, _, _ => none
 | k + 1, x0, x4, x5, x6, x26 => if x26 = true then (ddiref02_six.j1 k x0 x4 0 2) else (ddiref02_six.j1 k x0 x4 x5 x6)
def ddiref02_six.j1 : Nat → ByteArray → List Int → Int → Int → Option (Bool × Int × Int × Int)
 | 0, _, _, _, _ => none
 | k + 1, x0, x4, x5, x6 => if x6 < (x0.size : Int) then (ddiref02_six.j2 k x0 x4 x5 x6 true) else (ddiref02_six.j2 k x0 x4 x5 x6 (decide (x5 < 0)))
def ddiref02_six.j2 : Nat → ByteArray → List Int → Int → Int → Bool → Option (Bool × Int × Int × Int)
 | 0, _, _, _, _, _ => none
 | k + 1, x0, x4, x5, x6, x7 => ddiref02_six.l0 k x0 x4 x5 x6 x7
def ddiref02_six.l0 : Nat → ByteArray → List Int → Int → Int → Bool → Option (Bool × Int × Int × Int)
 | 0, _, _, _, _, _ => none
 | k + 1, x0, x4, x5, x6, x7 => if x7 = true then (ddiref02_six.l1 k x0 x4 x5 x6 x6) else (if x5 < 0 then (if (x4.length : Int) = 8 then (if x5 ≥ 0 then (ddiref02_six.j9 k x4 x5 (decide ((x4.length : Int) > 7))) else (ddiref02_six.j9 k x4 x5 false)) else (ddiref02_six.j9 k x4 x5 true)) else (if x5 ≥ 0 then (ddiref02_six.j9 k x4 x5 (decide ((x4.length : Int) > 7))) else (ddiref02_six.j9 k x4 x5 false)))
def ddiref02_six.j5 : Nat → ByteArray → List Int → Int → Int → Int → Option (Bool × Int × Int × Int)
 | 0, _, _, _, _, _ => none
 | k + 1, x0, x4, x5, x6, x8 => if 0 ≤ x6 then (if x6 ≤ x8 then (if x8 ≤ (x0.size : Int) then ((ddiref02_group.f k (x0.extract (x6 : Int).toNat (x8 : Int).toNat)).bind fun bt145 => (if bt145.2 = true then (ddiref02_six.j6 k x0 x4 x5 x8 bt145.1 ((x4.length : Int) == 8)) else (ddiref02_six.j6 k x0 x4 x5 x8 bt145.1 true))) else (none)) else (none)) else (none)
def ddiref02_six.j6 : Nat → ByteArray → List Int → Int → Int → Int → Bool → Option (Bool × Int × Int × Int)
 | 0, _, _, _, _, _, _ => none
 | k + 1, x0, x4, x5, x8, x9, x63 => if x63 = true then (some (false, 0, 0, 3)) else (if x4.length < 17592186044416 then ((some (x4 ++ [x9] : List Int)).bind fun y147 => (if x8 < (x0.size : Int) then (ddiref02_six.j7 k x0 y147 x5 (wrap64 (x8 + 1)) (decide (x8 < (x0.size : Int))) ((wrap64 (x8 + 1)) == (x0.size : Int))) else (ddiref02_six.j7 k x0 y147 x5 (wrap64 (x8 + 1)) (decide (x8 < (x0.size : Int))) false))) else (none))
def ddiref02_six.j7 : Nat → ByteArray → List Int → Int → Int → Bool → Bool → Option (Bool × Int × Int × Int)
 | 0, _, _, _, _, _, _ => none
 | k + 1, x0, x4, x5, x6, x7, x81 => if x81 = true then (some (false, 0, 0, 3)) else (if x7 = true then (if 0 ≤ x6 then (if x6 < (x0.size : Int) then (ddiref02_six.j8 k x0 x4 x5 x6 x7 ((bt x0 x6) == 58)) else (none)) else (none)) else (ddiref02_six.j8 k x0 x4 x5 x6 x7 false))
def ddiref02_six.j8 : Nat → ByteArray → List Int → Int → Int → Bool → Bool → Option (Bool × Int × Int × Int)
 | 0, _, _, _, _, _, _ => none
 | k + 1, x0, x4, x5, x6, x7, x89 => if x89 = true then (if x5 ≥ 0 then (some (false, 0, 0, 3)) else (ddiref02_six.l0 k x0 x4 (x4.length : Int) (wrap64 (x6 + 1)) (decide ((wrap64 (x6 + 1)) < (x0.size : Int))))) else (ddiref02_six.l0 k x0 x4 x5 x6 x7)
def ddiref02_six.l1 : Nat → ByteArray → List Int → Int → Int → Int → Option (Bool × Int × Int × Int)
 | 0, _, _, _, _, _ => none
 | k + 1, x0, x4, x5, x6, x8 => if x8 < (x0.size : Int) then (if 0 ≤ x8 then (if (bt x0 x8) = 58 then (ddiref02_six.j5 k x0 x4 x5 x6 x8) else (ddiref02_six.l1 k x0 x4 x5 x6 (wrap64 (x8 + 1)))) else (none)) else (ddiref02_six.j5 k x0 x4 x5 x6 x8)
def ddiref02_six.j9 : Nat → List Int → Int → Bool → Option (Bool × Int × Int × Int)
 | 0, _, _, _ => none
 | k + 1, x4, x5, x116 => if x116 = true then (some (false, 0, 0, 3)) else (ddiref02_six.l2 k x4 x5 0 true 0 0)
def ddiref02_six.l2 : Nat → List Int → Int → Int → Bool → Int → Int → Option (Bool × Int × Int × Int)
 | 0, _, _, _, _, _, _ => none
 | k + 1, x4, x5, x12, x151000, x151001, x151002 => if x12 < 8 then (if x5 < 0 then (ddiref02_six.j11 k x4 x5 x12 0 true x151000 x151001 x151002) else (ddiref02_six.j11 k x4 x5 x12 0 (decide (x12 < x5)) x151000 x151001 x151002)) else (some (x151000, x151001, x151002, 0))
def ddiref02_six.j11 : Nat → List Int → Int → Int → Int → Bool → Bool → Int → Int → Option (Bool × Int × Int × Int)
 | 0, _, _, _, _, _, _, _, _ => none
 | k + 1, x4, x5, x12, x13, x129, x151000, x151001, x151002 => if x129 = true then (if 0 ≤ x12 then (if x12 < (x4.length : Int) then (if x12 < 4 then (ddiref02_six.l2 k x4 x5 (wrap64 (x12 + 1)) x151000 (IntKind.u64.wrap ((IntKind.u64.wrap (x151001 * 65536)) + (rd x4 x12))) x151002) else (ddiref02_six.l2 k x4 x5 (wrap64 (x12 + 1)) x151000 x151001 (IntKind.u64.wrap ((IntKind.u64.wrap (x151002 * 65536)) + (rd x4 x12))))) else (none)) else (none)) else (if x12 ≥ (wrap64 (8 - (wrap64 ((x4.length : Int) - x5)))) then (if 0 ≤ (wrap64 (x12 - (wrap64 (8 - (x4.length : Int))))) then (if (wrap64 (x12 - (wrap64 (8 - (x4.length : Int))))) < (x4.length : Int) then (if x12 < 4 then (ddiref02_six.l2 k x4 x5 (wrap64 (x12 + 1)) x151000 (IntKind.u64.wrap ((IntKind.u64.wrap (x151001 * 65536)) + (rd x4 (wrap64 (x12 - (wrap64 (8 - (x4.length : Int)))))))) x151002) else (ddiref02_six.l2 k x4 x5 (wrap64 (x12 + 1)) x151000 x151001 (IntKind.u64.wrap ((IntKind.u64.wrap (x151002 * 65536)) + (rd x4 (wrap64 (x12 - (wrap64 (8 - (x4.length : Int)))))))))) else (none)) else (none)) else (if x12 < 4 then (ddiref02_six.l2 k x4 x5 (wrap64 (x12 + 1)) x151000 (IntKind.u64.wrap ((IntKind.u64.wrap (x151001 * 65536)) + x13)) x151002) else (ddiref02_six.l2 k x4 x5 (wrap64 (x12 + 1)) x151000 x151001 (IntKind.u64.wrap ((IntKind.u64.wrap (x151002 * 65536)) + x13)))))
end
def ddiref02_six.f (k : Nat) (a0 : ByteArray) : Option (Bool × Int × Int × Int) := if (a0.size : Int) ≥ 2 then (if 0 < (a0.size : Int) then (if (bt a0 0) = 58 then (if 1 < (a0.size : Int) then (ddiref02_six.j0 k a0 ([] : List Int) (-1) 0 ((bt a0 1) == 58)) else (none)) else (ddiref02_six.j0 k a0 ([] : List Int) (-1) 0 false)) else (none)) else (ddiref02_six.j0 k a0 ([] : List Int) (-1) 0 false)
theorem ddiref02_six.mono_l : ∀ k, (∀ y0 y1 y2 y3 y4, LeO (ddiref02_six.j0 k y0 y1 y2 y3 y4) (ddiref02_six.j0 (k + 1) y0 y1 y2 y3 y4)) ∧ (∀ y0 y1 y2 y3, LeO (ddiref02_six.j1 k y0 y1 y2 y3) (ddiref02_six.j1 (k + 1) y0 y1 y2 y3)) ∧ (∀ y0 y1 y2 y3 y4, LeO (ddiref02_six.j2 k y0 y1 y2 y3 y4) (ddiref02_six.j2 (k + 1) y0 y1 y2 y3 y4)) ∧ (∀ y0 y1 y2 y3 y4, LeO (ddiref02_six.l0 k y0 y1 y2 y3 y4) (ddiref02_six.l0 (k + 1) y0 y1 y2 y3 y4)) ∧ (∀ y0 y1 y2 y3 y4, LeO (ddiref02_six.j5 k y0 y1 y2 y3 y4) (ddiref02_six.j5 (k + 1) y0 y1 y2 y3 y4)) ∧ (∀ y0 y1 y2 y3 y4 y5, LeO (ddiref02_six.j6 k y0 y1 y2 y3 y4 y5) (ddiref02_six.j6 (k + 1) y0 y1 y2 y3 y4 y5)) ∧ (∀ y0 y1 y2 y3 y4 y5, LeO (ddiref02_six.j7 k y0 y1 y2 y3 y4 y5) (ddiref02_six.j7 (k + 1) y0 y1 y2 y3 y4 y5)) ∧ (∀ y0 y1 y2 y3 y4 y5, LeO (ddiref02_six.j8 k y0 y1 y2 y3 y4 y5) (ddiref02_six.j8 (k + 1) y0 y1 y2 y3 y4 y5)) ∧ (∀ y0 y1 y2 y3 y4, LeO (ddiref02_six.l1 k y0 y1 y2 y3 y4) (ddiref02_six.l1 (k + 1) y0 y1 y2 y3 y4)) ∧ (∀ y0 y1 y2, LeO (ddiref02_six.j9 k y0 y1 y2) (ddiref02_six.j9 (k + 1) y0 y1 y2)) ∧ (∀ y0 y1 y2 y3 y4 y5, LeO (ddiref02_six.l2 k y0 y1 y2 y3 y4 y5) (ddiref02_six.l2 (k + 1) y0 y1 y2 y3 y4 y5)) ∧ (∀ y0 y1 y2 y3 y4 y5 y6 y7, LeO (ddiref02_six.j11 k y0 y1 y2 y3 y4 y5 y6 y7) (ddiref02_six.j11 (k + 1) y0 y1 y2 y3 y4 y5 y6 y7))
 | 0 => ⟨fun _ _ _ _ _ r h => by simp [ddiref02_six.j0] at h, fun _ _ _ _ r h => by simp [ddiref02_six.j1] at h, fun _ _ _ _ _ r h => by simp [ddiref02_six.j2] at h, fun _ _ _ _ _ r h => by simp [ddiref02_six.l0] at h, fun _ _ _ _ _ r h => by simp [ddiref02_six.j5] at h, fun _ _ _ _ _ _ r h => by simp [ddiref02_six.j6] at h, fun _ _ _ _ _ _ r h => by simp [ddiref02_six.j7] at h, fun _ _ _ _ _ _ r h => by simp [ddiref02_six.j8] at h, fun _ _ _ _ _ r h => by simp [ddiref02_six.l1] at h, fun _ _ _ r h => by simp [ddiref02_six.j9] at h, fun _ _ _ _ _ _ r h => by simp [ddiref02_six.l2] at h, fun _ _ _ _ _ _ _ _ r h => by simp [ddiref02_six.j11] at h⟩
 | k + 1 => by
  obtain ⟨ih0, ih1, ih2, ih3, ih4, ih5, ih6, ih7, ih8, ih9, ih10, ih11⟩ := ddiref02_six.mono_l k
  refine ⟨?_, ?_, ?_, ?_, ?_, ?_, ?_, ?_, ?_, ?_, ?_, ?_⟩
  ·
   intro y0 y1 y2 y3 y4
   unfold ddiref02_six.j0
   repeat' with_reducible first | exact ih0 _ _ _ _ _ | exact ih1 _ _ _ _ | exact ih2 _ _ _ _ _ | exact ih3 _ _ _ _ _ | exact ih4 _ _ _ _ _ | exact ih5 _ _ _ _ _ _ | exact ih6 _ _ _ _ _ _ | exact ih7 _ _ _ _ _ _ | exact ih8 _ _ _ _ _ | exact ih9 _ _ _ | exact ih10 _ _ _ _ _ _ | exact ih11 _ _ _ _ _ _ _ _ | exact ddiref02_group.mono _ _ | exact LeO.refl _ | exact LeO.none _ | refine LeO.ite ?_ ?_ | refine LeO.bind ?_ (fun _ => ?_)
  ·
   intro y0 y1 y2 y3
   unfold ddiref02_six.j1
   repeat' with_reducible first | exact ih0 _ _ _ _ _ | exact ih1 _ _ _ _ | exact ih2 _ _ _ _ _ | exact ih3 _ _ _ _ _ | exact ih4 _ _ _ _ _ | exact ih5 _ _ _ _ _ _ | exact ih6 _ _ _ _ _ _ | exact ih7 _ _ _ _ _ _ | exact ih8 _ _ _ _ _ | exact ih9 _ _ _ | exact ih10 _ _ _ _ _ _ | exact ih11 _ _ _ _ _ _ _ _ | exact ddiref02_group.mono _ _ | exact LeO.refl _ | exact LeO.none _ | refine LeO.ite ?_ ?_ | refine LeO.bind ?_ (fun _ => ?_)
  ·
   intro y0 y1 y2 y3 y4
   unfold ddiref02_six.j2
   repeat' with_reducible first | exact ih0 _ _ _ _ _ | exact ih1 _ _ _ _ | exact ih2 _ _ _ _ _ | exact ih3 _ _ _ _ _ | exact ih4 _ _ _ _ _ | exact ih5 _ _ _ _ _ _ | exact ih6 _ _ _ _ _ _ | exact ih7 _ _ _ _ _ _ | exact ih8 _ _ _ _ _ | exact ih9 _ _ _ | exact ih10 _ _ _ _ _ _ | exact ih11 _ _ _ _ _ _ _ _ | exact ddiref02_group.mono _ _ | exact LeO.refl _ | exact LeO.none _ | refine LeO.ite ?_ ?_ | refine LeO.bind ?_ (fun _ => ?_)
  ·
   intro y0 y1 y2 y3 y4
   unfold ddiref02_six.l0
   repeat' with_reducible first | exact ih0 _ _ _ _ _ | exact ih1 _ _ _ _ | exact ih2 _ _ _ _ _ | exact ih3 _ _ _ _ _ | exact ih4 _ _ _ _ _ | exact ih5 _ _ _ _ _ _ | exact ih6 _ _ _ _ _ _ | exact ih7 _ _ _ _ _ _ | exact ih8 _ _ _ _ _ | exact ih9 _ _ _ | exact ih10 _ _ _ _ _ _ | exact ih11 _ _ _ _ _ _ _ _ | exact ddiref02_group.mono _ _ | exact LeO.refl _ | exact LeO.none _ | refine LeO.ite ?_ ?_ | refine LeO.bind ?_ (fun _ => ?_)
  ·
   intro y0 y1 y2 y3 y4
   unfold ddiref02_six.j5
   repeat' with_reducible first | exact ih0 _ _ _ _ _ | exact ih1 _ _ _ _ | exact ih2 _ _ _ _ _ | exact ih3 _ _ _ _ _ | exact ih4 _ _ _ _ _ | exact ih5 _ _ _ _ _ _ | exact ih6 _ _ _ _ _ _ | exact ih7 _ _ _ _ _ _ | exact ih8 _ _ _ _ _ | exact ih9 _ _ _ | exact ih10 _ _ _ _ _ _ | exact ih11 _ _ _ _ _ _ _ _ | exact ddiref02_group.mono _ _ | exact LeO.refl _ | exact LeO.none _ | refine LeO.ite ?_ ?_ | refine LeO.bind ?_ (fun _ => ?_)
  ·
   intro y0 y1 y2 y3 y4 y5
   unfold ddiref02_six.j6
   repeat' with_reducible first | exact ih0 _ _ _ _ _ | exact ih1 _ _ _ _ | exact ih2 _ _ _ _ _ | exact ih3 _ _ _ _ _ | exact ih4 _ _ _ _ _ | exact ih5 _ _ _ _ _ _ | exact ih6 _ _ _ _ _ _ | exact ih7 _ _ _ _ _ _ | exact ih8 _ _ _ _ _ | exact ih9 _ _ _ | exact ih10 _ _ _ _ _ _ | exact ih11 _ _ _ _ _ _ _ _ | exact ddiref02_group.mono _ _ | exact LeO.refl _ | exact LeO.none _ | refine LeO.ite ?_ ?_ | refine LeO.bind ?_ (fun _ => ?_)
  ·
   intro y0 y1 y2 y3 y4 y5
   unfold ddiref02_six.j7
   repeat' with_reducible first | exact ih0 _ _ _ _ _ | exact ih1 _ _ _ _ | exact ih2 _ _ _ _ _ | exact ih3 _ _ _ _ _ | exact ih4 _ _ _ _ _ | exact ih5 _ _ _ _ _ _ | exact ih6 _ _ _ _ _ _ | exact ih7 _ _ _ _ _ _ | exact ih8 _ _ _ _ _ | exact ih9 _ _ _ | exact ih10 _ _ _ _ _ _ | exact ih11 _ _ _ _ _ _ _ _ | exact ddiref02_group.mono _ _ | exact LeO.refl _ | exact LeO.none _ | refine LeO.ite ?_ ?_ | refine LeO.bind ?_ (fun _ => ?_)
  ·
   intro y0 y1 y2 y3 y4 y5
   unfold ddiref02_six.j8
   repeat' with_reducible first | exact ih0 _ _ _ _ _ | exact ih1 _ _ _ _ | exact ih2 _ _ _ _ _ | exact ih3 _ _ _ _ _ | exact ih4 _ _ _ _ _ | exact ih5 _ _ _ _ _ _ | exact ih6 _ _ _ _ _ _ | exact ih7 _ _ _ _ _ _ | exact ih8 _ _ _ _ _ | exact ih9 _ _ _ | exact ih10 _ _ _ _ _ _ | exact ih11 _ _ _ _ _ _ _ _ | exact ddiref02_group.mono _ _ | exact LeO.refl _ | exact LeO.none _ | refine LeO.ite ?_ ?_ | refine LeO.bind ?_ (fun _ => ?_)
  ·
   intro y0 y1 y2 y3 y4
   unfold ddiref02_six.l1
   repeat' with_reducible first | exact ih0 _ _ _ _ _ | exact ih1 _ _ _ _ | exact ih2 _ _ _ _ _ | exact ih3 _ _ _ _ _ | exact ih4 _ _ _ _ _ | exact ih5 _ _ _ _ _ _ | exact ih6 _ _ _ _ _ _ | exact ih7 _ _ _ _ _ _ | exact ih8 _ _ _ _ _ | exact ih9 _ _ _ | exact ih10 _ _ _ _ _ _ | exact ih11 _ _ _ _ _ _ _ _ | exact ddiref02_group.mono _ _ | exact LeO.refl _ | exact LeO.none _ | refine LeO.ite ?_ ?_ | refine LeO.bind ?_ (fun _ => ?_)
  ·
   intro y0 y1 y2
   unfold ddiref02_six.j9
   repeat' with_reducible first | exact ih0 _ _ _ _ _ | exact ih1 _ _ _ _ | exact ih2 _ _ _ _ _ | exact ih3 _ _ _ _ _ | exact ih4 _ _ _ _ _ | exact ih5 _ _ _ _ _ _ | exact ih6 _ _ _ _ _ _ | exact ih7 _ _ _ _ _ _ | exact ih8 _ _ _ _ _ | exact ih9 _ _ _ | exact ih10 _ _ _ _ _ _ | exact ih11 _ _ _ _ _ _ _ _ | exact ddiref02_group.mono _ _ | exact LeO.refl _ | exact LeO.none _ | refine LeO.ite ?_ ?_ | refine LeO.bind ?_ (fun _ => ?_)
  ·
   intro y0 y1 y2 y3 y4 y5
   unfold ddiref02_six.l2
   repeat' with_reducible first | exact ih0 _ _ _ _ _ | exact ih1 _ _ _ _ | exact ih2 _ _ _ _ _ | exact ih3 _ _ _ _ _ | exact ih4 _ _ _ _ _ | exact ih5 _ _ _ _ _ _ | exact ih6 _ _ _ _ _ _ | exact ih7 _ _ _ _ _ _ | exact ih8 _ _ _ _ _ | exact ih9 _ _ _ | exact ih10 _ _ _ _ _ _ | exact ih11 _ _ _ _ _ _ _ _ | exact ddiref02_group.mono _ _ | exact LeO.refl _ | exact LeO.none _ | refine LeO.ite ?_ ?_ | refine LeO.bind ?_ (fun _ => ?_)
  ·
   intro y0 y1 y2 y3 y4 y5 y6 y7
   unfold ddiref02_six.j11
   repeat' with_reducible first | exact ih0 _ _ _ _ _ | exact ih1 _ _ _ _ | exact ih2 _ _ _ _ _ | exact ih3 _ _ _ _ _ | exact ih4 _ _ _ _ _ | exact ih5 _ _ _ _ _ _ | exact ih6 _ _ _ _ _ _ | exact ih7 _ _ _ _ _ _ | exact ih8 _ _ _ _ _ | exact ih9 _ _ _ | exact ih10 _ _ _ _ _ _ | exact ih11 _ _ _ _ _ _ _ _ | exact ddiref02_group.mono _ _ | exact LeO.refl _ | exact LeO.none _ | refine LeO.ite ?_ ?_ | refine LeO.bind ?_ (fun _ => ?_)
theorem ddiref02_six.mono : ∀ a0 k, LeO (ddiref02_six.f k a0) (ddiref02_six.f (k + 1) a0) := by
 intro a0 k
 obtain ⟨ih0, ih1, ih2, ih3, ih4, ih5, ih6, ih7, ih8, ih9, ih10, ih11⟩ := ddiref02_six.mono_l k
 unfold ddiref02_six.f
 repeat' with_reducible first | exact ih0 _ _ _ _ _ | exact ih1 _ _ _ _ | exact ih2 _ _ _ _ _ | exact ih3 _ _ _ _ _ | exact ih4 _ _ _ _ _ | exact ih5 _ _ _ _ _ _ | exact ih6 _ _ _ _ _ _ | exact ih7 _ _ _ _ _ _ | exact ih8 _ _ _ _ _ | exact ih9 _ _ _ | exact ih10 _ _ _ _ _ _ | exact ih11 _ _ _ _ _ _ _ _ | exact ddiref02_group.mono _ _ | exact LeO.refl _ | exact LeO.none _ | refine LeO.ite ?_ ?_ | refine LeO.bind ?_ (fun _ => ?_)
set_option maxHeartbeats 40000000 in
set_option maxRecDepth 100000 in
theorem ddiref02_six.calls (k : Nat) (a0 : ByteArray) (r1 : Bool) (r2 : Int) (r3 : Int) (r4 : Int) (w : World) (h : ddiref02_six.f k a0 = some (r1, r2, r3, r4)) :
 Calls Tryz.prog 67 #[.string a0] w fun e w' => e = .returned (.tuple #[.agg #[.bool r1, .int .u64 r2, .int .u64 r3], .int .i64 r4]) ∧ Below w.heap.size w w' := by
 have hu24 := Tryz.underlying24
 have HB := Aside0.mk (Below.refl w.heap.size w)
 have H : (if (a0.size : Int) ≥ 2 then (if 0 < (a0.size : Int) then (if (bt a0 0) = 58 then (if 1 < (a0.size : Int) then (ddiref02_six.j0 k a0 ([] : List Int) (-1) 0 ((bt a0 1) == 58)) else (none)) else (ddiref02_six.j0 k a0 ([] : List Int) (-1) 0 false)) else (none)) else (ddiref02_six.j0 k a0 ([] : List Int) (-1) 0 false)) = some (r1, r2, r3, r4) := h
 clear h
 have HC2 := Aside0.mk H
 clear H
 go_enter Tryz.func67, Tryz.ntmps67
 go_upto_region 4 with (first | ((with_reducible refine gate_dst (N := 2) rfl ?_); (try (refine gate_guard (by rfl) ?_; dsimp only)); refine boxA (N := 2) (cs := #[.bool false, .int .u64 0, .int .u64 0]) (t := 24) ?_; intro gb144 hg w3 hbox hb; have BK144 := Aside0.mk (hbox); have GE144 := (pZ HB hg); replace HB := (pS HB hb); clear hb hbox hg))
 (try simp only [Act.put, List.setIfInBounds_toArray, List.set_cons_zero, List.set_cons_succ])
 go_cut [26] (fun v26 wc => ∃ (kq : Nat) (x26_1 : Bool), v26 = .bool x26_1 ∧ Aside0 (ddiref02_six.j0 kq a0 ([] : List Int) (-1) 0 x26_1 = some (r1, r2, r3, r4)) ∧ Aside0 (kq ≤ k) ∧ Aside0 (Kd.R (Kd.int .u64) 22 wc w.heap.size (fun _ => True) (.slice none 0 0) ([] : List Int)) ∧ Aside0 (wc.heap[gb144]? = some (.cells #[.bool false, .int .u64 0, .int .u64 0] 24 (0, 0))) ∧ Aside0 (Below w.heap.size w wc))
 case first =>
  have H := HC2.out
  clear HC2
  by_cases c4 : (a0.size : Int) ≥ 2
  ·
   rw [if_pos c4] at H
   have c4b0 := decide_eq_true c4
   have c4b1 : decide (2 ≤ a0.size) = true := decide_eq_true (by omega)
   clear c4
   (first | rw [c4b0] | (simp only [i64_w, i32_w]; rw [c4b0]) | skip)
   by_cases c5 : 0 < (a0.size : Int)
   ·
    rw [if_pos c5] at H
    have c5b0 := decide_eq_true c5
    have c5b1 : decide (0 < a0.size) = true := decide_eq_true (by omega)
    clear c5
    by_cases c7 : (bt a0 0) = 58
    ·
     rw [if_pos c7] at H
     have c7b0 : ((bt a0 0) == 58) = true := beq_iff_eq.mpr c7
     have c7b1 : ((bt a0 0) != 58) = false := bne_eq_false_iff_eq.mpr c7
     clear c7
     by_cases c8 : 1 < (a0.size : Int)
     ·
      rw [if_pos c8] at H
      have c8b0 := decide_eq_true c8
      have c8b1 : decide (1 < a0.size) = true := decide_eq_true (by omega)
      clear c8
      have H' := Aside0.mk H
      clear H
      have p6 : 0 ≤ (0 : Int) := (by omega)
      have q6 : 0 < a0.size := (by have : (0 : Int) < (a0.size : Int) := of_decide_eq_true (by first | (with_reducible assumption) | assumption); omega)
      have hx6 : ∀ h : 0 < a0.size, ((a0[0]'h).toNat : Int) = bt a0 0 := bt_at a0 0
      clear p6
      have qi6 : (0 < (a0.size : Int)) = True := eq_true (of_decide_eq_true (by first | (with_reducible assumption) | assumption))
      replace q6 := eq_true q6
      have p9 : 0 ≤ (1 : Int) := (by omega)
      have q9 : 1 < a0.size := (by have : (1 : Int) < (a0.size : Int) := of_decide_eq_true (by first | (with_reducible assumption) | assumption); omega)
      have hx9 : ∀ h : 1 < a0.size, ((a0[1]'h).toNat : Int) = bt a0 1 := bt_at a0 1
      clear p9
      have qi9 : (1 < (a0.size : Int)) = True := eq_true (of_decide_eq_true (by first | (with_reducible assumption) | assumption))
      replace q9 := eq_true q9
      go_wp2
      refine Met.intro ?_
      go_step
      (repeat apply Exists.intro)
      refine ⟨?rel, ?heq_⟩
      case heq_ => first | rfl | (rw [c4b0]) | (simp only [c4b0])
      case rel => exact ⟨_, (((bt a0 1) == 58)), pT, H', ⟨by first | omega | exact Nat.le_refl _⟩, ⟨by first | exact Kd.R_nil _ _ _ _ _ | exact Kd.N_nil _ _ _ _ _ | exact Kd.V_nil _ _ _ _ _ | exact Kd.Q_nil _ _ _ _ _ | exact Kd.S_nil _ _ _ _ _⟩, ⟨pM BK144⟩, ⟨pE HB⟩⟩
     ·
      rw [if_neg c8] at H
      exact absurd H (by simp)
    ·
     rw [if_neg c7] at H
     have c7b0 : ((bt a0 0) == 58) = false := beq_eq_false_iff_ne.mpr c7
     have c7b1 : ((bt a0 0) != 58) = true := bne_iff_ne.mpr c7
     have H' := Aside0.mk H
     clear H
     have p6 : 0 ≤ (0 : Int) := (by omega)
     have q6 : 0 < a0.size := (by have : (0 : Int) < (a0.size : Int) := of_decide_eq_true (by first | (with_reducible assumption) | assumption); omega)
     have hx6 : ∀ h : 0 < a0.size, ((a0[0]'h).toNat : Int) = bt a0 0 := bt_at a0 0
     clear p6
     have qi6 : (0 < (a0.size : Int)) = True := eq_true (of_decide_eq_true (by first | (with_reducible assumption) | assumption))
     replace q6 := eq_true q6
     go_wp2
     refine Met.intro ?_
     go_step
     (repeat apply Exists.intro)
     refine ⟨?rel, ?heq_⟩
     case heq_ => first | rfl | (rw [c4b0]) | (simp only [c4b0])
     case rel => exact ⟨_, (false), pT, H', ⟨by first | omega | exact Nat.le_refl _⟩, ⟨by first | exact Kd.R_nil _ _ _ _ _ | exact Kd.N_nil _ _ _ _ _ | exact Kd.V_nil _ _ _ _ _ | exact Kd.Q_nil _ _ _ _ _ | exact Kd.S_nil _ _ _ _ _⟩, ⟨pM BK144⟩, ⟨pE HB⟩⟩
   ·
    rw [if_neg c5] at H
    exact absurd H (by simp)
  ·
   rw [if_neg c4] at H
   have c4b0 := decide_eq_false c4
   have c4b1 : decide (2 ≤ a0.size) = false := decide_eq_false (by omega)
   clear c4
   (first | rw [c4b0] | (simp only [i64_w, i32_w]; rw [c4b0]) | skip)
   have H' := Aside0.mk H
   clear H
   go_wp2
   refine Met.intro ?_
   go_step
   (repeat apply Exists.intro)
   refine ⟨?rel, ?heq_⟩
   case heq_ => first | rfl | (rw [c4b0]) | (simp only [c4b0])
   case rel => exact ⟨_, (false), pT, H', ⟨by first | omega | exact Nat.le_refl _⟩, ⟨by first | exact Kd.R_nil _ _ _ _ _ | exact Kd.N_nil _ _ _ _ _ | exact Kd.V_nil _ _ _ _ _ | exact Kd.Q_nil _ _ _ _ _ | exact Kd.S_nil _ _ _ _ _⟩, ⟨pM BK144⟩, ⟨pE HB⟩⟩
 case rest =>
  clear HC2
  obtain ⟨kq, x26_1, rfl, HA, HJ1, HO_4, BK144, HB⟩ := hcut
  cases kq with
  | zero => exact absurd HA.out (by simp [ddiref02_six.j0])
  | succ kj1 =>
   have H := HA.out
   clear HA
   simp only [ddiref02_six.j0] at H
   have HC10 := Aside0.mk H
   clear H
   go_upto_if 26 with (fail)
   go_cut [5, 6] (fun v5 v6 wc => ∃ (kq : Nat) (x5_9 : Int) (x6_9 : Int), v5 = .int .i64 x5_9 ∧ v6 = .int .i64 x6_9 ∧ Aside0 (ddiref02_six.j1 kq a0 ([] : List Int) x5_9 x6_9 = some (r1, r2, r3, r4)) ∧ Aside0 (kq ≤ kj1) ∧ Aside0 (Kd.R (Kd.int .u64) 22 wc w.heap.size (fun _ => True) (.slice none 0 0) ([] : List Int)) ∧ Aside0 (wc.heap[gb144]? = some (.cells #[.bool false, .int .u64 0, .int .u64 0] 24 (0, 0))) ∧ Aside0 (Below w.heap.size w wc))
   case first =>
    have H := HC10.out
    clear HC10
    by_cases c11 : x26_1 = true
    ·
     subst c11
     have H1 : (ddiref02_six.j1 kj1 a0 ([] : List Int) 0 2) = some (r1, r2, r3, r4) := by rw [if_pos rfl] at H; exact H
     clear H
     have H := H1
     clear H1
     have H' := Aside0.mk H
     clear H
     go_wp2
     go_meet
     case rel => exact ⟨_, (0), (2), pT, pT, H', ⟨by have := HJ1.out; first | omega | exact Nat.le_refl _⟩, ⟨by (with_reducible repeat (first | apply Kd.R_alloc | apply Kd.R_drewN | apply Kd.R_drew)); exact HO_4.out⟩, ⟨pM BK144⟩, ⟨pE HB⟩⟩
    ·
     replace c11 := Bool.eq_false_iff.mpr c11
     subst c11
     rw [if_neg (show ¬ (false = true) by decide)] at H
     have H' := Aside0.mk H
     clear H
     go_wp2
     go_meet
     case rel => exact ⟨_, ((-1)), (0), pT, pT, H', ⟨by have := HJ1.out; first | omega | exact Nat.le_refl _⟩, ⟨by (with_reducible repeat (first | apply Kd.R_alloc | apply Kd.R_drewN | apply Kd.R_drew)); exact HO_4.out⟩, ⟨pM BK144⟩, ⟨pE HB⟩⟩
   case rest =>
    clear HC10
    obtain ⟨kq, x5_9, x6_9, rfl, rfl, HA, HJ9, HO_4, BK144, HB⟩ := hcut
    cases kq with
    | zero => exact absurd HA.out (by simp [ddiref02_six.j1])
    | succ kj9 =>
     have H := HA.out
     clear HA
     simp only [ddiref02_six.j1] at H
     have HC12 := Aside0.mk H
     clear H
     go_upto_region 7 with (fail)
     go_cut [7] (fun v7 wc => ∃ (kq : Nat) (x7_11 : Bool), v7 = .bool x7_11 ∧ Aside0 (ddiref02_six.j2 kq a0 ([] : List Int) x5_9 x6_9 x7_11 = some (r1, r2, r3, r4)) ∧ Aside0 (kq ≤ kj9) ∧ Aside0 (Kd.R (Kd.int .u64) 22 wc w.heap.size (fun _ => True) (.slice none 0 0) ([] : List Int)) ∧ Aside0 (wc.heap[gb144]? = some (.cells #[.bool false, .int .u64 0, .int .u64 0] 24 (0, 0))) ∧ Aside0 (Below w.heap.size w wc))
     case first =>
      have H := HC12.out
      clear HC12
      by_cases c13 : x6_9 < (a0.size : Int)
      ·
       rw [if_pos c13] at H
       have c13b0 := decide_eq_true c13
       clear c13
       (first | rw [c13b0] | (simp only [i64_w, i32_w]; rw [c13b0]) | skip)
       have H' := Aside0.mk H
       clear H
       go_wp2
       refine Met.intro ?_
       go_step
       (repeat apply Exists.intro)
       refine ⟨?rel, ?heq_⟩
       case heq_ => first | rfl | (rw [c13b0]) | (simp only [c13b0])
       case rel => exact ⟨_, (true), pT, H', ⟨by have := HJ1.out; have := HJ9.out; first | omega | exact Nat.le_refl _⟩, ⟨by (with_reducible repeat (first | apply Kd.R_alloc | apply Kd.R_drewN | apply Kd.R_drew)); exact HO_4.out⟩, ⟨pM BK144⟩, ⟨pE HB⟩⟩
      ·
       rw [if_neg c13] at H
       have c13b0 := decide_eq_false c13
       clear c13
       (first | rw [c13b0] | (simp only [i64_w, i32_w]; rw [c13b0]) | skip)
       have H' := Aside0.mk H
       clear H
       go_wp2
       refine Met.intro ?_
       go_step
       (repeat apply Exists.intro)
       refine ⟨?rel, ?heq_⟩
       case heq_ => first | rfl | (rw [c13b0]) | (simp only [c13b0])
       case rel => exact ⟨_, (decide (x5_9 < 0)), pT, H', ⟨by have := HJ1.out; have := HJ9.out; first | omega | exact Nat.le_refl _⟩, ⟨by (with_reducible repeat (first | apply Kd.R_alloc | apply Kd.R_drewN | apply Kd.R_drew)); exact HO_4.out⟩, ⟨pM BK144⟩, ⟨pE HB⟩⟩
     case rest =>
      clear HC12
      obtain ⟨kq, x7_11, rfl, HA, HJ11, HO_4, BK144, HB⟩ := hcut
      cases kq with
      | zero => exact absurd HA.out (by simp [ddiref02_six.j2])
      | succ kj11 =>
       have H := HA.out
       clear HA
       simp only [ddiref02_six.j2] at H
       have H' := Aside0.mk H
       clear H
       go_wp2
       go_loopg [4, 5, 6, 7] kj11 (fun kq v4 v5 v6 v7 w' => ∃ (x4_4 : List Int) (x5_4 : Int) (x6_4 : Int) (x7_4 : Bool) (x145000_4 : Bool) (x145001_4 : Int) (x145002_4 : Int), v5 = .int .i64 x5_4 ∧ v6 = .int .i64 x6_4 ∧ v7 = .bool x7_4 ∧ Aside0 (ddiref02_six.l0 kq a0 x4_4 x5_4 x6_4 x7_4 = some (r1, r2, r3, r4)) ∧ Aside0 (kq ≤ kj11) ∧ Aside0 (Kd.R (Kd.int .u64) 22 w' w.heap.size (fun _ => True) v4 x4_4) ∧ Aside0 (w'.heap[gb144]? = some (.cells #[.bool x145000_4, .int .u64 x145001_4, .int .u64 x145002_4] 24 (0, 0))) ∧ Aside0 (Below w.heap.size w w'))
       case atStart => exact ⟨(([] : List Int)), (x5_9), (x6_9), (x7_11), (false), (0), (0), pT, pT, pT, H', ⟨Nat.le_refl _⟩, ⟨by (with_reducible repeat (first | apply Kd.R_alloc | apply Kd.R_drewN | apply Kd.R_drew)); exact HO_4.out⟩, ⟨pM BK144⟩, ⟨pE HB⟩⟩
       case round =>
        clear H'
        obtain ⟨x4_4, x5_4, x6_4, x7_4, x145000_4, x145001_4, x145002_4, rfl, rfl, rfl, HA, HK4, HO_4, BK144, HB⟩ := hrel
        cases gk with
        | zero => exact absurd HA.out (by simp [ddiref02_six.l0])
        | succ k4 =>
         have H := HA.out
         clear HA
         simp only [ddiref02_six.l0] at H
         by_cases c14 : x7_4 = true
         ·
          subst c14
          have H1 : (ddiref02_six.l1 k4 a0 x4_4 x5_4 x6_4 x6_4) = some (r1, r2, r3, r4) := by rw [if_pos rfl] at H; exact H
          clear H
          have H := H1
          clear H1
          have HC15 := Aside0.mk H
          clear H
          go_upto_block 2 with (fail)
          go_cut [8] (fun v8 wc => ∃ (kq : Nat) (x8_14 : Int), v8 = .int .i64 x8_14 ∧ Aside0 (ddiref02_six.j5 kq a0 x4_4 x5_4 x6_4 x8_14 = some (r1, r2, r3, r4)) ∧ Aside0 (kq ≤ k4) ∧ Aside0 (Kd.R (Kd.int .u64) 22 wc w.heap.size (fun _ => True) u4 x4_4) ∧ Aside0 (wc.heap[gb144]? = some (.cells #[.bool x145000_4, .int .u64 x145001_4, .int .u64 x145002_4] 24 (0, 0))) ∧ Aside0 (Below w.heap.size w wc))
          case first =>
           have H := HC15.out
           clear HC15
           have H' := Aside0.mk H
           clear H
           go_wp2
           go_loopg [8] k4 (fun kq v8 w' => ∃ (x8_5 : Int), v8 = .int .i64 x8_5 ∧ Aside0 (ddiref02_six.l1 kq a0 x4_4 x5_4 x6_4 x8_5 = some (r1, r2, r3, r4)) ∧ Aside0 (kq ≤ k4) ∧ Aside0 (Kd.R (Kd.int .u64) 22 w' w.heap.size (fun _ => True) u4 x4_4) ∧ Aside0 (w'.heap[gb144]? = some (.cells #[.bool x145000_4, .int .u64 x145001_4, .int .u64 x145002_4] 24 (0, 0))) ∧ Aside0 (Below w.heap.size w w'))
           case atStart => exact ⟨(x6_4), pT, H', ⟨Nat.le_refl _⟩, ⟨by (with_reducible repeat (first | apply Kd.R_alloc | apply Kd.R_drewN | apply Kd.R_drew)); exact HO_4.out⟩, ⟨pM BK144⟩, ⟨pE HB⟩⟩
           case round =>
            clear H'
            try clear c14
            obtain ⟨x8_5, rfl, HA, HK5, HO_4, BK144, HB⟩ := hrel
            cases gk with
            | zero => exact absurd HA.out (by simp [ddiref02_six.l1])
            | succ k5 =>
             have H := HA.out
             clear HA
             simp only [ddiref02_six.l1] at H
             by_cases c16 : x8_5 < (a0.size : Int)
             ·
              rw [if_pos c16] at H
              have c16b0 := decide_eq_true c16
              clear c16
              (first | rw [c16b0] | (simp only [i64_w, i32_w]; rw [c16b0]) | skip)
              by_cases c17 : 0 ≤ x8_5
              ·
               rw [if_pos c17] at H
               have c17b0 := decide_eq_true c17
               clear c17
               by_cases c19 : (bt a0 x8_5) = 58
               ·
                rw [if_pos c19] at H
                have c19b0 : ((bt a0 x8_5) == 58) = true := beq_iff_eq.mpr c19
                have c19b1 : ((bt a0 x8_5) != 58) = false := bne_eq_false_iff_eq.mpr c19
                clear c19
                have H' := Aside0.mk H
                clear H
                have p18 : 0 ≤ (x8_5 : Int) := of_decide_eq_true (by first | (with_reducible assumption) | assumption)
                have q18 : x8_5 < (a0.size : Int) := of_decide_eq_true (by first | (with_reducible assumption) | assumption)
                have hx18 := bt_at a0 x8_5
                replace p18 := eq_true p18
                replace q18 := eq_true q18
                go_wp2
                refine Met.intro ?_
                go_step
                (repeat apply Exists.intro)
                refine ⟨?rel, ?heq_⟩
                case heq_ => first | rfl | (rw [c16b0]) | (simp only [c16b0])
                case rel => exact ⟨_, (x8_5), pT, H', ⟨by have := HJ1.out; have := HJ9.out; have := HJ11.out; have := HK4.out; have := HK5.out; first | omega | exact Nat.le_refl _⟩, ⟨by (with_reducible repeat (first | apply Kd.R_alloc | apply Kd.R_drewN | apply Kd.R_drew)); exact HO_4.out⟩, ⟨pM BK144⟩, ⟨pE HB⟩⟩
               ·
                rw [if_neg c19] at H
                have c19b0 : ((bt a0 x8_5) == 58) = false := beq_eq_false_iff_ne.mpr c19
                have c19b1 : ((bt a0 x8_5) != 58) = true := bne_iff_ne.mpr c19
                have H' := Aside0.mk H
                clear H
                have p18 : 0 ≤ (x8_5 : Int) := of_decide_eq_true (by first | (with_reducible assumption) | assumption)
                have q18 : x8_5 < (a0.size : Int) := of_decide_eq_true (by first | (with_reducible assumption) | assumption)
                have hx18 := bt_at a0 x8_5
                replace p18 := eq_true p18
                replace q18 := eq_true q18
                go_wp2
                go_roundg k5
                case measure => have := HJ1.out; have := HJ9.out; have := HJ11.out; have := HK4.out; have := HK5.out; omega
                case rel => exact ⟨(wrap64 (x8_5 + 1)), pT, H', ⟨by have := HJ1.out; have := HJ9.out; have := HJ11.out; have := HK4.out; have := HK5.out; omega⟩, ⟨by (with_reducible repeat (first | apply Kd.R_alloc | apply Kd.R_drewN | apply Kd.R_drew)); exact HO_4.out⟩, ⟨pM BK144⟩, ⟨pE HB⟩⟩
              ·
               rw [if_neg c17] at H
               exact absurd H (by simp)
             ·
              rw [if_neg c16] at H
              have c16b0 := decide_eq_false c16
              clear c16
              (first | rw [c16b0] | (simp only [i64_w, i32_w]; rw [c16b0]) | skip)
              have H' := Aside0.mk H
              clear H
              go_wp2
              refine Met.intro ?_
              go_step
              (repeat apply Exists.intro)
              refine ⟨?rel, ?heq_⟩
              case heq_ => first | rfl | (rw [c16b0]) | (simp only [c16b0])
              case rel => exact ⟨_, (x8_5), pT, H', ⟨by have := HJ1.out; have := HJ9.out; have := HJ11.out; have := HK4.out; have := HK5.out; first | omega | exact Nat.le_refl _⟩, ⟨by (with_reducible repeat (first | apply Kd.R_alloc | apply Kd.R_drewN | apply Kd.R_drew)); exact HO_4.out⟩, ⟨pM BK144⟩, ⟨pE HB⟩⟩
          case rest =>
           clear HC15
           try clear c14
           obtain ⟨kq, x8_14, rfl, HA, HJ14, HO_4, BK144, HB⟩ := hcut
           cases kq with
           | zero => exact absurd HA.out (by simp [ddiref02_six.j5])
           | succ kj14 =>
            have H := HA.out
            clear HA
            simp only [ddiref02_six.j5] at H
            by_cases c20 : 0 ≤ x6_4
            ·
             rw [if_pos c20] at H
             have c20b0 := eq_true c20
             have c20b1 := decide_eq_true c20
             clear c20
             by_cases c21 : x6_4 ≤ x8_14
             ·
              rw [if_pos c21] at H
              have c21b0 := eq_true c21
              have c21b1 := decide_eq_true c21
              clear c21
              by_cases c22 : x8_14 ≤ (a0.size : Int)
              ·
               rw [if_pos c22] at H
               have c22b0 := eq_true c22
               have c22b1 := decide_eq_true c22
               clear c22
               replace H := Option.bind_eq_some_iff.mp H
               obtain ⟨⟨t145, t146⟩, A230, H⟩ := H
               replace H : (if t146 = true then (ddiref02_six.j6 kj14 a0 x4_4 x5_4 x8_14 t145 ((x4_4.length : Int) == 8)) else (ddiref02_six.j6 kj14 a0 x4_4 x5_4 x8_14 t145 true)) = some (r1, r2, r3, r4) := H
               have A23 := Aside0.mk A230
               clear A230
               have HC24 := Aside0.mk H
               clear H
               go_upto_region 13 with (first | ((with_reducible refine gate_callee (f := 96) rfl ?_); refine goesA (some 54) Tryz.func96 #[.string (a0.extract (x6_4 : Int).toNat (x8_14 : Int).toNat)] ?_; (with_reducible refine (ddiref02_group.calls kj14 (a0.extract (x6_4 : Int).toNat (x8_14 : Int).toNat) t145 t146 _ A23.out).mono ?_); rintro e w' ⟨rfl, ⟨nd, rfl⟩⟩; refine ⟨_, rfl, ?_⟩))
               (try simp only [Act.put, List.setIfInBounds_toArray, List.set_cons_zero, List.set_cons_succ])
               go_cut [63] (fun v63 wc => ∃ (kq : Nat) (x63_23 : Bool), v63 = .bool x63_23 ∧ Aside0 (ddiref02_six.j6 kq a0 x4_4 x5_4 x8_14 t145 x63_23 = some (r1, r2, r3, r4)) ∧ Aside0 (kq ≤ kj14) ∧ Aside0 (Kd.R (Kd.int .u64) 22 wc w.heap.size (fun _ => True) u4 x4_4) ∧ Aside0 (wc.heap[gb144]? = some (.cells #[.bool x145000_4, .int .u64 x145001_4, .int .u64 x145002_4] 24 (0, 0))) ∧ Aside0 (Below w.heap.size w wc))
               case first =>
                have H := HC24.out
                clear HC24
                by_cases c25 : t146 = true
                ·
                 subst c25
                 have H1 : (ddiref02_six.j6 kj14 a0 x4_4 x5_4 x8_14 t145 ((x4_4.length : Int) == 8)) = some (r1, r2, r3, r4) := by rw [if_pos rfl] at H; exact H
                 clear H
                 have H := H1
                 clear H1
                 have H' := Aside0.mk H
                 clear H
                 obtain ⟨Ao26, co26, eo26⟩ := Kd.R_slice HO_4.out
                 subst eo26
                 go_wp2
                 go_meet
                 case rel => exact ⟨_, (((x4_4.length : Int) == 8)), pT, H', ⟨by have := HJ1.out; have := HJ9.out; have := HJ11.out; have := HK4.out; have := HJ14.out; first | omega | exact Nat.le_refl _⟩, ⟨by (with_reducible repeat (first | apply Kd.R_alloc | apply Kd.R_drewN | apply Kd.R_drew)); exact HO_4.out⟩, ⟨pM BK144⟩, ⟨pE HB⟩⟩
                ·
                 replace c25 := Bool.eq_false_iff.mpr c25
                 subst c25
                 rw [if_neg (show ¬ (false = true) by decide)] at H
                 have H' := Aside0.mk H
                 clear H
                 go_wp2
                 go_meet
                 case rel => exact ⟨_, (true), pT, H', ⟨by have := HJ1.out; have := HJ9.out; have := HJ11.out; have := HK4.out; have := HJ14.out; first | omega | exact Nat.le_refl _⟩, ⟨by (with_reducible repeat (first | apply Kd.R_alloc | apply Kd.R_drewN | apply Kd.R_drew)); exact HO_4.out⟩, ⟨pM BK144⟩, ⟨pE HB⟩⟩
               case rest =>
                clear HC24
                try clear c14
                try clear c20
                try clear c20b0
                try clear c20b1
                try clear c21
                try clear c21b0
                try clear c21b1
                try clear c22
                try clear c22b0
                try clear c22b1
                obtain ⟨kq, x63_23, rfl, HA, HJ23, HO_4, BK144, HB⟩ := hcut
                cases kq with
                | zero => exact absurd HA.out (by simp [ddiref02_six.j6])
                | succ kj23 =>
                 have H := HA.out
                 clear HA
                 simp only [ddiref02_six.j6] at H
                 by_cases c27 : x63_23 = true
                 ·
                  subst c27
                  have H1 : (some (false, 0, 0, 3)) = some (r1, r2, r3, r4) := by rw [if_pos rfl] at H; exact H
                  clear H
                  have H := H1
                  clear H1
                  simp only [Option.some.injEq, Prod.mk.injEq] at H
                  obtain ⟨rfl, rfl, rfl, rfl⟩ := H
                  obtain ⟨hcz28_0, hcz28_1, hcz28_2, hfz28_0, hfz28_1, hfz28_2⟩ := pC3 BK144
                  go_wp2
                  refine bodyPost_ret (results_ct rfl _ _ gb144 24 #[.bool false, .int .u64 0, .int .u64 0] (0, 0) _ rfl (pP (pP (pP (pM BK144)))) Tryz.underlying24 rfl (by kernel_rfl)) rfl ?_
                  exact pR (pE HB)
                 ·
                  replace c27 := Bool.eq_false_iff.mpr c27
                  subst c27
                  rw [if_neg (show ¬ (false = true) by decide)] at H
                  by_cases c29 : x4_4.length < 17592186044416
                  ·
                   rw [if_pos c29] at H
                   have LMc29 := Aside0.mk c29
                   clear c29
                   obtain ⟨y147, hy147⟩ : ∃ y_ : List Int, y_ = (x4_4 ++ [t145]) := ⟨_, rfl⟩
                   replace H : (if x8_14 < (a0.size : Int) then (ddiref02_six.j7 kj23 a0 y147 x5_4 (wrap64 (x8_14 + 1)) (decide (x8_14 < (a0.size : Int))) ((wrap64 (x8_14 + 1)) == (a0.size : Int))) else (ddiref02_six.j7 kj23 a0 y147 x5_4 (wrap64 (x8_14 + 1)) (decide (x8_14 < (a0.size : Int))) false)) = some (r1, r2, r3, r4) := by first | (rw [hy147]; with_reducible exact H) | (have H2_ := (Option.bind_some _ _).symm.trans H; rw [hy147]; with_reducible exact H2_) | (have H2_ := (Option.bind_some _ _).symm.trans H; with_reducible exact H2_) | with_reducible exact H | (rw [hy147]; exact H) | exact H
                   have Ny147 := Aside0.mk hy147
                   clear hy147
                   have HC30 := Aside0.mk H
                   clear H
                   go_upto_region 18 with (first | ((with_reducible refine gate_builtin (b := .append) (xs := #[.tmp 65, .tmp 67]) rfl ?_); (try (refine gate_guard (by rfl) ?_; dsimp only)); at_builtin; refine Kd.R_append (Kd.int .u64) (w0 := w) w.heap.size rfl (.tmp 65) (.tmp 67) 117 22 (.int .u64 0) 8 rfl Tryz.underlying117 info22 rfl (by decide) (by omega) u4 x4_4 t145 [.int .u64 t145] (fun _ => True) (fun _ => False) rfl rfl ?aP (fun _ hk => hk.elim) ?aF ?aO ?aB ?aS ?aL ?_; (case aP => exact rfl); (case aB => exact (by repeat (first | (with_reducible first | exact HB.out | apply below_alloc | apply pw_below_drewN | apply below_drew1 | refine below_set ?_ GE144.out) | exact HB.out))); (case aF => exact (fun _ _ => trivial)); (case aO => exact (by (with_reducible repeat (first | apply Kd.R_alloc | apply Kd.R_drewN | apply Kd.R_drew)); exact HO_4.out)); (case aS => exact (below_size (by repeat (first | (with_reducible first | exact HB.out | apply below_alloc | apply pw_below_drewN | apply below_drew1 | refine below_set ?_ GE144.out) | exact HB.out)))); (case aL => have := LMc29.out; omega); intro v148 w31 ho hb hg hat; rw [← Ny147.out] at ho; have HO149 := Aside0.mk (ho); replace BK144 := Aside0.mk (blk_grown (g := gb144) (o := .cells #[.bool x145000_4, .int .u64 x145001_4, .int .u64 x145002_4] 24 (0, 0)) (pM BK144) hg (Kd.R_ne HO_4.out BK144.out (by decide))); replace HB := Aside0.mk (hb); clear HO_4; clear ho hb hg hat))
                   (try simp only [Act.put, List.setIfInBounds_toArray, List.set_cons_zero, List.set_cons_succ])
                   go_cut [81] (fun v81 wc => ∃ (kq : Nat) (x81_29 : Bool), v81 = .bool x81_29 ∧ Aside0 (ddiref02_six.j7 kq a0 y147 x5_4 (wrap64 (x8_14 + 1)) (decide (x8_14 < (a0.size : Int))) x81_29 = some (r1, r2, r3, r4)) ∧ Aside0 (kq ≤ kj23) ∧ Aside0 (Kd.R (Kd.int .u64) 22 wc w.heap.size (fun _ => True) v148 y147) ∧ Aside0 (wc.heap[gb144]? = some (.cells #[.bool x145000_4, .int .u64 x145001_4, .int .u64 x145002_4] 24 (0, 0))) ∧ Aside0 (Below w.heap.size w wc))
                   case first =>
                    have H := HC30.out
                    clear HC30
                    by_cases c32 : x8_14 < (a0.size : Int)
                    ·
                     rw [if_pos c32] at H
                     have c32b0 := decide_eq_true c32
                     clear c32
                     (first | rw [c32b0] | (simp only [i64_w, i32_w]; rw [c32b0]) | skip)
                     have H' := Aside0.mk H
                     clear H
                     go_wp2
                     refine Met.intro ?_
                     go_step
                     (repeat apply Exists.intro)
                     refine ⟨?rel, ?heq_⟩
                     case heq_ => first | rfl | (rw [c32b0]) | (simp only [c32b0])
                     case rel => exact ⟨_, (((wrap64 (x8_14 + 1)) == (a0.size : Int))), pT, H', ⟨by have := HJ1.out; have := HJ9.out; have := HJ11.out; have := HK4.out; have := HJ14.out; have := HJ23.out; first | omega | exact Nat.le_refl _⟩, ⟨by (with_reducible repeat (first | apply Kd.R_alloc | apply Kd.R_drewN | apply Kd.R_drew)); exact HO149.out⟩, ⟨pM BK144⟩, ⟨pE HB⟩⟩
                    ·
                     rw [if_neg c32] at H
                     have c32b0 := decide_eq_false c32
                     clear c32
                     (first | rw [c32b0] | (simp only [i64_w, i32_w]; rw [c32b0]) | skip)
                     have H' := Aside0.mk H
                     clear H
                     go_wp2
                     refine Met.intro ?_
                     go_step
                     (repeat apply Exists.intro)
                     refine ⟨?rel, ?heq_⟩
                     case heq_ => first | rfl | (rw [c32b0]) | (simp only [c32b0])
                     case rel => exact ⟨_, (false), pT, H', ⟨by have := HJ1.out; have := HJ9.out; have := HJ11.out; have := HK4.out; have := HJ14.out; have := HJ23.out; first | omega | exact Nat.le_refl _⟩, ⟨by (with_reducible repeat (first | apply Kd.R_alloc | apply Kd.R_drewN | apply Kd.R_drew)); exact HO149.out⟩, ⟨pM BK144⟩, ⟨pE HB⟩⟩
                   case rest =>
                    clear HC30
                    try clear c14
                    try clear c20
                    try clear c20b0
                    try clear c20b1
                    try clear c21
                    try clear c21b0
                    try clear c21b1
                    try clear c22
                    try clear c22b0
                    try clear c22b1
                    try clear c27
                    try clear c29
                    obtain ⟨kq, x81_29, rfl, HA, HJ29, HO_4, BK144, HB⟩ := hcut
                    cases kq with
                    | zero => exact absurd HA.out (by simp [ddiref02_six.j7])
                    | succ kj29 =>
                     have H := HA.out
                     clear HA
                     simp only [ddiref02_six.j7] at H
                     by_cases c33 : x81_29 = true
                     ·
                      subst c33
                      have H1 : (some (false, 0, 0, 3)) = some (r1, r2, r3, r4) := by rw [if_pos rfl] at H; exact H
                      clear H
                      have H := H1
                      clear H1
                      simp only [Option.some.injEq, Prod.mk.injEq] at H
                      obtain ⟨rfl, rfl, rfl, rfl⟩ := H
                      obtain ⟨hcz34_0, hcz34_1, hcz34_2, hfz34_0, hfz34_1, hfz34_2⟩ := pC3 BK144
                      go_wp2
                      refine bodyPost_ret (results_ct rfl _ _ gb144 24 #[.bool false, .int .u64 0, .int .u64 0] (0, 0) _ rfl (pP (pP (pP (pM BK144)))) Tryz.underlying24 rfl (by kernel_rfl)) rfl ?_
                      exact pR (pE HB)
                     ·
                      replace c33 := Bool.eq_false_iff.mpr c33
                      subst c33
                      rw [if_neg (show ¬ (false = true) by decide)] at H
                      have HC35 := Aside0.mk H
                      clear H
                      go_upto_region 20 with (fail)
                      go_cut [89] (fun v89 wc => ∃ (kq : Nat) (x89_34 : Bool), v89 = .bool x89_34 ∧ Aside0 (ddiref02_six.j8 kq a0 y147 x5_4 (wrap64 (x8_14 + 1)) (decide (x8_14 < (a0.size : Int))) x89_34 = some (r1, r2, r3, r4)) ∧ Aside0 (kq ≤ kj29) ∧ Aside0 (Kd.R (Kd.int .u64) 22 wc w.heap.size (fun _ => True) v148 y147) ∧ Aside0 (wc.heap[gb144]? = some (.cells #[.bool x145000_4, .int .u64 x145001_4, .int .u64 x145002_4] 24 (0, 0))) ∧ Aside0 (Below w.heap.size w wc))
                      case first =>
                       have H := HC35.out
                       clear HC35
                       by_cases c36 : (decide (x8_14 < (a0.size : Int))) = true
                       ·
                        rw [if_pos c36] at H
                        have c36b0 : (decide (x8_14 < (a0.size : Int))) = true := c36
                        clear c36
                        (first | rw [c36b0] | (simp only [i64_w, i32_w]; rw [c36b0]) | skip)
                        obtain ⟨ji37, hji37⟩ : ∃ j_ : Int, (wrap64 (x8_14 + 1)) = j_ := ⟨_, rfl⟩
                        replace H : (if 0 ≤ (ji37) then (if (ji37) < (a0.size : Int) then (ddiref02_six.j8 kj29 a0 y147 x5_4 (ji37) (decide (x8_14 < (a0.size : Int))) ((bt a0 (ji37)) == 58)) else (none)) else (none)) = some (r1, r2, r3, r4) := by first | (rw [hji37] at H; exact H) | (simp only [hji37] at H ⊢; exact H)
                        have hji37w : (IntKind.i64.wrap (x8_14 + 1)) = ji37 := (i64_w _).trans hji37
                        by_cases c38 : 0 ≤ (ji37)
                        ·
                         rw [if_pos c38] at H
                         have c38b0 := decide_eq_true c38
                         clear c38
                         by_cases c39 : (ji37) < (a0.size : Int)
                         ·
                          rw [if_pos c39] at H
                          have c39b0 := decide_eq_true c39
                          clear c39
                          have H' := Aside0.mk H
                          clear H
                          have p40 : 0 ≤ ((ji37) : Int) := of_decide_eq_true (by first | (with_reducible assumption) | assumption)
                          have q40 : (ji37) < (a0.size : Int) := of_decide_eq_true (by first | (with_reducible assumption) | assumption)
                          have hx40 := bt_at a0 (ji37)
                          replace p40 := eq_true p40
                          replace q40 := eq_true q40
                          go_wp2
                          refine Met.intro ?_
                          go_step
                          (repeat apply Exists.intro)
                          refine ⟨?rel, ?heq_⟩
                          case heq_ => first | rfl | (rw [c36b0]) | (simp only [c36b0])
                          case rel => exact ⟨_, (((bt a0 (ji37)) == 58)), (by first | rfl | (simp; done) | (simp only [← hji37] <;> (first | rfl | simp)) | (simp [*]; done) | ((try simp only [Bool.not_not]); (generalize ByteArray.toList _ = l_); cases l_ <;> rfl) | (simp; (generalize ByteArray.toList _ = l_); cases l_ <;> rfl)), (by first | exact H' | (simp only [hji37]; exact H') | (simp only [hji37] at H' ⊢; exact H')), ⟨by have := HJ1.out; have := HJ9.out; have := HJ11.out; have := HK4.out; have := HJ14.out; have := HJ23.out; have := HJ29.out; first | omega | exact Nat.le_refl _⟩, ⟨by (with_reducible repeat (first | apply Kd.R_alloc | apply Kd.R_drewN | apply Kd.R_drew)); exact HO_4.out⟩, ⟨pM BK144⟩, ⟨pE HB⟩⟩
                         ·
                          rw [if_neg c39] at H
                          exact absurd H (by simp)
                        ·
                         rw [if_neg c38] at H
                         exact absurd H (by simp)
                       ·
                        rw [if_neg c36] at H
                        have c36b0 : (decide (x8_14 < (a0.size : Int))) = false := by simpa using c36
                        clear c36
                        (first | rw [c36b0] | (simp only [i64_w, i32_w]; rw [c36b0]) | skip)
                        have H' := Aside0.mk H
                        clear H
                        go_wp2
                        refine Met.intro ?_
                        go_step
                        (repeat apply Exists.intro)
                        refine ⟨?rel, ?heq_⟩
                        case heq_ => first | rfl | (rw [c36b0]) | (simp only [c36b0])
                        case rel => exact ⟨_, (false), pT, H', ⟨by have := HJ1.out; have := HJ9.out; have := HJ11.out; have := HK4.out; have := HJ14.out; have := HJ23.out; have := HJ29.out; first | omega | exact Nat.le_refl _⟩, ⟨by (with_reducible repeat (first | apply Kd.R_alloc | apply Kd.R_drewN | apply Kd.R_drew)); exact HO_4.out⟩, ⟨pM BK144⟩, ⟨pE HB⟩⟩
                      case rest =>
                       clear HC35
                       try clear c14
                       try clear c20
                       try clear c20b0
                       try clear c20b1
                       try clear c21
                       try clear c21b0
                       try clear c21b1
                       try clear c22
                       try clear c22b0
                       try clear c22b1
                       try clear c27
                       try clear c29
                       try clear c33
                       obtain ⟨kq, x89_34, rfl, HA, HJ34, HO_4, BK144, HB⟩ := hcut
                       cases kq with
                       | zero => exact absurd HA.out (by simp [ddiref02_six.j8])
                       | succ kj34 =>
                        have H := HA.out
                        clear HA
                        simp only [ddiref02_six.j8] at H
                        by_cases c41 : x89_34 = true
                        ·
                         subst c41
                         have H1 : (if x5_4 ≥ 0 then (some (false, 0, 0, 3)) else (ddiref02_six.l0 kj34 a0 y147 (y147.length : Int) (wrap64 ((wrap64 (x8_14 + 1)) + 1)) (decide ((wrap64 ((wrap64 (x8_14 + 1)) + 1)) < (a0.size : Int))))) = some (r1, r2, r3, r4) := by rw [if_pos rfl] at H; exact H
                         clear H
                         have H := H1
                         clear H1
                         by_cases c42 : x5_4 ≥ 0
                         ·
                          rw [if_pos c42] at H
                          have c42b0 := decide_eq_true c42
                          clear c42
                          simp only [Option.some.injEq, Prod.mk.injEq] at H
                          obtain ⟨rfl, rfl, rfl, rfl⟩ := H
                          obtain ⟨hcz43_0, hcz43_1, hcz43_2, hfz43_0, hfz43_1, hfz43_2⟩ := pC3 BK144
                          go_wp2
                          refine bodyPost_ret (results_ct rfl _ _ gb144 24 #[.bool false, .int .u64 0, .int .u64 0] (0, 0) _ rfl (pP (pP (pP (pM BK144)))) Tryz.underlying24 rfl (by kernel_rfl)) rfl ?_
                          exact pR (pE HB)
                         ·
                          rw [if_neg c42] at H
                          have c42b0 := decide_eq_false c42
                          clear c42
                          have H' := Aside0.mk H
                          clear H
                          obtain ⟨Ao44, co44, eo44⟩ := Kd.R_slice HO_4.out
                          subst eo44
                          go_wp2
                          go_roundg kj34
                          case measure => have := HJ1.out; have := HJ9.out; have := HJ11.out; have := HK4.out; have := HJ14.out; have := HJ23.out; have := HJ29.out; have := HJ34.out; omega
                          case rel => exact ⟨(y147), ((y147.length : Int)), (wrap64 ((wrap64 (x8_14 + 1)) + 1)), (decide ((wrap64 ((wrap64 (x8_14 + 1)) + 1)) < (a0.size : Int))), (x145000_4), (x145001_4), (x145002_4), pT, pT, pT, H', ⟨by have := HJ1.out; have := HJ9.out; have := HJ11.out; have := HK4.out; have := HJ14.out; have := HJ23.out; have := HJ29.out; have := HJ34.out; omega⟩, ⟨by (with_reducible repeat (first | apply Kd.R_alloc | apply Kd.R_drewN | apply Kd.R_drew)); exact HO_4.out⟩, ⟨pM BK144⟩, ⟨pE HB⟩⟩
                        ·
                         replace c41 := Bool.eq_false_iff.mpr c41
                         subst c41
                         rw [if_neg (show ¬ (false = true) by decide)] at H
                         have H' := Aside0.mk H
                         clear H
                         go_wp2
                         go_roundg kj34
                         case measure => have := HJ1.out; have := HJ9.out; have := HJ11.out; have := HK4.out; have := HJ14.out; have := HJ23.out; have := HJ29.out; have := HJ34.out; omega
                         case rel => exact ⟨(y147), (x5_4), ((wrap64 (x8_14 + 1))), ((decide (x8_14 < (a0.size : Int)))), (x145000_4), (x145001_4), (x145002_4), pT, pT, pT, H', ⟨by have := HJ1.out; have := HJ9.out; have := HJ11.out; have := HK4.out; have := HJ14.out; have := HJ23.out; have := HJ29.out; have := HJ34.out; omega⟩, ⟨by (with_reducible repeat (first | apply Kd.R_alloc | apply Kd.R_drewN | apply Kd.R_drew)); exact HO_4.out⟩, ⟨pM BK144⟩, ⟨pE HB⟩⟩
                  ·
                   rw [if_neg c29] at H
                   exact absurd H (by simp)
              ·
               rw [if_neg c22] at H
               exact absurd H (by simp)
             ·
              rw [if_neg c21] at H
              exact absurd H (by simp)
            ·
             rw [if_neg c20] at H
             exact absurd H (by simp)
         ·
          replace c14 := Bool.eq_false_iff.mpr c14
          subst c14
          rw [if_neg (show ¬ (false = true) by decide)] at H
          have HC45 := Aside0.mk H
          clear H
          go_upto_region 26 with (fail)
          go_cut [116] (fun v116 wc => ∃ (kq : Nat) (x116_44 : Bool), v116 = .bool x116_44 ∧ Aside0 (ddiref02_six.j9 kq x4_4 x5_4 x116_44 = some (r1, r2, r3, r4)) ∧ Aside0 (kq ≤ k4) ∧ Aside0 (Kd.R (Kd.int .u64) 22 wc w.heap.size (fun _ => True) u4 x4_4) ∧ Aside0 (wc.heap[gb144]? = some (.cells #[.bool x145000_4, .int .u64 x145001_4, .int .u64 x145002_4] 24 (0, 0))) ∧ Aside0 (Below w.heap.size w wc))
          case first =>
           have H := HC45.out
           clear HC45
           by_cases c46 : x5_4 < 0
           ·
            rw [if_pos c46] at H
            have c46b0 := decide_eq_true c46
            clear c46
            (first | rw [c46b0] | (simp only [i64_w, i32_w]; rw [c46b0]) | skip)
            by_cases c47 : (x4_4.length : Int) = 8
            ·
             rw [if_pos c47] at H
             have c47b0 : ((x4_4.length : Int) == 8) = true := beq_iff_eq.mpr c47
             have c47b1 : ((x4_4.length : Int) != 8) = false := bne_eq_false_iff_eq.mpr c47
             clear c47
             by_cases c48 : x5_4 ≥ 0
             ·
              rw [if_pos c48] at H
              have c48b0 := decide_eq_true c48
              clear c48
              have H' := Aside0.mk H
              clear H
              obtain ⟨Ao49, co49, eo49⟩ := Kd.R_slice HO_4.out
              subst eo49
              go_wp2
              refine Met.intro ?_
              go_step
              (repeat apply Exists.intro)
              refine ⟨?rel, ?heq_⟩
              case heq_ => first | rfl | (rw [c46b0]) | (simp only [c46b0])
              case rel => exact ⟨_, (decide ((x4_4.length : Int) > 7)), pT, H', ⟨by have := HJ1.out; have := HJ9.out; have := HJ11.out; have := HK4.out; first | omega | exact Nat.le_refl _⟩, ⟨by (with_reducible repeat (first | apply Kd.R_alloc | apply Kd.R_drewN | apply Kd.R_drew)); exact HO_4.out⟩, ⟨pM BK144⟩, ⟨pE HB⟩⟩
             ·
              rw [if_neg c48] at H
              have c48b0 := decide_eq_false c48
              clear c48
              have H' := Aside0.mk H
              clear H
              obtain ⟨Ao50, co50, eo50⟩ := Kd.R_slice HO_4.out
              subst eo50
              go_wp2
              refine Met.intro ?_
              go_step
              (repeat apply Exists.intro)
              refine ⟨?rel, ?heq_⟩
              case heq_ => first | rfl | (rw [c46b0]) | (simp only [c46b0])
              case rel => exact ⟨_, (false), pT, H', ⟨by have := HJ1.out; have := HJ9.out; have := HJ11.out; have := HK4.out; first | omega | exact Nat.le_refl _⟩, ⟨by (with_reducible repeat (first | apply Kd.R_alloc | apply Kd.R_drewN | apply Kd.R_drew)); exact HO_4.out⟩, ⟨pM BK144⟩, ⟨pE HB⟩⟩
            ·
             rw [if_neg c47] at H
             have c47b0 : ((x4_4.length : Int) == 8) = false := beq_eq_false_iff_ne.mpr c47
             have c47b1 : ((x4_4.length : Int) != 8) = true := bne_iff_ne.mpr c47
             have H' := Aside0.mk H
             clear H
             obtain ⟨Ao51, co51, eo51⟩ := Kd.R_slice HO_4.out
             subst eo51
             go_wp2
             refine Met.intro ?_
             go_step
             (repeat apply Exists.intro)
             refine ⟨?rel, ?heq_⟩
             case heq_ => first | rfl | (rw [c46b0]) | (simp only [c46b0])
             case rel => exact ⟨_, (true), pT, H', ⟨by have := HJ1.out; have := HJ9.out; have := HJ11.out; have := HK4.out; first | omega | exact Nat.le_refl _⟩, ⟨by (with_reducible repeat (first | apply Kd.R_alloc | apply Kd.R_drewN | apply Kd.R_drew)); exact HO_4.out⟩, ⟨pM BK144⟩, ⟨pE HB⟩⟩
           ·
            rw [if_neg c46] at H
            have c46b0 := decide_eq_false c46
            clear c46
            (first | rw [c46b0] | (simp only [i64_w, i32_w]; rw [c46b0]) | skip)
            by_cases c52 : x5_4 ≥ 0
            ·
             rw [if_pos c52] at H
             have c52b0 := decide_eq_true c52
             clear c52
             have H' := Aside0.mk H
             clear H
             obtain ⟨Ao53, co53, eo53⟩ := Kd.R_slice HO_4.out
             subst eo53
             go_wp2
             refine Met.intro ?_
             go_step
             (repeat apply Exists.intro)
             refine ⟨?rel, ?heq_⟩
             case heq_ => first | rfl | (rw [c46b0]) | (simp only [c46b0])
             case rel => exact ⟨_, (decide ((x4_4.length : Int) > 7)), pT, H', ⟨by have := HJ1.out; have := HJ9.out; have := HJ11.out; have := HK4.out; first | omega | exact Nat.le_refl _⟩, ⟨by (with_reducible repeat (first | apply Kd.R_alloc | apply Kd.R_drewN | apply Kd.R_drew)); exact HO_4.out⟩, ⟨pM BK144⟩, ⟨pE HB⟩⟩
            ·
             rw [if_neg c52] at H
             have c52b0 := decide_eq_false c52
             clear c52
             have H' := Aside0.mk H
             clear H
             go_wp2
             refine Met.intro ?_
             go_step
             (repeat apply Exists.intro)
             refine ⟨?rel, ?heq_⟩
             case heq_ => first | rfl | (rw [c46b0]) | (simp only [c46b0])
             case rel => exact ⟨_, (false), pT, H', ⟨by have := HJ1.out; have := HJ9.out; have := HJ11.out; have := HK4.out; first | omega | exact Nat.le_refl _⟩, ⟨by (with_reducible repeat (first | apply Kd.R_alloc | apply Kd.R_drewN | apply Kd.R_drew)); exact HO_4.out⟩, ⟨pM BK144⟩, ⟨pE HB⟩⟩
          case rest =>
           clear HC45
           try clear c14
           obtain ⟨kq, x116_44, rfl, HA, HJ44, HO_4, BK144, HB⟩ := hcut
           cases kq with
           | zero => exact absurd HA.out (by simp [ddiref02_six.j9])
           | succ kj44 =>
            have H := HA.out
            clear HA
            simp only [ddiref02_six.j9] at H
            by_cases c54 : x116_44 = true
            ·
             subst c54
             have H1 : (some (false, 0, 0, 3)) = some (r1, r2, r3, r4) := by rw [if_pos rfl] at H; exact H
             clear H
             have H := H1
             clear H1
             simp only [Option.some.injEq, Prod.mk.injEq] at H
             obtain ⟨rfl, rfl, rfl, rfl⟩ := H
             obtain ⟨hcz55_0, hcz55_1, hcz55_2, hfz55_0, hfz55_1, hfz55_2⟩ := pC3 BK144
             go_wp2
             refine bodyPost_ret (results_ct rfl _ _ gb144 24 #[.bool false, .int .u64 0, .int .u64 0] (0, 0) _ rfl (pP (pP (pP (pM BK144)))) Tryz.underlying24 rfl (by kernel_rfl)) rfl ?_
             exact pR (pE HB)
            ·
             replace c54 := Bool.eq_false_iff.mpr c54
             subst c54
             rw [if_neg (show ¬ (false = true) by decide)] at H
             have H' := Aside0.mk H
             clear H
             go_wp2_with (first | ((with_reducible refine gate_dst (N := 11) rfl ?_); (try (refine gate_guard (by rfl) ?_; dsimp only)); refine boxA (N := 11) (cs := #[.bool false, .int .u64 0, .int .u64 0]) (t := 24) ?_; intro gb150 hg w56 hbox hb; have BK150 := Aside0.mk (hbox); have GE150 := (pZ HB hg); have NB144_150 := (pL BK144 hg); have NB150_144 := (pG BK144 hg); replace HO_4 := Aside0.mk (Kd.R_below (by (with_reducible repeat (first | apply Kd.R_alloc | apply Kd.R_drewN | apply Kd.R_drew)); exact HO_4.out) hb); replace BK144 := (pB BK144 hb); replace HB := (pS HB hb); clear hb hbox hg; have hnb57 := NB150_144.out; have hnc57 := NB144_150.out; obtain ⟨hcz58_0, hcz58_1, hcz58_2, hfz58_0, hfz58_1, hfz58_2⟩ := pC3 BK150))
             go_loopg [12] kj44 (fun kq v12 w' => ∃ (x12_6 : Int) (x151001_6 : Int) (x151002_6 : Int), v12 = .int .i64 x12_6 ∧ Aside0 (ddiref02_six.l2 kq x4_4 x5_4 x12_6 true x151001_6 x151002_6 = some (r1, r2, r3, r4)) ∧ Aside0 (kq ≤ kj44) ∧ Aside0 (Kd.R (Kd.int .u64) 22 w' w.heap.size (fun _ => True) u4 x4_4) ∧ Aside0 (w'.heap[gb144]? = some (.cells #[.bool x145000_4, .int .u64 x145001_4, .int .u64 x145002_4] 24 (0, 0))) ∧ Aside0 (w'.heap[gb150]? = some (.cells #[.bool true, .int .u64 x151001_6, .int .u64 x151002_6] 24 (0, 0))) ∧ Aside0 (Below w.heap.size w w'))
             case atStart => exact ⟨(0), (0), (0), pT, H', ⟨Nat.le_refl _⟩, ⟨by (with_reducible repeat (first | apply Kd.R_alloc | apply Kd.R_drewN | apply Kd.R_drew)); exact Kd.R_mono (Kd.R_far (p := ⟨gb150, 2, none⟩) (Kd.R_far (p := ⟨gb150, 1, none⟩) (Kd.R_far (p := ⟨gb150, 0, none⟩) (Kd.R_types HO_4.out BK150.out (by decide)) (fun _ hk => hk.2) (.bool true)) (fun _ hk => hk.2) (.int .u64 0)) (fun _ hk => hk.2) (.int .u64 0)) (fun _ hk => trivial)⟩, ⟨by (with_reducible repeat (first | refine blk_drewN ?_ _ | refine blk_drew ?_ | refine blk_alloc ?_ _)); refine blk_far ?_ NB144_150.out _; (with_reducible repeat (first | refine blk_drewN ?_ _ | refine blk_drew ?_ | refine blk_alloc ?_ _)); refine blk_far ?_ NB144_150.out _; (with_reducible repeat (first | refine blk_drewN ?_ _ | refine blk_drew ?_ | refine blk_alloc ?_ _)); refine blk_far ?_ NB144_150.out _; (with_reducible repeat (first | refine blk_drewN ?_ _ | refine blk_drew ?_ | refine blk_alloc ?_ _)); exact BK144.out⟩, ⟨by (with_reducible repeat (first | refine blk_drewN ?_ _ | refine blk_drew ?_ | refine blk_alloc ?_ _)); refine blk_put (cs := #[.bool true, .int .u64 0, .int .u64 0]) ?_ 2 _ rfl; (with_reducible repeat (first | refine blk_drewN ?_ _ | refine blk_drew ?_ | refine blk_alloc ?_ _)); refine blk_put (cs := #[.bool true, .int .u64 0, .int .u64 0]) ?_ 1 _ rfl; (with_reducible repeat (first | refine blk_drewN ?_ _ | refine blk_drew ?_ | refine blk_alloc ?_ _)); refine blk_put (cs := #[.bool false, .int .u64 0, .int .u64 0]) ?_ 0 _ rfl; (with_reducible repeat (first | refine blk_drewN ?_ _ | refine blk_drew ?_ | refine blk_alloc ?_ _)); exact BK150.out⟩, ⟨pE HB⟩⟩
             case round =>
              clear H'
              try clear c14
              try clear c54
              try clear hcz58_0 hcz58_1 hcz58_2
              try clear hfz58_0 hfz58_1 hfz58_2
              obtain ⟨x12_6, x151001_6, x151002_6, rfl, HA, HK6, HO_4, BK144, BK150, HB⟩ := hrel
              cases gk with
              | zero => exact absurd HA.out (by simp [ddiref02_six.l2])
              | succ k6 =>
               have H := HA.out
               clear HA
               simp only [ddiref02_six.l2] at H
               by_cases c59 : x12_6 < 8
               ·
                rw [if_pos c59] at H
                have c59b0 := decide_eq_true c59
                clear c59
                have HC60 := Aside0.mk H
                clear H
                go_upto_region 33 with (fail)
                go_cut [129] (fun v129 wc => ∃ (kq : Nat) (x129_59 : Bool), v129 = .bool x129_59 ∧ Aside0 (ddiref02_six.j11 kq x4_4 x5_4 x12_6 0 x129_59 true x151001_6 x151002_6 = some (r1, r2, r3, r4)) ∧ Aside0 (kq ≤ k6) ∧ Aside0 (Kd.R (Kd.int .u64) 22 wc w.heap.size (fun _ => True) u4 x4_4) ∧ Aside0 (wc.heap[gb144]? = some (.cells #[.bool x145000_4, .int .u64 x145001_4, .int .u64 x145002_4] 24 (0, 0))) ∧ Aside0 (wc.heap[gb150]? = some (.cells #[.bool true, .int .u64 x151001_6, .int .u64 x151002_6] 24 (0, 0))) ∧ Aside0 (Below w.heap.size w wc))
                case first =>
                 have H := HC60.out
                 clear HC60
                 by_cases c61 : x5_4 < 0
                 ·
                  rw [if_pos c61] at H
                  have c61b0 := decide_eq_true c61
                  clear c61
                  (first | rw [c61b0] | (simp only [i64_w, i32_w]; rw [c61b0]) | skip)
                  have H' := Aside0.mk H
                  clear H
                  go_wp2
                  refine Met.intro ?_
                  go_step
                  (repeat apply Exists.intro)
                  refine ⟨?rel, ?heq_⟩
                  case heq_ => first | rfl | (rw [c61b0]) | (simp only [c61b0])
                  case rel => exact ⟨_, (true), pT, H', ⟨by have := HJ1.out; have := HJ9.out; have := HJ11.out; have := HK4.out; have := HJ44.out; have := HK6.out; first | omega | exact Nat.le_refl _⟩, ⟨by (with_reducible repeat (first | apply Kd.R_alloc | apply Kd.R_drewN | apply Kd.R_drew)); exact HO_4.out⟩, ⟨pM BK144⟩, ⟨pM BK150⟩, ⟨pE HB⟩⟩
                 ·
                  rw [if_neg c61] at H
                  have c61b0 := decide_eq_false c61
                  clear c61
                  (first | rw [c61b0] | (simp only [i64_w, i32_w]; rw [c61b0]) | skip)
                  have H' := Aside0.mk H
                  clear H
                  go_wp2
                  refine Met.intro ?_
                  go_step
                  (repeat apply Exists.intro)
                  refine ⟨?rel, ?heq_⟩
                  case heq_ => first | rfl | (rw [c61b0]) | (simp only [c61b0])
                  case rel => exact ⟨_, (decide (x12_6 < x5_4)), pT, H', ⟨by have := HJ1.out; have := HJ9.out; have := HJ11.out; have := HK4.out; have := HJ44.out; have := HK6.out; first | omega | exact Nat.le_refl _⟩, ⟨by (with_reducible repeat (first | apply Kd.R_alloc | apply Kd.R_drewN | apply Kd.R_drew)); exact HO_4.out⟩, ⟨pM BK144⟩, ⟨pM BK150⟩, ⟨pE HB⟩⟩
                case rest =>
                 clear HC60
                 try clear c14
                 try clear c54
                 try clear c59
                 try clear c59b0
                 try clear hcz58_0 hcz58_1 hcz58_2
                 try clear hfz58_0 hfz58_1 hfz58_2
                 obtain ⟨kq, x129_59, rfl, HA, HJ59, HO_4, BK144, BK150, HB⟩ := hcut
                 cases kq with
                 | zero => exact absurd HA.out (by simp [ddiref02_six.j11])
                 | succ kj59 =>
                  have H := HA.out
                  clear HA
                  simp only [ddiref02_six.j11] at H
                  by_cases c62 : x129_59 = true
                  ·
                   subst c62
                   have H1 : (if 0 ≤ x12_6 then (if x12_6 < (x4_4.length : Int) then (if x12_6 < 4 then (ddiref02_six.l2 kj59 x4_4 x5_4 (wrap64 (x12_6 + 1)) true (IntKind.u64.wrap ((IntKind.u64.wrap (x151001_6 * 65536)) + (rd x4_4 x12_6))) x151002_6) else (ddiref02_six.l2 kj59 x4_4 x5_4 (wrap64 (x12_6 + 1)) true x151001_6 (IntKind.u64.wrap ((IntKind.u64.wrap (x151002_6 * 65536)) + (rd x4_4 x12_6))))) else (none)) else (none)) = some (r1, r2, r3, r4) := by rw [if_pos rfl] at H; exact H
                   clear H
                   have H := H1
                   clear H1
                   by_cases c63 : 0 ≤ x12_6
                   ·
                    rw [if_pos c63] at H
                    have c63b0 := decide_eq_true c63
                    clear c63
                    by_cases c64 : x12_6 < (x4_4.length : Int)
                    ·
                     rw [if_pos c64] at H
                     have c64b0 := decide_eq_true c64
                     clear c64
                     by_cases c65 : x12_6 < 4
                     ·
                      rw [if_pos c65] at H
                      have c65b0 := decide_eq_true c65
                      clear c65
                      have H' := Aside0.mk H
                      clear H
                      obtain ⟨Ao66, co66, eo66⟩ := Kd.R_slice HO_4.out
                      subst eo66
                      have p151 : 0 ≤ (x12_6 : Int) := of_decide_eq_true (by first | (with_reducible assumption) | assumption)
                      have q151 : x12_6 < (x4_4.length : Int) := of_decide_eq_true (by first | (with_reducible assumption) | assumption)
                      obtain ⟨ad151, e151, hx151_0⟩ := Kd.at_int (Kd.R_reads' HO_4.out).2.2 x12_6 p151 q151
                      cases e151
                      replace p151 := eq_true p151
                      replace q151 := eq_true q151
                      have hnb67 := NB150_144.out
                      have hnc67 := NB144_150.out
                      obtain ⟨hcz68_0, hcz68_1, hcz68_2, hfz68_0, hfz68_1, hfz68_2⟩ := pC3 BK150
                      go_wp2
                      go_roundg kj59
                      case measure => have := HJ1.out; have := HJ9.out; have := HJ11.out; have := HK4.out; have := HJ44.out; have := HK6.out; have := HJ59.out; omega
                      case rel => exact ⟨(wrap64 (x12_6 + 1)), (IntKind.u64.wrap ((IntKind.u64.wrap (x151001_6 * 65536)) + (rd x4_4 x12_6))), (x151002_6), pT, H', ⟨by have := HJ1.out; have := HJ9.out; have := HJ11.out; have := HK4.out; have := HJ44.out; have := HK6.out; have := HJ59.out; omega⟩, ⟨by (with_reducible repeat (first | apply Kd.R_alloc | apply Kd.R_drewN | apply Kd.R_drew)); exact Kd.R_mono (Kd.R_far (p := ⟨gb150, 1, none⟩) (Kd.R_types HO_4.out BK150.out (by decide)) (fun _ hk => hk.2) (.int .u64 (IntKind.u64.wrap ((IntKind.u64.wrap (x151001_6 * 65536)) + (rd x4_4 x12_6))))) (fun _ hk => trivial)⟩, ⟨by (with_reducible repeat (first | refine blk_drewN ?_ _ | refine blk_drew ?_ | refine blk_alloc ?_ _)); refine blk_far ?_ NB144_150.out _; (with_reducible repeat (first | refine blk_drewN ?_ _ | refine blk_drew ?_ | refine blk_alloc ?_ _)); exact BK144.out⟩, ⟨by (with_reducible repeat (first | refine blk_drewN ?_ _ | refine blk_drew ?_ | refine blk_alloc ?_ _)); refine blk_put (cs := #[.bool true, .int .u64 x151001_6, .int .u64 x151002_6]) ?_ 1 _ rfl; (with_reducible repeat (first | refine blk_drewN ?_ _ | refine blk_drew ?_ | refine blk_alloc ?_ _)); exact BK150.out⟩, ⟨pE HB⟩⟩
                     ·
                      rw [if_neg c65] at H
                      have c65b0 := decide_eq_false c65
                      clear c65
                      have H' := Aside0.mk H
                      clear H
                      obtain ⟨Ao69, co69, eo69⟩ := Kd.R_slice HO_4.out
                      subst eo69
                      have p151 : 0 ≤ (x12_6 : Int) := of_decide_eq_true (by first | (with_reducible assumption) | assumption)
                      have q151 : x12_6 < (x4_4.length : Int) := of_decide_eq_true (by first | (with_reducible assumption) | assumption)
                      obtain ⟨ad151, e151, hx151_0⟩ := Kd.at_int (Kd.R_reads' HO_4.out).2.2 x12_6 p151 q151
                      cases e151
                      replace p151 := eq_true p151
                      replace q151 := eq_true q151
                      have hnb70 := NB150_144.out
                      have hnc70 := NB144_150.out
                      obtain ⟨hcz71_0, hcz71_1, hcz71_2, hfz71_0, hfz71_1, hfz71_2⟩ := pC3 BK150
                      go_wp2
                      go_roundg kj59
                      case measure => have := HJ1.out; have := HJ9.out; have := HJ11.out; have := HK4.out; have := HJ44.out; have := HK6.out; have := HJ59.out; omega
                      case rel => exact ⟨(wrap64 (x12_6 + 1)), (x151001_6), (IntKind.u64.wrap ((IntKind.u64.wrap (x151002_6 * 65536)) + (rd x4_4 x12_6))), pT, H', ⟨by have := HJ1.out; have := HJ9.out; have := HJ11.out; have := HK4.out; have := HJ44.out; have := HK6.out; have := HJ59.out; omega⟩, ⟨by (with_reducible repeat (first | apply Kd.R_alloc | apply Kd.R_drewN | apply Kd.R_drew)); exact Kd.R_mono (Kd.R_far (p := ⟨gb150, 2, none⟩) (Kd.R_types HO_4.out BK150.out (by decide)) (fun _ hk => hk.2) (.int .u64 (IntKind.u64.wrap ((IntKind.u64.wrap (x151002_6 * 65536)) + (rd x4_4 x12_6))))) (fun _ hk => trivial)⟩, ⟨by (with_reducible repeat (first | refine blk_drewN ?_ _ | refine blk_drew ?_ | refine blk_alloc ?_ _)); refine blk_far ?_ NB144_150.out _; (with_reducible repeat (first | refine blk_drewN ?_ _ | refine blk_drew ?_ | refine blk_alloc ?_ _)); exact BK144.out⟩, ⟨by (with_reducible repeat (first | refine blk_drewN ?_ _ | refine blk_drew ?_ | refine blk_alloc ?_ _)); refine blk_put (cs := #[.bool true, .int .u64 x151001_6, .int .u64 x151002_6]) ?_ 2 _ rfl; (with_reducible repeat (first | refine blk_drewN ?_ _ | refine blk_drew ?_ | refine blk_alloc ?_ _)); exact BK150.out⟩, ⟨pE HB⟩⟩
                    ·
                     rw [if_neg c64] at H
                     exact absurd H (by simp)
                   ·
                    rw [if_neg c63] at H
                    exact absurd H (by simp)
                  ·
                   replace c62 := Bool.eq_false_iff.mpr c62
                   subst c62
                   rw [if_neg (show ¬ (false = true) by decide)] at H
                   by_cases c72 : x12_6 ≥ (wrap64 (8 - (wrap64 ((x4_4.length : Int) - x5_4))))
                   ·
                    rw [if_pos c72] at H
                    have c72b0 := decide_eq_true c72
                    clear c72
                    obtain ⟨ji73, hji73⟩ : ∃ j_ : Int, (wrap64 (x12_6 - (wrap64 (8 - (x4_4.length : Int))))) = j_ := ⟨_, rfl⟩
                    replace H : (if 0 ≤ (ji73) then (if (ji73) < (x4_4.length : Int) then (if x12_6 < 4 then (ddiref02_six.l2 kj59 x4_4 x5_4 (wrap64 (x12_6 + 1)) true (IntKind.u64.wrap ((IntKind.u64.wrap (x151001_6 * 65536)) + (rd x4_4 (ji73)))) x151002_6) else (ddiref02_six.l2 kj59 x4_4 x5_4 (wrap64 (x12_6 + 1)) true x151001_6 (IntKind.u64.wrap ((IntKind.u64.wrap (x151002_6 * 65536)) + (rd x4_4 (ji73)))))) else (none)) else (none)) = some (r1, r2, r3, r4) := by first | (rw [hji73] at H; exact H) | (simp only [hji73] at H ⊢; exact H)
                    have hji73w : (IntKind.i64.wrap (x12_6 - (wrap64 (8 - (x4_4.length : Int))))) = ji73 := (i64_w _).trans hji73
                    by_cases c74 : 0 ≤ (ji73)
                    ·
                     rw [if_pos c74] at H
                     have c74b0 := decide_eq_true c74
                     clear c74
                     by_cases c75 : (ji73) < (x4_4.length : Int)
                     ·
                      rw [if_pos c75] at H
                      have c75b0 := decide_eq_true c75
                      clear c75
                      by_cases c76 : x12_6 < 4
                      ·
                       rw [if_pos c76] at H
                       have c76b0 := decide_eq_true c76
                       clear c76
                       have H' := Aside0.mk H
                       clear H
                       obtain ⟨Ao77, co77, eo77⟩ := Kd.R_slice HO_4.out
                       subst eo77
                       have p152 : 0 ≤ ((ji73) : Int) := of_decide_eq_true (by first | (with_reducible assumption) | assumption)
                       have q152 : (ji73) < (x4_4.length : Int) := of_decide_eq_true (by first | (with_reducible assumption) | assumption)
                       obtain ⟨ad152, e152, hx152_0⟩ := Kd.at_int (Kd.R_reads' HO_4.out).2.2 (ji73) p152 q152
                       cases e152
                       replace p152 := eq_true p152
                       replace q152 := eq_true q152
                       have hnb78 := NB150_144.out
                       have hnc78 := NB144_150.out
                       obtain ⟨hcz79_0, hcz79_1, hcz79_2, hfz79_0, hfz79_1, hfz79_2⟩ := pC3 BK150
                       go_wp2
                       go_roundg kj59
                       case measure => have := HJ1.out; have := HJ9.out; have := HJ11.out; have := HK4.out; have := HJ44.out; have := HK6.out; have := HJ59.out; omega
                       case rel => exact ⟨(wrap64 (x12_6 + 1)), (IntKind.u64.wrap ((IntKind.u64.wrap (x151001_6 * 65536)) + (rd x4_4 (ji73)))), (x151002_6), pT, (by first | exact H' | (simp only [hji73]; exact H') | (simp only [hji73] at H' ⊢; exact H')), ⟨by have := HJ1.out; have := HJ9.out; have := HJ11.out; have := HK4.out; have := HJ44.out; have := HK6.out; have := HJ59.out; omega⟩, ⟨by (with_reducible repeat (first | apply Kd.R_alloc | apply Kd.R_drewN | apply Kd.R_drew)); exact Kd.R_mono (Kd.R_far (p := ⟨gb150, 1, none⟩) (Kd.R_types HO_4.out BK150.out (by decide)) (fun _ hk => hk.2) (.int .u64 (IntKind.u64.wrap ((IntKind.u64.wrap (x151001_6 * 65536)) + (rd x4_4 (ji73)))))) (fun _ hk => trivial)⟩, ⟨by (with_reducible repeat (first | refine blk_drewN ?_ _ | refine blk_drew ?_ | refine blk_alloc ?_ _)); refine blk_far ?_ NB144_150.out _; (with_reducible repeat (first | refine blk_drewN ?_ _ | refine blk_drew ?_ | refine blk_alloc ?_ _)); exact BK144.out⟩, ⟨by (with_reducible repeat (first | refine blk_drewN ?_ _ | refine blk_drew ?_ | refine blk_alloc ?_ _)); refine blk_put (cs := #[.bool true, .int .u64 x151001_6, .int .u64 x151002_6]) ?_ 1 _ rfl; (with_reducible repeat (first | refine blk_drewN ?_ _ | refine blk_drew ?_ | refine blk_alloc ?_ _)); exact BK150.out⟩, ⟨pE HB⟩⟩
                      ·
                       rw [if_neg c76] at H
                       have c76b0 := decide_eq_false c76
                       clear c76
                       have H' := Aside0.mk H
                       clear H
                       obtain ⟨Ao80, co80, eo80⟩ := Kd.R_slice HO_4.out
                       subst eo80
                       have p152 : 0 ≤ ((ji73) : Int) := of_decide_eq_true (by first | (with_reducible assumption) | assumption)
                       have q152 : (ji73) < (x4_4.length : Int) := of_decide_eq_true (by first | (with_reducible assumption) | assumption)
                       obtain ⟨ad152, e152, hx152_0⟩ := Kd.at_int (Kd.R_reads' HO_4.out).2.2 (ji73) p152 q152
                       cases e152
                       replace p152 := eq_true p152
                       replace q152 := eq_true q152
                       have hnb81 := NB150_144.out
                       have hnc81 := NB144_150.out
                       obtain ⟨hcz82_0, hcz82_1, hcz82_2, hfz82_0, hfz82_1, hfz82_2⟩ := pC3 BK150
                       go_wp2
                       go_roundg kj59
                       case measure => have := HJ1.out; have := HJ9.out; have := HJ11.out; have := HK4.out; have := HJ44.out; have := HK6.out; have := HJ59.out; omega
                       case rel => exact ⟨(wrap64 (x12_6 + 1)), (x151001_6), (IntKind.u64.wrap ((IntKind.u64.wrap (x151002_6 * 65536)) + (rd x4_4 (ji73)))), pT, (by first | exact H' | (simp only [hji73]; exact H') | (simp only [hji73] at H' ⊢; exact H')), ⟨by have := HJ1.out; have := HJ9.out; have := HJ11.out; have := HK4.out; have := HJ44.out; have := HK6.out; have := HJ59.out; omega⟩, ⟨by (with_reducible repeat (first | apply Kd.R_alloc | apply Kd.R_drewN | apply Kd.R_drew)); exact Kd.R_mono (Kd.R_far (p := ⟨gb150, 2, none⟩) (Kd.R_types HO_4.out BK150.out (by decide)) (fun _ hk => hk.2) (.int .u64 (IntKind.u64.wrap ((IntKind.u64.wrap (x151002_6 * 65536)) + (rd x4_4 (ji73)))))) (fun _ hk => trivial)⟩, ⟨by (with_reducible repeat (first | refine blk_drewN ?_ _ | refine blk_drew ?_ | refine blk_alloc ?_ _)); refine blk_far ?_ NB144_150.out _; (with_reducible repeat (first | refine blk_drewN ?_ _ | refine blk_drew ?_ | refine blk_alloc ?_ _)); exact BK144.out⟩, ⟨by (with_reducible repeat (first | refine blk_drewN ?_ _ | refine blk_drew ?_ | refine blk_alloc ?_ _)); refine blk_put (cs := #[.bool true, .int .u64 x151001_6, .int .u64 x151002_6]) ?_ 2 _ rfl; (with_reducible repeat (first | refine blk_drewN ?_ _ | refine blk_drew ?_ | refine blk_alloc ?_ _)); exact BK150.out⟩, ⟨pE HB⟩⟩
                     ·
                      rw [if_neg c75] at H
                      exact absurd H (by simp)
                    ·
                     rw [if_neg c74] at H
                     exact absurd H (by simp)
                   ·
                    rw [if_neg c72] at H
                    have c72b0 := decide_eq_false c72
                    clear c72
                    by_cases c83 : x12_6 < 4
                    ·
                     rw [if_pos c83] at H
                     have c83b0 := decide_eq_true c83
                     clear c83
                     have H' := Aside0.mk H
                     clear H
                     obtain ⟨Ao84, co84, eo84⟩ := Kd.R_slice HO_4.out
                     subst eo84
                     have hnb85 := NB150_144.out
                     have hnc85 := NB144_150.out
                     obtain ⟨hcz86_0, hcz86_1, hcz86_2, hfz86_0, hfz86_1, hfz86_2⟩ := pC3 BK150
                     go_wp2
                     go_roundg kj59
                     case measure => have := HJ1.out; have := HJ9.out; have := HJ11.out; have := HK4.out; have := HJ44.out; have := HK6.out; have := HJ59.out; omega
                     case rel => exact ⟨(wrap64 (x12_6 + 1)), (IntKind.u64.wrap (IntKind.u64.wrap (x151001_6 * 65536))), (x151002_6), pT, (by first | (simp only [Int.add_zero] at H'; exact H') | exact H'), ⟨by have := HJ1.out; have := HJ9.out; have := HJ11.out; have := HK4.out; have := HJ44.out; have := HK6.out; have := HJ59.out; omega⟩, ⟨by (with_reducible repeat (first | apply Kd.R_alloc | apply Kd.R_drewN | apply Kd.R_drew)); exact Kd.R_mono (Kd.R_far (p := ⟨gb150, 1, none⟩) (Kd.R_types HO_4.out BK150.out (by decide)) (fun _ hk => hk.2) (.int .u64 (IntKind.u64.wrap (IntKind.u64.wrap (x151001_6 * 65536))))) (fun _ hk => trivial)⟩, ⟨by (with_reducible repeat (first | refine blk_drewN ?_ _ | refine blk_drew ?_ | refine blk_alloc ?_ _)); refine blk_far ?_ NB144_150.out _; (with_reducible repeat (first | refine blk_drewN ?_ _ | refine blk_drew ?_ | refine blk_alloc ?_ _)); exact BK144.out⟩, ⟨by (with_reducible repeat (first | refine blk_drewN ?_ _ | refine blk_drew ?_ | refine blk_alloc ?_ _)); refine blk_put (cs := #[.bool true, .int .u64 x151001_6, .int .u64 x151002_6]) ?_ 1 _ rfl; (with_reducible repeat (first | refine blk_drewN ?_ _ | refine blk_drew ?_ | refine blk_alloc ?_ _)); exact BK150.out⟩, ⟨pE HB⟩⟩
                    ·
                     rw [if_neg c83] at H
                     have c83b0 := decide_eq_false c83
                     clear c83
                     have H' := Aside0.mk H
                     clear H
                     obtain ⟨Ao87, co87, eo87⟩ := Kd.R_slice HO_4.out
                     subst eo87
                     have hnb88 := NB150_144.out
                     have hnc88 := NB144_150.out
                     obtain ⟨hcz89_0, hcz89_1, hcz89_2, hfz89_0, hfz89_1, hfz89_2⟩ := pC3 BK150
                     go_wp2
                     go_roundg kj59
                     case measure => have := HJ1.out; have := HJ9.out; have := HJ11.out; have := HK4.out; have := HJ44.out; have := HK6.out; have := HJ59.out; omega
                     case rel => exact ⟨(wrap64 (x12_6 + 1)), (x151001_6), (IntKind.u64.wrap (IntKind.u64.wrap (x151002_6 * 65536))), pT, (by first | (simp only [Int.add_zero] at H'; exact H') | exact H'), ⟨by have := HJ1.out; have := HJ9.out; have := HJ11.out; have := HK4.out; have := HJ44.out; have := HK6.out; have := HJ59.out; omega⟩, ⟨by (with_reducible repeat (first | apply Kd.R_alloc | apply Kd.R_drewN | apply Kd.R_drew)); exact Kd.R_mono (Kd.R_far (p := ⟨gb150, 2, none⟩) (Kd.R_types HO_4.out BK150.out (by decide)) (fun _ hk => hk.2) (.int .u64 (IntKind.u64.wrap (IntKind.u64.wrap (x151002_6 * 65536))))) (fun _ hk => trivial)⟩, ⟨by (with_reducible repeat (first | refine blk_drewN ?_ _ | refine blk_drew ?_ | refine blk_alloc ?_ _)); refine blk_far ?_ NB144_150.out _; (with_reducible repeat (first | refine blk_drewN ?_ _ | refine blk_drew ?_ | refine blk_alloc ?_ _)); exact BK144.out⟩, ⟨by (with_reducible repeat (first | refine blk_drewN ?_ _ | refine blk_drew ?_ | refine blk_alloc ?_ _)); refine blk_put (cs := #[.bool true, .int .u64 x151001_6, .int .u64 x151002_6]) ?_ 2 _ rfl; (with_reducible repeat (first | refine blk_drewN ?_ _ | refine blk_drew ?_ | refine blk_alloc ?_ _)); exact BK150.out⟩, ⟨pE HB⟩⟩
               ·
                rw [if_neg c59] at H
                have c59b0 := decide_eq_false c59
                clear c59
                simp only [Option.some.injEq, Prod.mk.injEq] at H
                obtain ⟨rfl, rfl, rfl, rfl⟩ := H
                have hnb90 := NB150_144.out
                have hnc90 := NB144_150.out
                obtain ⟨hcz91_0, hcz91_1, hcz91_2, hfz91_0, hfz91_1, hfz91_2⟩ := pC3 BK150
                obtain ⟨hcz92_0, hcz92_1, hcz92_2, hfz92_0, hfz92_1, hfz92_2⟩ := pC3 BK144
                go_wp2
                refine bodyPost_ret (results_ct rfl _ _ gb144 24 #[.bool true, .int .u64 x151001_6, .int .u64 x151002_6] (0, 0) _ rfl (pP (pP (pP (pM BK144)))) Tryz.underlying24 rfl (by kernel_rfl)) rfl ?_
                exact pR (pE HB)
end Go.Proofs.YteflcmmandlknaaGreatDoor.PA
