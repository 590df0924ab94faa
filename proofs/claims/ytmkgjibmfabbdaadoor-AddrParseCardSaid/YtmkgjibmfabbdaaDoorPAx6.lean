/- The Go functions in Lean, with the proofs that the code comes to these answers: printed by this session's program (wip/px) out of the seat's translation. Conditions: each theorem's own. -/
import Derived.Test.YtmkgjibmfabbdaaDoorPAx0
import Derived.Test.YtmkgjibmfabbdaaDoorPAx5
namespace Go.Proofs.YtmkgjibmfabbdaaDoor.PA
open Go.RowKit Go.Proofs.YtmkgjibmfabbdaaDoorW.PrintWords Go.Proofs.YtmkgjibmfabbdaaDoorW.PrintLast Go.Proofs.YtmkgjibmfabbdaaDoorW.PrintMore
attribute [local go_sem] max2_int min2_int max_two min_two max_three min_three max_four min_four   -- for this text's walks alone
attribute [local go_sem ↓] Ext.isSome_setCell
set_option linter.unusedVariables false
set_option linter.unusedSimpArgs false

/-! ### ddiref02_six: function 22 -/
mutual
def ddiref02_six.j0 : Nat → ByteArray → List Int → Int → Int → Bool → Option (Bool × Int × Int × Int)
  | 0, _, _, _, _, _ => none
  | k + 1, x0, x4, x5, x6, x26 => if x26 = true then (ddiref02_six.j1 k x0 x4 0 2) else (ddiref02_six.j1 k x0 x4 x5 x6)
def ddiref02_six.j1 : Nat → ByteArray → List Int → Int → Int → Option (Bool × Int × Int × Int)
  | 0, _, _, _, _ => none
  | k + 1, x0, x4, x5, x6 => if x6 < (x0.size : Int) then (ddiref02_six.j2 k x0 x4 x5 x6 true) else (ddiref02_six.j2 k x0 x4 x5 x6 (decide (x5 < 0)))
def ddiref02_six.j2 : Nat → ByteArray → List Int → Int → Int → Bool → Option (Bool × Int × Int × Int)
  | 0, _, _, _, _, _ => none
  | k + 1, x0, x4, x5, x6, x7 => ddiref02_six.l0 k x0 x4 x5 x6 x7
def ddiref02_six.l0 : Nat → ByteArray → List Int → Int → Int → Bool → Option (Bool × Int × Int × Int)
  | 0, _, _, _, _, _ => none
  | k + 1, x0, x4, x5, x6, x7 => if x7 = true then (ddiref02_six.l1 k x0 x4 x5 x6 x6) else (if x5 < 0 then (if (x4.length : Int) = 8 then (if x5 ≥ 0 then (ddiref02_six.j9 k x4 x5 (decide ((x4.length : Int) > 7))) else (ddiref02_six.j9 k x4 x5 false)) else (ddiref02_six.j9 k x4 x5 true)) else (if x5 ≥ 0 then (ddiref02_six.j9 k x4 x5 (decide ((x4.length : Int) > 7))) else (ddiref02_six.j9 k x4 x5 false)))
def ddiref02_six.j5 : Nat → ByteArray → List Int → Int → Int → Int → Option (Bool × Int × Int × Int)
  | 0, _, _, _, _, _ => none
  | k + 1, x0, x4, x5, x6, x8 => if 0 ≤ x6 then (if x6 ≤ x8 then (if x8 ≤ (x0.size : Int) then ((ddiref02_group.f k (x0.extract (x6 : Int).toNat (x8 : Int).toNat)).bind fun bt133 => (if bt133.2 = true then (ddiref02_six.j6 k x0 x4 x5 x8 bt133.1 ((x4.length : Int) == 8)) else (ddiref02_six.j6 k x0 x4 x5 x8 bt133.1 true))) else (none)) else (none)) else (none)
def ddiref02_six.j6 : Nat → ByteArray → List Int → Int → Int → Int → Bool → Option (Bool × Int × Int × Int)
  | 0, _, _, _, _, _, _ => none
  | k + 1, x0, x4, x5, x8, x9, x63 => if x63 = true then (some (false, 0, 0, 3)) else (if x4.length < 17592186044416 then ((some (x4 ++ [x9] : List Int)).bind fun y135 => (if x8 < (x0.size : Int) then (ddiref02_six.j7 k x0 y135 x5 (wrap64 (x8 + 1)) (decide (x8 < (x0.size : Int))) ((wrap64 (x8 + 1)) == (x0.size : Int))) else (ddiref02_six.j7 k x0 y135 x5 (wrap64 (x8 + 1)) (decide (x8 < (x0.size : Int))) false))) else (none))
def ddiref02_six.j7 : Nat → ByteArray → List Int → Int → Int → Bool → Bool → Option (Bool × Int × Int × Int)
  | 0, _, _, _, _, _, _ => none
  | k + 1, x0, x4, x5, x6, x7, x81 => if x81 = true then (some (false, 0, 0, 3)) else (if x7 = true then (if 0 ≤ x6 then (if x6 < (x0.size : Int) then (ddiref02_six.j8 k x0 x4 x5 x6 x7 ((bt x0 x6) == 58)) else (none)) else (none)) else (ddiref02_six.j8 k x0 x4 x5 x6 x7 false))
def ddiref02_six.j8 : Nat → ByteArray → List Int → Int → Int → Bool → Bool → Option (Bool × Int × Int × Int)
  | 0, _, _, _, _, _, _ => none
  | k + 1, x0, x4, x5, x6, x7, x89 => if x89 = true then (if x5 ≥ 0 then (some (false, 0, 0, 3)) else (ddiref02_six.l0 k x0 x4 (x4.length : Int) (wrap64 (x6 + 1)) (decide ((wrap64 (x6 + 1)) < (x0.size : Int))))) else (ddiref02_six.l0 k x0 x4 x5 x6 x7)
def ddiref02_six.l1 : Nat → ByteArray → List Int → Int → Int → Int → Option (Bool × Int × Int × Int)
  | 0, _, _, _, _, _ => none
  | k + 1, x0, x4, x5, x6, x8 => if x8 < (x0.size : Int) then (if 0 ≤ x8 then (if (bt x0 x8) = 58 then (ddiref02_six.j5 k x0 x4 x5 x6 x8) else (ddiref02_six.l1 k x0 x4 x5 x6 (wrap64 (x8 + 1)))) else (none)) else (ddiref02_six.j5 k x0 x4 x5 x6 x8)
def ddiref02_six.j9 : Nat → List Int → Int → Bool → Option (Bool × Int × Int × Int)
  | 0, _, _, _ => none
  | k + 1, x4, x5, x116 => if x116 = true then (some (false, 0, 0, 3)) else (ddiref02_six.l2 k x4 x5 0 true 0 0)
def ddiref02_six.l2 : Nat → List Int → Int → Int → Bool → Int → Int → Option (Bool × Int × Int × Int)
  | 0, _, _, _, _, _, _ => none
  | k + 1, x4, x5, x12, x139000, x139001, x139002 => if x12 < 8 then (if x5 < 0 then (ddiref02_six.j11 k x4 x5 x12 0 true x139000 x139001 x139002) else (ddiref02_six.j11 k x4 x5 x12 0 (decide (x12 < x5)) x139000 x139001 x139002)) else (some (x139000, x139001, x139002, 0))
def ddiref02_six.j11 : Nat → List Int → Int → Int → Int → Bool → Bool → Int → Int → Option (Bool × Int × Int × Int)
  | 0, _, _, _, _, _, _, _, _ => none
  | k + 1, x4, x5, x12, x13, x129, x139000, x139001, x139002 => if x129 = true then (if 0 ≤ x12 then (if x12 < (x4.length : Int) then (if x12 < 4 then (ddiref02_six.l2 k x4 x5 (wrap64 (x12 + 1)) x139000 (IntKind.u64.wrap ((IntKind.u64.wrap (x139001 * 65536)) + (rd x4 x12))) x139002) else (ddiref02_six.l2 k x4 x5 (wrap64 (x12 + 1)) x139000 x139001 (IntKind.u64.wrap ((IntKind.u64.wrap (x139002 * 65536)) + (rd x4 x12))))) else (none)) else (none)) else (if x12 ≥ (wrap64 (8 - (wrap64 ((x4.length : Int) - x5)))) then (if 0 ≤ (wrap64 (x12 - (wrap64 (8 - (x4.length : Int))))) then (if (wrap64 (x12 - (wrap64 (8 - (x4.length : Int))))) < (x4.length : Int) then (if x12 < 4 then (ddiref02_six.l2 k x4 x5 (wrap64 (x12 + 1)) x139000 (IntKind.u64.wrap ((IntKind.u64.wrap (x139001 * 65536)) + (rd x4 (wrap64 (x12 - (wrap64 (8 - (x4.length : Int)))))))) x139002) else (ddiref02_six.l2 k x4 x5 (wrap64 (x12 + 1)) x139000 x139001 (IntKind.u64.wrap ((IntKind.u64.wrap (x139002 * 65536)) + (rd x4 (wrap64 (x12 - (wrap64 (8 - (x4.length : Int)))))))))) else (none)) else (none)) else (if x12 < 4 then (ddiref02_six.l2 k x4 x5 (wrap64 (x12 + 1)) x139000 (IntKind.u64.wrap ((IntKind.u64.wrap (x139001 * 65536)) + x13)) x139002) else (ddiref02_six.l2 k x4 x5 (wrap64 (x12 + 1)) x139000 x139001 (IntKind.u64.wrap ((IntKind.u64.wrap (x139002 * 65536)) + x13)))))
end
def ddiref02_six.f (k : Nat) (a0 : ByteArray) : Option (Bool × Int × Int × Int) := if (a0.size : Int) ≥ 2 then (if 0 < (a0.size : Int) then (if (bt a0 0) = 58 then (if 1 < (a0.size : Int) then (ddiref02_six.j0 k a0 ([] : List Int) (-1) 0 ((bt a0 1) == 58)) else (none)) else (ddiref02_six.j0 k a0 ([] : List Int) (-1) 0 false)) else (none)) else (ddiref02_six.j0 k a0 ([] : List Int) (-1) 0 false)
theorem ddiref02_six.mono_l : ∀ k, (∀ y0 y1 y2 y3 y4, LeO (ddiref02_six.j0 k y0 y1 y2 y3 y4) (ddiref02_six.j0 (k + 1) y0 y1 y2 y3 y4)) ∧ (∀ y0 y1 y2 y3, LeO (ddiref02_six.j1 k y0 y1 y2 y3) (ddiref02_six.j1 (k + 1) y0 y1 y2 y3)) ∧ (∀ y0 y1 y2 y3 y4, LeO (ddiref02_six.j2 k y0 y1 y2 y3 y4) (ddiref02_six.j2 (k + 1) y0 y1 y2 y3 y4)) ∧ (∀ y0 y1 y2 y3 y4, LeO (ddiref02_six.l0 k y0 y1 y2 y3 y4) (ddiref02_six.l0 (k + 1) y0 y1 y2 y3 y4)) ∧ (∀ y0 y1 y2 y3 y4, LeO (ddiref02_six.j5 k y0 y1 y2 y3 y4) (ddiref02_six.j5 (k + 1) y0 y1 y2 y3 y4)) ∧ (∀ y0 y1 y2 y3 y4 y5, LeO (ddiref02_six.j6 k y0 y1 y2 y3 y4 y5) (ddiref02_six.j6 (k + 1) y0 y1 y2 y3 y4 y5)) ∧ (∀ y0 y1 y2 y3 y4 y5, LeO (ddiref02_six.j7 k y0 y1 y2 y3 y4 y5) (ddiref02_six.j7 (k + 1) y0 y1 y2 y3 y4 y5)) ∧ (∀ y0 y1 y2 y3 y4 y5, LeO (ddiref02_six.j8 k y0 y1 y2 y3 y4 y5) (ddiref02_six.j8 (k + 1) y0 y1 y2 y3 y4 y5)) ∧ (∀ y0 y1 y2 y3 y4, LeO (ddiref02_six.l1 k y0 y1 y2 y3 y4) (ddiref02_six.l1 (k + 1) y0 y1 y2 y3 y4)) ∧ (∀ y0 y1 y2, LeO (ddiref02_six.j9 k y0 y1 y2) (ddiref02_six.j9 (k + 1) y0 y1 y2)) ∧ (∀ y0 y1 y2 y3 y4 y5, LeO (ddiref02_six.l2 k y0 y1 y2 y3 y4 y5) (ddiref02_six.l2 (k + 1) y0 y1 y2 y3 y4 y5)) ∧ (∀ y0 y1 y2 y3 y4 y5 y6 y7, LeO (ddiref02_six.j11 k y0 y1 y2 y3 y4 y5 y6 y7) (ddiref02_six.j11 (k + 1) y0 y1 y2 y3 y4 y5 y6 y7))
  | 0 => ⟨fun _ _ _ _ _ r h => by simp [ddiref02_six.j0] at h, fun _ _ _ _ r h => by simp [ddiref02_six.j1] at h, fun _ _ _ _ _ r h => by simp [ddiref02_six.j2] at h, fun _ _ _ _ _ r h => by simp [ddiref02_six.l0] at h, fun _ _ _ _ _ r h => by simp [ddiref02_six.j5] at h, fun _ _ _ _ _ _ r h => by simp [ddiref02_six.j6] at h, fun _ _ _ _ _ _ r h => by simp [ddiref02_six.j7] at h, fun _ _ _ _ _ _ r h => by simp [ddiref02_six.j8] at h, fun _ _ _ _ _ r h => by simp [ddiref02_six.l1] at h, fun _ _ _ r h => by simp [ddiref02_six.j9] at h, fun _ _ _ _ _ _ r h => by simp [ddiref02_six.l2] at h, fun _ _ _ _ _ _ _ _ r h => by simp [ddiref02_six.j11] at h⟩
  | k + 1 => by
    obtain ⟨ih0, ih1, ih2, ih3, ih4, ih5, ih6, ih7, ih8, ih9, ih10, ih11⟩ := ddiref02_six.mono_l k
    refine ⟨?_, ?_, ?_, ?_, ?_, ?_, ?_, ?_, ?_, ?_, ?_, ?_⟩
    · intro y0 y1 y2 y3 y4
      unfold ddiref02_six.j0
      repeat' first
      | (with_reducible exact ih0 _ _ _ _ _)
      | (with_reducible exact ih1 _ _ _ _)
      | (with_reducible exact ih2 _ _ _ _ _)
      | (with_reducible exact ih3 _ _ _ _ _)
      | (with_reducible exact ih4 _ _ _ _ _)
      | (with_reducible exact ih5 _ _ _ _ _ _)
      | (with_reducible exact ih6 _ _ _ _ _ _)
      | (with_reducible exact ih7 _ _ _ _ _ _)
      | (with_reducible exact ih8 _ _ _ _ _)
      | (with_reducible exact ih9 _ _ _)
      | (with_reducible exact ih10 _ _ _ _ _ _)
      | (with_reducible exact ih11 _ _ _ _ _ _ _ _)
      | (with_reducible exact ddiref02_group.mono _ _)
      | (with_reducible exact LeO.refl _)
      | (with_reducible exact LeO.none _)
      | (with_reducible refine LeO.ite ?_ ?_)
      | (with_reducible refine LeO.bind ?_ (fun _ => ?_))
      | exact ih0 _ _ _ _ _
      | exact ih1 _ _ _ _
      | exact ih2 _ _ _ _ _
      | exact ih3 _ _ _ _ _
      | exact ih4 _ _ _ _ _
      | exact ih5 _ _ _ _ _ _
      | exact ih6 _ _ _ _ _ _
      | exact ih7 _ _ _ _ _ _
      | exact ih8 _ _ _ _ _
      | exact ih9 _ _ _
      | exact ih10 _ _ _ _ _ _
      | exact ih11 _ _ _ _ _ _ _ _
      | exact ddiref02_group.mono _ _
      | exact LeO.none _
      | refine LeO.ite ?_ ?_
      | refine LeO.bind ?_ (fun _ => ?_)
    · intro y0 y1 y2 y3
      unfold ddiref02_six.j1
      repeat' first
      | (with_reducible exact ih0 _ _ _ _ _)
      | (with_reducible exact ih1 _ _ _ _)
      | (with_reducible exact ih2 _ _ _ _ _)
      | (with_reducible exact ih3 _ _ _ _ _)
      | (with_reducible exact ih4 _ _ _ _ _)
      | (with_reducible exact ih5 _ _ _ _ _ _)
      | (with_reducible exact ih6 _ _ _ _ _ _)
      | (with_reducible exact ih7 _ _ _ _ _ _)
      | (with_reducible exact ih8 _ _ _ _ _)
      | (with_reducible exact ih9 _ _ _)
      | (with_reducible exact ih10 _ _ _ _ _ _)
      | (with_reducible exact ih11 _ _ _ _ _ _ _ _)
      | (with_reducible exact ddiref02_group.mono _ _)
      | (with_reducible exact LeO.refl _)
      | (with_reducible exact LeO.none _)
      | (with_reducible refine LeO.ite ?_ ?_)
      | (with_reducible refine LeO.bind ?_ (fun _ => ?_))
      | exact ih0 _ _ _ _ _
      | exact ih1 _ _ _ _
      | exact ih2 _ _ _ _ _
      | exact ih3 _ _ _ _ _
      | exact ih4 _ _ _ _ _
      | exact ih5 _ _ _ _ _ _
      | exact ih6 _ _ _ _ _ _
      | exact ih7 _ _ _ _ _ _
      | exact ih8 _ _ _ _ _
      | exact ih9 _ _ _
      | exact ih10 _ _ _ _ _ _
      | exact ih11 _ _ _ _ _ _ _ _
      | exact ddiref02_group.mono _ _
      | exact LeO.none _
      | refine LeO.ite ?_ ?_
      | refine LeO.bind ?_ (fun _ => ?_)
    · intro y0 y1 y2 y3 y4
      unfold ddiref02_six.j2
      repeat' first
      | (with_reducible exact ih0 _ _ _ _ _)
      | (with_reducible exact ih1 _ _ _ _)
      | (with_reducible exact ih2 _ _ _ _ _)
      | (with_reducible exact ih3 _ _ _ _ _)
      | (with_reducible exact ih4 _ _ _ _ _)
      | (with_reducible exact ih5 _ _ _ _ _ _)
      | (with_reducible exact ih6 _ _ _ _ _ _)
      | (with_reducible exact ih7 _ _ _ _ _ _)
      | (with_reducible exact ih8 _ _ _ _ _)
      | (with_reducible exact ih9 _ _ _)
      | (with_reducible exact ih10 _ _ _ _ _ _)
      | (with_reducible exact ih11 _ _ _ _ _ _ _ _)
      | (with_reducible exact ddiref02_group.mono _ _)
      | (with_reducible exact LeO.refl _)
      | (with_reducible exact LeO.none _)
      | (with_reducible refine LeO.ite ?_ ?_)
      | (with_reducible refine LeO.bind ?_ (fun _ => ?_))
      | exact ih0 _ _ _ _ _
      | exact ih1 _ _ _ _
      | exact ih2 _ _ _ _ _
      | exact ih3 _ _ _ _ _
      | exact ih4 _ _ _ _ _
      | exact ih5 _ _ _ _ _ _
      | exact ih6 _ _ _ _ _ _
      | exact ih7 _ _ _ _ _ _
      | exact ih8 _ _ _ _ _
      | exact ih9 _ _ _
      | exact ih10 _ _ _ _ _ _
      | exact ih11 _ _ _ _ _ _ _ _
      | exact ddiref02_group.mono _ _
      | exact LeO.none _
      | refine LeO.ite ?_ ?_
      | refine LeO.bind ?_ (fun _ => ?_)
    · intro y0 y1 y2 y3 y4
      unfold ddiref02_six.l0
      repeat' first
      | (with_reducible exact ih0 _ _ _ _ _)
      | (with_reducible exact ih1 _ _ _ _)
      | (with_reducible exact ih2 _ _ _ _ _)
      | (with_reducible exact ih3 _ _ _ _ _)
      | (with_reducible exact ih4 _ _ _ _ _)
      | (with_reducible exact ih5 _ _ _ _ _ _)
      | (with_reducible exact ih6 _ _ _ _ _ _)
      | (with_reducible exact ih7 _ _ _ _ _ _)
      | (with_reducible exact ih8 _ _ _ _ _)
      | (with_reducible exact ih9 _ _ _)
      | (with_reducible exact ih10 _ _ _ _ _ _)
      | (with_reducible exact ih11 _ _ _ _ _ _ _ _)
      | (with_reducible exact ddiref02_group.mono _ _)
      | (with_reducible exact LeO.refl _)
      | (with_reducible exact LeO.none _)
      | (with_reducible refine LeO.ite ?_ ?_)
      | (with_reducible refine LeO.bind ?_ (fun _ => ?_))
      | exact ih0 _ _ _ _ _
      | exact ih1 _ _ _ _
      | exact ih2 _ _ _ _ _
      | exact ih3 _ _ _ _ _
      | exact ih4 _ _ _ _ _
      | exact ih5 _ _ _ _ _ _
      | exact ih6 _ _ _ _ _ _
      | exact ih7 _ _ _ _ _ _
      | exact ih8 _ _ _ _ _
      | exact ih9 _ _ _
      | exact ih10 _ _ _ _ _ _
      | exact ih11 _ _ _ _ _ _ _ _
      | exact ddiref02_group.mono _ _
      | exact LeO.none _
      | refine LeO.ite ?_ ?_
      | refine LeO.bind ?_ (fun _ => ?_)
    · intro y0 y1 y2 y3 y4
      unfold ddiref02_six.j5
      repeat' first
      | (with_reducible exact ih0 _ _ _ _ _)
      | (with_reducible exact ih1 _ _ _ _)
      | (with_reducible exact ih2 _ _ _ _ _)
      | (with_reducible exact ih3 _ _ _ _ _)
      | (with_reducible exact ih4 _ _ _ _ _)
      | (with_reducible exact ih5 _ _ _ _ _ _)
      | (with_reducible exact ih6 _ _ _ _ _ _)
      | (with_reducible exact ih7 _ _ _ _ _ _)
      | (with_reducible exact ih8 _ _ _ _ _)
      | (with_reducible exact ih9 _ _ _)
      | (with_reducible exact ih10 _ _ _ _ _ _)
      | (with_reducible exact ih11 _ _ _ _ _ _ _ _)
      | (with_reducible exact ddiref02_group.mono _ _)
      | (with_reducible exact LeO.refl _)
      | (with_reducible exact LeO.none _)
      | (with_reducible refine LeO.ite ?_ ?_)
      | (with_reducible refine LeO.bind ?_ (fun _ => ?_))
      | exact ih0 _ _ _ _ _
      | exact ih1 _ _ _ _
      | exact ih2 _ _ _ _ _
      | exact ih3 _ _ _ _ _
      | exact ih4 _ _ _ _ _
      | exact ih5 _ _ _ _ _ _
      | exact ih6 _ _ _ _ _ _
      | exact ih7 _ _ _ _ _ _
      | exact ih8 _ _ _ _ _
      | exact ih9 _ _ _
      | exact ih10 _ _ _ _ _ _
      | exact ih11 _ _ _ _ _ _ _ _
      | exact ddiref02_group.mono _ _
      | exact LeO.none _
      | refine LeO.ite ?_ ?_
      | refine LeO.bind ?_ (fun _ => ?_)
    · intro y0 y1 y2 y3 y4 y5
      unfold ddiref02_six.j6
      repeat' first
      | (with_reducible exact ih0 _ _ _ _ _)
      | (with_reducible exact ih1 _ _ _ _)
      | (with_reducible exact ih2 _ _ _ _ _)
      | (with_reducible exact ih3 _ _ _ _ _)
      | (with_reducible exact ih4 _ _ _ _ _)
      | (with_reducible exact ih5 _ _ _ _ _ _)
      | (with_reducible exact ih6 _ _ _ _ _ _)
      | (with_reducible exact ih7 _ _ _ _ _ _)
      | (with_reducible exact ih8 _ _ _ _ _)
      | (with_reducible exact ih9 _ _ _)
      | (with_reducible exact ih10 _ _ _ _ _ _)
      | (with_reducible exact ih11 _ _ _ _ _ _ _ _)
      | (with_reducible exact ddiref02_group.mono _ _)
      | (with_reducible exact LeO.refl _)
      | (with_reducible exact LeO.none _)
      | (with_reducible refine LeO.ite ?_ ?_)
      | (with_reducible refine LeO.bind ?_ (fun _ => ?_))
      | exact ih0 _ _ _ _ _
      | exact ih1 _ _ _ _
      | exact ih2 _ _ _ _ _
      | exact ih3 _ _ _ _ _
      | exact ih4 _ _ _ _ _
      | exact ih5 _ _ _ _ _ _
      | exact ih6 _ _ _ _ _ _
      | exact ih7 _ _ _ _ _ _
      | exact ih8 _ _ _ _ _
      | exact ih9 _ _ _
      | exact ih10 _ _ _ _ _ _
      | exact ih11 _ _ _ _ _ _ _ _
      | exact ddiref02_group.mono _ _
      | exact LeO.none _
      | refine LeO.ite ?_ ?_
      | refine LeO.bind ?_ (fun _ => ?_)
    · intro y0 y1 y2 y3 y4 y5
      unfold ddiref02_six.j7
      repeat' first
      | (with_reducible exact ih0 _ _ _ _ _)
      | (with_reducible exact ih1 _ _ _ _)
      | (with_reducible exact ih2 _ _ _ _ _)
      | (with_reducible exact ih3 _ _ _ _ _)
      | (with_reducible exact ih4 _ _ _ _ _)
      | (with_reducible exact ih5 _ _ _ _ _ _)
      | (with_reducible exact ih6 _ _ _ _ _ _)
      | (with_reducible exact ih7 _ _ _ _ _ _)
      | (with_reducible exact ih8 _ _ _ _ _)
      | (with_reducible exact ih9 _ _ _)
      | (with_reducible exact ih10 _ _ _ _ _ _)
      | (with_reducible exact ih11 _ _ _ _ _ _ _ _)
      | (with_reducible exact ddiref02_group.mono _ _)
      | (with_reducible exact LeO.refl _)
      | (with_reducible exact LeO.none _)
      | (with_reducible refine LeO.ite ?_ ?_)
      | (with_reducible refine LeO.bind ?_ (fun _ => ?_))
      | exact ih0 _ _ _ _ _
      | exact ih1 _ _ _ _
      | exact ih2 _ _ _ _ _
      | exact ih3 _ _ _ _ _
      | exact ih4 _ _ _ _ _
      | exact ih5 _ _ _ _ _ _
      | exact ih6 _ _ _ _ _ _
      | exact ih7 _ _ _ _ _ _
      | exact ih8 _ _ _ _ _
      | exact ih9 _ _ _
      | exact ih10 _ _ _ _ _ _
      | exact ih11 _ _ _ _ _ _ _ _
      | exact ddiref02_group.mono _ _
      | exact LeO.none _
      | refine LeO.ite ?_ ?_
      | refine LeO.bind ?_ (fun _ => ?_)
    · intro y0 y1 y2 y3 y4 y5
      unfold ddiref02_six.j8
      repeat' first
      | (with_reducible exact ih0 _ _ _ _ _)
      | (with_reducible exact ih1 _ _ _ _)
      | (with_reducible exact ih2 _ _ _ _ _)
      | (with_reducible exact ih3 _ _ _ _ _)
      | (with_reducible exact ih4 _ _ _ _ _)
      | (with_reducible exact ih5 _ _ _ _ _ _)
      | (with_reducible exact ih6 _ _ _ _ _ _)
      | (with_reducible exact ih7 _ _ _ _ _ _)
      | (with_reducible exact ih8 _ _ _ _ _)
      | (with_reducible exact ih9 _ _ _)
      | (with_reducible exact ih10 _ _ _ _ _ _)
      | (with_reducible exact ih11 _ _ _ _ _ _ _ _)
      | (with_reducible exact ddiref02_group.mono _ _)
      | (with_reducible exact LeO.refl _)
      | (with_reducible exact LeO.none _)
      | (with_reducible refine LeO.ite ?_ ?_)
      | (with_reducible refine LeO.bind ?_ (fun _ => ?_))
      | exact ih0 _ _ _ _ _
      | exact ih1 _ _ _ _
      | exact ih2 _ _ _ _ _
      | exact ih3 _ _ _ _ _
      | exact ih4 _ _ _ _ _
      | exact ih5 _ _ _ _ _ _
      | exact ih6 _ _ _ _ _ _
      | exact ih7 _ _ _ _ _ _
      | exact ih8 _ _ _ _ _
      | exact ih9 _ _ _
      | exact ih10 _ _ _ _ _ _
      | exact ih11 _ _ _ _ _ _ _ _
      | exact ddiref02_group.mono _ _
      | exact LeO.none _
      | refine LeO.ite ?_ ?_
      | refine LeO.bind ?_ (fun _ => ?_)
    · intro y0 y1 y2 y3 y4
      unfold ddiref02_six.l1
      repeat' first
      | (with_reducible exact ih0 _ _ _ _ _)
      | (with_reducible exact ih1 _ _ _ _)
      | (with_reducible exact ih2 _ _ _ _ _)
      | (with_reducible exact ih3 _ _ _ _ _)
      | (with_reducible exact ih4 _ _ _ _ _)
      | (with_reducible exact ih5 _ _ _ _ _ _)
      | (with_reducible exact ih6 _ _ _ _ _ _)
      | (with_reducible exact ih7 _ _ _ _ _ _)
      | (with_reducible exact ih8 _ _ _ _ _)
      | (with_reducible exact ih9 _ _ _)
      | (with_reducible exact ih10 _ _ _ _ _ _)
      | (with_reducible exact ih11 _ _ _ _ _ _ _ _)
      | (with_reducible exact ddiref02_group.mono _ _)
      | (with_reducible exact LeO.refl _)
      | (with_reducible exact LeO.none _)
      | (with_reducible refine LeO.ite ?_ ?_)
      | (with_reducible refine LeO.bind ?_ (fun _ => ?_))
      | exact ih0 _ _ _ _ _
      | exact ih1 _ _ _ _
      | exact ih2 _ _ _ _ _
      | exact ih3 _ _ _ _ _
      | exact ih4 _ _ _ _ _
      | exact ih5 _ _ _ _ _ _
      | exact ih6 _ _ _ _ _ _
      | exact ih7 _ _ _ _ _ _
      | exact ih8 _ _ _ _ _
      | exact ih9 _ _ _
      | exact ih10 _ _ _ _ _ _
      | exact ih11 _ _ _ _ _ _ _ _
      | exact ddiref02_group.mono _ _
      | exact LeO.none _
      | refine LeO.ite ?_ ?_
      | refine LeO.bind ?_ (fun _ => ?_)
    · intro y0 y1 y2
      unfold ddiref02_six.j9
      repeat' first
      | (with_reducible exact ih0 _ _ _ _ _)
      | (with_reducible exact ih1 _ _ _ _)
      | (with_reducible exact ih2 _ _ _ _ _)
      | (with_reducible exact ih3 _ _ _ _ _)
      | (with_reducible exact ih4 _ _ _ _ _)
      | (with_reducible exact ih5 _ _ _ _ _ _)
      | (with_reducible exact ih6 _ _ _ _ _ _)
      | (with_reducible exact ih7 _ _ _ _ _ _)
      | (with_reducible exact ih8 _ _ _ _ _)
      | (with_reducible exact ih9 _ _ _)
      | (with_reducible exact ih10 _ _ _ _ _ _)
      | (with_reducible exact ih11 _ _ _ _ _ _ _ _)
      | (with_reducible exact ddiref02_group.mono _ _)
      | (with_reducible exact LeO.refl _)
      | (with_reducible exact LeO.none _)
      | (with_reducible refine LeO.ite ?_ ?_)
      | (with_reducible refine LeO.bind ?_ (fun _ => ?_))
      | exact ih0 _ _ _ _ _
      | exact ih1 _ _ _ _
      | exact ih2 _ _ _ _ _
      | exact ih3 _ _ _ _ _
      | exact ih4 _ _ _ _ _
      | exact ih5 _ _ _ _ _ _
      | exact ih6 _ _ _ _ _ _
      | exact ih7 _ _ _ _ _ _
      | exact ih8 _ _ _ _ _
      | exact ih9 _ _ _
      | exact ih10 _ _ _ _ _ _
      | exact ih11 _ _ _ _ _ _ _ _
      | exact ddiref02_group.mono _ _
      | exact LeO.none _
      | refine LeO.ite ?_ ?_
      | refine LeO.bind ?_ (fun _ => ?_)
    · intro y0 y1 y2 y3 y4 y5
      unfold ddiref02_six.l2
      repeat' first
      | (with_reducible exact ih0 _ _ _ _ _)
      | (with_reducible exact ih1 _ _ _ _)
      | (with_reducible exact ih2 _ _ _ _ _)
      | (with_reducible exact ih3 _ _ _ _ _)
      | (with_reducible exact ih4 _ _ _ _ _)
      | (with_reducible exact ih5 _ _ _ _ _ _)
      | (with_reducible exact ih6 _ _ _ _ _ _)
      | (with_reducible exact ih7 _ _ _ _ _ _)
      | (with_reducible exact ih8 _ _ _ _ _)
      | (with_reducible exact ih9 _ _ _)
      | (with_reducible exact ih10 _ _ _ _ _ _)
      | (with_reducible exact ih11 _ _ _ _ _ _ _ _)
      | (with_reducible exact ddiref02_group.mono _ _)
      | (with_reducible exact LeO.refl _)
      | (with_reducible exact LeO.none _)
      | (with_reducible refine LeO.ite ?_ ?_)
      | (with_reducible refine LeO.bind ?_ (fun _ => ?_))
      | exact ih0 _ _ _ _ _
      | exact ih1 _ _ _ _
      | exact ih2 _ _ _ _ _
      | exact ih3 _ _ _ _ _
      | exact ih4 _ _ _ _ _
      | exact ih5 _ _ _ _ _ _
      | exact ih6 _ _ _ _ _ _
      | exact ih7 _ _ _ _ _ _
      | exact ih8 _ _ _ _ _
      | exact ih9 _ _ _
      | exact ih10 _ _ _ _ _ _
      | exact ih11 _ _ _ _ _ _ _ _
      | exact ddiref02_group.mono _ _
      | exact LeO.none _
      | refine LeO.ite ?_ ?_
      | refine LeO.bind ?_ (fun _ => ?_)
    · intro y0 y1 y2 y3 y4 y5 y6 y7
      unfold ddiref02_six.j11
      repeat' first
      | (with_reducible exact ih0 _ _ _ _ _)
      | (with_reducible exact ih1 _ _ _ _)
      | (with_reducible exact ih2 _ _ _ _ _)
      | (with_reducible exact ih3 _ _ _ _ _)
      | (with_reducible exact ih4 _ _ _ _ _)
      | (with_reducible exact ih5 _ _ _ _ _ _)
      | (with_reducible exact ih6 _ _ _ _ _ _)
      | (with_reducible exact ih7 _ _ _ _ _ _)
      | (with_reducible exact ih8 _ _ _ _ _)
      | (with_reducible exact ih9 _ _ _)
      | (with_reducible exact ih10 _ _ _ _ _ _)
      | (with_reducible exact ih11 _ _ _ _ _ _ _ _)
      | (with_reducible exact ddiref02_group.mono _ _)
      | (with_reducible exact LeO.refl _)
      | (with_reducible exact LeO.none _)
      | (with_reducible refine LeO.ite ?_ ?_)
      | (with_reducible refine LeO.bind ?_ (fun _ => ?_))
      | exact ih0 _ _ _ _ _
      | exact ih1 _ _ _ _
      | exact ih2 _ _ _ _ _
      | exact ih3 _ _ _ _ _
      | exact ih4 _ _ _ _ _
      | exact ih5 _ _ _ _ _ _
      | exact ih6 _ _ _ _ _ _
      | exact ih7 _ _ _ _ _ _
      | exact ih8 _ _ _ _ _
      | exact ih9 _ _ _
      | exact ih10 _ _ _ _ _ _
      | exact ih11 _ _ _ _ _ _ _ _
      | exact ddiref02_group.mono _ _
      | exact LeO.none _
      | refine LeO.ite ?_ ?_
      | refine LeO.bind ?_ (fun _ => ?_)
theorem ddiref02_six.mono : ∀ a0 k, LeO (ddiref02_six.f k a0) (ddiref02_six.f (k + 1) a0) := by
  intro a0 k
  obtain ⟨ih0, ih1, ih2, ih3, ih4, ih5, ih6, ih7, ih8, ih9, ih10, ih11⟩ := ddiref02_six.mono_l k
  unfold ddiref02_six.f
  repeat' first
      | (with_reducible exact ih0 _ _ _ _ _)
      | (with_reducible exact ih1 _ _ _ _)
      | (with_reducible exact ih2 _ _ _ _ _)
      | (with_reducible exact ih3 _ _ _ _ _)
      | (with_reducible exact ih4 _ _ _ _ _)
      | (with_reducible exact ih5 _ _ _ _ _ _)
      | (with_reducible exact ih6 _ _ _ _ _ _)
      | (with_reducible exact ih7 _ _ _ _ _ _)
      | (with_reducible exact ih8 _ _ _ _ _)
      | (with_reducible exact ih9 _ _ _)
      | (with_reducible exact ih10 _ _ _ _ _ _)
      | (with_reducible exact ih11 _ _ _ _ _ _ _ _)
      | (with_reducible exact ddiref02_group.mono _ _)
      | (with_reducible exact LeO.refl _)
      | (with_reducible exact LeO.none _)
      | (with_reducible refine LeO.ite ?_ ?_)
      | (with_reducible refine LeO.bind ?_ (fun _ => ?_))
      | exact ih0 _ _ _ _ _
      | exact ih1 _ _ _ _
      | exact ih2 _ _ _ _ _
      | exact ih3 _ _ _ _ _
      | exact ih4 _ _ _ _ _
      | exact ih5 _ _ _ _ _ _
      | exact ih6 _ _ _ _ _ _
      | exact ih7 _ _ _ _ _ _
      | exact ih8 _ _ _ _ _
      | exact ih9 _ _ _
      | exact ih10 _ _ _ _ _ _
      | exact ih11 _ _ _ _ _ _ _ _
      | exact ddiref02_group.mono _ _
      | exact LeO.none _
      | refine LeO.ite ?_ ?_
      | refine LeO.bind ?_ (fun _ => ?_)
set_option maxHeartbeats 40000000 in
set_option maxRecDepth 100000 in
theorem ddiref02_six.calls (k : Nat) (a0 : ByteArray) (r1 : Bool) (r2 : Int) (r3 : Int) (r4 : Int) (w : World) (h : ddiref02_six.f k a0 = some (r1, r2, r3, r4)) :
    Calls Tryd.prog 22 #[.string a0] w fun e w' => e = .returned (.tuple #[.agg #[.bool r1, .int .u64 r2, .int .u64 r3], .int .i64 r4]) ∧ Below w.heap.size w w' := by
  have hu24 := Tryd.underlying24
  have HB := Aside0.mk (Below.refl w.heap.size w)
  have H : (if (a0.size : Int) ≥ 2 then (if 0 < (a0.size : Int) then (if (bt a0 0) = 58 then (if 1 < (a0.size : Int) then (ddiref02_six.j0 k a0 ([] : List Int) (-1) 0 ((bt a0 1) == 58)) else (none)) else (ddiref02_six.j0 k a0 ([] : List Int) (-1) 0 false)) else (none)) else (ddiref02_six.j0 k a0 ([] : List Int) (-1) 0 false)) = some (r1, r2, r3, r4) := h
  clear h
  have HC2 := Aside0.mk H
  clear H
  go_enter Tryd.func22, Tryd.ntmps22
  go_upto_region 4 with (first | ((with_reducible refine gate_dst (N := 2) rfl ?_); (try (refine gate_guard (by rfl) ?_; dsimp only)); refine box_event ?hg (N := 2) ?hd (cs := #[.bool false, .int .u64 0, .int .u64 0]) (t := 24) ?hr ?_; (case hd => rfl); (case hg => rfl); (case hr => first | (go_simp; done) | (go_simp; rfl)); intro gb132 hg w3 hbox hb; have n0_ := Aside0.mk (below_step (by repeat (first | (with_reducible first | exact HB.out | apply below_alloc | apply pw_below_drewN | apply below_drew1) | exact HB.out)) hb); have n1_ := Aside0.mk (hbox); have n2_ := Aside0.mk ((by rw [hg]; exact (below_size (by repeat (first | (with_reducible first | exact HB.out | apply below_alloc | apply pw_below_drewN | apply below_drew1) | exact HB.out))) : w.heap.size ≤ gb132)); have n3_ := Aside0.mk ((by rw [hg]; exact (below_size (by repeat (first | (with_reducible first | exact HB.out | apply below_alloc | apply pw_below_drewN | apply below_drew1) | exact HB.out))) : w.heap.size ≤ gb132)); clear HB; have HB := n0_; have BK132 := n1_; have GW132 := n2_; have GE132 := n3_; clear n0_ n1_ n2_ n3_; clear hb hbox hg))
  (try simp only [Act.put, List.setIfInBounds_toArray, List.set_cons_zero, List.set_cons_succ])
  go_cut [26] (fun v26 wc => ∃ (kq : Nat) (x26_1 : Bool), v26 = .bool x26_1 ∧ Aside0 (ddiref02_six.j0 kq a0 ([] : List Int) (-1) 0 x26_1 = some (r1, r2, r3, r4)) ∧ Aside0 (kq ≤ k) ∧ Aside0 (Kd.R (Kd.int .u64) 22 wc w.heap.size (fun _ => True) (.slice none 0 0) ([] : List Int)) ∧ Aside0 (wc.heap[gb132]? = some (.cells #[.bool false, .int .u64 0, .int .u64 0] 24 (0, 0))) ∧ Aside0 (Below w.heap.size w wc))
  case first =>
    have H := HC2.out
    clear HC2
    by_cases c4 : (a0.size : Int) ≥ 2
    · rw [if_pos c4] at H
      have c4b0 : decide (2 ≤ (a0.size : Int)) = true := decide_eq_true c4
      have c4b1 : decide (2 ≤ a0.size) = true := decide_eq_true (by omega)
      clear c4
      (first | rw [c4b0] | (simp only [i64_w, i32_w]; rw [c4b0]) | skip)
      by_cases c5 : 0 < (a0.size : Int)
      · rw [if_pos c5] at H
        have c5b0 : decide (0 < (a0.size : Int)) = true := decide_eq_true c5
        have c5b1 : decide (0 < a0.size) = true := decide_eq_true (by omega)
        clear c5
        by_cases c7 : (bt a0 0) = 58
        · rw [if_pos c7] at H
          have c7b0 : ((bt a0 0) == 58) = true := beq_iff_eq.mpr c7
          have c7b1 : ((bt a0 0) != 58) = false := bne_eq_false_iff_eq.mpr c7
          clear c7
          by_cases c8 : 1 < (a0.size : Int)
          · rw [if_pos c8] at H
            have c8b0 : decide (1 < (a0.size : Int)) = true := decide_eq_true c8
            have c8b1 : decide (1 < a0.size) = true := decide_eq_true (by omega)
            clear c8
            have H' := Aside0.mk H
            clear H
            have p6 : 0 ≤ (0 : Int) := (by omega)
            have q6 : 0 < a0.size := (by have : (0 : Int) < (a0.size : Int) := of_decide_eq_true (by first | (with_reducible assumption) | assumption); omega)
            have hx6 : ∀ h : 0 < a0.size, ((a0[0]'h).toNat : Int) = bt a0 0 := bt_at a0 0
            clear p6
            have qi6 : (0 < (a0.size : Int)) = True := eq_true (of_decide_eq_true (by first | (with_reducible assumption) | assumption))
            replace q6 := eq_true q6
            have p9 : 0 ≤ (1 : Int) := (by omega)
            have q9 : 1 < a0.size := (by have : (1 : Int) < (a0.size : Int) := of_decide_eq_true (by first | (with_reducible assumption) | assumption); omega)
            have hx9 : ∀ h : 1 < a0.size, ((a0[1]'h).toNat : Int) = bt a0 1 := bt_at a0 1
            clear p9
            have qi9 : (1 < (a0.size : Int)) = True := eq_true (of_decide_eq_true (by first | (with_reducible assumption) | assumption))
            replace q9 := eq_true q9
            go_wp2
            refine Met.intro ?_
            go_step
            (repeat apply Exists.intro)
            refine ⟨?rel, ?heq_⟩
            case heq_ => first | rfl | (rw [c4b0]) | (simp only [c4b0])
            case rel => exact ⟨_, (((bt a0 1) == 58)), (by first | rfl | (simp; done) | (simp [*]; done) | ((try simp only [Bool.not_not]); (generalize ByteArray.toList _ = l_); cases l_ <;> rfl) | (simp; (generalize ByteArray.toList _ = l_); cases l_ <;> rfl)), H', ⟨by first | omega | exact Nat.le_refl _⟩, ⟨by first | exact Kd.R_nil _ _ _ _ _ | exact Kd.N_nil _ _ _ _ _ | exact Kd.V_nil _ _ _ _ _ | exact Kd.Q_nil _ _ _ _ _ | exact Kd.S_nil _ _ _ _ _⟩, ⟨by (with_reducible repeat (first | refine blk_drewN ?_ _ | refine blk_drew ?_ | refine blk_alloc ?_ _)); exact BK132.out⟩, ⟨by repeat (first | (with_reducible first | exact HB.out | apply below_alloc | apply pw_below_drewN | apply below_drew1 | refine below_set ?_ GE132.out) | exact HB.out)⟩⟩
          · rw [if_neg c8] at H
            exact absurd H (by simp)
        · rw [if_neg c7] at H
          have c7b0 : ((bt a0 0) == 58) = false := beq_eq_false_iff_ne.mpr c7
          have c7b1 : ((bt a0 0) != 58) = true := bne_iff_ne.mpr c7
          have H' := Aside0.mk H
          clear H
          have p6 : 0 ≤ (0 : Int) := (by omega)
          have q6 : 0 < a0.size := (by have : (0 : Int) < (a0.size : Int) := of_decide_eq_true (by first | (with_reducible assumption) | assumption); omega)
          have hx6 : ∀ h : 0 < a0.size, ((a0[0]'h).toNat : Int) = bt a0 0 := bt_at a0 0
          clear p6
          have qi6 : (0 < (a0.size : Int)) = True := eq_true (of_decide_eq_true (by first | (with_reducible assumption) | assumption))
          replace q6 := eq_true q6
          go_wp2
          refine Met.intro ?_
          go_step
          (repeat apply Exists.intro)
          refine ⟨?rel, ?heq_⟩
          case heq_ => first | rfl | (rw [c4b0]) | (simp only [c4b0])
          case rel => exact ⟨_, (false), (by first | rfl | (simp; done) | (simp [*]; done) | ((try simp only [Bool.not_not]); (generalize ByteArray.toList _ = l_); cases l_ <;> rfl) | (simp; (generalize ByteArray.toList _ = l_); cases l_ <;> rfl)), H', ⟨by first | omega | exact Nat.le_refl _⟩, ⟨by first | exact Kd.R_nil _ _ _ _ _ | exact Kd.N_nil _ _ _ _ _ | exact Kd.V_nil _ _ _ _ _ | exact Kd.Q_nil _ _ _ _ _ | exact Kd.S_nil _ _ _ _ _⟩, ⟨by (with_reducible repeat (first | refine blk_drewN ?_ _ | refine blk_drew ?_ | refine blk_alloc ?_ _)); exact BK132.out⟩, ⟨by repeat (first | (with_reducible first | exact HB.out | apply below_alloc | apply pw_below_drewN | apply below_drew1 | refine below_set ?_ GE132.out) | exact HB.out)⟩⟩
      · rw [if_neg c5] at H
        exact absurd H (by simp)
    · rw [if_neg c4] at H
      have c4b0 : decide (2 ≤ (a0.size : Int)) = false := decide_eq_false c4
      have c4b1 : decide (2 ≤ a0.size) = false := decide_eq_false (by omega)
      clear c4
      (first | rw [c4b0] | (simp only [i64_w, i32_w]; rw [c4b0]) | skip)
      have H' := Aside0.mk H
      clear H
      go_wp2
      refine Met.intro ?_
      go_step
      (repeat apply Exists.intro)
      refine ⟨?rel, ?heq_⟩
      case heq_ => first | rfl | (rw [c4b0]) | (simp only [c4b0])
      case rel => exact ⟨_, (false), (by first | rfl | (simp; done) | (simp [*]; done) | ((try simp only [Bool.not_not]); (generalize ByteArray.toList _ = l_); cases l_ <;> rfl) | (simp; (generalize ByteArray.toList _ = l_); cases l_ <;> rfl)), H', ⟨by first | omega | exact Nat.le_refl _⟩, ⟨by first | exact Kd.R_nil _ _ _ _ _ | exact Kd.N_nil _ _ _ _ _ | exact Kd.V_nil _ _ _ _ _ | exact Kd.Q_nil _ _ _ _ _ | exact Kd.S_nil _ _ _ _ _⟩, ⟨by (with_reducible repeat (first | refine blk_drewN ?_ _ | refine blk_drew ?_ | refine blk_alloc ?_ _)); exact BK132.out⟩, ⟨by repeat (first | (with_reducible first | exact HB.out | apply below_alloc | apply pw_below_drewN | apply below_drew1 | refine below_set ?_ GE132.out) | exact HB.out)⟩⟩
  case rest =>
    clear HC2
    try clear c2
    try clear p2
    try clear c4
    try clear c4b0
    try clear c4b1
    try clear c5
    try clear c5b0
    try clear c5b1
    try clear p6
    try clear q6
    try clear hx6
    try clear qi6
    try clear c7
    try clear c7b0
    try clear c7b1
    try clear c8
    try clear c8b0
    try clear c8b1
    try clear p9
    try clear q9
    try clear hx9
    try clear qi9
    try clear p6
    try clear p9
    try clear q6
    try clear q9
    obtain ⟨kq, x26_1, rfl, HA, HJ1, HO_4, BK132, HB⟩ := hcut
    cases kq with
    | zero => exact absurd HA.out (by simp [ddiref02_six.j0])
    | succ kj1 =>
      have H := HA.out
      clear HA
      simp only [ddiref02_six.j0] at H
      have HC10 := Aside0.mk H
      clear H
      go_upto_if 26 with (fail)
      go_cut [5, 6] (fun v5 v6 wc => ∃ (kq : Nat) (x5_9 : Int) (x6_9 : Int), v5 = .int .i64 x5_9 ∧ v6 = .int .i64 x6_9 ∧ Aside0 (ddiref02_six.j1 kq a0 ([] : List Int) x5_9 x6_9 = some (r1, r2, r3, r4)) ∧ Aside0 (kq ≤ kj1) ∧ Aside0 (Kd.R (Kd.int .u64) 22 wc w.heap.size (fun _ => True) (.slice none 0 0) ([] : List Int)) ∧ Aside0 (wc.heap[gb132]? = some (.cells #[.bool false, .int .u64 0, .int .u64 0] 24 (0, 0))) ∧ Aside0 (Below w.heap.size w wc))
      case first =>
        have H := HC10.out
        clear HC10
        by_cases c11 : x26_1 = true
        · subst c11
          have H1 : (ddiref02_six.j1 kj1 a0 ([] : List Int) 0 2) = some (r1, r2, r3, r4) := by rw [if_pos rfl] at H; exact H
          clear H
          have H := H1
          clear H1
          have H' := Aside0.mk H
          clear H
          go_wp2
          go_meet
          case rel => exact ⟨_, (0), (2), (by first | rfl | (simp; done) | (simp [*]; done) | ((try simp only [Bool.not_not]); (generalize ByteArray.toList _ = l_); cases l_ <;> rfl) | (simp; (generalize ByteArray.toList _ = l_); cases l_ <;> rfl)), (by first | rfl | (simp; done) | (simp [*]; done) | ((try simp only [Bool.not_not]); (generalize ByteArray.toList _ = l_); cases l_ <;> rfl) | (simp; (generalize ByteArray.toList _ = l_); cases l_ <;> rfl)), H', ⟨by have := HJ1.out; first | omega | exact Nat.le_refl _⟩, ⟨by (with_reducible repeat (first | apply Kd.R_alloc | apply Kd.R_drewN | apply Kd.R_drew)); exact HO_4.out⟩, ⟨by (with_reducible repeat (first | refine blk_drewN ?_ _ | refine blk_drew ?_ | refine blk_alloc ?_ _)); exact BK132.out⟩, ⟨by repeat (first | (with_reducible first | exact HB.out | apply below_alloc | apply pw_below_drewN | apply below_drew1 | refine below_set ?_ GE132.out) | exact HB.out)⟩⟩
        · replace c11 := Bool.eq_false_iff.mpr c11
          subst c11
          have H1 : (ddiref02_six.j1 kj1 a0 ([] : List Int) (-1) 0) = some (r1, r2, r3, r4) := by rw [if_neg (show ¬ (false = true) by decide)] at H; exact H
          clear H
          have H := H1
          clear H1
          have H' := Aside0.mk H
          clear H
          go_wp2
          go_meet
          case rel => exact ⟨_, ((-1)), (0), (by first | rfl | (simp; done) | (simp [*]; done) | ((try simp only [Bool.not_not]); (generalize ByteArray.toList _ = l_); cases l_ <;> rfl) | (simp; (generalize ByteArray.toList _ = l_); cases l_ <;> rfl)), (by first | rfl | (simp; done) | (simp [*]; done) | ((try simp only [Bool.not_not]); (generalize ByteArray.toList _ = l_); cases l_ <;> rfl) | (simp; (generalize ByteArray.toList _ = l_); cases l_ <;> rfl)), H', ⟨by have := HJ1.out; first | omega | exact Nat.le_refl _⟩, ⟨by (with_reducible repeat (first | apply Kd.R_alloc | apply Kd.R_drewN | apply Kd.R_drew)); exact HO_4.out⟩, ⟨by (with_reducible repeat (first | refine blk_drewN ?_ _ | refine blk_drew ?_ | refine blk_alloc ?_ _)); exact BK132.out⟩, ⟨by repeat (first | (with_reducible first | exact HB.out | apply below_alloc | apply pw_below_drewN | apply below_drew1 | refine below_set ?_ GE132.out) | exact HB.out)⟩⟩
      case rest =>
        clear HC10
        try clear c1
        try clear c2
        try clear p2
        try clear c4
        try clear c4b0
        try clear c4b1
        try clear c5
        try clear c5b0
        try clear c5b1
        try clear p6
        try clear q6
        try clear hx6
        try clear qi6
        try clear c7
        try clear c7b0
        try clear c7b1
        try clear c8
        try clear c8b0
        try clear c8b1
        try clear p9
        try clear q9
        try clear hx9
        try clear qi9
        try clear c11
        try clear p2
        try clear p6
        try clear p9
        try clear q6
        try clear q9
        obtain ⟨kq, x5_9, x6_9, rfl, rfl, HA, HJ9, HO_4, BK132, HB⟩ := hcut
        cases kq with
        | zero => exact absurd HA.out (by simp [ddiref02_six.j1])
        | succ kj9 =>
          have H := HA.out
          clear HA
          simp only [ddiref02_six.j1] at H
          have HC12 := Aside0.mk H
          clear H
          go_upto_region 7 with (fail)
          go_cut [7] (fun v7 wc => ∃ (kq : Nat) (x7_11 : Bool), v7 = .bool x7_11 ∧ Aside0 (ddiref02_six.j2 kq a0 ([] : List Int) x5_9 x6_9 x7_11 = some (r1, r2, r3, r4)) ∧ Aside0 (kq ≤ kj9) ∧ Aside0 (Kd.R (Kd.int .u64) 22 wc w.heap.size (fun _ => True) (.slice none 0 0) ([] : List Int)) ∧ Aside0 (wc.heap[gb132]? = some (.cells #[.bool false, .int .u64 0, .int .u64 0] 24 (0, 0))) ∧ Aside0 (Below w.heap.size w wc))
          case first =>
            have H := HC12.out
            clear HC12
            by_cases c13 : x6_9 < (a0.size : Int)
            · rw [if_pos c13] at H
              have c13b0 : decide (x6_9 < (a0.size : Int)) = true := decide_eq_true c13
              clear c13
              (first | rw [c13b0] | (simp only [i64_w, i32_w]; rw [c13b0]) | skip)
              have H' := Aside0.mk H
              clear H
              go_wp2
              refine Met.intro ?_
              go_step
              (repeat apply Exists.intro)
              refine ⟨?rel, ?heq_⟩
              case heq_ => first | rfl | (rw [c13b0]) | (simp only [c13b0])
              case rel => exact ⟨_, (true), (by first | rfl | (simp; done) | (simp [*]; done) | ((try simp only [Bool.not_not]); (generalize ByteArray.toList _ = l_); cases l_ <;> rfl) | (simp; (generalize ByteArray.toList _ = l_); cases l_ <;> rfl)), H', ⟨by have := HJ1.out; have := HJ9.out; first | omega | exact Nat.le_refl _⟩, ⟨by (with_reducible repeat (first | apply Kd.R_alloc | apply Kd.R_drewN | apply Kd.R_drew)); exact HO_4.out⟩, ⟨by (with_reducible repeat (first | refine blk_drewN ?_ _ | refine blk_drew ?_ | refine blk_alloc ?_ _)); exact BK132.out⟩, ⟨by repeat (first | (with_reducible first | exact HB.out | apply below_alloc | apply pw_below_drewN | apply below_drew1 | refine below_set ?_ GE132.out) | exact HB.out)⟩⟩
            · rw [if_neg c13] at H
              have c13b0 : decide (x6_9 < (a0.size : Int)) = false := decide_eq_false c13
              clear c13
              (first | rw [c13b0] | (simp only [i64_w, i32_w]; rw [c13b0]) | skip)
              have H' := Aside0.mk H
              clear H
              go_wp2
              refine Met.intro ?_
              go_step
              (repeat apply Exists.intro)
              refine ⟨?rel, ?heq_⟩
              case heq_ => first | rfl | (rw [c13b0]) | (simp only [c13b0])
              case rel => exact ⟨_, (decide (x5_9 < 0)), (by first | rfl | (simp; done) | (simp [*]; done) | ((try simp only [Bool.not_not]); (generalize ByteArray.toList _ = l_); cases l_ <;> rfl) | (simp; (generalize ByteArray.toList _ = l_); cases l_ <;> rfl)), H', ⟨by have := HJ1.out; have := HJ9.out; first | omega | exact Nat.le_refl _⟩, ⟨by (with_reducible repeat (first | apply Kd.R_alloc | apply Kd.R_drewN | apply Kd.R_drew)); exact HO_4.out⟩, ⟨by (with_reducible repeat (first | refine blk_drewN ?_ _ | refine blk_drew ?_ | refine blk_alloc ?_ _)); exact BK132.out⟩, ⟨by repeat (first | (with_reducible first | exact HB.out | apply below_alloc | apply pw_below_drewN | apply below_drew1 | refine below_set ?_ GE132.out) | exact HB.out)⟩⟩
          case rest =>
            clear HC12
            try clear c1
            try clear c2
            try clear p2
            try clear c4
            try clear c4b0
            try clear c4b1
            try clear c5
            try clear c5b0
            try clear c5b1
            try clear p6
            try clear q6
            try clear hx6
            try clear qi6
            try clear c7
            try clear c7b0
            try clear c7b1
            try clear c8
            try clear c8b0
            try clear c8b1
            try clear p9
            try clear q9
            try clear hx9
            try clear qi9
            try clear c11
            try clear c13
            try clear c13b0
            try clear p2
            try clear p6
            try clear p9
            try clear q6
            try clear q9
            obtain ⟨kq, x7_11, rfl, HA, HJ11, HO_4, BK132, HB⟩ := hcut
            cases kq with
            | zero => exact absurd HA.out (by simp [ddiref02_six.j2])
            | succ kj11 =>
              have H := HA.out
              clear HA
              simp only [ddiref02_six.j2] at H
              have H' := Aside0.mk H
              clear H
              go_wp2
              go_loopg [4, 5, 6, 7] kj11 (fun kq v4 v5 v6 v7 w' => ∃ (x4_4 : List Int) (x5_4 : Int) (x6_4 : Int) (x7_4 : Bool) (x133000_4 : Bool) (x133001_4 : Int) (x133002_4 : Int), v5 = .int .i64 x5_4 ∧ v6 = .int .i64 x6_4 ∧ v7 = .bool x7_4 ∧ Aside0 (ddiref02_six.l0 kq a0 x4_4 x5_4 x6_4 x7_4 = some (r1, r2, r3, r4)) ∧ Aside0 (kq ≤ kj11) ∧ Aside0 (Kd.R (Kd.int .u64) 22 w' w.heap.size (fun _ => True) v4 x4_4) ∧ Aside0 (w'.heap[gb132]? = some (.cells #[.bool x133000_4, .int .u64 x133001_4, .int .u64 x133002_4] 24 (0, 0))) ∧ Aside0 (Below w.heap.size w w'))
              case atStart => exact ⟨(([] : List Int)), (x5_9), (x6_9), (x7_11), (false), (0), (0), (by first | rfl | (simp; done) | (simp [*]; done) | ((try simp only [Bool.not_not]); (generalize ByteArray.toList _ = l_); cases l_ <;> rfl) | (simp; (generalize ByteArray.toList _ = l_); cases l_ <;> rfl)), (by first | rfl | (simp; done) | (simp [*]; done) | ((try simp only [Bool.not_not]); (generalize ByteArray.toList _ = l_); cases l_ <;> rfl) | (simp; (generalize ByteArray.toList _ = l_); cases l_ <;> rfl)), (by first | rfl | (simp; done) | (simp [*]; done) | ((try simp only [Bool.not_not]); (generalize ByteArray.toList _ = l_); cases l_ <;> rfl) | (simp; (generalize ByteArray.toList _ = l_); cases l_ <;> rfl)), H', ⟨Nat.le_refl _⟩, ⟨by (with_reducible repeat (first | apply Kd.R_alloc | apply Kd.R_drewN | apply Kd.R_drew)); exact HO_4.out⟩, ⟨by (with_reducible repeat (first | refine blk_drewN ?_ _ | refine blk_drew ?_ | refine blk_alloc ?_ _)); exact BK132.out⟩, ⟨by repeat (first | (with_reducible first | exact HB.out | apply below_alloc | apply pw_below_drewN | apply below_drew1 | refine below_set ?_ GE132.out) | exact HB.out)⟩⟩
              case round =>
                clear H'
                try clear c1
                try clear c2
                try clear p2
                try clear c4
                try clear c4b0
                try clear c4b1
                try clear c5
                try clear c5b0
                try clear c5b1
                try clear p6
                try clear q6
                try clear hx6
                try clear qi6
                try clear c7
                try clear c7b0
                try clear c7b1
                try clear c8
                try clear c8b0
                try clear c8b1
                try clear p9
                try clear q9
                try clear hx9
                try clear qi9
                try clear c11
                try clear c13
                try clear c13b0
                try clear p2
                try clear p6
                try clear p9
                try clear q6
                try clear q9
                obtain ⟨x4_4, x5_4, x6_4, x7_4, x133000_4, x133001_4, x133002_4, rfl, rfl, rfl, HA, HK4, HO_4, BK132, HB⟩ := hrel
                cases gk with
                | zero => exact absurd HA.out (by simp [ddiref02_six.l0])
                | succ k4 =>
                  have H := HA.out
                  clear HA
                  simp only [ddiref02_six.l0] at H
                  by_cases c14 : x7_4 = true
                  · subst c14
                    have H1 : (ddiref02_six.l1 k4 a0 x4_4 x5_4 x6_4 x6_4) = some (r1, r2, r3, r4) := by rw [if_pos rfl] at H; exact H
                    clear H
                    have H := H1
                    clear H1
                    have HC15 := Aside0.mk H
                    clear H
                    go_upto_block 2 with (fail)
                    go_cut [8] (fun v8 wc => ∃ (kq : Nat) (x8_14 : Int), v8 = .int .i64 x8_14 ∧ Aside0 (ddiref02_six.j5 kq a0 x4_4 x5_4 x6_4 x8_14 = some (r1, r2, r3, r4)) ∧ Aside0 (kq ≤ k4) ∧ Aside0 (Kd.R (Kd.int .u64) 22 wc w.heap.size (fun _ => True) u4 x4_4) ∧ Aside0 (wc.heap[gb132]? = some (.cells #[.bool x133000_4, .int .u64 x133001_4, .int .u64 x133002_4] 24 (0, 0))) ∧ Aside0 (Below w.heap.size w wc))
                    case first =>
                      have H := HC15.out
                      clear HC15
                      have H' := Aside0.mk H
                      clear H
                      go_wp2
                      go_loopg [8] k4 (fun kq v8 w' => ∃ (x8_5 : Int), v8 = .int .i64 x8_5 ∧ Aside0 (ddiref02_six.l1 kq a0 x4_4 x5_4 x6_4 x8_5 = some (r1, r2, r3, r4)) ∧ Aside0 (kq ≤ k4) ∧ Aside0 (Kd.R (Kd.int .u64) 22 w' w.heap.size (fun _ => True) u4 x4_4) ∧ Aside0 (w'.heap[gb132]? = some (.cells #[.bool x133000_4, .int .u64 x133001_4, .int .u64 x133002_4] 24 (0, 0))) ∧ Aside0 (Below w.heap.size w w'))
                      case atStart => exact ⟨(x6_4), (by first | rfl | (simp; done) | (simp [*]; done) | ((try simp only [Bool.not_not]); (generalize ByteArray.toList _ = l_); cases l_ <;> rfl) | (simp; (generalize ByteArray.toList _ = l_); cases l_ <;> rfl)), H', ⟨Nat.le_refl _⟩, ⟨by (with_reducible repeat (first | apply Kd.R_alloc | apply Kd.R_drewN | apply Kd.R_drew)); exact HO_4.out⟩, ⟨by (with_reducible repeat (first | refine blk_drewN ?_ _ | refine blk_drew ?_ | refine blk_alloc ?_ _)); exact BK132.out⟩, ⟨by repeat (first | (with_reducible first | exact HB.out | apply below_alloc | apply pw_below_drewN | apply below_drew1 | refine below_set ?_ GE132.out) | exact HB.out)⟩⟩
                      case round =>
                        clear H'
                        try clear c1
                        try clear c2
                        try clear p2
                        try clear c4
                        try clear c4b0
                        try clear c4b1
                        try clear c5
                        try clear c5b0
                        try clear c5b1
                        try clear p6
                        try clear q6
                        try clear hx6
                        try clear qi6
                        try clear c7
                        try clear c7b0
                        try clear c7b1
                        try clear c8
                        try clear c8b0
                        try clear c8b1
                        try clear p9
                        try clear q9
                        try clear hx9
                        try clear qi9
                        try clear c11
                        try clear c13
                        try clear c13b0
                        try clear c14
                        try clear p2
                        try clear p6
                        try clear p9
                        try clear q6
                        try clear q9
                        obtain ⟨x8_5, rfl, HA, HK5, HO_4, BK132, HB⟩ := hrel
                        cases gk with
                        | zero => exact absurd HA.out (by simp [ddiref02_six.l1])
                        | succ k5 =>
                          have H := HA.out
                          clear HA
                          simp only [ddiref02_six.l1] at H
                          by_cases c16 : x8_5 < (a0.size : Int)
                          · rw [if_pos c16] at H
                            have c16b0 : decide (x8_5 < (a0.size : Int)) = true := decide_eq_true c16
                            clear c16
                            (first | rw [c16b0] | (simp only [i64_w, i32_w]; rw [c16b0]) | skip)
                            by_cases c17 : 0 ≤ x8_5
                            · rw [if_pos c17] at H
                              have c17b0 : decide (0 ≤ x8_5) = true := decide_eq_true c17
                              clear c17
                              by_cases c19 : (bt a0 x8_5) = 58
                              · rw [if_pos c19] at H
                                have c19b0 : ((bt a0 x8_5) == 58) = true := beq_iff_eq.mpr c19
                                have c19b1 : ((bt a0 x8_5) != 58) = false := bne_eq_false_iff_eq.mpr c19
                                clear c19
                                have H' := Aside0.mk H
                                clear H
                                have p18 : 0 ≤ (x8_5 : Int) := of_decide_eq_true (by first | (with_reducible assumption) | assumption)
                                have q18 : x8_5 < (a0.size : Int) := of_decide_eq_true (by first | (with_reducible assumption) | assumption)
                                have hx18 := bt_at a0 x8_5
                                replace p18 := eq_true p18
                                replace q18 := eq_true q18
                                go_wp2
                                refine Met.intro ?_
                                go_step
                                (repeat apply Exists.intro)
                                refine ⟨?rel, ?heq_⟩
                                case heq_ => first | rfl | (rw [c16b0]) | (simp only [c16b0])
                                case rel => exact ⟨_, (x8_5), (by first | rfl | (simp; done) | (simp [*]; done) | ((try simp only [Bool.not_not]); (generalize ByteArray.toList _ = l_); cases l_ <;> rfl) | (simp; (generalize ByteArray.toList _ = l_); cases l_ <;> rfl)), H', ⟨by have := HJ1.out; have := HJ9.out; have := HJ11.out; have := HK4.out; have := HK5.out; first | omega | exact Nat.le_refl _⟩, ⟨by (with_reducible repeat (first | apply Kd.R_alloc | apply Kd.R_drewN | apply Kd.R_drew)); exact HO_4.out⟩, ⟨by (with_reducible repeat (first | refine blk_drewN ?_ _ | refine blk_drew ?_ | refine blk_alloc ?_ _)); exact BK132.out⟩, ⟨by repeat (first | (with_reducible first | exact HB.out | apply below_alloc | apply pw_below_drewN | apply below_drew1 | refine below_set ?_ GE132.out) | exact HB.out)⟩⟩
                              · rw [if_neg c19] at H
                                have c19b0 : ((bt a0 x8_5) == 58) = false := beq_eq_false_iff_ne.mpr c19
                                have c19b1 : ((bt a0 x8_5) != 58) = true := bne_iff_ne.mpr c19
                                have H' := Aside0.mk H
                                clear H
                                have p18 : 0 ≤ (x8_5 : Int) := of_decide_eq_true (by first | (with_reducible assumption) | assumption)
                                have q18 : x8_5 < (a0.size : Int) := of_decide_eq_true (by first | (with_reducible assumption) | assumption)
                                have hx18 := bt_at a0 x8_5
                                replace p18 := eq_true p18
                                replace q18 := eq_true q18
                                go_wp2
                                go_roundg k5
                                case measure => have := HJ1.out; have := HJ9.out; have := HJ11.out; have := HK4.out; have := HK5.out; omega
                                case rel => exact ⟨(wrap64 (x8_5 + 1)), (by first | rfl | (simp; done) | (simp [*]; done) | ((try simp only [Bool.not_not]); (generalize ByteArray.toList _ = l_); cases l_ <;> rfl) | (simp; (generalize ByteArray.toList _ = l_); cases l_ <;> rfl)), H', ⟨by have := HJ1.out; have := HJ9.out; have := HJ11.out; have := HK4.out; have := HK5.out; omega⟩, ⟨by (with_reducible repeat (first | apply Kd.R_alloc | apply Kd.R_drewN | apply Kd.R_drew)); exact HO_4.out⟩, ⟨by (with_reducible repeat (first | refine blk_drewN ?_ _ | refine blk_drew ?_ | refine blk_alloc ?_ _)); exact BK132.out⟩, ⟨by repeat (first | (with_reducible first | exact HB.out | apply below_alloc | apply pw_below_drewN | apply below_drew1 | refine below_set ?_ GE132.out) | exact HB.out)⟩⟩
                            · rw [if_neg c17] at H
                              exact absurd H (by simp)
                          · rw [if_neg c16] at H
                            have c16b0 : decide (x8_5 < (a0.size : Int)) = false := decide_eq_false c16
                            clear c16
                            (first | rw [c16b0] | (simp only [i64_w, i32_w]; rw [c16b0]) | skip)
                            have H' := Aside0.mk H
                            clear H
                            go_wp2
                            refine Met.intro ?_
                            go_step
                            (repeat apply Exists.intro)
                            refine ⟨?rel, ?heq_⟩
                            case heq_ => first | rfl | (rw [c16b0]) | (simp only [c16b0])
                            case rel => exact ⟨_, (x8_5), (by first | rfl | (simp; done) | (simp [*]; done) | ((try simp only [Bool.not_not]); (generalize ByteArray.toList _ = l_); cases l_ <;> rfl) | (simp; (generalize ByteArray.toList _ = l_); cases l_ <;> rfl)), H', ⟨by have := HJ1.out; have := HJ9.out; have := HJ11.out; have := HK4.out; have := HK5.out; first | omega | exact Nat.le_refl _⟩, ⟨by (with_reducible repeat (first | apply Kd.R_alloc | apply Kd.R_drewN | apply Kd.R_drew)); exact HO_4.out⟩, ⟨by (with_reducible repeat (first | refine blk_drewN ?_ _ | refine blk_drew ?_ | refine blk_alloc ?_ _)); exact BK132.out⟩, ⟨by repeat (first | (with_reducible first | exact HB.out | apply below_alloc | apply pw_below_drewN | apply below_drew1 | refine below_set ?_ GE132.out) | exact HB.out)⟩⟩
                    case rest =>
                      clear HC15
                      try clear c1
                      try clear p1
                      try clear q1
                      try clear hx1
                      try clear c2
                      try clear p2
                      try clear c4
                      try clear c4b0
                      try clear c4b1
                      try clear c5
                      try clear c5b0
                      try clear c5b1
                      try clear p6
                      try clear q6
                      try clear hx6
                      try clear qi6
                      try clear c7
                      try clear c7b0
                      try clear c7b1
                      try clear c8
                      try clear c8b0
                      try clear c8b1
                      try clear p9
                      try clear q9
                      try clear hx9
                      try clear qi9
                      try clear c11
                      try clear c13
                      try clear c13b0
                      try clear c14
                      try clear c16
                      try clear c16b0
                      try clear c17
                      try clear c17b0
                      try clear p18
                      try clear q18
                      try clear hx18
                      try clear c19
                      try clear c19b0
                      try clear c19b1
                      try clear p18
                      try clear p2
                      try clear p6
                      try clear p9
                      try clear q18
                      try clear q6
                      try clear q9
                      obtain ⟨kq, x8_14, rfl, HA, HJ14, HO_4, BK132, HB⟩ := hcut
                      cases kq with
                      | zero => exact absurd HA.out (by simp [ddiref02_six.j5])
                      | succ kj14 =>
                        have H := HA.out
                        clear HA
                        simp only [ddiref02_six.j5] at H
                        by_cases c20 : 0 ≤ x6_4
                        · rw [if_pos c20] at H
                          have c20b0 := eq_true c20
                          have c20b1 : decide (0 ≤ x6_4) = true := decide_eq_true c20
                          clear c20
                          by_cases c21 : x6_4 ≤ x8_14
                          · rw [if_pos c21] at H
                            have c21b0 := eq_true c21
                            have c21b1 : decide (x6_4 ≤ x8_14) = true := decide_eq_true c21
                            clear c21
                            by_cases c22 : x8_14 ≤ (a0.size : Int)
                            · rw [if_pos c22] at H
                              have c22b0 := eq_true c22
                              have c22b1 : decide (x8_14 ≤ (a0.size : Int)) = true := decide_eq_true c22
                              clear c22
                              replace H := Option.bind_eq_some_iff.mp H
                              obtain ⟨⟨t133, t134⟩, A230, H⟩ := H
                              replace H : (if t134 = true then (ddiref02_six.j6 kj14 a0 x4_4 x5_4 x8_14 t133 ((x4_4.length : Int) == 8)) else (ddiref02_six.j6 kj14 a0 x4_4 x5_4 x8_14 t133 true)) = some (r1, r2, r3, r4) := H
                              have A23 := Aside0.mk A230
                              clear A230
                              have HC24 := Aside0.mk H
                              clear H
                              go_upto_region 13 with (first | ((with_reducible refine gate_callee (f := 34) rfl ?_); refine goesL_ (some 54) rfl rfl Tryd.func34 (by kernel_rfl) rfl #[.string (a0.extract (x6_4 : Int).toNat (x8_14 : Int).toNat)] rfl (by (try simp only [List.map_toArray, List.map_cons, List.map_nil]); first | done | rfl | (simp only [List.length_drop, List.length_take]; rfl)) ?_; (with_reducible refine (ddiref02_group.calls kj14 (a0.extract (x6_4 : Int).toNat (x8_14 : Int).toNat) t133 t134 _ A23.out).mono ?_); rintro e w' ⟨rfl, ⟨nd, rfl⟩⟩; refine ⟨_, rfl, ?_⟩))
                              (try simp only [Act.put, List.setIfInBounds_toArray, List.set_cons_zero, List.set_cons_succ])
                              go_cut [63] (fun v63 wc => ∃ (kq : Nat) (x63_23 : Bool), v63 = .bool x63_23 ∧ Aside0 (ddiref02_six.j6 kq a0 x4_4 x5_4 x8_14 t133 x63_23 = some (r1, r2, r3, r4)) ∧ Aside0 (kq ≤ kj14) ∧ Aside0 (Kd.R (Kd.int .u64) 22 wc w.heap.size (fun _ => True) u4 x4_4) ∧ Aside0 (wc.heap[gb132]? = some (.cells #[.bool x133000_4, .int .u64 x133001_4, .int .u64 x133002_4] 24 (0, 0))) ∧ Aside0 (Below w.heap.size w wc))
                              case first =>
                                have H := HC24.out
                                clear HC24
                                by_cases c25 : t134 = true
                                · subst c25
                                  have H1 : (ddiref02_six.j6 kj14 a0 x4_4 x5_4 x8_14 t133 ((x4_4.length : Int) == 8)) = some (r1, r2, r3, r4) := by rw [if_pos rfl] at H; exact H
                                  clear H
                                  have H := H1
                                  clear H1
                                  have H' := Aside0.mk H
                                  clear H
                                  obtain ⟨Ao26, co26, eo26⟩ := Kd.R_slice HO_4.out
                                  subst eo26
                                  go_wp2
                                  go_meet
                                  case rel => exact ⟨_, (((x4_4.length : Int) == 8)), (by first | rfl | (simp; done) | (simp [*]; done) | ((try simp only [Bool.not_not]); (generalize ByteArray.toList _ = l_); cases l_ <;> rfl) | (simp; (generalize ByteArray.toList _ = l_); cases l_ <;> rfl)), H', ⟨by have := HJ1.out; have := HJ9.out; have := HJ11.out; have := HK4.out; have := HJ14.out; first | omega | exact Nat.le_refl _⟩, ⟨by (with_reducible repeat (first | apply Kd.R_alloc | apply Kd.R_drewN | apply Kd.R_drew)); exact HO_4.out⟩, ⟨by (with_reducible repeat (first | refine blk_drewN ?_ _ | refine blk_drew ?_ | refine blk_alloc ?_ _)); exact BK132.out⟩, ⟨by repeat (first | (with_reducible first | exact HB.out | apply below_alloc | apply pw_below_drewN | apply below_drew1 | refine below_set ?_ GE132.out) | exact HB.out)⟩⟩
                                · replace c25 := Bool.eq_false_iff.mpr c25
                                  subst c25
                                  have H1 : (ddiref02_six.j6 kj14 a0 x4_4 x5_4 x8_14 t133 true) = some (r1, r2, r3, r4) := by rw [if_neg (show ¬ (false = true) by decide)] at H; exact H
                                  clear H
                                  have H := H1
                                  clear H1
                                  have H' := Aside0.mk H
                                  clear H
                                  go_wp2
                                  go_meet
                                  case rel => exact ⟨_, (true), (by first | rfl | (simp; done) | (simp [*]; done) | ((try simp only [Bool.not_not]); (generalize ByteArray.toList _ = l_); cases l_ <;> rfl) | (simp; (generalize ByteArray.toList _ = l_); cases l_ <;> rfl)), H', ⟨by have := HJ1.out; have := HJ9.out; have := HJ11.out; have := HK4.out; have := HJ14.out; first | omega | exact Nat.le_refl _⟩, ⟨by (with_reducible repeat (first | apply Kd.R_alloc | apply Kd.R_drewN | apply Kd.R_drew)); exact HO_4.out⟩, ⟨by (with_reducible repeat (first | refine blk_drewN ?_ _ | refine blk_drew ?_ | refine blk_alloc ?_ _)); exact BK132.out⟩, ⟨by repeat (first | (with_reducible first | exact HB.out | apply below_alloc | apply pw_below_drewN | apply below_drew1 | refine below_set ?_ GE132.out) | exact HB.out)⟩⟩
                              case rest =>
                                clear HC24
                                try clear c1
                                try clear p1
                                try clear q1
                                try clear hx1
                                try clear c2
                                try clear p2
                                try clear c3
                                try clear c4
                                try clear c4b0
                                try clear c4b1
                                try clear c5
                                try clear c5b0
                                try clear c5b1
                                try clear p6
                                try clear q6
                                try clear hx6
                                try clear qi6
                                try clear c7
                                try clear c7b0
                                try clear c7b1
                                try clear c8
                                try clear c8b0
                                try clear c8b1
                                try clear p9
                                try clear q9
                                try clear hx9
                                try clear qi9
                                try clear c11
                                try clear c13
                                try clear c13b0
                                try clear c14
                                try clear c16
                                try clear c16b0
                                try clear c17
                                try clear c17b0
                                try clear p18
                                try clear q18
                                try clear hx18
                                try clear c19
                                try clear c19b0
                                try clear c19b1
                                try clear c20
                                try clear c20b0
                                try clear c20b1
                                try clear c21
                                try clear c21b0
                                try clear c21b1
                                try clear c22
                                try clear c22b0
                                try clear c22b1
                                try clear c25
                                try clear p1
                                try clear p18
                                try clear p2
                                try clear p6
                                try clear p9
                                try clear q1
                                try clear q18
                                try clear q6
                                try clear q9
                                obtain ⟨kq, x63_23, rfl, HA, HJ23, HO_4, BK132, HB⟩ := hcut
                                cases kq with
                                | zero => exact absurd HA.out (by simp [ddiref02_six.j6])
                                | succ kj23 =>
                                  have H := HA.out
                                  clear HA
                                  simp only [ddiref02_six.j6] at H
                                  by_cases c27 : x63_23 = true
                                  · subst c27
                                    have H1 : (some (false, 0, 0, 3)) = some (r1, r2, r3, r4) := by rw [if_pos rfl] at H; exact H
                                    clear H
                                    have H := H1
                                    clear H1
                                    simp only [Option.some.injEq, Prod.mk.injEq] at H
                                    obtain ⟨rfl, rfl, rfl, rfl⟩ := H
                                    have hcz28_0 : wc.cell? ⟨gb132, 0, none⟩ = some (.bool x133000_4) := (blk_cell BK132.out 0).trans rfl
                                    have hcz28_1 : wc.cell? ⟨gb132, 1, none⟩ = some (.int .u64 x133001_4) := (blk_cell BK132.out 1).trans rfl
                                    have hcz28_2 : wc.cell? ⟨gb132, 2, none⟩ = some (.int .u64 x133002_4) := (blk_cell BK132.out 2).trans rfl
                                    have hfz28_0 := blk_frozen BK132.out 0
                                    have hfz28_1 := blk_frozen BK132.out 1
                                    have hfz28_2 := blk_frozen BK132.out 2
                                    go_wp2
                                    refine bodyPost_ret (results_ct rfl _ _ gb132 24 #[.bool false, .int .u64 0, .int .u64 0] (0, 0) _ rfl (by (with_reducible repeat (first | refine blk_drewN ?_ _ | refine blk_drew ?_ | refine blk_alloc ?_ _)); refine blk_put (cs := #[.bool false, .int .u64 0, .int .u64 x133002_4]) ?_ 2 _ rfl; (with_reducible repeat (first | refine blk_drewN ?_ _ | refine blk_drew ?_ | refine blk_alloc ?_ _)); refine blk_put (cs := #[.bool false, .int .u64 x133001_4, .int .u64 x133002_4]) ?_ 1 _ rfl; (with_reducible repeat (first | refine blk_drewN ?_ _ | refine blk_drew ?_ | refine blk_alloc ?_ _)); refine blk_put (cs := #[.bool x133000_4, .int .u64 x133001_4, .int .u64 x133002_4]) ?_ 0 _ rfl; (with_reducible repeat (first | refine blk_drewN ?_ _ | refine blk_drew ?_ | refine blk_alloc ?_ _)); exact BK132.out) Tryd.underlying24 rfl (by kernel_rfl)) rfl ?_
                                    exact ⟨by first | rfl | (simp [errW_none, errW_some] <;> rfl) | (simp [*, errW_none, errW_some] <;> rfl), by repeat (first | (with_reducible first | exact HB.out | apply below_alloc | apply pw_below_drewN | apply below_drew1 | refine below_set ?_ GE132.out) | exact HB.out)⟩
                                  · replace c27 := Bool.eq_false_iff.mpr c27
                                    subst c27
                                    have H1 : (if x4_4.length < 17592186044416 then ((some (x4_4 ++ [t133] : List Int)).bind fun y135 => (if x8_14 < (a0.size : Int) then (ddiref02_six.j7 kj23 a0 y135 x5_4 (wrap64 (x8_14 + 1)) (decide (x8_14 < (a0.size : Int))) ((wrap64 (x8_14 + 1)) == (a0.size : Int))) else (ddiref02_six.j7 kj23 a0 y135 x5_4 (wrap64 (x8_14 + 1)) (decide (x8_14 < (a0.size : Int))) false))) else (none)) = some (r1, r2, r3, r4) := by rw [if_neg (show ¬ (false = true) by decide)] at H; exact H
                                    clear H
                                    have H := H1
                                    clear H1
                                    by_cases c29 : x4_4.length < 17592186044416
                                    · rw [if_pos c29] at H
                                      have LMc29 := Aside0.mk c29
                                      clear c29
                                      obtain ⟨y135, hy135⟩ : ∃ y_ : List Int, y_ = (x4_4 ++ [t133]) := ⟨_, rfl⟩
                                      replace H : (if x8_14 < (a0.size : Int) then (ddiref02_six.j7 kj23 a0 y135 x5_4 (wrap64 (x8_14 + 1)) (decide (x8_14 < (a0.size : Int))) ((wrap64 (x8_14 + 1)) == (a0.size : Int))) else (ddiref02_six.j7 kj23 a0 y135 x5_4 (wrap64 (x8_14 + 1)) (decide (x8_14 < (a0.size : Int))) false)) = some (r1, r2, r3, r4) := by first | (rw [hy135]; with_reducible exact H) | (have H2_ := (Option.bind_some _ _).symm.trans H; rw [hy135]; with_reducible exact H2_) | (have H2_ := (Option.bind_some _ _).symm.trans H; with_reducible exact H2_) | with_reducible exact H | (rw [hy135]; exact H) | exact H
                                      have Ny135 := Aside0.mk hy135
                                      clear hy135
                                      have HC30 := Aside0.mk H
                                      clear H
                                      go_upto_region 18 with (first | ((with_reducible refine gate_builtin (b := .append) (xs := #[.tmp 65, .tmp 67]) rfl ?_); (try (refine gate_guard (by rfl) ?_; dsimp only)); at_builtin; refine Kd.R_append (Kd.int .u64) (w0 := w) w.heap.size rfl (.tmp 65) (.tmp 67) 67 22 (.int .u64 0) 8 rfl Tryd.underlying67 info22 rfl (by decide) (by omega) u4 x4_4 t133 [.int .u64 t133] (fun _ => True) (fun _ => False) rfl rfl ?aP (fun _ hk => hk.elim) ?aF ?aO ?aB ?aS ?aL ?_; (case aP => exact rfl); (case aB => exact (by repeat (first | (with_reducible first | exact HB.out | apply below_alloc | apply pw_below_drewN | apply below_drew1 | refine below_set ?_ GE132.out) | exact HB.out))); (case aF => exact (fun _ _ => trivial)); (case aO => exact (by (with_reducible repeat (first | apply Kd.R_alloc | apply Kd.R_drewN | apply Kd.R_drew)); exact HO_4.out)); (case aS => exact (below_size (by repeat (first | (with_reducible first | exact HB.out | apply below_alloc | apply pw_below_drewN | apply below_drew1 | refine below_set ?_ GE132.out) | exact HB.out)))); (case aL => have := LMc29.out; omega); intro v136 w31 ho hb hg hat; rw [← Ny135.out] at ho; have n0_ := Aside0.mk (blk_grown (g := gb132) (o := .cells #[.bool x133000_4, .int .u64 x133001_4, .int .u64 x133002_4] 24 (0, 0)) (by (with_reducible repeat (first | refine blk_drewN ?_ _ | refine blk_drew ?_ | refine blk_alloc ?_ _)); exact BK132.out) hg (Kd.R_ne HO_4.out BK132.out (by decide))); have n1_ := Aside0.mk (hb); have n2_ := Aside0.mk (ho); clear BK132; clear HB; clear HO_4; have BK132 := n0_; have HB := n1_; have HO137 := n2_; clear n0_ n1_ n2_; clear ho hb hg hat))
                                      (try simp only [Act.put, List.setIfInBounds_toArray, List.set_cons_zero, List.set_cons_succ])
                                      go_cut [81] (fun v81 wc => ∃ (kq : Nat) (x81_29 : Bool), v81 = .bool x81_29 ∧ Aside0 (ddiref02_six.j7 kq a0 y135 x5_4 (wrap64 (x8_14 + 1)) (decide (x8_14 < (a0.size : Int))) x81_29 = some (r1, r2, r3, r4)) ∧ Aside0 (kq ≤ kj23) ∧ Aside0 (Kd.R (Kd.int .u64) 22 wc w.heap.size (fun _ => True) v136 y135) ∧ Aside0 (wc.heap[gb132]? = some (.cells #[.bool x133000_4, .int .u64 x133001_4, .int .u64 x133002_4] 24 (0, 0))) ∧ Aside0 (Below w.heap.size w wc))
                                      case first =>
                                        have H := HC30.out
                                        clear HC30
                                        by_cases c32 : x8_14 < (a0.size : Int)
                                        · rw [if_pos c32] at H
                                          have c32b0 : decide (x8_14 < (a0.size : Int)) = true := decide_eq_true c32
                                          clear c32
                                          (first | rw [c32b0] | (simp only [i64_w, i32_w]; rw [c32b0]) | skip)
                                          have H' := Aside0.mk H
                                          clear H
                                          go_wp2
                                          refine Met.intro ?_
                                          go_step
                                          (repeat apply Exists.intro)
                                          refine ⟨?rel, ?heq_⟩
                                          case heq_ => first | rfl | (rw [c32b0]) | (simp only [c32b0])
                                          case rel => exact ⟨_, (((wrap64 (x8_14 + 1)) == (a0.size : Int))), (by first | rfl | (simp; done) | (simp [*]; done) | ((try simp only [Bool.not_not]); (generalize ByteArray.toList _ = l_); cases l_ <;> rfl) | (simp; (generalize ByteArray.toList _ = l_); cases l_ <;> rfl)), H', ⟨by have := HJ1.out; have := HJ9.out; have := HJ11.out; have := HK4.out; have := HJ14.out; have := HJ23.out; first | omega | exact Nat.le_refl _⟩, ⟨by (with_reducible repeat (first | apply Kd.R_alloc | apply Kd.R_drewN | apply Kd.R_drew)); exact HO137.out⟩, ⟨by (with_reducible repeat (first | refine blk_drewN ?_ _ | refine blk_drew ?_ | refine blk_alloc ?_ _)); exact BK132.out⟩, ⟨by repeat (first | (with_reducible first | exact HB.out | apply below_alloc | apply pw_below_drewN | apply below_drew1 | refine below_set ?_ GE132.out) | exact HB.out)⟩⟩
                                        · rw [if_neg c32] at H
                                          have c32b0 : decide (x8_14 < (a0.size : Int)) = false := decide_eq_false c32
                                          clear c32
                                          (first | rw [c32b0] | (simp only [i64_w, i32_w]; rw [c32b0]) | skip)
                                          have H' := Aside0.mk H
                                          clear H
                                          go_wp2
                                          refine Met.intro ?_
                                          go_step
                                          (repeat apply Exists.intro)
                                          refine ⟨?rel, ?heq_⟩
                                          case heq_ => first | rfl | (rw [c32b0]) | (simp only [c32b0])
                                          case rel => exact ⟨_, (false), (by first | rfl | (simp; done) | (simp [*]; done) | ((try simp only [Bool.not_not]); (generalize ByteArray.toList _ = l_); cases l_ <;> rfl) | (simp; (generalize ByteArray.toList _ = l_); cases l_ <;> rfl)), H', ⟨by have := HJ1.out; have := HJ9.out; have := HJ11.out; have := HK4.out; have := HJ14.out; have := HJ23.out; first | omega | exact Nat.le_refl _⟩, ⟨by (with_reducible repeat (first | apply Kd.R_alloc | apply Kd.R_drewN | apply Kd.R_drew)); exact HO137.out⟩, ⟨by (with_reducible repeat (first | refine blk_drewN ?_ _ | refine blk_drew ?_ | refine blk_alloc ?_ _)); exact BK132.out⟩, ⟨by repeat (first | (with_reducible first | exact HB.out | apply below_alloc | apply pw_below_drewN | apply below_drew1 | refine below_set ?_ GE132.out) | exact HB.out)⟩⟩
                                      case rest =>
                                        clear HC30
                                        try clear c1
                                        try clear p1
                                        try clear q1
                                        try clear hx1
                                        try clear c2
                                        try clear p2
                                        try clear c3
                                        try clear c4
                                        try clear c4b0
                                        try clear c4b1
                                        try clear c5
                                        try clear c5b0
                                        try clear c5b1
                                        try clear p6
                                        try clear q6
                                        try clear hx6
                                        try clear qi6
                                        try clear c7
                                        try clear c7b0
                                        try clear c7b1
                                        try clear c8
                                        try clear c8b0
                                        try clear c8b1
                                        try clear p9
                                        try clear q9
                                        try clear hx9
                                        try clear qi9
                                        try clear c11
                                        try clear c13
                                        try clear c13b0
                                        try clear c14
                                        try clear c16
                                        try clear c16b0
                                        try clear c17
                                        try clear c17b0
                                        try clear p18
                                        try clear q18
                                        try clear hx18
                                        try clear c19
                                        try clear c19b0
                                        try clear c19b1
                                        try clear c20
                                        try clear c20b0
                                        try clear c20b1
                                        try clear c21
                                        try clear c21b0
                                        try clear c21b1
                                        try clear c22
                                        try clear c22b0
                                        try clear c22b1
                                        try clear c25
                                        try clear c27
                                        try clear c29
                                        try clear c32
                                        try clear c32b0
                                        try clear hcz28_0
                                        try clear hcz28_1
                                        try clear hcz28_2
                                        try clear hfz28_0
                                        try clear hfz28_1
                                        try clear hfz28_2
                                        try clear p1
                                        try clear p18
                                        try clear p2
                                        try clear p6
                                        try clear p9
                                        try clear q1
                                        try clear q18
                                        try clear q6
                                        try clear q9
                                        obtain ⟨kq, x81_29, rfl, HA, HJ29, HO_4, BK132, HB⟩ := hcut
                                        cases kq with
                                        | zero => exact absurd HA.out (by simp [ddiref02_six.j7])
                                        | succ kj29 =>
                                          have H := HA.out
                                          clear HA
                                          simp only [ddiref02_six.j7] at H
                                          by_cases c33 : x81_29 = true
                                          · subst c33
                                            have H1 : (some (false, 0, 0, 3)) = some (r1, r2, r3, r4) := by rw [if_pos rfl] at H; exact H
                                            clear H
                                            have H := H1
                                            clear H1
                                            simp only [Option.some.injEq, Prod.mk.injEq] at H
                                            obtain ⟨rfl, rfl, rfl, rfl⟩ := H
                                            have hcz34_0 : wc.cell? ⟨gb132, 0, none⟩ = some (.bool x133000_4) := (blk_cell BK132.out 0).trans rfl
                                            have hcz34_1 : wc.cell? ⟨gb132, 1, none⟩ = some (.int .u64 x133001_4) := (blk_cell BK132.out 1).trans rfl
                                            have hcz34_2 : wc.cell? ⟨gb132, 2, none⟩ = some (.int .u64 x133002_4) := (blk_cell BK132.out 2).trans rfl
                                            have hfz34_0 := blk_frozen BK132.out 0
                                            have hfz34_1 := blk_frozen BK132.out 1
                                            have hfz34_2 := blk_frozen BK132.out 2
                                            go_wp2
                                            refine bodyPost_ret (results_ct rfl _ _ gb132 24 #[.bool false, .int .u64 0, .int .u64 0] (0, 0) _ rfl (by (with_reducible repeat (first | refine blk_drewN ?_ _ | refine blk_drew ?_ | refine blk_alloc ?_ _)); refine blk_put (cs := #[.bool false, .int .u64 0, .int .u64 x133002_4]) ?_ 2 _ rfl; (with_reducible repeat (first | refine blk_drewN ?_ _ | refine blk_drew ?_ | refine blk_alloc ?_ _)); refine blk_put (cs := #[.bool false, .int .u64 x133001_4, .int .u64 x133002_4]) ?_ 1 _ rfl; (with_reducible repeat (first | refine blk_drewN ?_ _ | refine blk_drew ?_ | refine blk_alloc ?_ _)); refine blk_put (cs := #[.bool x133000_4, .int .u64 x133001_4, .int .u64 x133002_4]) ?_ 0 _ rfl; (with_reducible repeat (first | refine blk_drewN ?_ _ | refine blk_drew ?_ | refine blk_alloc ?_ _)); exact BK132.out) Tryd.underlying24 rfl (by kernel_rfl)) rfl ?_
                                            exact ⟨by first | rfl | (simp [errW_none, errW_some] <;> rfl) | (simp [*, errW_none, errW_some] <;> rfl), by repeat (first | (with_reducible first | exact HB.out | apply below_alloc | apply pw_below_drewN | apply below_drew1 | refine below_set ?_ GE132.out) | exact HB.out)⟩
                                          · replace c33 := Bool.eq_false_iff.mpr c33
                                            subst c33
                                            have H1 : (if (decide (x8_14 < (a0.size : Int))) = true then (if 0 ≤ (wrap64 (x8_14 + 1)) then (if (wrap64 (x8_14 + 1)) < (a0.size : Int) then (ddiref02_six.j8 kj29 a0 y135 x5_4 (wrap64 (x8_14 + 1)) (decide (x8_14 < (a0.size : Int))) ((bt a0 (wrap64 (x8_14 + 1))) == 58)) else (none)) else (none)) else (ddiref02_six.j8 kj29 a0 y135 x5_4 (wrap64 (x8_14 + 1)) (decide (x8_14 < (a0.size : Int))) false)) = some (r1, r2, r3, r4) := by rw [if_neg (show ¬ (false = true) by decide)] at H; exact H
                                            clear H
                                            have H := H1
                                            clear H1
                                            have HC35 := Aside0.mk H
                                            clear H
                                            go_upto_region 20 with (fail)
                                            go_cut [89] (fun v89 wc => ∃ (kq : Nat) (x89_34 : Bool), v89 = .bool x89_34 ∧ Aside0 (ddiref02_six.j8 kq a0 y135 x5_4 (wrap64 (x8_14 + 1)) (decide (x8_14 < (a0.size : Int))) x89_34 = some (r1, r2, r3, r4)) ∧ Aside0 (kq ≤ kj29) ∧ Aside0 (Kd.R (Kd.int .u64) 22 wc w.heap.size (fun _ => True) v136 y135) ∧ Aside0 (wc.heap[gb132]? = some (.cells #[.bool x133000_4, .int .u64 x133001_4, .int .u64 x133002_4] 24 (0, 0))) ∧ Aside0 (Below w.heap.size w wc))
                                            case first =>
                                              have H := HC35.out
                                              clear HC35
                                              by_cases c36 : (decide (x8_14 < (a0.size : Int))) = true
                                              · rw [if_pos c36] at H
                                                have c36b0 : (decide (x8_14 < (a0.size : Int))) = true := c36
                                                clear c36
                                                (first | rw [c36b0] | (simp only [i64_w, i32_w]; rw [c36b0]) | skip)
                                                obtain ⟨ji37, hji37⟩ : ∃ j_ : Int, (wrap64 (x8_14 + 1)) = j_ := ⟨_, rfl⟩
                                                replace H : (if 0 ≤ (ji37) then (if (ji37) < (a0.size : Int) then (ddiref02_six.j8 kj29 a0 y135 x5_4 (ji37) (decide (x8_14 < (a0.size : Int))) ((bt a0 (ji37)) == 58)) else (none)) else (none)) = some (r1, r2, r3, r4) := by first | (rw [hji37] at H; exact H) | (simp only [hji37] at H ⊢; exact H)
                                                have hji37w : (IntKind.i64.wrap (x8_14 + 1)) = ji37 := (i64_w _).trans hji37
                                                by_cases c38 : 0 ≤ (ji37)
                                                · rw [if_pos c38] at H
                                                  have c38b0 : decide (0 ≤ (ji37)) = true := decide_eq_true c38
                                                  clear c38
                                                  by_cases c39 : (ji37) < (a0.size : Int)
                                                  · rw [if_pos c39] at H
                                                    have c39b0 : decide ((ji37) < (a0.size : Int)) = true := decide_eq_true c39
                                                    clear c39
                                                    have H' := Aside0.mk H
                                                    clear H
                                                    have p40 : 0 ≤ ((ji37) : Int) := of_decide_eq_true (by first | (with_reducible assumption) | assumption)
                                                    have q40 : (ji37) < (a0.size : Int) := of_decide_eq_true (by first | (with_reducible assumption) | assumption)
                                                    have hx40 := bt_at a0 (ji37)
                                                    replace p40 := eq_true p40
                                                    replace q40 := eq_true q40
                                                    go_wp2
                                                    refine Met.intro ?_
                                                    go_step
                                                    (repeat apply Exists.intro)
                                                    refine ⟨?rel, ?heq_⟩
                                                    case heq_ => first | rfl | (rw [c36b0]) | (simp only [c36b0])
                                                    case rel => exact ⟨_, (((bt a0 (ji37)) == 58)), (by first | rfl | (simp; done) | (simp only [← hji37] <;> (first | rfl | simp)) | (simp [*]; done) | ((try simp only [Bool.not_not]); (generalize ByteArray.toList _ = l_); cases l_ <;> rfl) | (simp; (generalize ByteArray.toList _ = l_); cases l_ <;> rfl)), (by first | exact H' | (simp only [hji37]; exact H') | (simp only [hji37] at H' ⊢; exact H')), ⟨by have := HJ1.out; have := HJ9.out; have := HJ11.out; have := HK4.out; have := HJ14.out; have := HJ23.out; have := HJ29.out; first | omega | exact Nat.le_refl _⟩, ⟨by (with_reducible repeat (first | apply Kd.R_alloc | apply Kd.R_drewN | apply Kd.R_drew)); exact HO_4.out⟩, ⟨by (with_reducible repeat (first | refine blk_drewN ?_ _ | refine blk_drew ?_ | refine blk_alloc ?_ _)); exact BK132.out⟩, ⟨by repeat (first | (with_reducible first | exact HB.out | apply below_alloc | apply pw_below_drewN | apply below_drew1 | refine below_set ?_ GE132.out) | exact HB.out)⟩⟩
                                                  · rw [if_neg c39] at H
                                                    exact absurd H (by simp)
                                                · rw [if_neg c38] at H
                                                  exact absurd H (by simp)
                                              · rw [if_neg c36] at H
                                                have c36b0 : (decide (x8_14 < (a0.size : Int))) = false := by simpa using c36
                                                clear c36
                                                (first | rw [c36b0] | (simp only [i64_w, i32_w]; rw [c36b0]) | skip)
                                                have H' := Aside0.mk H
                                                clear H
                                                go_wp2
                                                refine Met.intro ?_
                                                go_step
                                                (repeat apply Exists.intro)
                                                refine ⟨?rel, ?heq_⟩
                                                case heq_ => first | rfl | (rw [c36b0]) | (simp only [c36b0])
                                                case rel => exact ⟨_, (false), (by first | rfl | (simp; done) | (simp [*]; done) | ((try simp only [Bool.not_not]); (generalize ByteArray.toList _ = l_); cases l_ <;> rfl) | (simp; (generalize ByteArray.toList _ = l_); cases l_ <;> rfl)), H', ⟨by have := HJ1.out; have := HJ9.out; have := HJ11.out; have := HK4.out; have := HJ14.out; have := HJ23.out; have := HJ29.out; first | omega | exact Nat.le_refl _⟩, ⟨by (with_reducible repeat (first | apply Kd.R_alloc | apply Kd.R_drewN | apply Kd.R_drew)); exact HO_4.out⟩, ⟨by (with_reducible repeat (first | refine blk_drewN ?_ _ | refine blk_drew ?_ | refine blk_alloc ?_ _)); exact BK132.out⟩, ⟨by repeat (first | (with_reducible first | exact HB.out | apply below_alloc | apply pw_below_drewN | apply below_drew1 | refine below_set ?_ GE132.out) | exact HB.out)⟩⟩
                                            case rest =>
                                              clear HC35
                                              try clear c1
                                              try clear p1
                                              try clear q1
                                              try clear hx1
                                              try clear c2
                                              try clear p2
                                              try clear c3
                                              try clear c4
                                              try clear c4b0
                                              try clear c4b1
                                              try clear p4
                                              try clear q4
                                              try clear hx4
                                              try clear c5
                                              try clear c5b0
                                              try clear c5b1
                                              try clear p6
                                              try clear q6
                                              try clear hx6
                                              try clear qi6
                                              try clear c7
                                              try clear c7b0
                                              try clear c7b1
                                              try clear c8
                                              try clear c8b0
                                              try clear c8b1
                                              try clear p9
                                              try clear q9
                                              try clear hx9
                                              try clear qi9
                                              try clear c11
                                              try clear c13
                                              try clear c13b0
                                              try clear c14
                                              try clear c16
                                              try clear c16b0
                                              try clear c17
                                              try clear c17b0
                                              try clear p18
                                              try clear q18
                                              try clear hx18
                                              try clear c19
                                              try clear c19b0
                                              try clear c19b1
                                              try clear c20
                                              try clear c20b0
                                              try clear c20b1
                                              try clear c21
                                              try clear c21b0
                                              try clear c21b1
                                              try clear c22
                                              try clear c22b0
                                              try clear c22b1
                                              try clear c25
                                              try clear c27
                                              try clear c29
                                              try clear c32
                                              try clear c32b0
                                              try clear c33
                                              try clear c34
                                              try clear c36
                                              try clear c36b0
                                              try clear c38
                                              try clear c38b0
                                              try clear c39
                                              try clear c39b0
                                              try clear p40
                                              try clear q40
                                              try clear hx40
                                              try clear hcz28_0
                                              try clear hcz28_1
                                              try clear hcz28_2
                                              try clear hcz34_0
                                              try clear hcz34_1
                                              try clear hcz34_2
                                              try clear hfz28_0
                                              try clear hfz28_1
                                              try clear hfz28_2
                                              try clear hfz34_0
                                              try clear hfz34_1
                                              try clear hfz34_2
                                              try clear p1
                                              try clear p18
                                              try clear p2
                                              try clear p40
                                              try clear p6
                                              try clear p9
                                              try clear q1
                                              try clear q18
                                              try clear q40
                                              try clear q6
                                              try clear q9
                                              obtain ⟨kq, x89_34, rfl, HA, HJ34, HO_4, BK132, HB⟩ := hcut
                                              cases kq with
                                              | zero => exact absurd HA.out (by simp [ddiref02_six.j8])
                                              | succ kj34 =>
                                                have H := HA.out
                                                clear HA
                                                simp only [ddiref02_six.j8] at H
                                                by_cases c41 : x89_34 = true
                                                · subst c41
                                                  have H1 : (if x5_4 ≥ 0 then (some (false, 0, 0, 3)) else (ddiref02_six.l0 kj34 a0 y135 (y135.length : Int) (wrap64 ((wrap64 (x8_14 + 1)) + 1)) (decide ((wrap64 ((wrap64 (x8_14 + 1)) + 1)) < (a0.size : Int))))) = some (r1, r2, r3, r4) := by rw [if_pos rfl] at H; exact H
                                                  clear H
                                                  have H := H1
                                                  clear H1
                                                  by_cases c42 : x5_4 ≥ 0
                                                  · rw [if_pos c42] at H
                                                    have c42b0 : decide (0 ≤ x5_4) = true := decide_eq_true c42
                                                    clear c42
                                                    simp only [Option.some.injEq, Prod.mk.injEq] at H
                                                    obtain ⟨rfl, rfl, rfl, rfl⟩ := H
                                                    have hcz43_0 : wc.cell? ⟨gb132, 0, none⟩ = some (.bool x133000_4) := (blk_cell BK132.out 0).trans rfl
                                                    have hcz43_1 : wc.cell? ⟨gb132, 1, none⟩ = some (.int .u64 x133001_4) := (blk_cell BK132.out 1).trans rfl
                                                    have hcz43_2 : wc.cell? ⟨gb132, 2, none⟩ = some (.int .u64 x133002_4) := (blk_cell BK132.out 2).trans rfl
                                                    have hfz43_0 := blk_frozen BK132.out 0
                                                    have hfz43_1 := blk_frozen BK132.out 1
                                                    have hfz43_2 := blk_frozen BK132.out 2
                                                    go_wp2
                                                    refine bodyPost_ret (results_ct rfl _ _ gb132 24 #[.bool false, .int .u64 0, .int .u64 0] (0, 0) _ rfl (by (with_reducible repeat (first | refine blk_drewN ?_ _ | refine blk_drew ?_ | refine blk_alloc ?_ _)); refine blk_put (cs := #[.bool false, .int .u64 0, .int .u64 x133002_4]) ?_ 2 _ rfl; (with_reducible repeat (first | refine blk_drewN ?_ _ | refine blk_drew ?_ | refine blk_alloc ?_ _)); refine blk_put (cs := #[.bool false, .int .u64 x133001_4, .int .u64 x133002_4]) ?_ 1 _ rfl; (with_reducible repeat (first | refine blk_drewN ?_ _ | refine blk_drew ?_ | refine blk_alloc ?_ _)); refine blk_put (cs := #[.bool x133000_4, .int .u64 x133001_4, .int .u64 x133002_4]) ?_ 0 _ rfl; (with_reducible repeat (first | refine blk_drewN ?_ _ | refine blk_drew ?_ | refine blk_alloc ?_ _)); exact BK132.out) Tryd.underlying24 rfl (by kernel_rfl)) rfl ?_
                                                    exact ⟨by first | rfl | (simp [errW_none, errW_some] <;> rfl) | (simp [*, errW_none, errW_some] <;> rfl), by repeat (first | (with_reducible first | exact HB.out | apply below_alloc | apply pw_below_drewN | apply below_drew1 | refine below_set ?_ GE132.out) | exact HB.out)⟩
                                                  · rw [if_neg c42] at H
                                                    have c42b0 : decide (0 ≤ x5_4) = false := decide_eq_false c42
                                                    clear c42
                                                    have H' := Aside0.mk H
                                                    clear H
                                                    obtain ⟨Ao44, co44, eo44⟩ := Kd.R_slice HO_4.out
                                                    subst eo44
                                                    go_wp2
                                                    go_roundg kj34
                                                    case measure => have := HJ1.out; have := HJ9.out; have := HJ11.out; have := HK4.out; have := HJ14.out; have := HJ23.out; have := HJ29.out; have := HJ34.out; omega
                                                    case rel => exact ⟨(y135), ((y135.length : Int)), (wrap64 ((wrap64 (x8_14 + 1)) + 1)), (decide ((wrap64 ((wrap64 (x8_14 + 1)) + 1)) < (a0.size : Int))), (x133000_4), (x133001_4), (x133002_4), (by first | rfl | (simp; done) | (simp [*]; done) | ((try simp only [Bool.not_not]); (generalize ByteArray.toList _ = l_); cases l_ <;> rfl) | (simp; (generalize ByteArray.toList _ = l_); cases l_ <;> rfl)), (by first | rfl | (simp; done) | (simp [*]; done) | ((try simp only [Bool.not_not]); (generalize ByteArray.toList _ = l_); cases l_ <;> rfl) | (simp; (generalize ByteArray.toList _ = l_); cases l_ <;> rfl)), (by first | rfl | (simp; done) | (simp [*]; done) | ((try simp only [Bool.not_not]); (generalize ByteArray.toList _ = l_); cases l_ <;> rfl) | (simp; (generalize ByteArray.toList _ = l_); cases l_ <;> rfl)), H', ⟨by have := HJ1.out; have := HJ9.out; have := HJ11.out; have := HK4.out; have := HJ14.out; have := HJ23.out; have := HJ29.out; have := HJ34.out; omega⟩, ⟨by (with_reducible repeat (first | apply Kd.R_alloc | apply Kd.R_drewN | apply Kd.R_drew)); exact HO_4.out⟩, ⟨by (with_reducible repeat (first | refine blk_drewN ?_ _ | refine blk_drew ?_ | refine blk_alloc ?_ _)); exact BK132.out⟩, ⟨by repeat (first | (with_reducible first | exact HB.out | apply below_alloc | apply pw_below_drewN | apply below_drew1 | refine below_set ?_ GE132.out) | exact HB.out)⟩⟩
                                                · replace c41 := Bool.eq_false_iff.mpr c41
                                                  subst c41
                                                  have H1 : (ddiref02_six.l0 kj34 a0 y135 x5_4 (wrap64 (x8_14 + 1)) (decide (x8_14 < (a0.size : Int)))) = some (r1, r2, r3, r4) := by rw [if_neg (show ¬ (false = true) by decide)] at H; exact H
                                                  clear H
                                                  have H := H1
                                                  clear H1
                                                  have H' := Aside0.mk H
                                                  clear H
                                                  go_wp2
                                                  go_roundg kj34
                                                  case measure => have := HJ1.out; have := HJ9.out; have := HJ11.out; have := HK4.out; have := HJ14.out; have := HJ23.out; have := HJ29.out; have := HJ34.out; omega
                                                  case rel => exact ⟨(y135), (x5_4), ((wrap64 (x8_14 + 1))), ((decide (x8_14 < (a0.size : Int)))), (x133000_4), (x133001_4), (x133002_4), (by first | rfl | (simp; done) | (simp [*]; done) | ((try simp only [Bool.not_not]); (generalize ByteArray.toList _ = l_); cases l_ <;> rfl) | (simp; (generalize ByteArray.toList _ = l_); cases l_ <;> rfl)), (by first | rfl | (simp; done) | (simp [*]; done) | ((try simp only [Bool.not_not]); (generalize ByteArray.toList _ = l_); cases l_ <;> rfl) | (simp; (generalize ByteArray.toList _ = l_); cases l_ <;> rfl)), (by first | rfl | (simp; done) | (simp [*]; done) | ((try simp only [Bool.not_not]); (generalize ByteArray.toList _ = l_); cases l_ <;> rfl) | (simp; (generalize ByteArray.toList _ = l_); cases l_ <;> rfl)), H', ⟨by have := HJ1.out; have := HJ9.out; have := HJ11.out; have := HK4.out; have := HJ14.out; have := HJ23.out; have := HJ29.out; have := HJ34.out; omega⟩, ⟨by (with_reducible repeat (first | apply Kd.R_alloc | apply Kd.R_drewN | apply Kd.R_drew)); exact HO_4.out⟩, ⟨by (with_reducible repeat (first | refine blk_drewN ?_ _ | refine blk_drew ?_ | refine blk_alloc ?_ _)); exact BK132.out⟩, ⟨by repeat (first | (with_reducible first | exact HB.out | apply below_alloc | apply pw_below_drewN | apply below_drew1 | refine below_set ?_ GE132.out) | exact HB.out)⟩⟩
                                    · rw [if_neg c29] at H
                                      exact absurd H (by simp)
                            · rw [if_neg c22] at H
                              exact absurd H (by simp)
                          · rw [if_neg c21] at H
                            exact absurd H (by simp)
                        · rw [if_neg c20] at H
                          exact absurd H (by simp)
                  · replace c14 := Bool.eq_false_iff.mpr c14
                    subst c14
                    have H1 : (if x5_4 < 0 then (if (x4_4.length : Int) = 8 then (if x5_4 ≥ 0 then (ddiref02_six.j9 k4 x4_4 x5_4 (decide ((x4_4.length : Int) > 7))) else (ddiref02_six.j9 k4 x4_4 x5_4 false)) else (ddiref02_six.j9 k4 x4_4 x5_4 true)) else (if x5_4 ≥ 0 then (ddiref02_six.j9 k4 x4_4 x5_4 (decide ((x4_4.length : Int) > 7))) else (ddiref02_six.j9 k4 x4_4 x5_4 false))) = some (r1, r2, r3, r4) := by rw [if_neg (show ¬ (false = true) by decide)] at H; exact H
                    clear H
                    have H := H1
                    clear H1
                    have HC45 := Aside0.mk H
                    clear H
                    go_upto_region 26 with (fail)
                    go_cut [116] (fun v116 wc => ∃ (kq : Nat) (x116_44 : Bool), v116 = .bool x116_44 ∧ Aside0 (ddiref02_six.j9 kq x4_4 x5_4 x116_44 = some (r1, r2, r3, r4)) ∧ Aside0 (kq ≤ k4) ∧ Aside0 (Kd.R (Kd.int .u64) 22 wc w.heap.size (fun _ => True) u4 x4_4) ∧ Aside0 (wc.heap[gb132]? = some (.cells #[.bool x133000_4, .int .u64 x133001_4, .int .u64 x133002_4] 24 (0, 0))) ∧ Aside0 (Below w.heap.size w wc))
                    case first =>
                      have H := HC45.out
                      clear HC45
                      by_cases c46 : x5_4 < 0
                      · rw [if_pos c46] at H
                        have c46b0 : decide (x5_4 < 0) = true := decide_eq_true c46
                        clear c46
                        (first | rw [c46b0] | (simp only [i64_w, i32_w]; rw [c46b0]) | skip)
                        by_cases c47 : (x4_4.length : Int) = 8
                        · rw [if_pos c47] at H
                          have c47b0 : ((x4_4.length : Int) == 8) = true := beq_iff_eq.mpr c47
                          have c47b1 : ((x4_4.length : Int) != 8) = false := bne_eq_false_iff_eq.mpr c47
                          clear c47
                          by_cases c48 : x5_4 ≥ 0
                          · rw [if_pos c48] at H
                            have c48b0 : decide (0 ≤ x5_4) = true := decide_eq_true c48
                            clear c48
                            have H' := Aside0.mk H
                            clear H
                            obtain ⟨Ao49, co49, eo49⟩ := Kd.R_slice HO_4.out
                            subst eo49
                            go_wp2
                            refine Met.intro ?_
                            go_step
                            (repeat apply Exists.intro)
                            refine ⟨?rel, ?heq_⟩
                            case heq_ => first | rfl | (rw [c46b0]) | (simp only [c46b0])
                            case rel => exact ⟨_, (decide ((x4_4.length : Int) > 7)), (by first | rfl | (simp; done) | (simp [*]; done) | ((try simp only [Bool.not_not]); (generalize ByteArray.toList _ = l_); cases l_ <;> rfl) | (simp; (generalize ByteArray.toList _ = l_); cases l_ <;> rfl)), H', ⟨by have := HJ1.out; have := HJ9.out; have := HJ11.out; have := HK4.out; first | omega | exact Nat.le_refl _⟩, ⟨by (with_reducible repeat (first | apply Kd.R_alloc | apply Kd.R_drewN | apply Kd.R_drew)); exact HO_4.out⟩, ⟨by (with_reducible repeat (first | refine blk_drewN ?_ _ | refine blk_drew ?_ | refine blk_alloc ?_ _)); exact BK132.out⟩, ⟨by repeat (first | (with_reducible first | exact HB.out | apply below_alloc | apply pw_below_drewN | apply below_drew1 | refine below_set ?_ GE132.out) | exact HB.out)⟩⟩
                          · rw [if_neg c48] at H
                            have c48b0 : decide (0 ≤ x5_4) = false := decide_eq_false c48
                            clear c48
                            have H' := Aside0.mk H
                            clear H
                            obtain ⟨Ao50, co50, eo50⟩ := Kd.R_slice HO_4.out
                            subst eo50
                            go_wp2
                            refine Met.intro ?_
                            go_step
                            (repeat apply Exists.intro)
                            refine ⟨?rel, ?heq_⟩
                            case heq_ => first | rfl | (rw [c46b0]) | (simp only [c46b0])
                            case rel => exact ⟨_, (false), (by first | rfl | (simp; done) | (simp [*]; done) | ((try simp only [Bool.not_not]); (generalize ByteArray.toList _ = l_); cases l_ <;> rfl) | (simp; (generalize ByteArray.toList _ = l_); cases l_ <;> rfl)), H', ⟨by have := HJ1.out; have := HJ9.out; have := HJ11.out; have := HK4.out; first | omega | exact Nat.le_refl _⟩, ⟨by (with_reducible repeat (first | apply Kd.R_alloc | apply Kd.R_drewN | apply Kd.R_drew)); exact HO_4.out⟩, ⟨by (with_reducible repeat (first | refine blk_drewN ?_ _ | refine blk_drew ?_ | refine blk_alloc ?_ _)); exact BK132.out⟩, ⟨by repeat (first | (with_reducible first | exact HB.out | apply below_alloc | apply pw_below_drewN | apply below_drew1 | refine below_set ?_ GE132.out) | exact HB.out)⟩⟩
                        · rw [if_neg c47] at H
                          have c47b0 : ((x4_4.length : Int) == 8) = false := beq_eq_false_iff_ne.mpr c47
                          have c47b1 : ((x4_4.length : Int) != 8) = true := bne_iff_ne.mpr c47
                          have H' := Aside0.mk H
                          clear H
                          obtain ⟨Ao51, co51, eo51⟩ := Kd.R_slice HO_4.out
                          subst eo51
                          go_wp2
                          refine Met.intro ?_
                          go_step
                          (repeat apply Exists.intro)
                          refine ⟨?rel, ?heq_⟩
                          case heq_ => first | rfl | (rw [c46b0]) | (simp only [c46b0])
                          case rel => exact ⟨_, (true), (by first | rfl | (simp; done) | (simp [*]; done) | ((try simp only [Bool.not_not]); (generalize ByteArray.toList _ = l_); cases l_ <;> rfl) | (simp; (generalize ByteArray.toList _ = l_); cases l_ <;> rfl)), H', ⟨by have := HJ1.out; have := HJ9.out; have := HJ11.out; have := HK4.out; first | omega | exact Nat.le_refl _⟩, ⟨by (with_reducible repeat (first | apply Kd.R_alloc | apply Kd.R_drewN | apply Kd.R_drew)); exact HO_4.out⟩, ⟨by (with_reducible repeat (first | refine blk_drewN ?_ _ | refine blk_drew ?_ | refine blk_alloc ?_ _)); exact BK132.out⟩, ⟨by repeat (first | (with_reducible first | exact HB.out | apply below_alloc | apply pw_below_drewN | apply below_drew1 | refine below_set ?_ GE132.out) | exact HB.out)⟩⟩
                      · rw [if_neg c46] at H
                        have c46b0 : decide (x5_4 < 0) = false := decide_eq_false c46
                        clear c46
                        (first | rw [c46b0] | (simp only [i64_w, i32_w]; rw [c46b0]) | skip)
                        by_cases c52 : x5_4 ≥ 0
                        · rw [if_pos c52] at H
                          have c52b0 : decide (0 ≤ x5_4) = true := decide_eq_true c52
                          clear c52
                          have H' := Aside0.mk H
                          clear H
                          obtain ⟨Ao53, co53, eo53⟩ := Kd.R_slice HO_4.out
                          subst eo53
                          go_wp2
                          refine Met.intro ?_
                          go_step
                          (repeat apply Exists.intro)
                          refine ⟨?rel, ?heq_⟩
                          case heq_ => first | rfl | (rw [c46b0]) | (simp only [c46b0])
                          case rel => exact ⟨_, (decide ((x4_4.length : Int) > 7)), (by first | rfl | (simp; done) | (simp [*]; done) | ((try simp only [Bool.not_not]); (generalize ByteArray.toList _ = l_); cases l_ <;> rfl) | (simp; (generalize ByteArray.toList _ = l_); cases l_ <;> rfl)), H', ⟨by have := HJ1.out; have := HJ9.out; have := HJ11.out; have := HK4.out; first | omega | exact Nat.le_refl _⟩, ⟨by (with_reducible repeat (first | apply Kd.R_alloc | apply Kd.R_drewN | apply Kd.R_drew)); exact HO_4.out⟩, ⟨by (with_reducible repeat (first | refine blk_drewN ?_ _ | refine blk_drew ?_ | refine blk_alloc ?_ _)); exact BK132.out⟩, ⟨by repeat (first | (with_reducible first | exact HB.out | apply below_alloc | apply pw_below_drewN | apply below_drew1 | refine below_set ?_ GE132.out) | exact HB.out)⟩⟩
                        · rw [if_neg c52] at H
                          have c52b0 : decide (0 ≤ x5_4) = false := decide_eq_false c52
                          clear c52
                          have H' := Aside0.mk H
                          clear H
                          go_wp2
                          refine Met.intro ?_
                          go_step
                          (repeat apply Exists.intro)
                          refine ⟨?rel, ?heq_⟩
                          case heq_ => first | rfl | (rw [c46b0]) | (simp only [c46b0])
                          case rel => exact ⟨_, (false), (by first | rfl | (simp; done) | (simp [*]; done) | ((try simp only [Bool.not_not]); (generalize ByteArray.toList _ = l_); cases l_ <;> rfl) | (simp; (generalize ByteArray.toList _ = l_); cases l_ <;> rfl)), H', ⟨by have := HJ1.out; have := HJ9.out; have := HJ11.out; have := HK4.out; first | omega | exact Nat.le_refl _⟩, ⟨by (with_reducible repeat (first | apply Kd.R_alloc | apply Kd.R_drewN | apply Kd.R_drew)); exact HO_4.out⟩, ⟨by (with_reducible repeat (first | refine blk_drewN ?_ _ | refine blk_drew ?_ | refine blk_alloc ?_ _)); exact BK132.out⟩, ⟨by repeat (first | (with_reducible first | exact HB.out | apply below_alloc | apply pw_below_drewN | apply below_drew1 | refine below_set ?_ GE132.out) | exact HB.out)⟩⟩
                    case rest =>
                      clear HC45
                      try clear c1
                      try clear p1
                      try clear q1
                      try clear hx1
                      try clear c2
                      try clear p2
                      try clear c3
                      try clear c4
                      try clear c4b0
                      try clear c4b1
                      try clear p4
                      try clear q4
                      try clear hx4
                      try clear c5
                      try clear c5b0
                      try clear c5b1
                      try clear p6
                      try clear q6
                      try clear hx6
                      try clear qi6
                      try clear c7
                      try clear c7b0
                      try clear c7b1
                      try clear c8
                      try clear c8b0
                      try clear c8b1
                      try clear p9
                      try clear q9
                      try clear hx9
                      try clear qi9
                      try clear c11
                      try clear c13
                      try clear c13b0
                      try clear c14
                      try clear c16
                      try clear c16b0
                      try clear c17
                      try clear c17b0
                      try clear p18
                      try clear q18
                      try clear hx18
                      try clear c19
                      try clear c19b0
                      try clear c19b1
                      try clear c20
                      try clear c20b0
                      try clear c20b1
                      try clear c21
                      try clear c21b0
                      try clear c21b1
                      try clear c22
                      try clear c22b0
                      try clear c22b1
                      try clear c25
                      try clear c27
                      try clear c29
                      try clear c32
                      try clear c32b0
                      try clear c33
                      try clear c34
                      try clear c36
                      try clear c36b0
                      try clear c38
                      try clear c38b0
                      try clear c39
                      try clear c39b0
                      try clear p40
                      try clear q40
                      try clear hx40
                      try clear c41
                      try clear c42
                      try clear c42b0
                      try clear c46
                      try clear c46b0
                      try clear c47
                      try clear c47b0
                      try clear c47b1
                      try clear c48
                      try clear c48b0
                      try clear c52
                      try clear c52b0
                      try clear hcz28_0
                      try clear hcz28_1
                      try clear hcz28_2
                      try clear hcz34_0
                      try clear hcz34_1
                      try clear hcz34_2
                      try clear hcz43_0
                      try clear hcz43_1
                      try clear hcz43_2
                      try clear hfz28_0
                      try clear hfz28_1
                      try clear hfz28_2
                      try clear hfz34_0
                      try clear hfz34_1
                      try clear hfz34_2
                      try clear hfz43_0
                      try clear hfz43_1
                      try clear hfz43_2
                      try clear p1
                      try clear p18
                      try clear p2
                      try clear p4
                      try clear p40
                      try clear p6
                      try clear p9
                      try clear q1
                      try clear q18
                      try clear q4
                      try clear q40
                      try clear q6
                      try clear q9
                      obtain ⟨kq, x116_44, rfl, HA, HJ44, HO_4, BK132, HB⟩ := hcut
                      cases kq with
                      | zero => exact absurd HA.out (by simp [ddiref02_six.j9])
                      | succ kj44 =>
                        have H := HA.out
                        clear HA
                        simp only [ddiref02_six.j9] at H
                        by_cases c54 : x116_44 = true
                        · subst c54
                          have H1 : (some (false, 0, 0, 3)) = some (r1, r2, r3, r4) := by rw [if_pos rfl] at H; exact H
                          clear H
                          have H := H1
                          clear H1
                          simp only [Option.some.injEq, Prod.mk.injEq] at H
                          obtain ⟨rfl, rfl, rfl, rfl⟩ := H
                          have hcz55_0 : wc.cell? ⟨gb132, 0, none⟩ = some (.bool x133000_4) := (blk_cell BK132.out 0).trans rfl
                          have hcz55_1 : wc.cell? ⟨gb132, 1, none⟩ = some (.int .u64 x133001_4) := (blk_cell BK132.out 1).trans rfl
                          have hcz55_2 : wc.cell? ⟨gb132, 2, none⟩ = some (.int .u64 x133002_4) := (blk_cell BK132.out 2).trans rfl
                          have hfz55_0 := blk_frozen BK132.out 0
                          have hfz55_1 := blk_frozen BK132.out 1
                          have hfz55_2 := blk_frozen BK132.out 2
                          go_wp2
                          refine bodyPost_ret (results_ct rfl _ _ gb132 24 #[.bool false, .int .u64 0, .int .u64 0] (0, 0) _ rfl (by (with_reducible repeat (first | refine blk_drewN ?_ _ | refine blk_drew ?_ | refine blk_alloc ?_ _)); refine blk_put (cs := #[.bool false, .int .u64 0, .int .u64 x133002_4]) ?_ 2 _ rfl; (with_reducible repeat (first | refine blk_drewN ?_ _ | refine blk_drew ?_ | refine blk_alloc ?_ _)); refine blk_put (cs := #[.bool false, .int .u64 x133001_4, .int .u64 x133002_4]) ?_ 1 _ rfl; (with_reducible repeat (first | refine blk_drewN ?_ _ | refine blk_drew ?_ | refine blk_alloc ?_ _)); refine blk_put (cs := #[.bool x133000_4, .int .u64 x133001_4, .int .u64 x133002_4]) ?_ 0 _ rfl; (with_reducible repeat (first | refine blk_drewN ?_ _ | refine blk_drew ?_ | refine blk_alloc ?_ _)); exact BK132.out) Tryd.underlying24 rfl (by kernel_rfl)) rfl ?_
                          exact ⟨by first | rfl | (simp [errW_none, errW_some] <;> rfl) | (simp [*, errW_none, errW_some] <;> rfl), by repeat (first | (with_reducible first | exact HB.out | apply below_alloc | apply pw_below_drewN | apply below_drew1 | refine below_set ?_ GE132.out) | exact HB.out)⟩
                        · replace c54 := Bool.eq_false_iff.mpr c54
                          subst c54
                          have H1 : (ddiref02_six.l2 kj44 x4_4 x5_4 0 true 0 0) = some (r1, r2, r3, r4) := by rw [if_neg (show ¬ (false = true) by decide)] at H; exact H
                          clear H
                          have H := H1
                          clear H1
                          have H' := Aside0.mk H
                          clear H
                          go_wp2_with (first | ((with_reducible refine gate_dst (N := 11) rfl ?_); (try (refine gate_guard (by rfl) ?_; dsimp only)); refine box_event ?hg (N := 11) ?hd (cs := #[.bool false, .int .u64 0, .int .u64 0]) (t := 24) ?hr ?_; (case hd => rfl); (case hg => rfl); (case hr => first | (go_simp; done) | (go_simp; rfl)); intro gb138 hg w56 hbox hb; have n0_ := Aside0.mk (Kd.R_below (by (with_reducible repeat (first | apply Kd.R_alloc | apply Kd.R_drewN | apply Kd.R_drew)); exact HO_4.out) hb); have n1_ := Aside0.mk (blk_below (g := gb132) (o := .cells #[.bool x133000_4, .int .u64 x133001_4, .int .u64 x133002_4] 24 (0, 0)) (by (with_reducible repeat (first | refine blk_drewN ?_ _ | refine blk_drew ?_ | refine blk_alloc ?_ _)); exact BK132.out) hb); have n2_ := Aside0.mk (below_step (by repeat (first | (with_reducible first | exact HB.out | apply below_alloc | apply pw_below_drewN | apply below_drew1 | refine below_set ?_ GE132.out) | exact HB.out)) hb); have n3_ := Aside0.mk (hbox); have n4_ := Aside0.mk ((by rw [hg]; exact (below_size (by repeat (first | (with_reducible first | exact HB.out | apply below_alloc | apply pw_below_drewN | apply below_drew1 | refine below_set ?_ GE132.out) | exact HB.out))) : w.heap.size ≤ gb138)); have n5_ := Aside0.mk ((by rw [hg]; exact (below_size (by repeat (first | (with_reducible first | exact HB.out | apply below_alloc | apply pw_below_drewN | apply below_drew1 | refine below_set ?_ GE132.out) | exact HB.out))) : w.heap.size ≤ gb138)); have n6_ := Aside0.mk ((by rw [hg]; exact Nat.ne_of_lt (blk_lt (g := gb132) (o := .cells #[.bool x133000_4, .int .u64 x133001_4, .int .u64 x133002_4] 24 (0, 0)) (by (with_reducible repeat (first | refine blk_drewN ?_ _ | refine blk_drew ?_ | refine blk_alloc ?_ _)); exact BK132.out)) : gb132 ≠ gb138)); have n7_ := Aside0.mk ((by rw [hg]; exact Nat.ne_of_gt (blk_lt (g := gb132) (o := .cells #[.bool x133000_4, .int .u64 x133001_4, .int .u64 x133002_4] 24 (0, 0)) (by (with_reducible repeat (first | refine blk_drewN ?_ _ | refine blk_drew ?_ | refine blk_alloc ?_ _)); exact BK132.out)) : gb138 ≠ gb132)); clear HO_4; clear BK132; clear HB; have HO_4 := n0_; have BK132 := n1_; have HB := n2_; have BK138 := n3_; have GW138 := n4_; have GE138 := n5_; have NB132_138 := n6_; have NB138_132 := n7_; clear n0_ n1_ n2_ n3_ n4_ n5_ n6_ n7_; clear hb hbox hg; have hnb57 := NB138_132.out; have hnc57 := NB132_138.out; have hcz58_0 : w56.cell? ⟨gb138, 0, none⟩ = some (.bool false) := (blk_cell BK138.out 0).trans rfl; have hcz58_1 : w56.cell? ⟨gb138, 1, none⟩ = some (.int .u64 0) := (blk_cell BK138.out 1).trans rfl; have hcz58_2 : w56.cell? ⟨gb138, 2, none⟩ = some (.int .u64 0) := (blk_cell BK138.out 2).trans rfl; have hfz58_0 := blk_frozen BK138.out 0; have hfz58_1 := blk_frozen BK138.out 1; have hfz58_2 := blk_frozen BK138.out 2))
                          go_loopg [12] kj44 (fun kq v12 w' => ∃ (x12_6 : Int) (x139001_6 : Int) (x139002_6 : Int), v12 = .int .i64 x12_6 ∧ Aside0 (ddiref02_six.l2 kq x4_4 x5_4 x12_6 true x139001_6 x139002_6 = some (r1, r2, r3, r4)) ∧ Aside0 (kq ≤ kj44) ∧ Aside0 (Kd.R (Kd.int .u64) 22 w' w.heap.size (fun _ => True) u4 x4_4) ∧ Aside0 (w'.heap[gb132]? = some (.cells #[.bool x133000_4, .int .u64 x133001_4, .int .u64 x133002_4] 24 (0, 0))) ∧ Aside0 (w'.heap[gb138]? = some (.cells #[.bool true, .int .u64 x139001_6, .int .u64 x139002_6] 24 (0, 0))) ∧ Aside0 (Below w.heap.size w w'))
                          case atStart => exact ⟨(0), (0), (0), (by first | rfl | (simp; done) | (simp [*]; done) | ((try simp only [Bool.not_not]); (generalize ByteArray.toList _ = l_); cases l_ <;> rfl) | (simp; (generalize ByteArray.toList _ = l_); cases l_ <;> rfl)), H', ⟨Nat.le_refl _⟩, ⟨by (with_reducible repeat (first | apply Kd.R_alloc | apply Kd.R_drewN | apply Kd.R_drew)); exact Kd.R_mono (Kd.R_far (p := ⟨gb138, 2, none⟩) (Kd.R_far (p := ⟨gb138, 1, none⟩) (Kd.R_far (p := ⟨gb138, 0, none⟩) (Kd.R_types HO_4.out BK138.out (by decide)) (fun _ hk => hk.2) (.bool true)) (fun _ hk => hk.2) (.int .u64 0)) (fun _ hk => hk.2) (.int .u64 0)) (fun _ hk => trivial)⟩, ⟨by (with_reducible repeat (first | refine blk_drewN ?_ _ | refine blk_drew ?_ | refine blk_alloc ?_ _)); refine blk_far ?_ NB132_138.out _; (with_reducible repeat (first | refine blk_drewN ?_ _ | refine blk_drew ?_ | refine blk_alloc ?_ _)); refine blk_far ?_ NB132_138.out _; (with_reducible repeat (first | refine blk_drewN ?_ _ | refine blk_drew ?_ | refine blk_alloc ?_ _)); refine blk_far ?_ NB132_138.out _; (with_reducible repeat (first | refine blk_drewN ?_ _ | refine blk_drew ?_ | refine blk_alloc ?_ _)); exact BK132.out⟩, ⟨by (with_reducible repeat (first | refine blk_drewN ?_ _ | refine blk_drew ?_ | refine blk_alloc ?_ _)); refine blk_put (cs := #[.bool true, .int .u64 0, .int .u64 0]) ?_ 2 _ rfl; (with_reducible repeat (first | refine blk_drewN ?_ _ | refine blk_drew ?_ | refine blk_alloc ?_ _)); refine blk_put (cs := #[.bool true, .int .u64 0, .int .u64 0]) ?_ 1 _ rfl; (with_reducible repeat (first | refine blk_drewN ?_ _ | refine blk_drew ?_ | refine blk_alloc ?_ _)); refine blk_put (cs := #[.bool false, .int .u64 0, .int .u64 0]) ?_ 0 _ rfl; (with_reducible repeat (first | refine blk_drewN ?_ _ | refine blk_drew ?_ | refine blk_alloc ?_ _)); exact BK138.out⟩, ⟨by repeat (first | (with_reducible first | exact HB.out | apply below_alloc | apply pw_below_drewN | apply below_drew1 | refine below_set ?_ GE132.out | refine below_set ?_ GE138.out) | exact HB.out)⟩⟩
                          case round =>
                            clear H'
                            try clear c1
                            try clear p1
                            try clear q1
                            try clear hx1
                            try clear c2
                            try clear p2
                            try clear c3
                            try clear c4
                            try clear c4b0
                            try clear c4b1
                            try clear p4
                            try clear q4
                            try clear hx4
                            try clear c5
                            try clear c5b0
                            try clear c5b1
                            try clear p6
                            try clear q6
                            try clear hx6
                            try clear qi6
                            try clear c7
                            try clear c7b0
                            try clear c7b1
                            try clear c8
                            try clear c8b0
                            try clear c8b1
                            try clear p9
                            try clear q9
                            try clear hx9
                            try clear qi9
                            try clear c11
                            try clear c13
                            try clear c13b0
                            try clear c14
                            try clear c16
                            try clear c16b0
                            try clear c17
                            try clear c17b0
                            try clear p18
                            try clear q18
                            try clear hx18
                            try clear c19
                            try clear c19b0
                            try clear c19b1
                            try clear c20
                            try clear c20b0
                            try clear c20b1
                            try clear c21
                            try clear c21b0
                            try clear c21b1
                            try clear c22
                            try clear c22b0
                            try clear c22b1
                            try clear c25
                            try clear c27
                            try clear c29
                            try clear c32
                            try clear c32b0
                            try clear c33
                            try clear c34
                            try clear c36
                            try clear c36b0
                            try clear c38
                            try clear c38b0
                            try clear c39
                            try clear c39b0
                            try clear p40
                            try clear q40
                            try clear hx40
                            try clear c41
                            try clear c42
                            try clear c42b0
                            try clear c46
                            try clear c46b0
                            try clear c47
                            try clear c47b0
                            try clear c47b1
                            try clear c48
                            try clear c48b0
                            try clear c52
                            try clear c52b0
                            try clear c54
                            try clear c57
                            try clear hcz28_0
                            try clear hcz28_1
                            try clear hcz28_2
                            try clear hcz34_0
                            try clear hcz34_1
                            try clear hcz34_2
                            try clear hcz43_0
                            try clear hcz43_1
                            try clear hcz43_2
                            try clear hcz55_0
                            try clear hcz55_1
                            try clear hcz55_2
                            try clear hcz58_0
                            try clear hcz58_1
                            try clear hcz58_2
                            try clear hfz28_0
                            try clear hfz28_1
                            try clear hfz28_2
                            try clear hfz34_0
                            try clear hfz34_1
                            try clear hfz34_2
                            try clear hfz43_0
                            try clear hfz43_1
                            try clear hfz43_2
                            try clear hfz55_0
                            try clear hfz55_1
                            try clear hfz55_2
                            try clear hfz58_0
                            try clear hfz58_1
                            try clear hfz58_2
                            try clear p1
                            try clear p18
                            try clear p2
                            try clear p4
                            try clear p40
                            try clear p6
                            try clear p9
                            try clear q1
                            try clear q18
                            try clear q4
                            try clear q40
                            try clear q6
                            try clear q9
                            obtain ⟨x12_6, x139001_6, x139002_6, rfl, HA, HK6, HO_4, BK132, BK138, HB⟩ := hrel
                            cases gk with
                            | zero => exact absurd HA.out (by simp [ddiref02_six.l2])
                            | succ k6 =>
                              have H := HA.out
                              clear HA
                              simp only [ddiref02_six.l2] at H
                              by_cases c59 : x12_6 < 8
                              · rw [if_pos c59] at H
                                have c59b0 : decide (x12_6 < 8) = true := decide_eq_true c59
                                clear c59
                                have HC60 := Aside0.mk H
                                clear H
                                go_upto_region 33 with (fail)
                                go_cut [129] (fun v129 wc => ∃ (kq : Nat) (x129_59 : Bool), v129 = .bool x129_59 ∧ Aside0 (ddiref02_six.j11 kq x4_4 x5_4 x12_6 0 x129_59 true x139001_6 x139002_6 = some (r1, r2, r3, r4)) ∧ Aside0 (kq ≤ k6) ∧ Aside0 (Kd.R (Kd.int .u64) 22 wc w.heap.size (fun _ => True) u4 x4_4) ∧ Aside0 (wc.heap[gb132]? = some (.cells #[.bool x133000_4, .int .u64 x133001_4, .int .u64 x133002_4] 24 (0, 0))) ∧ Aside0 (wc.heap[gb138]? = some (.cells #[.bool true, .int .u64 x139001_6, .int .u64 x139002_6] 24 (0, 0))) ∧ Aside0 (Below w.heap.size w wc))
                                case first =>
                                  have H := HC60.out
                                  clear HC60
                                  by_cases c61 : x5_4 < 0
                                  · rw [if_pos c61] at H
                                    have c61b0 : decide (x5_4 < 0) = true := decide_eq_true c61
                                    clear c61
                                    (first | rw [c61b0] | (simp only [i64_w, i32_w]; rw [c61b0]) | skip)
                                    have H' := Aside0.mk H
                                    clear H
                                    go_wp2
                                    refine Met.intro ?_
                                    go_step
                                    (repeat apply Exists.intro)
                                    refine ⟨?rel, ?heq_⟩
                                    case heq_ => first | rfl | (rw [c61b0]) | (simp only [c61b0])
                                    case rel => exact ⟨_, (true), (by first | rfl | (simp; done) | (simp [*]; done) | ((try simp only [Bool.not_not]); (generalize ByteArray.toList _ = l_); cases l_ <;> rfl) | (simp; (generalize ByteArray.toList _ = l_); cases l_ <;> rfl)), H', ⟨by have := HJ1.out; have := HJ9.out; have := HJ11.out; have := HK4.out; have := HJ44.out; have := HK6.out; first | omega | exact Nat.le_refl _⟩, ⟨by (with_reducible repeat (first | apply Kd.R_alloc | apply Kd.R_drewN | apply Kd.R_drew)); exact HO_4.out⟩, ⟨by (with_reducible repeat (first | refine blk_drewN ?_ _ | refine blk_drew ?_ | refine blk_alloc ?_ _)); exact BK132.out⟩, ⟨by (with_reducible repeat (first | refine blk_drewN ?_ _ | refine blk_drew ?_ | refine blk_alloc ?_ _)); exact BK138.out⟩, ⟨by repeat (first | (with_reducible first | exact HB.out | apply below_alloc | apply pw_below_drewN | apply below_drew1 | refine below_set ?_ GE132.out | refine below_set ?_ GE138.out) | exact HB.out)⟩⟩
                                  · rw [if_neg c61] at H
                                    have c61b0 : decide (x5_4 < 0) = false := decide_eq_false c61
                                    clear c61
                                    (first | rw [c61b0] | (simp only [i64_w, i32_w]; rw [c61b0]) | skip)
                                    have H' := Aside0.mk H
                                    clear H
                                    go_wp2
                                    refine Met.intro ?_
                                    go_step
                                    (repeat apply Exists.intro)
                                    refine ⟨?rel, ?heq_⟩
                                    case heq_ => first | rfl | (rw [c61b0]) | (simp only [c61b0])
                                    case rel => exact ⟨_, (decide (x12_6 < x5_4)), (by first | rfl | (simp; done) | (simp [*]; done) | ((try simp only [Bool.not_not]); (generalize ByteArray.toList _ = l_); cases l_ <;> rfl) | (simp; (generalize ByteArray.toList _ = l_); cases l_ <;> rfl)), H', ⟨by have := HJ1.out; have := HJ9.out; have := HJ11.out; have := HK4.out; have := HJ44.out; have := HK6.out; first | omega | exact Nat.le_refl _⟩, ⟨by (with_reducible repeat (first | apply Kd.R_alloc | apply Kd.R_drewN | apply Kd.R_drew)); exact HO_4.out⟩, ⟨by (with_reducible repeat (first | refine blk_drewN ?_ _ | refine blk_drew ?_ | refine blk_alloc ?_ _)); exact BK132.out⟩, ⟨by (with_reducible repeat (first | refine blk_drewN ?_ _ | refine blk_drew ?_ | refine blk_alloc ?_ _)); exact BK138.out⟩, ⟨by repeat (first | (with_reducible first | exact HB.out | apply below_alloc | apply pw_below_drewN | apply below_drew1 | refine below_set ?_ GE132.out | refine below_set ?_ GE138.out) | exact HB.out)⟩⟩
                                case rest =>
                                  clear HC60
                                  try clear c1
                                  try clear p1
                                  try clear q1
                                  try clear hx1
                                  try clear c2
                                  try clear p2
                                  try clear c3
                                  try clear c4
                                  try clear c4b0
                                  try clear c4b1
                                  try clear p4
                                  try clear q4
                                  try clear hx4
                                  try clear c5
                                  try clear c5b0
                                  try clear c5b1
                                  try clear c6
                                  try clear p6
                                  try clear q6
                                  try clear hx6
                                  try clear qi6
                                  try clear c7
                                  try clear c7b0
                                  try clear c7b1
                                  try clear c8
                                  try clear c8b0
                                  try clear c8b1
                                  try clear p9
                                  try clear q9
                                  try clear hx9
                                  try clear qi9
                                  try clear c11
                                  try clear c13
                                  try clear c13b0
                                  try clear c14
                                  try clear c16
                                  try clear c16b0
                                  try clear c17
                                  try clear c17b0
                                  try clear p18
                                  try clear q18
                                  try clear hx18
                                  try clear c19
                                  try clear c19b0
                                  try clear c19b1
                                  try clear c20
                                  try clear c20b0
                                  try clear c20b1
                                  try clear c21
                                  try clear c21b0
                                  try clear c21b1
                                  try clear c22
                                  try clear c22b0
                                  try clear c22b1
                                  try clear c25
                                  try clear c27
                                  try clear c29
                                  try clear c32
                                  try clear c32b0
                                  try clear c33
                                  try clear c34
                                  try clear c36
                                  try clear c36b0
                                  try clear c38
                                  try clear c38b0
                                  try clear c39
                                  try clear c39b0
                                  try clear p40
                                  try clear q40
                                  try clear hx40
                                  try clear c41
                                  try clear c42
                                  try clear c42b0
                                  try clear c46
                                  try clear c46b0
                                  try clear c47
                                  try clear c47b0
                                  try clear c47b1
                                  try clear c48
                                  try clear c48b0
                                  try clear c52
                                  try clear c52b0
                                  try clear c54
                                  try clear c57
                                  try clear c59
                                  try clear c59b0
                                  try clear c61
                                  try clear c61b0
                                  try clear hcz28_0
                                  try clear hcz28_1
                                  try clear hcz28_2
                                  try clear hcz34_0
                                  try clear hcz34_1
                                  try clear hcz34_2
                                  try clear hcz43_0
                                  try clear hcz43_1
                                  try clear hcz43_2
                                  try clear hcz55_0
                                  try clear hcz55_1
                                  try clear hcz55_2
                                  try clear hcz58_0
                                  try clear hcz58_1
                                  try clear hcz58_2
                                  try clear hfz28_0
                                  try clear hfz28_1
                                  try clear hfz28_2
                                  try clear hfz34_0
                                  try clear hfz34_1
                                  try clear hfz34_2
                                  try clear hfz43_0
                                  try clear hfz43_1
                                  try clear hfz43_2
                                  try clear hfz55_0
                                  try clear hfz55_1
                                  try clear hfz55_2
                                  try clear hfz58_0
                                  try clear hfz58_1
                                  try clear hfz58_2
                                  try clear p1
                                  try clear p18
                                  try clear p2
                                  try clear p4
                                  try clear p40
                                  try clear p6
                                  try clear p9
                                  try clear q1
                                  try clear q18
                                  try clear q4
                                  try clear q40
                                  try clear q6
                                  try clear q9
                                  obtain ⟨kq, x129_59, rfl, HA, HJ59, HO_4, BK132, BK138, HB⟩ := hcut
                                  cases kq with
                                  | zero => exact absurd HA.out (by simp [ddiref02_six.j11])
                                  | succ kj59 =>
                                    have H := HA.out
                                    clear HA
                                    simp only [ddiref02_six.j11] at H
                                    by_cases c62 : x129_59 = true
                                    · subst c62
                                      have H1 : (if 0 ≤ x12_6 then (if x12_6 < (x4_4.length : Int) then (if x12_6 < 4 then (ddiref02_six.l2 kj59 x4_4 x5_4 (wrap64 (x12_6 + 1)) true (IntKind.u64.wrap ((IntKind.u64.wrap (x139001_6 * 65536)) + (rd x4_4 x12_6))) x139002_6) else (ddiref02_six.l2 kj59 x4_4 x5_4 (wrap64 (x12_6 + 1)) true x139001_6 (IntKind.u64.wrap ((IntKind.u64.wrap (x139002_6 * 65536)) + (rd x4_4 x12_6))))) else (none)) else (none)) = some (r1, r2, r3, r4) := by rw [if_pos rfl] at H; exact H
                                      clear H
                                      have H := H1
                                      clear H1
                                      by_cases c63 : 0 ≤ x12_6
                                      · rw [if_pos c63] at H
                                        have c63b0 : decide (0 ≤ x12_6) = true := decide_eq_true c63
                                        clear c63
                                        by_cases c64 : x12_6 < (x4_4.length : Int)
                                        · rw [if_pos c64] at H
                                          have c64b0 : decide (x12_6 < (x4_4.length : Int)) = true := decide_eq_true c64
                                          clear c64
                                          by_cases c65 : x12_6 < 4
                                          · rw [if_pos c65] at H
                                            have c65b0 : decide (x12_6 < 4) = true := decide_eq_true c65
                                            clear c65
                                            have H' := Aside0.mk H
                                            clear H
                                            obtain ⟨Ao66, co66, eo66⟩ := Kd.R_slice HO_4.out
                                            subst eo66
                                            have p139 : 0 ≤ (x12_6 : Int) := of_decide_eq_true (by first | (with_reducible assumption) | assumption)
                                            have q139 : x12_6 < (x4_4.length : Int) := of_decide_eq_true (by first | (with_reducible assumption) | assumption)
                                            obtain ⟨ad139, e139, hx139_0⟩ := Kd.at_int (Kd.R_reads' HO_4.out).2.2 x12_6 p139 q139
                                            cases e139
                                            replace p139 := eq_true p139
                                            replace q139 := eq_true q139
                                            have hnb67 := NB138_132.out
                                            have hnc67 := NB132_138.out
                                            have hcz68_0 : wc.cell? ⟨gb138, 0, none⟩ = some (.bool true) := (blk_cell BK138.out 0).trans rfl
                                            have hcz68_1 : wc.cell? ⟨gb138, 1, none⟩ = some (.int .u64 x139001_6) := (blk_cell BK138.out 1).trans rfl
                                            have hcz68_2 : wc.cell? ⟨gb138, 2, none⟩ = some (.int .u64 x139002_6) := (blk_cell BK138.out 2).trans rfl
                                            have hfz68_0 := blk_frozen BK138.out 0
                                            have hfz68_1 := blk_frozen BK138.out 1
                                            have hfz68_2 := blk_frozen BK138.out 2
                                            go_wp2
                                            go_roundg kj59
                                            case measure => have := HJ1.out; have := HJ9.out; have := HJ11.out; have := HK4.out; have := HJ44.out; have := HK6.out; have := HJ59.out; omega
                                            case rel => exact ⟨(wrap64 (x12_6 + 1)), (IntKind.u64.wrap ((IntKind.u64.wrap (x139001_6 * 65536)) + (rd x4_4 x12_6))), (x139002_6), (by first | rfl | (simp; done) | (simp [*]; done) | ((try simp only [Bool.not_not]); (generalize ByteArray.toList _ = l_); cases l_ <;> rfl) | (simp; (generalize ByteArray.toList _ = l_); cases l_ <;> rfl)), H', ⟨by have := HJ1.out; have := HJ9.out; have := HJ11.out; have := HK4.out; have := HJ44.out; have := HK6.out; have := HJ59.out; omega⟩, ⟨by (with_reducible repeat (first | apply Kd.R_alloc | apply Kd.R_drewN | apply Kd.R_drew)); exact Kd.R_mono (Kd.R_far (p := ⟨gb138, 1, none⟩) (Kd.R_types HO_4.out BK138.out (by decide)) (fun _ hk => hk.2) (.int .u64 (IntKind.u64.wrap ((IntKind.u64.wrap (x139001_6 * 65536)) + (rd x4_4 x12_6))))) (fun _ hk => trivial)⟩, ⟨by (with_reducible repeat (first | refine blk_drewN ?_ _ | refine blk_drew ?_ | refine blk_alloc ?_ _)); refine blk_far ?_ NB132_138.out _; (with_reducible repeat (first | refine blk_drewN ?_ _ | refine blk_drew ?_ | refine blk_alloc ?_ _)); exact BK132.out⟩, ⟨by (with_reducible repeat (first | refine blk_drewN ?_ _ | refine blk_drew ?_ | refine blk_alloc ?_ _)); refine blk_put (cs := #[.bool true, .int .u64 x139001_6, .int .u64 x139002_6]) ?_ 1 _ rfl; (with_reducible repeat (first | refine blk_drewN ?_ _ | refine blk_drew ?_ | refine blk_alloc ?_ _)); exact BK138.out⟩, ⟨by repeat (first | (with_reducible first | exact HB.out | apply below_alloc | apply pw_below_drewN | apply below_drew1 | refine below_set ?_ GE132.out | refine below_set ?_ GE138.out) | exact HB.out)⟩⟩
                                          · rw [if_neg c65] at H
                                            have c65b0 : decide (x12_6 < 4) = false := decide_eq_false c65
                                            clear c65
                                            have H' := Aside0.mk H
                                            clear H
                                            obtain ⟨Ao69, co69, eo69⟩ := Kd.R_slice HO_4.out
                                            subst eo69
                                            have p139 : 0 ≤ (x12_6 : Int) := of_decide_eq_true (by first | (with_reducible assumption) | assumption)
                                            have q139 : x12_6 < (x4_4.length : Int) := of_decide_eq_true (by first | (with_reducible assumption) | assumption)
                                            obtain ⟨ad139, e139, hx139_0⟩ := Kd.at_int (Kd.R_reads' HO_4.out).2.2 x12_6 p139 q139
                                            cases e139
                                            replace p139 := eq_true p139
                                            replace q139 := eq_true q139
                                            have hnb70 := NB138_132.out
                                            have hnc70 := NB132_138.out
                                            have hcz71_0 : wc.cell? ⟨gb138, 0, none⟩ = some (.bool true) := (blk_cell BK138.out 0).trans rfl
                                            have hcz71_1 : wc.cell? ⟨gb138, 1, none⟩ = some (.int .u64 x139001_6) := (blk_cell BK138.out 1).trans rfl
                                            have hcz71_2 : wc.cell? ⟨gb138, 2, none⟩ = some (.int .u64 x139002_6) := (blk_cell BK138.out 2).trans rfl
                                            have hfz71_0 := blk_frozen BK138.out 0
                                            have hfz71_1 := blk_frozen BK138.out 1
                                            have hfz71_2 := blk_frozen BK138.out 2
                                            go_wp2
                                            go_roundg kj59
                                            case measure => have := HJ1.out; have := HJ9.out; have := HJ11.out; have := HK4.out; have := HJ44.out; have := HK6.out; have := HJ59.out; omega
                                            case rel => exact ⟨(wrap64 (x12_6 + 1)), (x139001_6), (IntKind.u64.wrap ((IntKind.u64.wrap (x139002_6 * 65536)) + (rd x4_4 x12_6))), (by first | rfl | (simp; done) | (simp [*]; done) | ((try simp only [Bool.not_not]); (generalize ByteArray.toList _ = l_); cases l_ <;> rfl) | (simp; (generalize ByteArray.toList _ = l_); cases l_ <;> rfl)), H', ⟨by have := HJ1.out; have := HJ9.out; have := HJ11.out; have := HK4.out; have := HJ44.out; have := HK6.out; have := HJ59.out; omega⟩, ⟨by (with_reducible repeat (first | apply Kd.R_alloc | apply Kd.R_drewN | apply Kd.R_drew)); exact Kd.R_mono (Kd.R_far (p := ⟨gb138, 2, none⟩) (Kd.R_types HO_4.out BK138.out (by decide)) (fun _ hk => hk.2) (.int .u64 (IntKind.u64.wrap ((IntKind.u64.wrap (x139002_6 * 65536)) + (rd x4_4 x12_6))))) (fun _ hk => trivial)⟩, ⟨by (with_reducible repeat (first | refine blk_drewN ?_ _ | refine blk_drew ?_ | refine blk_alloc ?_ _)); refine blk_far ?_ NB132_138.out _; (with_reducible repeat (first | refine blk_drewN ?_ _ | refine blk_drew ?_ | refine blk_alloc ?_ _)); exact BK132.out⟩, ⟨by (with_reducible repeat (first | refine blk_drewN ?_ _ | refine blk_drew ?_ | refine blk_alloc ?_ _)); refine blk_put (cs := #[.bool true, .int .u64 x139001_6, .int .u64 x139002_6]) ?_ 2 _ rfl; (with_reducible repeat (first | refine blk_drewN ?_ _ | refine blk_drew ?_ | refine blk_alloc ?_ _)); exact BK138.out⟩, ⟨by repeat (first | (with_reducible first | exact HB.out | apply below_alloc | apply pw_below_drewN | apply below_drew1 | refine below_set ?_ GE132.out | refine below_set ?_ GE138.out) | exact HB.out)⟩⟩
                                        · rw [if_neg c64] at H
                                          exact absurd H (by simp)
                                      · rw [if_neg c63] at H
                                        exact absurd H (by simp)
                                    · replace c62 := Bool.eq_false_iff.mpr c62
                                      subst c62
                                      have H1 : (if x12_6 ≥ (wrap64 (8 - (wrap64 ((x4_4.length : Int) - x5_4)))) then (if 0 ≤ (wrap64 (x12_6 - (wrap64 (8 - (x4_4.length : Int))))) then (if (wrap64 (x12_6 - (wrap64 (8 - (x4_4.length : Int))))) < (x4_4.length : Int) then (if x12_6 < 4 then (ddiref02_six.l2 kj59 x4_4 x5_4 (wrap64 (x12_6 + 1)) true (IntKind.u64.wrap ((IntKind.u64.wrap (x139001_6 * 65536)) + (rd x4_4 (wrap64 (x12_6 - (wrap64 (8 - (x4_4.length : Int)))))))) x139002_6) else (ddiref02_six.l2 kj59 x4_4 x5_4 (wrap64 (x12_6 + 1)) true x139001_6 (IntKind.u64.wrap ((IntKind.u64.wrap (x139002_6 * 65536)) + (rd x4_4 (wrap64 (x12_6 - (wrap64 (8 - (x4_4.length : Int)))))))))) else (none)) else (none)) else (if x12_6 < 4 then (ddiref02_six.l2 kj59 x4_4 x5_4 (wrap64 (x12_6 + 1)) true (IntKind.u64.wrap ((IntKind.u64.wrap (x139001_6 * 65536)) + 0)) x139002_6) else (ddiref02_six.l2 kj59 x4_4 x5_4 (wrap64 (x12_6 + 1)) true x139001_6 (IntKind.u64.wrap ((IntKind.u64.wrap (x139002_6 * 65536)) + 0))))) = some (r1, r2, r3, r4) := by rw [if_neg (show ¬ (false = true) by decide)] at H; exact H
                                      clear H
                                      have H := H1
                                      clear H1
                                      by_cases c72 : x12_6 ≥ (wrap64 (8 - (wrap64 ((x4_4.length : Int) - x5_4))))
                                      · rw [if_pos c72] at H
                                        have c72b0 : decide ((wrap64 (8 - (wrap64 ((x4_4.length : Int) - x5_4)))) ≤ x12_6) = true := decide_eq_true c72
                                        clear c72
                                        obtain ⟨ji73, hji73⟩ : ∃ j_ : Int, (wrap64 (x12_6 - (wrap64 (8 - (x4_4.length : Int))))) = j_ := ⟨_, rfl⟩
                                        replace H : (if 0 ≤ (ji73) then (if (ji73) < (x4_4.length : Int) then (if x12_6 < 4 then (ddiref02_six.l2 kj59 x4_4 x5_4 (wrap64 (x12_6 + 1)) true (IntKind.u64.wrap ((IntKind.u64.wrap (x139001_6 * 65536)) + (rd x4_4 (ji73)))) x139002_6) else (ddiref02_six.l2 kj59 x4_4 x5_4 (wrap64 (x12_6 + 1)) true x139001_6 (IntKind.u64.wrap ((IntKind.u64.wrap (x139002_6 * 65536)) + (rd x4_4 (ji73)))))) else (none)) else (none)) = some (r1, r2, r3, r4) := by first | (rw [hji73] at H; exact H) | (simp only [hji73] at H ⊢; exact H)
                                        have hji73w : (IntKind.i64.wrap (x12_6 - (wrap64 (8 - (x4_4.length : Int))))) = ji73 := (i64_w _).trans hji73
                                        by_cases c74 : 0 ≤ (ji73)
                                        · rw [if_pos c74] at H
                                          have c74b0 : decide (0 ≤ (ji73)) = true := decide_eq_true c74
                                          clear c74
                                          by_cases c75 : (ji73) < (x4_4.length : Int)
                                          · rw [if_pos c75] at H
                                            have c75b0 : decide ((ji73) < (x4_4.length : Int)) = true := decide_eq_true c75
                                            clear c75
                                            by_cases c76 : x12_6 < 4
                                            · rw [if_pos c76] at H
                                              have c76b0 : decide (x12_6 < 4) = true := decide_eq_true c76
                                              clear c76
                                              have H' := Aside0.mk H
                                              clear H
                                              obtain ⟨Ao77, co77, eo77⟩ := Kd.R_slice HO_4.out
                                              subst eo77
                                              have p140 : 0 ≤ ((ji73) : Int) := of_decide_eq_true (by first | (with_reducible assumption) | assumption)
                                              have q140 : (ji73) < (x4_4.length : Int) := of_decide_eq_true (by first | (with_reducible assumption) | assumption)
                                              obtain ⟨ad140, e140, hx140_0⟩ := Kd.at_int (Kd.R_reads' HO_4.out).2.2 (ji73) p140 q140
                                              cases e140
                                              replace p140 := eq_true p140
                                              replace q140 := eq_true q140
                                              have hnb78 := NB138_132.out
                                              have hnc78 := NB132_138.out
                                              have hcz79_0 : wc.cell? ⟨gb138, 0, none⟩ = some (.bool true) := (blk_cell BK138.out 0).trans rfl
                                              have hcz79_1 : wc.cell? ⟨gb138, 1, none⟩ = some (.int .u64 x139001_6) := (blk_cell BK138.out 1).trans rfl
                                              have hcz79_2 : wc.cell? ⟨gb138, 2, none⟩ = some (.int .u64 x139002_6) := (blk_cell BK138.out 2).trans rfl
                                              have hfz79_0 := blk_frozen BK138.out 0
                                              have hfz79_1 := blk_frozen BK138.out 1
                                              have hfz79_2 := blk_frozen BK138.out 2
                                              go_wp2
                                              go_roundg kj59
                                              case measure => have := HJ1.out; have := HJ9.out; have := HJ11.out; have := HK4.out; have := HJ44.out; have := HK6.out; have := HJ59.out; omega
                                              case rel => exact ⟨(wrap64 (x12_6 + 1)), (IntKind.u64.wrap ((IntKind.u64.wrap (x139001_6 * 65536)) + (rd x4_4 (ji73)))), (x139002_6), (by first | rfl | (simp; done) | (simp [*]; done) | ((try simp only [Bool.not_not]); (generalize ByteArray.toList _ = l_); cases l_ <;> rfl) | (simp; (generalize ByteArray.toList _ = l_); cases l_ <;> rfl)), (by first | exact H' | (simp only [hji73]; exact H') | (simp only [hji73] at H' ⊢; exact H')), ⟨by have := HJ1.out; have := HJ9.out; have := HJ11.out; have := HK4.out; have := HJ44.out; have := HK6.out; have := HJ59.out; omega⟩, ⟨by (with_reducible repeat (first | apply Kd.R_alloc | apply Kd.R_drewN | apply Kd.R_drew)); exact Kd.R_mono (Kd.R_far (p := ⟨gb138, 1, none⟩) (Kd.R_types HO_4.out BK138.out (by decide)) (fun _ hk => hk.2) (.int .u64 (IntKind.u64.wrap ((IntKind.u64.wrap (x139001_6 * 65536)) + (rd x4_4 (ji73)))))) (fun _ hk => trivial)⟩, ⟨by (with_reducible repeat (first | refine blk_drewN ?_ _ | refine blk_drew ?_ | refine blk_alloc ?_ _)); refine blk_far ?_ NB132_138.out _; (with_reducible repeat (first | refine blk_drewN ?_ _ | refine blk_drew ?_ | refine blk_alloc ?_ _)); exact BK132.out⟩, ⟨by (with_reducible repeat (first | refine blk_drewN ?_ _ | refine blk_drew ?_ | refine blk_alloc ?_ _)); refine blk_put (cs := #[.bool true, .int .u64 x139001_6, .int .u64 x139002_6]) ?_ 1 _ rfl; (with_reducible repeat (first | refine blk_drewN ?_ _ | refine blk_drew ?_ | refine blk_alloc ?_ _)); exact BK138.out⟩, ⟨by repeat (first | (with_reducible first | exact HB.out | apply below_alloc | apply pw_below_drewN | apply below_drew1 | refine below_set ?_ GE132.out | refine below_set ?_ GE138.out) | exact HB.out)⟩⟩
                                            · rw [if_neg c76] at H
                                              have c76b0 : decide (x12_6 < 4) = false := decide_eq_false c76
                                              clear c76
                                              have H' := Aside0.mk H
                                              clear H
                                              obtain ⟨Ao80, co80, eo80⟩ := Kd.R_slice HO_4.out
                                              subst eo80
                                              have p140 : 0 ≤ ((ji73) : Int) := of_decide_eq_true (by first | (with_reducible assumption) | assumption)
                                              have q140 : (ji73) < (x4_4.length : Int) := of_decide_eq_true (by first | (with_reducible assumption) | assumption)
                                              obtain ⟨ad140, e140, hx140_0⟩ := Kd.at_int (Kd.R_reads' HO_4.out).2.2 (ji73) p140 q140
                                              cases e140
                                              replace p140 := eq_true p140
                                              replace q140 := eq_true q140
                                              have hnb81 := NB138_132.out
                                              have hnc81 := NB132_138.out
                                              have hcz82_0 : wc.cell? ⟨gb138, 0, none⟩ = some (.bool true) := (blk_cell BK138.out 0).trans rfl
                                              have hcz82_1 : wc.cell? ⟨gb138, 1, none⟩ = some (.int .u64 x139001_6) := (blk_cell BK138.out 1).trans rfl
                                              have hcz82_2 : wc.cell? ⟨gb138, 2, none⟩ = some (.int .u64 x139002_6) := (blk_cell BK138.out 2).trans rfl
                                              have hfz82_0 := blk_frozen BK138.out 0
                                              have hfz82_1 := blk_frozen BK138.out 1
                                              have hfz82_2 := blk_frozen BK138.out 2
                                              go_wp2
                                              go_roundg kj59
                                              case measure => have := HJ1.out; have := HJ9.out; have := HJ11.out; have := HK4.out; have := HJ44.out; have := HK6.out; have := HJ59.out; omega
                                              case rel => exact ⟨(wrap64 (x12_6 + 1)), (x139001_6), (IntKind.u64.wrap ((IntKind.u64.wrap (x139002_6 * 65536)) + (rd x4_4 (ji73)))), (by first | rfl | (simp; done) | (simp [*]; done) | ((try simp only [Bool.not_not]); (generalize ByteArray.toList _ = l_); cases l_ <;> rfl) | (simp; (generalize ByteArray.toList _ = l_); cases l_ <;> rfl)), (by first | exact H' | (simp only [hji73]; exact H') | (simp only [hji73] at H' ⊢; exact H')), ⟨by have := HJ1.out; have := HJ9.out; have := HJ11.out; have := HK4.out; have := HJ44.out; have := HK6.out; have := HJ59.out; omega⟩, ⟨by (with_reducible repeat (first | apply Kd.R_alloc | apply Kd.R_drewN | apply Kd.R_drew)); exact Kd.R_mono (Kd.R_far (p := ⟨gb138, 2, none⟩) (Kd.R_types HO_4.out BK138.out (by decide)) (fun _ hk => hk.2) (.int .u64 (IntKind.u64.wrap ((IntKind.u64.wrap (x139002_6 * 65536)) + (rd x4_4 (ji73)))))) (fun _ hk => trivial)⟩, ⟨by (with_reducible repeat (first | refine blk_drewN ?_ _ | refine blk_drew ?_ | refine blk_alloc ?_ _)); refine blk_far ?_ NB132_138.out _; (with_reducible repeat (first | refine blk_drewN ?_ _ | refine blk_drew ?_ | refine blk_alloc ?_ _)); exact BK132.out⟩, ⟨by (with_reducible repeat (first | refine blk_drewN ?_ _ | refine blk_drew ?_ | refine blk_alloc ?_ _)); refine blk_put (cs := #[.bool true, .int .u64 x139001_6, .int .u64 x139002_6]) ?_ 2 _ rfl; (with_reducible repeat (first | refine blk_drewN ?_ _ | refine blk_drew ?_ | refine blk_alloc ?_ _)); exact BK138.out⟩, ⟨by repeat (first | (with_reducible first | exact HB.out | apply below_alloc | apply pw_below_drewN | apply below_drew1 | refine below_set ?_ GE132.out | refine below_set ?_ GE138.out) | exact HB.out)⟩⟩
                                          · rw [if_neg c75] at H
                                            exact absurd H (by simp)
                                        · rw [if_neg c74] at H
                                          exact absurd H (by simp)
                                      · rw [if_neg c72] at H
                                        have c72b0 : decide ((wrap64 (8 - (wrap64 ((x4_4.length : Int) - x5_4)))) ≤ x12_6) = false := decide_eq_false c72
                                        clear c72
                                        by_cases c83 : x12_6 < 4
                                        · rw [if_pos c83] at H
                                          have c83b0 : decide (x12_6 < 4) = true := decide_eq_true c83
                                          clear c83
                                          have H' := Aside0.mk H
                                          clear H
                                          obtain ⟨Ao84, co84, eo84⟩ := Kd.R_slice HO_4.out
                                          subst eo84
                                          have hnb85 := NB138_132.out
                                          have hnc85 := NB132_138.out
                                          have hcz86_0 : wc.cell? ⟨gb138, 0, none⟩ = some (.bool true) := (blk_cell BK138.out 0).trans rfl
                                          have hcz86_1 : wc.cell? ⟨gb138, 1, none⟩ = some (.int .u64 x139001_6) := (blk_cell BK138.out 1).trans rfl
                                          have hcz86_2 : wc.cell? ⟨gb138, 2, none⟩ = some (.int .u64 x139002_6) := (blk_cell BK138.out 2).trans rfl
                                          have hfz86_0 := blk_frozen BK138.out 0
                                          have hfz86_1 := blk_frozen BK138.out 1
                                          have hfz86_2 := blk_frozen BK138.out 2
                                          go_wp2
                                          go_roundg kj59
                                          case measure => have := HJ1.out; have := HJ9.out; have := HJ11.out; have := HK4.out; have := HJ44.out; have := HK6.out; have := HJ59.out; omega
                                          case rel => exact ⟨(wrap64 (x12_6 + 1)), (IntKind.u64.wrap (IntKind.u64.wrap (x139001_6 * 65536))), (x139002_6), (by first | rfl | (simp; done) | (simp [*]; done) | ((try simp only [Bool.not_not]); (generalize ByteArray.toList _ = l_); cases l_ <;> rfl) | (simp; (generalize ByteArray.toList _ = l_); cases l_ <;> rfl)), (by first | (simp only [Int.add_zero] at H'; exact H') | exact H'), ⟨by have := HJ1.out; have := HJ9.out; have := HJ11.out; have := HK4.out; have := HJ44.out; have := HK6.out; have := HJ59.out; omega⟩, ⟨by (with_reducible repeat (first | apply Kd.R_alloc | apply Kd.R_drewN | apply Kd.R_drew)); exact Kd.R_mono (Kd.R_far (p := ⟨gb138, 1, none⟩) (Kd.R_types HO_4.out BK138.out (by decide)) (fun _ hk => hk.2) (.int .u64 (IntKind.u64.wrap (IntKind.u64.wrap (x139001_6 * 65536))))) (fun _ hk => trivial)⟩, ⟨by (with_reducible repeat (first | refine blk_drewN ?_ _ | refine blk_drew ?_ | refine blk_alloc ?_ _)); refine blk_far ?_ NB132_138.out _; (with_reducible repeat (first | refine blk_drewN ?_ _ | refine blk_drew ?_ | refine blk_alloc ?_ _)); exact BK132.out⟩, ⟨by (with_reducible repeat (first | refine blk_drewN ?_ _ | refine blk_drew ?_ | refine blk_alloc ?_ _)); refine blk_put (cs := #[.bool true, .int .u64 x139001_6, .int .u64 x139002_6]) ?_ 1 _ rfl; (with_reducible repeat (first | refine blk_drewN ?_ _ | refine blk_drew ?_ | refine blk_alloc ?_ _)); exact BK138.out⟩, ⟨by repeat (first | (with_reducible first | exact HB.out | apply below_alloc | apply pw_below_drewN | apply below_drew1 | refine below_set ?_ GE132.out | refine below_set ?_ GE138.out) | exact HB.out)⟩⟩
                                        · rw [if_neg c83] at H
                                          have c83b0 : decide (x12_6 < 4) = false := decide_eq_false c83
                                          clear c83
                                          have H' := Aside0.mk H
                                          clear H
                                          obtain ⟨Ao87, co87, eo87⟩ := Kd.R_slice HO_4.out
                                          subst eo87
                                          have hnb88 := NB138_132.out
                                          have hnc88 := NB132_138.out
                                          have hcz89_0 : wc.cell? ⟨gb138, 0, none⟩ = some (.bool true) := (blk_cell BK138.out 0).trans rfl
                                          have hcz89_1 : wc.cell? ⟨gb138, 1, none⟩ = some (.int .u64 x139001_6) := (blk_cell BK138.out 1).trans rfl
                                          have hcz89_2 : wc.cell? ⟨gb138, 2, none⟩ = some (.int .u64 x139002_6) := (blk_cell BK138.out 2).trans rfl
                                          have hfz89_0 := blk_frozen BK138.out 0
                                          have hfz89_1 := blk_frozen BK138.out 1
                                          have hfz89_2 := blk_frozen BK138.out 2
                                          go_wp2
                                          go_roundg kj59
                                          case measure => have := HJ1.out; have := HJ9.out; have := HJ11.out; have := HK4.out; have := HJ44.out; have := HK6.out; have := HJ59.out; omega
                                          case rel => exact ⟨(wrap64 (x12_6 + 1)), (x139001_6), (IntKind.u64.wrap (IntKind.u64.wrap (x139002_6 * 65536))), (by first | rfl | (simp; done) | (simp [*]; done) | ((try simp only [Bool.not_not]); (generalize ByteArray.toList _ = l_); cases l_ <;> rfl) | (simp; (generalize ByteArray.toList _ = l_); cases l_ <;> rfl)), (by first | (simp only [Int.add_zero] at H'; exact H') | exact H'), ⟨by have := HJ1.out; have := HJ9.out; have := HJ11.out; have := HK4.out; have := HJ44.out; have := HK6.out; have := HJ59.out; omega⟩, ⟨by (with_reducible repeat (first | apply Kd.R_alloc | apply Kd.R_drewN | apply Kd.R_drew)); exact Kd.R_mono (Kd.R_far (p := ⟨gb138, 2, none⟩) (Kd.R_types HO_4.out BK138.out (by decide)) (fun _ hk => hk.2) (.int .u64 (IntKind.u64.wrap (IntKind.u64.wrap (x139002_6 * 65536))))) (fun _ hk => trivial)⟩, ⟨by (with_reducible repeat (first | refine blk_drewN ?_ _ | refine blk_drew ?_ | refine blk_alloc ?_ _)); refine blk_far ?_ NB132_138.out _; (with_reducible repeat (first | refine blk_drewN ?_ _ | refine blk_drew ?_ | refine blk_alloc ?_ _)); exact BK132.out⟩, ⟨by (with_reducible repeat (first | refine blk_drewN ?_ _ | refine blk_drew ?_ | refine blk_alloc ?_ _)); refine blk_put (cs := #[.bool true, .int .u64 x139001_6, .int .u64 x139002_6]) ?_ 2 _ rfl; (with_reducible repeat (first | refine blk_drewN ?_ _ | refine blk_drew ?_ | refine blk_alloc ?_ _)); exact BK138.out⟩, ⟨by repeat (first | (with_reducible first | exact HB.out | apply below_alloc | apply pw_below_drewN | apply below_drew1 | refine below_set ?_ GE132.out | refine below_set ?_ GE138.out) | exact HB.out)⟩⟩
                              · rw [if_neg c59] at H
                                have c59b0 : decide (x12_6 < 8) = false := decide_eq_false c59
                                clear c59
                                simp only [Option.some.injEq, Prod.mk.injEq] at H
                                obtain ⟨rfl, rfl, rfl, rfl⟩ := H
                                have hnb90 := NB138_132.out
                                have hnc90 := NB132_138.out
                                have hcz91_0 : wr.cell? ⟨gb138, 0, none⟩ = some (.bool true) := (blk_cell BK138.out 0).trans rfl
                                have hcz91_1 : wr.cell? ⟨gb138, 1, none⟩ = some (.int .u64 x139001_6) := (blk_cell BK138.out 1).trans rfl
                                have hcz91_2 : wr.cell? ⟨gb138, 2, none⟩ = some (.int .u64 x139002_6) := (blk_cell BK138.out 2).trans rfl
                                have hfz91_0 := blk_frozen BK138.out 0
                                have hfz91_1 := blk_frozen BK138.out 1
                                have hfz91_2 := blk_frozen BK138.out 2
                                have hcz92_0 : wr.cell? ⟨gb132, 0, none⟩ = some (.bool x133000_4) := (blk_cell BK132.out 0).trans rfl
                                have hcz92_1 : wr.cell? ⟨gb132, 1, none⟩ = some (.int .u64 x133001_4) := (blk_cell BK132.out 1).trans rfl
                                have hcz92_2 : wr.cell? ⟨gb132, 2, none⟩ = some (.int .u64 x133002_4) := (blk_cell BK132.out 2).trans rfl
                                have hfz92_0 := blk_frozen BK132.out 0
                                have hfz92_1 := blk_frozen BK132.out 1
                                have hfz92_2 := blk_frozen BK132.out 2
                                go_wp2
                                refine bodyPost_ret (results_ct rfl _ _ gb132 24 #[.bool true, .int .u64 x139001_6, .int .u64 x139002_6] (0, 0) _ rfl (by (with_reducible repeat (first | refine blk_drewN ?_ _ | refine blk_drew ?_ | refine blk_alloc ?_ _)); refine blk_put (cs := #[.bool true, .int .u64 x139001_6, .int .u64 x133002_4]) ?_ 2 _ rfl; (with_reducible repeat (first | refine blk_drewN ?_ _ | refine blk_drew ?_ | refine blk_alloc ?_ _)); refine blk_put (cs := #[.bool true, .int .u64 x133001_4, .int .u64 x133002_4]) ?_ 1 _ rfl; (with_reducible repeat (first | refine blk_drewN ?_ _ | refine blk_drew ?_ | refine blk_alloc ?_ _)); refine blk_put (cs := #[.bool x133000_4, .int .u64 x133001_4, .int .u64 x133002_4]) ?_ 0 _ rfl; (with_reducible repeat (first | refine blk_drewN ?_ _ | refine blk_drew ?_ | refine blk_alloc ?_ _)); exact BK132.out) Tryd.underlying24 rfl (by kernel_rfl)) rfl ?_
                                exact ⟨by first | rfl | (simp [errW_none, errW_some] <;> rfl) | (simp [*, errW_none, errW_some] <;> rfl), by repeat (first | (with_reducible first | exact HB.out | apply below_alloc | apply pw_below_drewN | apply below_drew1 | refine below_set ?_ GE132.out | refine below_set ?_ GE138.out) | exact HB.out)⟩

end Go.Proofs.YtmkgjibmfabbdaaDoor.PA
