/- The Go functions in Lean, with the proofs that the code comes to these answers: printed by this session's program (wip/px) out of the seat's translation. Conditions: each theorem's own. -/
import Derived.Test.YtmkgjibmfabbdaaDoorPBx0
import Derived.Test.YtmkgjibmfabbdaaDoorPBx2
import Derived.Test.YtmkgjibmfabbdaaDoorPBx3
namespace Go.Proofs.YtmkgjibmfabbdaaDoor.PB
open Go.RowKit Go.Proofs.YtmkgjibmfabbdaaDoorW.PrintWords Go.Proofs.YtmkgjibmfabbdaaDoorW.PrintLast Go.Proofs.YtmkgjibmfabbdaaDoorW.PrintMore
attribute [local go_sem] max2_int min2_int max_two min_two max_three min_three max_four min_four   -- for this text's walks alone
attribute [local go_sem ↓] Ext.isSome_setCell
set_option linter.unusedVariables false
set_option linter.unusedSimpArgs false

/-! ### ddiref02_Print: function 6 -/
mutual
def ddiref02_Print.j0 : Nat → Int → Int → Bool → Int → Int → Option (ByteArray × Int)
  | 0, _, _, _, _, _ => none
  | k + 1, x4, x5, x134000, x134001, x134002 => ddiref02_Print.l0 k x4 x5 (⟨#[]⟩ : ByteArray) 0 x134000 x134001 x134002
def ddiref02_Print.l0 : Nat → Int → Int → ByteArray → Int → Bool → Int → Int → Option (ByteArray × Int)
  | 0, _, _, _, _, _, _, _ => none
  | k + 1, x4, x5, x6, x7, x134000, x134001, x134002 => if x7 < 8 then (if x7 = x4 then (if x6.size + 2 ≤ 9223372036854775807 then (ddiref02_Print.j2 k x4 x5 (x6 ++ (⟨#[58, 58]⟩ : ByteArray)) x7 x134000 x134001 x134002) else (none)) else (ddiref02_Print.j2 k x4 x5 x6 x7 x134000 x134001 x134002)) else (some (x6, 0))
def ddiref02_Print.j2 : Nat → Int → Int → ByteArray → Int → Bool → Int → Int → Option (ByteArray × Int)
  | 0, _, _, _, _, _, _, _ => none
  | k + 1, x4, x5, x6, x7, x134000, x134001, x134002 => if x7 ≥ x4 then (ddiref02_Print.j3 k x4 x5 x6 x7 (decide (x7 < (wrap64 (x4 + x5)))) x134000 x134001 x134002) else (ddiref02_Print.j3 k x4 x5 x6 x7 false x134000 x134001 x134002)
def ddiref02_Print.j3 : Nat → Int → Int → ByteArray → Int → Bool → Bool → Int → Int → Option (ByteArray × Int)
  | 0, _, _, _, _, _, _, _, _ => none
  | k + 1, x4, x5, x6, x7, x63, x134000, x134001, x134002 => if x63 = true then (ddiref02_Print.l0 k x4 x5 x6 (wrap64 (x7 + 1)) x134000 x134001 x134002) else (if x7 > 0 then (ddiref02_Print.j4 k x4 x5 x6 x7 (x7 != (wrap64 (x4 + x5))) x134000 x134001 x134002) else (ddiref02_Print.j4 k x4 x5 x6 x7 false x134000 x134001 x134002))
def ddiref02_Print.j4 : Nat → Int → Int → ByteArray → Int → Bool → Bool → Int → Int → Option (ByteArray × Int)
  | 0, _, _, _, _, _, _, _, _ => none
  | k + 1, x4, x5, x6, x7, x72, x134000, x134001, x134002 => if x72 = true then (if x6.size + 1 ≤ 9223372036854775807 then ((ddiref02_part.f k x134000 x134001 x134002 x7).bind fun t141 => ((ddiref02_groupText.f k t141).bind fun t142 => (if (x6 ++ (⟨#[58]⟩ : ByteArray)).size + t142.size ≤ 9223372036854775807 then (ddiref02_Print.l0 k x4 x5 ((x6 ++ (⟨#[58]⟩ : ByteArray)) ++ t142) (wrap64 (x7 + 1)) x134000 x134001 x134002) else (none)))) else (none)) else ((ddiref02_part.f k x134000 x134001 x134002 x7).bind fun t143 => ((ddiref02_groupText.f k t143).bind fun t144 => (if x6.size + t144.size ≤ 9223372036854775807 then (ddiref02_Print.l0 k x4 x5 (x6 ++ t144) (wrap64 (x7 + 1)) x134000 x134001 x134002) else (none))))
end
def ddiref02_Print.f (k : Nat) (a0_0 : Bool) (a0_1 : Int) (a0_2 : Int) : Option (ByteArray × Int) := (ddiref02_Valid.f a0_0 a0_1 a0_2).bind fun t134 => (if t134 = true then (if a0_0 = true then ((ddiref02_run.f k a0_0 a0_1 a0_2).bind fun bt139 => (if bt139.2 < 2 then (ddiref02_Print.j0 k 8 0 a0_0 a0_1 a0_2) else (ddiref02_Print.j0 k bt139.1 bt139.2 a0_0 a0_1 a0_2))) else ((ddiref02_decimal.f (IntKind.u64.wrap (Int.tdiv a0_2 16777216))).bind fun t135 => (if t135.size + 1 ≤ 9223372036854775807 then ((ddiref02_decimal.f (Int.tmod (IntKind.u64.wrap (Int.tdiv a0_2 65536)) 256)).bind fun t136 => (if (t135 ++ (⟨#[46]⟩ : ByteArray)).size + t136.size ≤ 9223372036854775807 then (if ((t135 ++ (⟨#[46]⟩ : ByteArray)) ++ t136).size + 1 ≤ 9223372036854775807 then ((ddiref02_decimal.f (Int.tmod (IntKind.u64.wrap (Int.tdiv a0_2 256)) 256)).bind fun t137 => (if (((t135 ++ (⟨#[46]⟩ : ByteArray)) ++ t136) ++ (⟨#[46]⟩ : ByteArray)).size + t137.size ≤ 9223372036854775807 then (if ((((t135 ++ (⟨#[46]⟩ : ByteArray)) ++ t136) ++ (⟨#[46]⟩ : ByteArray)) ++ t137).size + 1 ≤ 9223372036854775807 then ((ddiref02_decimal.f (Int.tmod a0_2 256)).bind fun t138 => (if (((((t135 ++ (⟨#[46]⟩ : ByteArray)) ++ t136) ++ (⟨#[46]⟩ : ByteArray)) ++ t137) ++ (⟨#[46]⟩ : ByteArray)).size + t138.size ≤ 9223372036854775807 then (some ((((((t135 ++ (⟨#[46]⟩ : ByteArray)) ++ t136) ++ (⟨#[46]⟩ : ByteArray)) ++ t137) ++ (⟨#[46]⟩ : ByteArray)) ++ t138, 0)) else (none))) else (none)) else (none))) else (none)) else (none))) else (none)))) else (some ((⟨#[]⟩ : ByteArray), 3)))
theorem ddiref02_Print.mono_l : ∀ k, (∀ y0 y1 y2 y3 y4, LeO (ddiref02_Print.j0 k y0 y1 y2 y3 y4) (ddiref02_Print.j0 (k + 1) y0 y1 y2 y3 y4)) ∧ (∀ y0 y1 y2 y3 y4 y5 y6, LeO (ddiref02_Print.l0 k y0 y1 y2 y3 y4 y5 y6) (ddiref02_Print.l0 (k + 1) y0 y1 y2 y3 y4 y5 y6)) ∧ (∀ y0 y1 y2 y3 y4 y5 y6, LeO (ddiref02_Print.j2 k y0 y1 y2 y3 y4 y5 y6) (ddiref02_Print.j2 (k + 1) y0 y1 y2 y3 y4 y5 y6)) ∧ (∀ y0 y1 y2 y3 y4 y5 y6 y7, LeO (ddiref02_Print.j3 k y0 y1 y2 y3 y4 y5 y6 y7) (ddiref02_Print.j3 (k + 1) y0 y1 y2 y3 y4 y5 y6 y7)) ∧ (∀ y0 y1 y2 y3 y4 y5 y6 y7, LeO (ddiref02_Print.j4 k y0 y1 y2 y3 y4 y5 y6 y7) (ddiref02_Print.j4 (k + 1) y0 y1 y2 y3 y4 y5 y6 y7))
  | 0 => ⟨fun _ _ _ _ _ r h => by simp [ddiref02_Print.j0] at h, fun _ _ _ _ _ _ _ r h => by simp [ddiref02_Print.l0] at h, fun _ _ _ _ _ _ _ r h => by simp [ddiref02_Print.j2] at h, fun _ _ _ _ _ _ _ _ r h => by simp [ddiref02_Print.j3] at h, fun _ _ _ _ _ _ _ _ r h => by simp [ddiref02_Print.j4] at h⟩
  | k + 1 => by
    obtain ⟨ih0, ih1, ih2, ih3, ih4⟩ := ddiref02_Print.mono_l k
    refine ⟨?_, ?_, ?_, ?_, ?_⟩
    · intro y0 y1 y2 y3 y4
      unfold ddiref02_Print.j0
      repeat' first
      | (with_reducible exact ih0 _ _ _ _ _)
      | (with_reducible exact ih1 _ _ _ _ _ _ _)
      | (with_reducible exact ih2 _ _ _ _ _ _ _)
      | (with_reducible exact ih3 _ _ _ _ _ _ _ _)
      | (with_reducible exact ih4 _ _ _ _ _ _ _ _)
      | (with_reducible exact ddiref02_groupText.mono _ _)
      | (with_reducible exact ddiref02_part.mono _ _ _ _ _)
      | (with_reducible exact ddiref02_run.mono _ _ _ _)
      | (with_reducible exact LeO.refl _)
      | (with_reducible exact LeO.none _)
      | (with_reducible refine LeO.ite ?_ ?_)
      | (with_reducible refine LeO.bind ?_ (fun _ => ?_))
      | exact ih0 _ _ _ _ _
      | exact ih1 _ _ _ _ _ _ _
      | exact ih2 _ _ _ _ _ _ _
      | exact ih3 _ _ _ _ _ _ _ _
      | exact ih4 _ _ _ _ _ _ _ _
      | exact ddiref02_groupText.mono _ _
      | exact ddiref02_part.mono _ _ _ _ _
      | exact ddiref02_run.mono _ _ _ _
      | exact LeO.none _
      | refine LeO.ite ?_ ?_
      | refine LeO.bind ?_ (fun _ => ?_)
    · intro y0 y1 y2 y3 y4 y5 y6
      unfold ddiref02_Print.l0
      repeat' first
      | (with_reducible exact ih0 _ _ _ _ _)
      | (with_reducible exact ih1 _ _ _ _ _ _ _)
      | (with_reducible exact ih2 _ _ _ _ _ _ _)
      | (with_reducible exact ih3 _ _ _ _ _ _ _ _)
      | (with_reducible exact ih4 _ _ _ _ _ _ _ _)
      | (with_reducible exact ddiref02_groupText.mono _ _)
      | (with_reducible exact ddiref02_part.mono _ _ _ _ _)
      | (with_reducible exact ddiref02_run.mono _ _ _ _)
      | (with_reducible exact LeO.refl _)
      | (with_reducible exact LeO.none _)
      | (with_reducible refine LeO.ite ?_ ?_)
      | (with_reducible refine LeO.bind ?_ (fun _ => ?_))
      | exact ih0 _ _ _ _ _
      | exact ih1 _ _ _ _ _ _ _
      | exact ih2 _ _ _ _ _ _ _
      | exact ih3 _ _ _ _ _ _ _ _
      | exact ih4 _ _ _ _ _ _ _ _
      | exact ddiref02_groupText.mono _ _
      | exact ddiref02_part.mono _ _ _ _ _
      | exact ddiref02_run.mono _ _ _ _
      | exact LeO.none _
      | refine LeO.ite ?_ ?_
      | refine LeO.bind ?_ (fun _ => ?_)
    · intro y0 y1 y2 y3 y4 y5 y6
      unfold ddiref02_Print.j2
      repeat' first
      | (with_reducible exact ih0 _ _ _ _ _)
      | (with_reducible exact ih1 _ _ _ _ _ _ _)
      | (with_reducible exact ih2 _ _ _ _ _ _ _)
      | (with_reducible exact ih3 _ _ _ _ _ _ _ _)
      | (with_reducible exact ih4 _ _ _ _ _ _ _ _)
      | (with_reducible exact ddiref02_groupText.mono _ _)
      | (with_reducible exact ddiref02_part.mono _ _ _ _ _)
      | (with_reducible exact ddiref02_run.mono _ _ _ _)
      | (with_reducible exact LeO.refl _)
      | (with_reducible exact LeO.none _)
      | (with_reducible refine LeO.ite ?_ ?_)
      | (with_reducible refine LeO.bind ?_ (fun _ => ?_))
      | exact ih0 _ _ _ _ _
      | exact ih1 _ _ _ _ _ _ _
      | exact ih2 _ _ _ _ _ _ _
      | exact ih3 _ _ _ _ _ _ _ _
      | exact ih4 _ _ _ _ _ _ _ _
      | exact ddiref02_groupText.mono _ _
      | exact ddiref02_part.mono _ _ _ _ _
      | exact ddiref02_run.mono _ _ _ _
      | exact LeO.none _
      | refine LeO.ite ?_ ?_
      | refine LeO.bind ?_ (fun _ => ?_)
    · intro y0 y1 y2 y3 y4 y5 y6 y7
      unfold ddiref02_Print.j3
      repeat' first
      | (with_reducible exact ih0 _ _ _ _ _)
      | (with_reducible exact ih1 _ _ _ _ _ _ _)
      | (with_reducible exact ih2 _ _ _ _ _ _ _)
      | (with_reducible exact ih3 _ _ _ _ _ _ _ _)
      | (with_reducible exact ih4 _ _ _ _ _ _ _ _)
      | (with_reducible exact ddiref02_groupText.mono _ _)
      | (with_reducible exact ddiref02_part.mono _ _ _ _ _)
      | (with_reducible exact ddiref02_run.mono _ _ _ _)
      | (with_reducible exact LeO.refl _)
      | (with_reducible exact LeO.none _)
      | (with_reducible refine LeO.ite ?_ ?_)
      | (with_reducible refine LeO.bind ?_ (fun _ => ?_))
      | exact ih0 _ _ _ _ _
      | exact ih1 _ _ _ _ _ _ _
      | exact ih2 _ _ _ _ _ _ _
      | exact ih3 _ _ _ _ _ _ _ _
      | exact ih4 _ _ _ _ _ _ _ _
      | exact ddiref02_groupText.mono _ _
      | exact ddiref02_part.mono _ _ _ _ _
      | exact ddiref02_run.mono _ _ _ _
      | exact LeO.none _
      | refine LeO.ite ?_ ?_
      | refine LeO.bind ?_ (fun _ => ?_)
    · intro y0 y1 y2 y3 y4 y5 y6 y7
      unfold ddiref02_Print.j4
      repeat' first
      | (with_reducible exact ih0 _ _ _ _ _)
      | (with_reducible exact ih1 _ _ _ _ _ _ _)
      | (with_reducible exact ih2 _ _ _ _ _ _ _)
      | (with_reducible exact ih3 _ _ _ _ _ _ _ _)
      | (with_reducible exact ih4 _ _ _ _ _ _ _ _)
      | (with_reducible exact ddiref02_groupText.mono _ _)
      | (with_reducible exact ddiref02_part.mono _ _ _ _ _)
      | (with_reducible exact ddiref02_run.mono _ _ _ _)
      | (with_reducible exact LeO.refl _)
      | (with_reducible exact LeO.none _)
      | (with_reducible refine LeO.ite ?_ ?_)
      | (with_reducible refine LeO.bind ?_ (fun _ => ?_))
      | exact ih0 _ _ _ _ _
      | exact ih1 _ _ _ _ _ _ _
      | exact ih2 _ _ _ _ _ _ _
      | exact ih3 _ _ _ _ _ _ _ _
      | exact ih4 _ _ _ _ _ _ _ _
      | exact ddiref02_groupText.mono _ _
      | exact ddiref02_part.mono _ _ _ _ _
      | exact ddiref02_run.mono _ _ _ _
      | exact LeO.none _
      | refine LeO.ite ?_ ?_
      | refine LeO.bind ?_ (fun _ => ?_)
theorem ddiref02_Print.mono : ∀ a0 a1 a2 k, LeO (ddiref02_Print.f k a0 a1 a2) (ddiref02_Print.f (k + 1) a0 a1 a2) := by
  intro a0 a1 a2 k
  obtain ⟨ih0, ih1, ih2, ih3, ih4⟩ := ddiref02_Print.mono_l k
  unfold ddiref02_Print.f
  repeat' first
      | (with_reducible exact ih0 _ _ _ _ _)
      | (with_reducible exact ih1 _ _ _ _ _ _ _)
      | (with_reducible exact ih2 _ _ _ _ _ _ _)
      | (with_reducible exact ih3 _ _ _ _ _ _ _ _)
      | (with_reducible exact ih4 _ _ _ _ _ _ _ _)
      | (with_reducible exact ddiref02_groupText.mono _ _)
      | (with_reducible exact ddiref02_part.mono _ _ _ _ _)
      | (with_reducible exact ddiref02_run.mono _ _ _ _)
      | (with_reducible exact LeO.refl _)
      | (with_reducible exact LeO.none _)
      | (with_reducible refine LeO.ite ?_ ?_)
      | (with_reducible refine LeO.bind ?_ (fun _ => ?_))
      | exact ih0 _ _ _ _ _
      | exact ih1 _ _ _ _ _ _ _
      | exact ih2 _ _ _ _ _ _ _
      | exact ih3 _ _ _ _ _ _ _ _
      | exact ih4 _ _ _ _ _ _ _ _
      | exact ddiref02_groupText.mono _ _
      | exact ddiref02_part.mono _ _ _ _ _
      | exact ddiref02_run.mono _ _ _ _
      | exact LeO.none _
      | refine LeO.ite ?_ ?_
      | refine LeO.bind ?_ (fun _ => ?_)
def ddiref02_Print.T4 : Bool × List (List Nat × List Nat) := (true, [([], []), ([0], [0]), ([1], [1]), ([2], [2]), ([3], [3]), ([], []), ([5], [5]), ([6], [6]), ([7], [7]), ([8, 3], [8]), ([4, 9], [4, 9]), ([10], [10]), ([], []), ([12], [12]), ([13], [13]), ([14], [14]), ([15, 9], [15]), ([11, 16], [11, 16]), ([17], [17]), ([], []), ([19], [19]), ([20], [20]), ([21, 16], [21]), ([18, 22], [18, 22]), ([23, 22, 0, 1, 2, 3, 4, 5, 6, 7, 8, 9, 10, 11, 12, 13, 14, 15, 16, 17, 18, 19, 20, 21, 22, 23], [23]), ([24, 0, 1, 2, 3, 4, 5, 6, 7, 8, 9, 10, 11, 12, 13, 14, 15, 16, 17, 18, 19, 20, 21, 22, 23, 24], [])])
def ddiref02_Print.B4 : List Nat := [0, 1, 3, 7, 15, 0, 32, 96, 224, 495, 1023, 2047, 0, 4096, 12288, 28672, 62447, 131071, 262143, 0, 524288, 1572864, 3797999, 8388607, 16777215, 33554431]
theorem ddiref02_Print.tab4 : rtab .any (opsOf Tryd.f6 4) = ddiref02_Print.T4 := by kernel_rfl
theorem ddiref02_Print.bits4 : waitsOk ddiref02_Print.T4.2 ddiref02_Print.B4 = true := by kernel_rfl
set_option maxHeartbeats 40000000 in
set_option maxRecDepth 100000 in
theorem ddiref02_Print.calls (k : Nat) (a0_0 : Bool) (a0_1 : Int) (a0_2 : Int) (r1 : ByteArray) (r2 : Int) (w : World) (h : ddiref02_Print.f k a0_0 a0_1 a0_2 = some (r1, r2)) :
    Calls Tryd.prog 6 #[.agg #[.bool a0_0, .int .u64 a0_1, .int .u64 a0_2]] w fun e w' => e = .returned (.tuple #[.string r1, .int .i64 r2]) ∧ Below w.heap.size w w' := by
  have hu24 := Tryd.underlying24
  have HB := Aside0.mk (Below.refl w.heap.size w)
  have H : ((ddiref02_Valid.f a0_0 a0_1 a0_2).bind fun t134 => (if t134 = true then (if a0_0 = true then ((ddiref02_run.f k a0_0 a0_1 a0_2).bind fun bt139 => (if bt139.2 < 2 then (ddiref02_Print.j0 k 8 0 a0_0 a0_1 a0_2) else (ddiref02_Print.j0 k bt139.1 bt139.2 a0_0 a0_1 a0_2))) else ((ddiref02_decimal.f (IntKind.u64.wrap (Int.tdiv a0_2 16777216))).bind fun t135 => (if t135.size + 1 ≤ 9223372036854775807 then ((ddiref02_decimal.f (Int.tmod (IntKind.u64.wrap (Int.tdiv a0_2 65536)) 256)).bind fun t136 => (if (t135 ++ (⟨#[46]⟩ : ByteArray)).size + t136.size ≤ 9223372036854775807 then (if ((t135 ++ (⟨#[46]⟩ : ByteArray)) ++ t136).size + 1 ≤ 9223372036854775807 then ((ddiref02_decimal.f (Int.tmod (IntKind.u64.wrap (Int.tdiv a0_2 256)) 256)).bind fun t137 => (if (((t135 ++ (⟨#[46]⟩ : ByteArray)) ++ t136) ++ (⟨#[46]⟩ : ByteArray)).size + t137.size ≤ 9223372036854775807 then (if ((((t135 ++ (⟨#[46]⟩ : ByteArray)) ++ t136) ++ (⟨#[46]⟩ : ByteArray)) ++ t137).size + 1 ≤ 9223372036854775807 then ((ddiref02_decimal.f (Int.tmod a0_2 256)).bind fun t138 => (if (((((t135 ++ (⟨#[46]⟩ : ByteArray)) ++ t136) ++ (⟨#[46]⟩ : ByteArray)) ++ t137) ++ (⟨#[46]⟩ : ByteArray)).size + t138.size ≤ 9223372036854775807 then (some ((((((t135 ++ (⟨#[46]⟩ : ByteArray)) ++ t136) ++ (⟨#[46]⟩ : ByteArray)) ++ t137) ++ (⟨#[46]⟩ : ByteArray)) ++ t138, 0)) else (none))) else (none)) else (none))) else (none)) else (none))) else (none)))) else (some ((⟨#[]⟩ : ByteArray), 3)))) = some (r1, r2) := h
  clear h
  replace H := Option.bind_eq_some_iff.mp H
  obtain ⟨t134, A20, H⟩ := H
  replace H : (if t134 = true then (if a0_0 = true then ((ddiref02_run.f k a0_0 a0_1 a0_2).bind fun bt139 => (if bt139.2 < 2 then (ddiref02_Print.j0 k 8 0 a0_0 a0_1 a0_2) else (ddiref02_Print.j0 k bt139.1 bt139.2 a0_0 a0_1 a0_2))) else ((ddiref02_decimal.f (IntKind.u64.wrap (Int.tdiv a0_2 16777216))).bind fun t135 => (if t135.size + 1 ≤ 9223372036854775807 then ((ddiref02_decimal.f (Int.tmod (IntKind.u64.wrap (Int.tdiv a0_2 65536)) 256)).bind fun t136 => (if (t135 ++ (⟨#[46]⟩ : ByteArray)).size + t136.size ≤ 9223372036854775807 then (if ((t135 ++ (⟨#[46]⟩ : ByteArray)) ++ t136).size + 1 ≤ 9223372036854775807 then ((ddiref02_decimal.f (Int.tmod (IntKind.u64.wrap (Int.tdiv a0_2 256)) 256)).bind fun t137 => (if (((t135 ++ (⟨#[46]⟩ : ByteArray)) ++ t136) ++ (⟨#[46]⟩ : ByteArray)).size + t137.size ≤ 9223372036854775807 then (if ((((t135 ++ (⟨#[46]⟩ : ByteArray)) ++ t136) ++ (⟨#[46]⟩ : ByteArray)) ++ t137).size + 1 ≤ 9223372036854775807 then ((ddiref02_decimal.f (Int.tmod a0_2 256)).bind fun t138 => (if (((((t135 ++ (⟨#[46]⟩ : ByteArray)) ++ t136) ++ (⟨#[46]⟩ : ByteArray)) ++ t137) ++ (⟨#[46]⟩ : ByteArray)).size + t138.size ≤ 9223372036854775807 then (some ((((((t135 ++ (⟨#[46]⟩ : ByteArray)) ++ t136) ++ (⟨#[46]⟩ : ByteArray)) ++ t137) ++ (⟨#[46]⟩ : ByteArray)) ++ t138, 0)) else (none))) else (none)) else (none))) else (none)) else (none))) else (none)))) else (some ((⟨#[]⟩ : ByteArray), 3))) = some (r1, r2) := H
  have A2 := Aside0.mk A20
  clear A20
  by_cases c3 : t134 = true
  · subst c3
    have H1 : (if a0_0 = true then ((ddiref02_run.f k a0_0 a0_1 a0_2).bind fun bt139 => (if bt139.2 < 2 then (ddiref02_Print.j0 k 8 0 a0_0 a0_1 a0_2) else (ddiref02_Print.j0 k bt139.1 bt139.2 a0_0 a0_1 a0_2))) else ((ddiref02_decimal.f (IntKind.u64.wrap (Int.tdiv a0_2 16777216))).bind fun t135 => (if t135.size + 1 ≤ 9223372036854775807 then ((ddiref02_decimal.f (Int.tmod (IntKind.u64.wrap (Int.tdiv a0_2 65536)) 256)).bind fun t136 => (if (t135 ++ (⟨#[46]⟩ : ByteArray)).size + t136.size ≤ 9223372036854775807 then (if ((t135 ++ (⟨#[46]⟩ : ByteArray)) ++ t136).size + 1 ≤ 9223372036854775807 then ((ddiref02_decimal.f (Int.tmod (IntKind.u64.wrap (Int.tdiv a0_2 256)) 256)).bind fun t137 => (if (((t135 ++ (⟨#[46]⟩ : ByteArray)) ++ t136) ++ (⟨#[46]⟩ : ByteArray)).size + t137.size ≤ 9223372036854775807 then (if ((((t135 ++ (⟨#[46]⟩ : ByteArray)) ++ t136) ++ (⟨#[46]⟩ : ByteArray)) ++ t137).size + 1 ≤ 9223372036854775807 then ((ddiref02_decimal.f (Int.tmod a0_2 256)).bind fun t138 => (if (((((t135 ++ (⟨#[46]⟩ : ByteArray)) ++ t136) ++ (⟨#[46]⟩ : ByteArray)) ++ t137) ++ (⟨#[46]⟩ : ByteArray)).size + t138.size ≤ 9223372036854775807 then (some ((((((t135 ++ (⟨#[46]⟩ : ByteArray)) ++ t136) ++ (⟨#[46]⟩ : ByteArray)) ++ t137) ++ (⟨#[46]⟩ : ByteArray)) ++ t138, 0)) else (none))) else (none)) else (none))) else (none)) else (none))) else (none)))) = some (r1, r2) := by rw [if_pos rfl] at H; exact H
    clear H
    have H := H1
    clear H1
    by_cases c4 : a0_0 = true
    · subst c4
      have H1 : ((ddiref02_run.f k true a0_1 a0_2).bind fun bt139 => (if bt139.2 < 2 then (ddiref02_Print.j0 k 8 0 true a0_1 a0_2) else (ddiref02_Print.j0 k bt139.1 bt139.2 true a0_1 a0_2))) = some (r1, r2) := by rw [if_pos rfl] at H; exact H
      clear H
      have H := H1
      clear H1
      replace H := Option.bind_eq_some_iff.mp H
      obtain ⟨⟨t139, t140⟩, A50, H⟩ := H
      replace H : (if t140 < 2 then (ddiref02_Print.j0 k 8 0 true a0_1 a0_2) else (ddiref02_Print.j0 k t139 t140 true a0_1 a0_2)) = some (r1, r2) := H
      have A5 := Aside0.mk A50
      clear A50
      have HC6 := Aside0.mk H
      clear H
      go_enter Tryd.func6, Tryd.ntmps6
      go_upto_if 44 with (first | ((with_reducible refine gate_dst (N := 1) rfl ?_); refine box_event ?hg (N := 1) ?hd (cs := #[.bool true, .int .u64 a0_1, .int .u64 a0_2]) (t := 24) ?hr ?_; (case hd => rfl); (case hg => rfl); (case hr => first | (go_simp; done) | (go_simp; rfl)); intro gb133 hg w7 hbox hb; have n0_ := Aside0.mk (below_step (by repeat (first | (with_reducible first | exact HB.out | apply below_alloc | apply pw_below_drewN | apply below_drew1) | exact HB.out)) hb); have n1_ := Aside0.mk (hbox); have n2_ := Aside0.mk ((by rw [hg]; exact (below_size (by repeat (first | (with_reducible first | exact HB.out | apply below_alloc | apply pw_below_drewN | apply below_drew1) | exact HB.out))) : w.heap.size ≤ gb133)); have n3_ := Aside0.mk ((by rw [hg]; exact (below_size (by repeat (first | (with_reducible first | exact HB.out | apply below_alloc | apply pw_below_drewN | apply below_drew1) | exact HB.out))) : w.heap.size ≤ gb133)); clear HB; have HB := n0_; have BK133 := n1_; have GW133 := n2_; have GE133 := n3_; clear n0_ n1_ n2_ n3_; clear hb hbox hg; have hcz8_0 : w7.cell? ⟨gb133, 0, none⟩ = some (.bool true) := (blk_cell BK133.out 0).trans rfl; have hcz8_1 : w7.cell? ⟨gb133, 1, none⟩ = some (.int .u64 a0_1) := (blk_cell BK133.out 1).trans rfl; have hcz8_2 : w7.cell? ⟨gb133, 2, none⟩ = some (.int .u64 a0_2) := (blk_cell BK133.out 2).trans rfl; have hfz8_0 := blk_frozen BK133.out 0; have hfz8_1 := blk_frozen BK133.out 1; have hfz8_2 := blk_frozen BK133.out 2) | ((with_reducible refine gate_callee (f := 9) rfl ?_); refine goesL_ (some 9) rfl rfl Tryd.func9 (by kernel_rfl) rfl #[.agg #[.bool true, .int .u64 a0_1, .int .u64 a0_2]] rfl (by (try simp only [List.map_toArray, List.map_cons, List.map_nil]); first | done | rfl | (simp only [Ext.u64_u8]; done) | (simp only [Ext.u64_u8]; rfl) | (simp only [List.length_drop, List.length_take]; rfl)) ?_; (with_reducible refine (ddiref02_Valid.calls true a0_1 a0_2 true _ A2.out).mono ?_); rintro e w9 ⟨rfl, hb⟩; refine ⟨_, rfl, ?_⟩; have n0_ := Aside0.mk (blk_below (g := gb133) (o := .cells #[.bool true, .int .u64 a0_1, .int .u64 a0_2] 24 (0, 0)) (by (with_reducible repeat (first | refine blk_drewN ?_ _ | refine blk_drew ?_ | refine blk_alloc ?_ _)); exact BK133.out) hb); have n1_ := Aside0.mk (below_step (by repeat (first | (with_reducible first | exact HB.out | apply below_alloc | apply pw_below_drewN | apply below_drew1 | refine below_set ?_ GE133.out) | exact HB.out)) hb); clear BK133; clear HB; have BK133 := n0_; have HB := n1_; clear n0_ n1_; (try clear hb); (try clear hb2); (try clear hk); (try clear hi); have hcz10_0 : w9.cell? ⟨gb133, 0, none⟩ = some (.bool true) := (blk_cell BK133.out 0).trans rfl; have hcz10_1 : w9.cell? ⟨gb133, 1, none⟩ = some (.int .u64 a0_1) := (blk_cell BK133.out 1).trans rfl; have hcz10_2 : w9.cell? ⟨gb133, 2, none⟩ = some (.int .u64 a0_2) := (blk_cell BK133.out 2).trans rfl; have hfz10_0 := blk_frozen BK133.out 0; have hfz10_1 := blk_frozen BK133.out 1; have hfz10_2 := blk_frozen BK133.out 2) | ((with_reducible refine gate_callee (f := 17) rfl ?_); refine goesL_ (some 40) rfl rfl Tryd.func17 (by kernel_rfl) rfl #[.agg #[.bool true, .int .u64 a0_1, .int .u64 a0_2]] rfl (by (try simp only [List.map_toArray, List.map_cons, List.map_nil]); first | done | rfl | (simp only [Ext.u64_u8]; done) | (simp only [Ext.u64_u8]; rfl) | (simp only [List.length_drop, List.length_take]; rfl)) ?_; (with_reducible refine (ddiref02_run.calls k true a0_1 a0_2 t139 t140 _ A5.out).mono ?_); rintro e w11 ⟨rfl, hb⟩; refine ⟨_, rfl, ?_⟩; have n0_ := Aside0.mk (blk_below (g := gb133) (o := .cells #[.bool true, .int .u64 a0_1, .int .u64 a0_2] 24 (0, 0)) (by (with_reducible repeat (first | refine blk_drewN ?_ _ | refine blk_drew ?_ | refine blk_alloc ?_ _)); exact BK133.out) hb); have n1_ := Aside0.mk (below_step (by repeat (first | (with_reducible first | exact HB.out | apply below_alloc | apply pw_below_drewN | apply below_drew1 | refine below_set ?_ GE133.out) | exact HB.out)) hb); clear BK133; clear HB; have BK133 := n0_; have HB := n1_; clear n0_ n1_; (try clear hb); (try clear hb2); (try clear hk); (try clear hi)))
      (try simp only [Act.put, List.setIfInBounds_toArray, List.set_cons_zero, List.set_cons_succ])
      go_cut [4, 5] (fun v4 v5 wc => ∃ (kq : Nat) (x4_5 : Int) (x5_5 : Int), v4 = .int .i64 x4_5 ∧ v5 = .int .i64 x5_5 ∧ Aside0 (ddiref02_Print.j0 kq x4_5 x5_5 true a0_1 a0_2 = some (r1, r2)) ∧ Aside0 (kq ≤ k) ∧ Aside0 (wc.heap[gb133]? = some (.cells #[.bool true, .int .u64 a0_1, .int .u64 a0_2] 24 (0, 0))) ∧ Aside0 (Below w.heap.size w wc))
      case first =>
        have H := HC6.out
        clear HC6
        by_cases c12 : t140 < 2
        · rw [if_pos c12] at H
          have c12b0 : decide (t140 < 2) = true := decide_eq_true c12
          clear c12
          (first | rw [c12b0] | (simp only [i64_w, i32_w]; rw [c12b0]) | skip)
          have H' := Aside0.mk H
          clear H
          go_wp2
          refine Met.intro ?_
          go_step
          (repeat apply Exists.intro)
          refine ⟨?rel, ?heq_⟩
          case heq_ => first | rfl | (rw [c12b0]) | (simp only [c12b0])
          case rel => exact ⟨_, (8), (0), (by first | rfl | (simp; done) | (simp [*]; done) | ((try simp only [Bool.not_not]); (generalize ByteArray.toList _ = l_); cases l_ <;> rfl) | (simp; (generalize ByteArray.toList _ = l_); cases l_ <;> rfl)), (by first | rfl | (simp; done) | (simp [*]; done) | ((try simp only [Bool.not_not]); (generalize ByteArray.toList _ = l_); cases l_ <;> rfl) | (simp; (generalize ByteArray.toList _ = l_); cases l_ <;> rfl)), H', ⟨by first | omega | exact Nat.le_refl _⟩, ⟨by (with_reducible repeat (first | refine blk_drewN ?_ _ | refine blk_drew ?_ | refine blk_alloc ?_ _)); exact BK133.out⟩, ⟨by repeat (first | (with_reducible first | exact HB.out | apply below_alloc | apply pw_below_drewN | apply below_drew1 | refine below_set ?_ GE133.out) | exact HB.out)⟩⟩
        · rw [if_neg c12] at H
          have c12b0 : decide (t140 < 2) = false := decide_eq_false c12
          clear c12
          (first | rw [c12b0] | (simp only [i64_w, i32_w]; rw [c12b0]) | skip)
          have H' := Aside0.mk H
          clear H
          go_wp2
          refine Met.intro ?_
          go_step
          (repeat apply Exists.intro)
          refine ⟨?rel, ?heq_⟩
          case heq_ => first | rfl | (rw [c12b0]) | (simp only [c12b0])
          case rel => exact ⟨_, (t139), (t140), (by first | rfl | (simp; done) | (simp [*]; done) | ((try simp only [Bool.not_not]); (generalize ByteArray.toList _ = l_); cases l_ <;> rfl) | (simp; (generalize ByteArray.toList _ = l_); cases l_ <;> rfl)), (by first | rfl | (simp; done) | (simp [*]; done) | ((try simp only [Bool.not_not]); (generalize ByteArray.toList _ = l_); cases l_ <;> rfl) | (simp; (generalize ByteArray.toList _ = l_); cases l_ <;> rfl)), H', ⟨by first | omega | exact Nat.le_refl _⟩, ⟨by (with_reducible repeat (first | refine blk_drewN ?_ _ | refine blk_drew ?_ | refine blk_alloc ?_ _)); exact BK133.out⟩, ⟨by repeat (first | (with_reducible first | exact HB.out | apply below_alloc | apply pw_below_drewN | apply below_drew1 | refine below_set ?_ GE133.out) | exact HB.out)⟩⟩
      case rest =>
        clear HC6
        try clear c1
        try clear p2
        try clear c3
        try clear c4
        try clear c6
        try clear c9
        try clear c12
        try clear c12b0
        try clear hcz10_0
        try clear hcz10_1
        try clear hcz10_2
        try clear hcz8_0
        try clear hcz8_1
        try clear hcz8_2
        try clear hfz10_0
        try clear hfz10_1
        try clear hfz10_2
        try clear hfz8_0
        try clear hfz8_1
        try clear hfz8_2
        obtain ⟨kq, x4_5, x5_5, rfl, rfl, HA, HJ5, BK133, HB⟩ := hcut
        cases kq with
        | zero => exact absurd HA.out (by simp [ddiref02_Print.j0])
        | succ kj5 =>
          have H := HA.out
          clear HA
          simp only [ddiref02_Print.j0] at H
          have H' := Aside0.mk H
          clear H
          go_wp2
          go_loopg [6, 7] kj5 (fun kq v6 v7 w' => ∃ (x6_2 : ByteArray) (x7_2 : Int), v6 = .string x6_2 ∧ v7 = .int .i64 x7_2 ∧ Aside0 (ddiref02_Print.l0 kq x4_5 x5_5 x6_2 x7_2 true a0_1 a0_2 = some (r1, r2)) ∧ Aside0 (kq ≤ kj5) ∧ Aside0 (w'.heap[gb133]? = some (.cells #[.bool true, .int .u64 a0_1, .int .u64 a0_2] 24 (0, 0))) ∧ Aside0 (Below w.heap.size w w'))
          case atStart => exact ⟨((⟨#[]⟩ : ByteArray)), (0), (by first | rfl | (simp; done) | (simp [*]; done) | ((try simp only [Bool.not_not]); (generalize ByteArray.toList _ = l_); cases l_ <;> rfl) | (simp; (generalize ByteArray.toList _ = l_); cases l_ <;> rfl)), (by first | rfl | (simp; done) | (simp [*]; done) | ((try simp only [Bool.not_not]); (generalize ByteArray.toList _ = l_); cases l_ <;> rfl) | (simp; (generalize ByteArray.toList _ = l_); cases l_ <;> rfl)), H', ⟨Nat.le_refl _⟩, ⟨by (with_reducible repeat (first | refine blk_drewN ?_ _ | refine blk_drew ?_ | refine blk_alloc ?_ _)); exact BK133.out⟩, ⟨by repeat (first | (with_reducible first | exact HB.out | apply below_alloc | apply pw_below_drewN | apply below_drew1 | refine below_set ?_ GE133.out) | exact HB.out)⟩⟩
          case round =>
            clear H'
            try clear c1
            try clear p2
            try clear c3
            try clear c4
            try clear c6
            try clear c9
            try clear c12
            try clear c12b0
            try clear hcz10_0
            try clear hcz10_1
            try clear hcz10_2
            try clear hcz8_0
            try clear hcz8_1
            try clear hcz8_2
            try clear hfz10_0
            try clear hfz10_1
            try clear hfz10_2
            try clear hfz8_0
            try clear hfz8_1
            try clear hfz8_2
            try clear p2
            obtain ⟨x6_2, x7_2, rfl, rfl, HA, HK2, BK133, HB⟩ := hrel
            cases gk with
            | zero => exact absurd HA.out (by simp [ddiref02_Print.l0])
            | succ k2 =>
              have H := HA.out
              clear HA
              simp only [ddiref02_Print.l0] at H
              by_cases c13 : x7_2 < 8
              · rw [if_pos c13] at H
                have c13b0 : decide (x7_2 < 8) = true := decide_eq_true c13
                clear c13
                have HC14 := Aside0.mk H
                clear H
                go_upto_if 51 with (fail)
                go_cut [6] (fun v6 wc => ∃ (kq : Nat) (x6_13 : ByteArray), v6 = .string x6_13 ∧ Aside0 (ddiref02_Print.j2 kq x4_5 x5_5 x6_13 x7_2 true a0_1 a0_2 = some (r1, r2)) ∧ Aside0 (kq ≤ k2) ∧ Aside0 (wc.heap[gb133]? = some (.cells #[.bool true, .int .u64 a0_1, .int .u64 a0_2] 24 (0, 0))) ∧ Aside0 (Below w.heap.size w wc))
                case first =>
                  have H := HC14.out
                  clear HC14
                  by_cases c15 : x7_2 = x4_5
                  · rw [if_pos c15] at H
                    have c15b0 : (x7_2 == x4_5) = true := beq_iff_eq.mpr c15
                    have c15b1 : (x7_2 != x4_5) = false := bne_eq_false_iff_eq.mpr c15
                    clear c15
                    (first | rw [c15b0] | (simp only [i64_w, i32_w]; rw [c15b0]) | skip)
                    by_cases c16 : x6_2.size + 2 ≤ 9223372036854775807
                    · rw [if_pos c16] at H
                      have c16b0 := eq_true c16
                      have c16b1 : decide (x6_2.size + 2 ≤ 9223372036854775807) = true := decide_eq_true c16
                      try have c16b2 : (9223372036854775807 < x6_2.size + 2) = False := eq_false (Nat.not_lt.2 c16)
                      have H' := Aside0.mk H
                      clear H
                      go_wp2
                      refine Met.intro ?_
                      go_step
                      (repeat apply Exists.intro)
                      refine ⟨?rel, ?heq_⟩
                      case heq_ => first | rfl | (rw [c15b0]) | (simp only [c15b0])
                      case rel => exact ⟨_, (x6_2 ++ (⟨#[58, 58]⟩ : ByteArray)), (by first | rfl | (simp; done) | (simp [*]; done) | ((try simp only [Bool.not_not]); (generalize ByteArray.toList _ = l_); cases l_ <;> rfl) | (simp; (generalize ByteArray.toList _ = l_); cases l_ <;> rfl)), H', ⟨by have := HJ5.out; have := HK2.out; first | omega | exact Nat.le_refl _⟩, ⟨by (with_reducible repeat (first | refine blk_drewN ?_ _ | refine blk_drew ?_ | refine blk_alloc ?_ _)); exact BK133.out⟩, ⟨by repeat (first | (with_reducible first | exact HB.out | apply below_alloc | apply pw_below_drewN | apply below_drew1 | refine below_set ?_ GE133.out) | exact HB.out)⟩⟩
                    · rw [if_neg c16] at H
                      exact absurd H (by simp)
                  · rw [if_neg c15] at H
                    have c15b0 : (x7_2 == x4_5) = false := beq_eq_false_iff_ne.mpr c15
                    have c15b1 : (x7_2 != x4_5) = true := bne_iff_ne.mpr c15
                    (first | rw [c15b0] | (simp only [i64_w, i32_w]; rw [c15b0]) | skip)
                    have H' := Aside0.mk H
                    clear H
                    go_wp2
                    refine Met.intro ?_
                    go_step
                    (repeat apply Exists.intro)
                    refine ⟨?rel, ?heq_⟩
                    case heq_ => first | rfl | (rw [c15b0]) | (simp only [c15b0])
                    case rel => exact ⟨_, (x6_2), (by first | rfl | (simp; done) | (simp [*]; done) | ((try simp only [Bool.not_not]); (generalize ByteArray.toList _ = l_); cases l_ <;> rfl) | (simp; (generalize ByteArray.toList _ = l_); cases l_ <;> rfl)), H', ⟨by have := HJ5.out; have := HK2.out; first | omega | exact Nat.le_refl _⟩, ⟨by (with_reducible repeat (first | refine blk_drewN ?_ _ | refine blk_drew ?_ | refine blk_alloc ?_ _)); exact BK133.out⟩, ⟨by repeat (first | (with_reducible first | exact HB.out | apply below_alloc | apply pw_below_drewN | apply below_drew1 | refine below_set ?_ GE133.out) | exact HB.out)⟩⟩
                case rest =>
                  clear HC14
                  try clear c1
                  try clear p2
                  try clear c3
                  try clear c4
                  try clear c6
                  try clear c9
                  try clear c12
                  try clear c12b0
                  try clear c13
                  try clear c13b0
                  try clear c15
                  try clear c15b0
                  try clear c15b1
                  try clear c16
                  try clear c16b0
                  try clear c16b1
                  try clear c16b2
                  try clear hcz10_0
                  try clear hcz10_1
                  try clear hcz10_2
                  try clear hcz8_0
                  try clear hcz8_1
                  try clear hcz8_2
                  try clear hfz10_0
                  try clear hfz10_1
                  try clear hfz10_2
                  try clear hfz8_0
                  try clear hfz8_1
                  try clear hfz8_2
                  try clear p2
                  obtain ⟨kq, x6_13, rfl, HA, HJ13, BK133, HB⟩ := hcut
                  cases kq with
                  | zero => exact absurd HA.out (by simp [ddiref02_Print.j2])
                  | succ kj13 =>
                    have H := HA.out
                    clear HA
                    simp only [ddiref02_Print.j2] at H
                    have HC17 := Aside0.mk H
                    clear H
                    go_upto_region 14 with (fail)
                    go_cut [63] (fun v63 wc => ∃ (kq : Nat) (x63_16 : Bool), v63 = .bool x63_16 ∧ Aside0 (ddiref02_Print.j3 kq x4_5 x5_5 x6_13 x7_2 x63_16 true a0_1 a0_2 = some (r1, r2)) ∧ Aside0 (kq ≤ kj13) ∧ Aside0 (wc.heap[gb133]? = some (.cells #[.bool true, .int .u64 a0_1, .int .u64 a0_2] 24 (0, 0))) ∧ Aside0 (Below w.heap.size w wc))
                    case first =>
                      have H := HC17.out
                      clear HC17
                      by_cases c18 : x7_2 ≥ x4_5
                      · rw [if_pos c18] at H
                        have c18b0 : decide (x4_5 ≤ x7_2) = true := decide_eq_true c18
                        clear c18
                        (first | rw [c18b0] | (simp only [i64_w, i32_w]; rw [c18b0]) | skip)
                        have H' := Aside0.mk H
                        clear H
                        go_wp2
                        refine Met.intro ?_
                        go_step
                        (repeat apply Exists.intro)
                        refine ⟨?rel, ?heq_⟩
                        case heq_ => first | rfl | (rw [c18b0]) | (simp only [c18b0])
                        case rel => exact ⟨_, (decide (x7_2 < (wrap64 (x4_5 + x5_5)))), (by first | rfl | (simp; done) | (simp [*]; done) | ((try simp only [Bool.not_not]); (generalize ByteArray.toList _ = l_); cases l_ <;> rfl) | (simp; (generalize ByteArray.toList _ = l_); cases l_ <;> rfl)), H', ⟨by have := HJ5.out; have := HK2.out; have := HJ13.out; first | omega | exact Nat.le_refl _⟩, ⟨by (with_reducible repeat (first | refine blk_drewN ?_ _ | refine blk_drew ?_ | refine blk_alloc ?_ _)); exact BK133.out⟩, ⟨by repeat (first | (with_reducible first | exact HB.out | apply below_alloc | apply pw_below_drewN | apply below_drew1 | refine below_set ?_ GE133.out) | exact HB.out)⟩⟩
                      · rw [if_neg c18] at H
                        have c18b0 : decide (x4_5 ≤ x7_2) = false := decide_eq_false c18
                        clear c18
                        (first | rw [c18b0] | (simp only [i64_w, i32_w]; rw [c18b0]) | skip)
                        have H' := Aside0.mk H
                        clear H
                        go_wp2
                        refine Met.intro ?_
                        go_step
                        (repeat apply Exists.intro)
                        refine ⟨?rel, ?heq_⟩
                        case heq_ => first | rfl | (rw [c18b0]) | (simp only [c18b0])
                        case rel => exact ⟨_, (false), (by first | rfl | (simp; done) | (simp [*]; done) | ((try simp only [Bool.not_not]); (generalize ByteArray.toList _ = l_); cases l_ <;> rfl) | (simp; (generalize ByteArray.toList _ = l_); cases l_ <;> rfl)), H', ⟨by have := HJ5.out; have := HK2.out; have := HJ13.out; first | omega | exact Nat.le_refl _⟩, ⟨by (with_reducible repeat (first | refine blk_drewN ?_ _ | refine blk_drew ?_ | refine blk_alloc ?_ _)); exact BK133.out⟩, ⟨by repeat (first | (with_reducible first | exact HB.out | apply below_alloc | apply pw_below_drewN | apply below_drew1 | refine below_set ?_ GE133.out) | exact HB.out)⟩⟩
                    case rest =>
                      clear HC17
                      try clear c1
                      try clear p2
                      try clear c3
                      try clear c4
                      try clear c6
                      try clear p6
                      try clear c9
                      try clear c12
                      try clear c12b0
                      try clear c13
                      try clear c13b0
                      try clear c15
                      try clear c15b0
                      try clear c15b1
                      try clear c16
                      try clear c16b0
                      try clear c16b1
                      try clear c16b2
                      try clear c17
                      try clear c18
                      try clear c18b0
                      try clear hcz10_0
                      try clear hcz10_1
                      try clear hcz10_2
                      try clear hcz8_0
                      try clear hcz8_1
                      try clear hcz8_2
                      try clear hfz10_0
                      try clear hfz10_1
                      try clear hfz10_2
                      try clear hfz8_0
                      try clear hfz8_1
                      try clear hfz8_2
                      try clear p2
                      obtain ⟨kq, x63_16, rfl, HA, HJ16, BK133, HB⟩ := hcut
                      cases kq with
                      | zero => exact absurd HA.out (by simp [ddiref02_Print.j3])
                      | succ kj16 =>
                        have H := HA.out
                        clear HA
                        simp only [ddiref02_Print.j3] at H
                        by_cases c19 : x63_16 = true
                        · subst c19
                          have H1 : (ddiref02_Print.l0 kj16 x4_5 x5_5 x6_13 (wrap64 (x7_2 + 1)) true a0_1 a0_2) = some (r1, r2) := by rw [if_pos rfl] at H; exact H
                          clear H
                          have H := H1
                          clear H1
                          have H' := Aside0.mk H
                          clear H
                          go_wp2
                          go_roundg kj16
                          case measure => have := HJ5.out; have := HK2.out; have := HJ13.out; have := HJ16.out; omega
                          case rel => exact ⟨(x6_13), (wrap64 (x7_2 + 1)), (by first | rfl | (simp; done) | (simp [*]; done) | ((try simp only [Bool.not_not]); (generalize ByteArray.toList _ = l_); cases l_ <;> rfl) | (simp; (generalize ByteArray.toList _ = l_); cases l_ <;> rfl)), (by first | rfl | (simp; done) | (simp [*]; done) | ((try simp only [Bool.not_not]); (generalize ByteArray.toList _ = l_); cases l_ <;> rfl) | (simp; (generalize ByteArray.toList _ = l_); cases l_ <;> rfl)), H', ⟨by have := HJ5.out; have := HK2.out; have := HJ13.out; have := HJ16.out; omega⟩, ⟨by (with_reducible repeat (first | refine blk_drewN ?_ _ | refine blk_drew ?_ | refine blk_alloc ?_ _)); exact BK133.out⟩, ⟨by repeat (first | (with_reducible first | exact HB.out | apply below_alloc | apply pw_below_drewN | apply below_drew1 | refine below_set ?_ GE133.out) | exact HB.out)⟩⟩
                        · replace c19 := Bool.eq_false_iff.mpr c19
                          subst c19
                          have H1 : (if x7_2 > 0 then (ddiref02_Print.j4 kj16 x4_5 x5_5 x6_13 x7_2 (x7_2 != (wrap64 (x4_5 + x5_5))) true a0_1 a0_2) else (ddiref02_Print.j4 kj16 x4_5 x5_5 x6_13 x7_2 false true a0_1 a0_2)) = some (r1, r2) := by rw [if_neg (show ¬ (false = true) by decide)] at H; exact H
                          clear H
                          have H := H1
                          clear H1
                          have HC20 := Aside0.mk H
                          clear H
                          go_upto_region 15 with (fail)
                          go_cut [72] (fun v72 wc => ∃ (kq : Nat) (x72_19 : Bool), v72 = .bool x72_19 ∧ Aside0 (ddiref02_Print.j4 kq x4_5 x5_5 x6_13 x7_2 x72_19 true a0_1 a0_2 = some (r1, r2)) ∧ Aside0 (kq ≤ kj16) ∧ Aside0 (wc.heap[gb133]? = some (.cells #[.bool true, .int .u64 a0_1, .int .u64 a0_2] 24 (0, 0))) ∧ Aside0 (Below w.heap.size w wc))
                          case first =>
                            have H := HC20.out
                            clear HC20
                            by_cases c21 : x7_2 > 0
                            · rw [if_pos c21] at H
                              have c21b0 : decide (0 < x7_2) = true := decide_eq_true c21
                              clear c21
                              (first | rw [c21b0] | (simp only [i64_w, i32_w]; rw [c21b0]) | skip)
                              have H' := Aside0.mk H
                              clear H
                              go_wp2
                              refine Met.intro ?_
                              go_step
                              (repeat apply Exists.intro)
                              refine ⟨?rel, ?heq_⟩
                              case heq_ => first | rfl | (rw [c21b0]) | (simp only [c21b0])
                              case rel => exact ⟨_, ((x7_2 != (wrap64 (x4_5 + x5_5)))), (by first | rfl | (simp; done) | (simp [*]; done) | ((try simp only [Bool.not_not]); (generalize ByteArray.toList _ = l_); cases l_ <;> rfl) | (simp; (generalize ByteArray.toList _ = l_); cases l_ <;> rfl)), H', ⟨by have := HJ5.out; have := HK2.out; have := HJ13.out; have := HJ16.out; first | omega | exact Nat.le_refl _⟩, ⟨by (with_reducible repeat (first | refine blk_drewN ?_ _ | refine blk_drew ?_ | refine blk_alloc ?_ _)); exact BK133.out⟩, ⟨by repeat (first | (with_reducible first | exact HB.out | apply below_alloc | apply pw_below_drewN | apply below_drew1 | refine below_set ?_ GE133.out) | exact HB.out)⟩⟩
                            · rw [if_neg c21] at H
                              have c21b0 : decide (0 < x7_2) = false := decide_eq_false c21
                              clear c21
                              (first | rw [c21b0] | (simp only [i64_w, i32_w]; rw [c21b0]) | skip)
                              have H' := Aside0.mk H
                              clear H
                              go_wp2
                              refine Met.intro ?_
                              go_step
                              (repeat apply Exists.intro)
                              refine ⟨?rel, ?heq_⟩
                              case heq_ => first | rfl | (rw [c21b0]) | (simp only [c21b0])
                              case rel => exact ⟨_, (false), (by first | rfl | (simp; done) | (simp [*]; done) | ((try simp only [Bool.not_not]); (generalize ByteArray.toList _ = l_); cases l_ <;> rfl) | (simp; (generalize ByteArray.toList _ = l_); cases l_ <;> rfl)), H', ⟨by have := HJ5.out; have := HK2.out; have := HJ13.out; have := HJ16.out; first | omega | exact Nat.le_refl _⟩, ⟨by (with_reducible repeat (first | refine blk_drewN ?_ _ | refine blk_drew ?_ | refine blk_alloc ?_ _)); exact BK133.out⟩, ⟨by repeat (first | (with_reducible first | exact HB.out | apply below_alloc | apply pw_below_drewN | apply below_drew1 | refine below_set ?_ GE133.out) | exact HB.out)⟩⟩
                          case rest =>
                            clear HC20
                            try clear c1
                            try clear c2
                            try clear p2
                            try clear c3
                            try clear c4
                            try clear c6
                            try clear p6
                            try clear c9
                            try clear c12
                            try clear c12b0
                            try clear c13
                            try clear c13b0
                            try clear c15
                            try clear c15b0
                            try clear c15b1
                            try clear c16
                            try clear c16b0
                            try clear c16b1
                            try clear c16b2
                            try clear c17
                            try clear c18
                            try clear c18b0
                            try clear c19
                            try clear c21
                            try clear c21b0
                            try clear hcz10_0
                            try clear hcz10_1
                            try clear hcz10_2
                            try clear hcz8_0
                            try clear hcz8_1
                            try clear hcz8_2
                            try clear hfz10_0
                            try clear hfz10_1
                            try clear hfz10_2
                            try clear hfz8_0
                            try clear hfz8_1
                            try clear hfz8_2
                            try clear p2
                            try clear p6
                            obtain ⟨kq, x72_19, rfl, HA, HJ19, BK133, HB⟩ := hcut
                            cases kq with
                            | zero => exact absurd HA.out (by simp [ddiref02_Print.j4])
                            | succ kj19 =>
                              have H := HA.out
                              clear HA
                              simp only [ddiref02_Print.j4] at H
                              by_cases c22 : x72_19 = true
                              · subst c22
                                have H1 : (if x6_13.size + 1 ≤ 9223372036854775807 then ((ddiref02_part.f kj19 true a0_1 a0_2 x7_2).bind fun t141 => ((ddiref02_groupText.f kj19 t141).bind fun t142 => (if (x6_13 ++ (⟨#[58]⟩ : ByteArray)).size + t142.size ≤ 9223372036854775807 then (ddiref02_Print.l0 kj19 x4_5 x5_5 ((x6_13 ++ (⟨#[58]⟩ : ByteArray)) ++ t142) (wrap64 (x7_2 + 1)) true a0_1 a0_2) else (none)))) else (none)) = some (r1, r2) := by rw [if_pos rfl] at H; exact H
                                clear H
                                have H := H1
                                clear H1
                                by_cases c23 : x6_13.size + 1 ≤ 9223372036854775807
                                · rw [if_pos c23] at H
                                  have c23b0 := eq_true c23
                                  have c23b1 : decide (x6_13.size + 1 ≤ 9223372036854775807) = true := decide_eq_true c23
                                  try have c23b2 : (9223372036854775807 < x6_13.size + 1) = False := eq_false (Nat.not_lt.2 c23)
                                  replace H := Option.bind_eq_some_iff.mp H
                                  obtain ⟨t141, A240, H⟩ := H
                                  replace H : ((ddiref02_groupText.f kj19 t141).bind fun t142 => (if (x6_13 ++ (⟨#[58]⟩ : ByteArray)).size + t142.size ≤ 9223372036854775807 then (ddiref02_Print.l0 kj19 x4_5 x5_5 ((x6_13 ++ (⟨#[58]⟩ : ByteArray)) ++ t142) (wrap64 (x7_2 + 1)) true a0_1 a0_2) else (none))) = some (r1, r2) := H
                                  have A24 := Aside0.mk A240
                                  clear A240
                                  replace H := Option.bind_eq_some_iff.mp H
                                  obtain ⟨t142, A250, H⟩ := H
                                  replace H : (if (x6_13 ++ (⟨#[58]⟩ : ByteArray)).size + t142.size ≤ 9223372036854775807 then (ddiref02_Print.l0 kj19 x4_5 x5_5 ((x6_13 ++ (⟨#[58]⟩ : ByteArray)) ++ t142) (wrap64 (x7_2 + 1)) true a0_1 a0_2) else (none)) = some (r1, r2) := H
                                  have A25 := Aside0.mk A250
                                  clear A250
                                  by_cases c26 : (x6_13 ++ (⟨#[58]⟩ : ByteArray)).size + t142.size ≤ 9223372036854775807
                                  · rw [if_pos c26] at H
                                    have c26b0 := eq_true c26
                                    have c26b1 : decide ((x6_13 ++ (⟨#[58]⟩ : ByteArray)).size + t142.size ≤ 9223372036854775807) = true := decide_eq_true c26
                                    try have c26b2 : (9223372036854775807 < (x6_13 ++ (⟨#[58]⟩ : ByteArray)).size + t142.size) = False := eq_false (Nat.not_lt.2 c26)
                                    try have c26b2z := c26b2
                                    try simp only [go_sem, List.size_toArray, List.length_cons, List.length_nil, Nat.zero_add, Nat.reduceAdd] at c26b2z
                                    have H' := Aside0.mk H
                                    clear H
                                    have hcz27_0 : wc.cell? ⟨gb133, 0, none⟩ = some (.bool true) := (blk_cell BK133.out 0).trans rfl
                                    have hcz27_1 : wc.cell? ⟨gb133, 1, none⟩ = some (.int .u64 a0_1) := (blk_cell BK133.out 1).trans rfl
                                    have hcz27_2 : wc.cell? ⟨gb133, 2, none⟩ = some (.int .u64 a0_2) := (blk_cell BK133.out 2).trans rfl
                                    have hfz27_0 := blk_frozen BK133.out 0
                                    have hfz27_1 := blk_frozen BK133.out 1
                                    have hfz27_2 := blk_frozen BK133.out 2
                                    go_wp2_with (first | ((with_reducible refine gate_callee (f := 19) rfl ?_); refine goesL_ (some 78) rfl rfl Tryd.func19 (by kernel_rfl) rfl #[.agg #[.bool true, .int .u64 a0_1, .int .u64 a0_2], .int .i64 x7_2] rfl (by (try simp only [List.map_toArray, List.map_cons, List.map_nil]); first | done | rfl | (simp only [Ext.u64_u8]; done) | (simp only [Ext.u64_u8]; rfl) | (simp only [List.length_drop, List.length_take]; rfl)) ?_; (with_reducible refine (ddiref02_part.calls kj19 true a0_1 a0_2 x7_2 t141 _ A24.out).mono ?_); rintro e w28 ⟨rfl, hb⟩; refine ⟨_, rfl, ?_⟩; have n0_ := Aside0.mk (blk_below (g := gb133) (o := .cells #[.bool true, .int .u64 a0_1, .int .u64 a0_2] 24 (0, 0)) (by (with_reducible repeat (first | refine blk_drewN ?_ _ | refine blk_drew ?_ | refine blk_alloc ?_ _)); exact BK133.out) hb); have n1_ := Aside0.mk (below_step (by repeat (first | (with_reducible first | exact HB.out | apply below_alloc | apply pw_below_drewN | apply below_drew1 | refine below_set ?_ GE133.out) | exact HB.out)) hb); clear BK133; clear HB; have BK133 := n0_; have HB := n1_; clear n0_ n1_; (try clear hb); (try clear hb2); (try clear hk); (try clear hi)) | ((with_reducible refine gate_callee (f := 18) rfl ?_); refine goesL_ (some 79) rfl rfl Tryd.func18 (by kernel_rfl) rfl #[.int .u64 t141] rfl (by (try simp only [List.map_toArray, List.map_cons, List.map_nil]); first | done | rfl | (simp only [Ext.u64_u8]; done) | (simp only [Ext.u64_u8]; rfl) | (simp only [List.length_drop, List.length_take]; rfl)) ?_; (with_reducible refine (ddiref02_groupText.calls kj19 t141 t142 _ A25.out).mono ?_); rintro e w29 ⟨rfl, hb⟩; refine ⟨_, rfl, ?_⟩; have n0_ := Aside0.mk (blk_below (g := gb133) (o := .cells #[.bool true, .int .u64 a0_1, .int .u64 a0_2] 24 (0, 0)) (by (with_reducible repeat (first | refine blk_drewN ?_ _ | refine blk_drew ?_ | refine blk_alloc ?_ _)); exact BK133.out) hb); have n1_ := Aside0.mk (below_step (by repeat (first | (with_reducible first | exact HB.out | apply below_alloc | apply pw_below_drewN | apply below_drew1 | refine below_set ?_ GE133.out) | exact HB.out)) hb); clear BK133; clear HB; have BK133 := n0_; have HB := n1_; clear n0_ n1_; (try clear hb); (try clear hb2); (try clear hk); (try clear hi)))
                                    go_roundg kj19
                                    case measure => have := HJ5.out; have := HK2.out; have := HJ13.out; have := HJ16.out; have := HJ19.out; omega
                                    case rel => exact ⟨((x6_13 ++ (⟨#[58]⟩ : ByteArray)) ++ t142), (wrap64 (x7_2 + 1)), (by first | rfl | (simp; done) | (simp [*]; done) | ((try simp only [Bool.not_not]); (generalize ByteArray.toList _ = l_); cases l_ <;> rfl) | (simp; (generalize ByteArray.toList _ = l_); cases l_ <;> rfl)), (by first | rfl | (simp; done) | (simp [*]; done) | ((try simp only [Bool.not_not]); (generalize ByteArray.toList _ = l_); cases l_ <;> rfl) | (simp; (generalize ByteArray.toList _ = l_); cases l_ <;> rfl)), H', ⟨by have := HJ5.out; have := HK2.out; have := HJ13.out; have := HJ16.out; have := HJ19.out; omega⟩, ⟨by (with_reducible repeat (first | refine blk_drewN ?_ _ | refine blk_drew ?_ | refine blk_alloc ?_ _)); exact BK133.out⟩, ⟨by repeat (first | (with_reducible first | exact HB.out | apply below_alloc | apply pw_below_drewN | apply below_drew1 | refine below_set ?_ GE133.out) | exact HB.out)⟩⟩
                                  · rw [if_neg c26] at H
                                    exact absurd H (by simp)
                                · rw [if_neg c23] at H
                                  exact absurd H (by simp)
                              · replace c22 := Bool.eq_false_iff.mpr c22
                                subst c22
                                have H1 : ((ddiref02_part.f kj19 true a0_1 a0_2 x7_2).bind fun t143 => ((ddiref02_groupText.f kj19 t143).bind fun t144 => (if x6_13.size + t144.size ≤ 9223372036854775807 then (ddiref02_Print.l0 kj19 x4_5 x5_5 (x6_13 ++ t144) (wrap64 (x7_2 + 1)) true a0_1 a0_2) else (none)))) = some (r1, r2) := by rw [if_neg (show ¬ (false = true) by decide)] at H; exact H
                                clear H
                                have H := H1
                                clear H1
                                replace H := Option.bind_eq_some_iff.mp H
                                obtain ⟨t143, A300, H⟩ := H
                                replace H : ((ddiref02_groupText.f kj19 t143).bind fun t144 => (if x6_13.size + t144.size ≤ 9223372036854775807 then (ddiref02_Print.l0 kj19 x4_5 x5_5 (x6_13 ++ t144) (wrap64 (x7_2 + 1)) true a0_1 a0_2) else (none))) = some (r1, r2) := H
                                have A30 := Aside0.mk A300
                                clear A300
                                replace H := Option.bind_eq_some_iff.mp H
                                obtain ⟨t144, A310, H⟩ := H
                                replace H : (if x6_13.size + t144.size ≤ 9223372036854775807 then (ddiref02_Print.l0 kj19 x4_5 x5_5 (x6_13 ++ t144) (wrap64 (x7_2 + 1)) true a0_1 a0_2) else (none)) = some (r1, r2) := H
                                have A31 := Aside0.mk A310
                                clear A310
                                by_cases c32 : x6_13.size + t144.size ≤ 9223372036854775807
                                · rw [if_pos c32] at H
                                  have c32b0 := eq_true c32
                                  have c32b1 : decide (x6_13.size + t144.size ≤ 9223372036854775807) = true := decide_eq_true c32
                                  try have c32b2 : (9223372036854775807 < x6_13.size + t144.size) = False := eq_false (Nat.not_lt.2 c32)
                                  have H' := Aside0.mk H
                                  clear H
                                  have hcz33_0 : wc.cell? ⟨gb133, 0, none⟩ = some (.bool true) := (blk_cell BK133.out 0).trans rfl
                                  have hcz33_1 : wc.cell? ⟨gb133, 1, none⟩ = some (.int .u64 a0_1) := (blk_cell BK133.out 1).trans rfl
                                  have hcz33_2 : wc.cell? ⟨gb133, 2, none⟩ = some (.int .u64 a0_2) := (blk_cell BK133.out 2).trans rfl
                                  have hfz33_0 := blk_frozen BK133.out 0
                                  have hfz33_1 := blk_frozen BK133.out 1
                                  have hfz33_2 := blk_frozen BK133.out 2
                                  go_wp2_with (first | ((with_reducible refine gate_callee (f := 19) rfl ?_); refine goesL_ (some 78) rfl rfl Tryd.func19 (by kernel_rfl) rfl #[.agg #[.bool true, .int .u64 a0_1, .int .u64 a0_2], .int .i64 x7_2] rfl (by (try simp only [List.map_toArray, List.map_cons, List.map_nil]); first | done | rfl | (simp only [Ext.u64_u8]; done) | (simp only [Ext.u64_u8]; rfl) | (simp only [List.length_drop, List.length_take]; rfl)) ?_; (with_reducible refine (ddiref02_part.calls kj19 true a0_1 a0_2 x7_2 t143 _ A30.out).mono ?_); rintro e w34 ⟨rfl, hb⟩; refine ⟨_, rfl, ?_⟩; have n0_ := Aside0.mk (blk_below (g := gb133) (o := .cells #[.bool true, .int .u64 a0_1, .int .u64 a0_2] 24 (0, 0)) (by (with_reducible repeat (first | refine blk_drewN ?_ _ | refine blk_drew ?_ | refine blk_alloc ?_ _)); exact BK133.out) hb); have n1_ := Aside0.mk (below_step (by repeat (first | (with_reducible first | exact HB.out | apply below_alloc | apply pw_below_drewN | apply below_drew1 | refine below_set ?_ GE133.out) | exact HB.out)) hb); clear BK133; clear HB; have BK133 := n0_; have HB := n1_; clear n0_ n1_; (try clear hb); (try clear hb2); (try clear hk); (try clear hi)) | ((with_reducible refine gate_callee (f := 18) rfl ?_); refine goesL_ (some 79) rfl rfl Tryd.func18 (by kernel_rfl) rfl #[.int .u64 t143] rfl (by (try simp only [List.map_toArray, List.map_cons, List.map_nil]); first | done | rfl | (simp only [Ext.u64_u8]; done) | (simp only [Ext.u64_u8]; rfl) | (simp only [List.length_drop, List.length_take]; rfl)) ?_; (with_reducible refine (ddiref02_groupText.calls kj19 t143 t144 _ A31.out).mono ?_); rintro e w35 ⟨rfl, hb⟩; refine ⟨_, rfl, ?_⟩; have n0_ := Aside0.mk (blk_below (g := gb133) (o := .cells #[.bool true, .int .u64 a0_1, .int .u64 a0_2] 24 (0, 0)) (by (with_reducible repeat (first | refine blk_drewN ?_ _ | refine blk_drew ?_ | refine blk_alloc ?_ _)); exact BK133.out) hb); have n1_ := Aside0.mk (below_step (by repeat (first | (with_reducible first | exact HB.out | apply below_alloc | apply pw_below_drewN | apply below_drew1 | refine below_set ?_ GE133.out) | exact HB.out)) hb); clear BK133; clear HB; have BK133 := n0_; have HB := n1_; clear n0_ n1_; (try clear hb); (try clear hb2); (try clear hk); (try clear hi)))
                                  go_roundg kj19
                                  case measure => have := HJ5.out; have := HK2.out; have := HJ13.out; have := HJ16.out; have := HJ19.out; omega
                                  case rel => exact ⟨(x6_13 ++ t144), (wrap64 (x7_2 + 1)), (by first | rfl | (simp; done) | (simp [*]; done) | ((try simp only [Bool.not_not]); (generalize ByteArray.toList _ = l_); cases l_ <;> rfl) | (simp; (generalize ByteArray.toList _ = l_); cases l_ <;> rfl)), (by first | rfl | (simp; done) | (simp [*]; done) | ((try simp only [Bool.not_not]); (generalize ByteArray.toList _ = l_); cases l_ <;> rfl) | (simp; (generalize ByteArray.toList _ = l_); cases l_ <;> rfl)), H', ⟨by have := HJ5.out; have := HK2.out; have := HJ13.out; have := HJ16.out; have := HJ19.out; omega⟩, ⟨by (with_reducible repeat (first | refine blk_drewN ?_ _ | refine blk_drew ?_ | refine blk_alloc ?_ _)); exact BK133.out⟩, ⟨by repeat (first | (with_reducible first | exact HB.out | apply below_alloc | apply pw_below_drewN | apply below_drew1 | refine below_set ?_ GE133.out) | exact HB.out)⟩⟩
                                · rw [if_neg c32] at H
                                  exact absurd H (by simp)
              · rw [if_neg c13] at H
                have c13b0 : decide (x7_2 < 8) = false := decide_eq_false c13
                clear c13
                simp only [Option.some.injEq, Prod.mk.injEq] at H
                obtain ⟨rfl, rfl⟩ := H
                go_wp2
                go_ret2
                exact ⟨by first | rfl | (simp [errW_none, errW_some] <;> rfl) | (simp [*, errW_none, errW_some] <;> rfl), by repeat (first | (with_reducible first | exact HB.out | apply below_alloc | apply pw_below_drewN | apply below_drew1 | refine below_set ?_ GE133.out) | exact HB.out)⟩
    · replace c4 := Bool.eq_false_iff.mpr c4
      subst c4
      have H1 : ((ddiref02_decimal.f (IntKind.u64.wrap (Int.tdiv a0_2 16777216))).bind fun t135 => (if t135.size + 1 ≤ 9223372036854775807 then ((ddiref02_decimal.f (Int.tmod (IntKind.u64.wrap (Int.tdiv a0_2 65536)) 256)).bind fun t136 => (if (t135 ++ (⟨#[46]⟩ : ByteArray)).size + t136.size ≤ 9223372036854775807 then (if ((t135 ++ (⟨#[46]⟩ : ByteArray)) ++ t136).size + 1 ≤ 9223372036854775807 then ((ddiref02_decimal.f (Int.tmod (IntKind.u64.wrap (Int.tdiv a0_2 256)) 256)).bind fun t137 => (if (((t135 ++ (⟨#[46]⟩ : ByteArray)) ++ t136) ++ (⟨#[46]⟩ : ByteArray)).size + t137.size ≤ 9223372036854775807 then (if ((((t135 ++ (⟨#[46]⟩ : ByteArray)) ++ t136) ++ (⟨#[46]⟩ : ByteArray)) ++ t137).size + 1 ≤ 9223372036854775807 then ((ddiref02_decimal.f (Int.tmod a0_2 256)).bind fun t138 => (if (((((t135 ++ (⟨#[46]⟩ : ByteArray)) ++ t136) ++ (⟨#[46]⟩ : ByteArray)) ++ t137) ++ (⟨#[46]⟩ : ByteArray)).size + t138.size ≤ 9223372036854775807 then (some ((((((t135 ++ (⟨#[46]⟩ : ByteArray)) ++ t136) ++ (⟨#[46]⟩ : ByteArray)) ++ t137) ++ (⟨#[46]⟩ : ByteArray)) ++ t138, 0)) else (none))) else (none)) else (none))) else (none)) else (none))) else (none))) = some (r1, r2) := by rw [if_neg (show ¬ (false = true) by decide)] at H; exact H
      clear H
      have H := H1
      clear H1
      replace H := Option.bind_eq_some_iff.mp H
      obtain ⟨t135, A360, H⟩ := H
      replace H : (if t135.size + 1 ≤ 9223372036854775807 then ((ddiref02_decimal.f (Int.tmod (IntKind.u64.wrap (Int.tdiv a0_2 65536)) 256)).bind fun t136 => (if (t135 ++ (⟨#[46]⟩ : ByteArray)).size + t136.size ≤ 9223372036854775807 then (if ((t135 ++ (⟨#[46]⟩ : ByteArray)) ++ t136).size + 1 ≤ 9223372036854775807 then ((ddiref02_decimal.f (Int.tmod (IntKind.u64.wrap (Int.tdiv a0_2 256)) 256)).bind fun t137 => (if (((t135 ++ (⟨#[46]⟩ : ByteArray)) ++ t136) ++ (⟨#[46]⟩ : ByteArray)).size + t137.size ≤ 9223372036854775807 then (if ((((t135 ++ (⟨#[46]⟩ : ByteArray)) ++ t136) ++ (⟨#[46]⟩ : ByteArray)) ++ t137).size + 1 ≤ 9223372036854775807 then ((ddiref02_decimal.f (Int.tmod a0_2 256)).bind fun t138 => (if (((((t135 ++ (⟨#[46]⟩ : ByteArray)) ++ t136) ++ (⟨#[46]⟩ : ByteArray)) ++ t137) ++ (⟨#[46]⟩ : ByteArray)).size + t138.size ≤ 9223372036854775807 then (some ((((((t135 ++ (⟨#[46]⟩ : ByteArray)) ++ t136) ++ (⟨#[46]⟩ : ByteArray)) ++ t137) ++ (⟨#[46]⟩ : ByteArray)) ++ t138, 0)) else (none))) else (none)) else (none))) else (none)) else (none))) else (none)) = some (r1, r2) := H
      have A36 := Aside0.mk A360
      clear A360
      by_cases c37 : t135.size + 1 ≤ 9223372036854775807
      · rw [if_pos c37] at H
        have c37b0 := eq_true c37
        have c37b1 : decide (t135.size + 1 ≤ 9223372036854775807) = true := decide_eq_true c37
        try have c37b2 : (9223372036854775807 < t135.size + 1) = False := eq_false (Nat.not_lt.2 c37)
        replace H := Option.bind_eq_some_iff.mp H
        obtain ⟨t136, A380, H⟩ := H
        replace H : (if (t135 ++ (⟨#[46]⟩ : ByteArray)).size + t136.size ≤ 9223372036854775807 then (if ((t135 ++ (⟨#[46]⟩ : ByteArray)) ++ t136).size + 1 ≤ 9223372036854775807 then ((ddiref02_decimal.f (Int.tmod (IntKind.u64.wrap (Int.tdiv a0_2 256)) 256)).bind fun t137 => (if (((t135 ++ (⟨#[46]⟩ : ByteArray)) ++ t136) ++ (⟨#[46]⟩ : ByteArray)).size + t137.size ≤ 9223372036854775807 then (if ((((t135 ++ (⟨#[46]⟩ : ByteArray)) ++ t136) ++ (⟨#[46]⟩ : ByteArray)) ++ t137).size + 1 ≤ 9223372036854775807 then ((ddiref02_decimal.f (Int.tmod a0_2 256)).bind fun t138 => (if (((((t135 ++ (⟨#[46]⟩ : ByteArray)) ++ t136) ++ (⟨#[46]⟩ : ByteArray)) ++ t137) ++ (⟨#[46]⟩ : ByteArray)).size + t138.size ≤ 9223372036854775807 then (some ((((((t135 ++ (⟨#[46]⟩ : ByteArray)) ++ t136) ++ (⟨#[46]⟩ : ByteArray)) ++ t137) ++ (⟨#[46]⟩ : ByteArray)) ++ t138, 0)) else (none))) else (none)) else (none))) else (none)) else (none)) = some (r1, r2) := H
        have A38 := Aside0.mk A380
        clear A380
        by_cases c39 : (t135 ++ (⟨#[46]⟩ : ByteArray)).size + t136.size ≤ 9223372036854775807
        · rw [if_pos c39] at H
          have c39b0 := eq_true c39
          have c39b1 : decide ((t135 ++ (⟨#[46]⟩ : ByteArray)).size + t136.size ≤ 9223372036854775807) = true := decide_eq_true c39
          try have c39b2 : (9223372036854775807 < (t135 ++ (⟨#[46]⟩ : ByteArray)).size + t136.size) = False := eq_false (Nat.not_lt.2 c39)
          try have c39b2z := c39b2
          try simp only [go_sem, List.size_toArray, List.length_cons, List.length_nil, Nat.zero_add, Nat.reduceAdd] at c39b2z
          by_cases c40 : ((t135 ++ (⟨#[46]⟩ : ByteArray)) ++ t136).size + 1 ≤ 9223372036854775807
          · rw [if_pos c40] at H
            have c40b0 := eq_true c40
            have c40b1 : decide (((t135 ++ (⟨#[46]⟩ : ByteArray)) ++ t136).size + 1 ≤ 9223372036854775807) = true := decide_eq_true c40
            try have c40b2 : (9223372036854775807 < ((t135 ++ (⟨#[46]⟩ : ByteArray)) ++ t136).size + 1) = False := eq_false (Nat.not_lt.2 c40)
            try have c40b2z := c40b2
            try simp only [go_sem, List.size_toArray, List.length_cons, List.length_nil, Nat.zero_add, Nat.reduceAdd] at c40b2z
            replace H := Option.bind_eq_some_iff.mp H
            obtain ⟨t137, A410, H⟩ := H
            replace H : (if (((t135 ++ (⟨#[46]⟩ : ByteArray)) ++ t136) ++ (⟨#[46]⟩ : ByteArray)).size + t137.size ≤ 9223372036854775807 then (if ((((t135 ++ (⟨#[46]⟩ : ByteArray)) ++ t136) ++ (⟨#[46]⟩ : ByteArray)) ++ t137).size + 1 ≤ 9223372036854775807 then ((ddiref02_decimal.f (Int.tmod a0_2 256)).bind fun t138 => (if (((((t135 ++ (⟨#[46]⟩ : ByteArray)) ++ t136) ++ (⟨#[46]⟩ : ByteArray)) ++ t137) ++ (⟨#[46]⟩ : ByteArray)).size + t138.size ≤ 9223372036854775807 then (some ((((((t135 ++ (⟨#[46]⟩ : ByteArray)) ++ t136) ++ (⟨#[46]⟩ : ByteArray)) ++ t137) ++ (⟨#[46]⟩ : ByteArray)) ++ t138, 0)) else (none))) else (none)) else (none)) = some (r1, r2) := H
            have A41 := Aside0.mk A410
            clear A410
            by_cases c42 : (((t135 ++ (⟨#[46]⟩ : ByteArray)) ++ t136) ++ (⟨#[46]⟩ : ByteArray)).size + t137.size ≤ 9223372036854775807
            · rw [if_pos c42] at H
              have c42b0 := eq_true c42
              have c42b1 : decide ((((t135 ++ (⟨#[46]⟩ : ByteArray)) ++ t136) ++ (⟨#[46]⟩ : ByteArray)).size + t137.size ≤ 9223372036854775807) = true := decide_eq_true c42
              try have c42b2 : (9223372036854775807 < (((t135 ++ (⟨#[46]⟩ : ByteArray)) ++ t136) ++ (⟨#[46]⟩ : ByteArray)).size + t137.size) = False := eq_false (Nat.not_lt.2 c42)
              try have c42b2z := c42b2
              try simp only [go_sem, List.size_toArray, List.length_cons, List.length_nil, Nat.zero_add, Nat.reduceAdd] at c42b2z
              by_cases c43 : ((((t135 ++ (⟨#[46]⟩ : ByteArray)) ++ t136) ++ (⟨#[46]⟩ : ByteArray)) ++ t137).size + 1 ≤ 9223372036854775807
              · rw [if_pos c43] at H
                have c43b0 := eq_true c43
                have c43b1 : decide (((((t135 ++ (⟨#[46]⟩ : ByteArray)) ++ t136) ++ (⟨#[46]⟩ : ByteArray)) ++ t137).size + 1 ≤ 9223372036854775807) = true := decide_eq_true c43
                try have c43b2 : (9223372036854775807 < ((((t135 ++ (⟨#[46]⟩ : ByteArray)) ++ t136) ++ (⟨#[46]⟩ : ByteArray)) ++ t137).size + 1) = False := eq_false (Nat.not_lt.2 c43)
                try have c43b2z := c43b2
                try simp only [go_sem, List.size_toArray, List.length_cons, List.length_nil, Nat.zero_add, Nat.reduceAdd] at c43b2z
                replace H := Option.bind_eq_some_iff.mp H
                obtain ⟨t138, A440, H⟩ := H
                replace H : (if (((((t135 ++ (⟨#[46]⟩ : ByteArray)) ++ t136) ++ (⟨#[46]⟩ : ByteArray)) ++ t137) ++ (⟨#[46]⟩ : ByteArray)).size + t138.size ≤ 9223372036854775807 then (some ((((((t135 ++ (⟨#[46]⟩ : ByteArray)) ++ t136) ++ (⟨#[46]⟩ : ByteArray)) ++ t137) ++ (⟨#[46]⟩ : ByteArray)) ++ t138, 0)) else (none)) = some (r1, r2) := H
                have A44 := Aside0.mk A440
                clear A440
                by_cases c45 : (((((t135 ++ (⟨#[46]⟩ : ByteArray)) ++ t136) ++ (⟨#[46]⟩ : ByteArray)) ++ t137) ++ (⟨#[46]⟩ : ByteArray)).size + t138.size ≤ 9223372036854775807
                · rw [if_pos c45] at H
                  have c45b0 := eq_true c45
                  have c45b1 : decide ((((((t135 ++ (⟨#[46]⟩ : ByteArray)) ++ t136) ++ (⟨#[46]⟩ : ByteArray)) ++ t137) ++ (⟨#[46]⟩ : ByteArray)).size + t138.size ≤ 9223372036854775807) = true := decide_eq_true c45
                  try have c45b2 : (9223372036854775807 < (((((t135 ++ (⟨#[46]⟩ : ByteArray)) ++ t136) ++ (⟨#[46]⟩ : ByteArray)) ++ t137) ++ (⟨#[46]⟩ : ByteArray)).size + t138.size) = False := eq_false (Nat.not_lt.2 c45)
                  try have c45b2z := c45b2
                  try simp only [go_sem, List.size_toArray, List.length_cons, List.length_nil, Nat.zero_add, Nat.reduceAdd] at c45b2z
                  simp only [Option.some.injEq, Prod.mk.injEq] at H
                  obtain ⟨rfl, rfl⟩ := H
                  go_enter Tryd.func6, Tryd.ntmps6
                  try go_wp2_with (first | ((with_reducible refine gate_dst (N := 1) rfl ?_); refine box_event ?hg (N := 1) ?hd (cs := #[.bool false, .int .u64 a0_1, .int .u64 a0_2]) (t := 24) ?hr ?_; (case hd => rfl); (case hg => rfl); (case hr => first | (go_simp; done) | (go_simp; rfl)); intro gb133 hg w46 hbox hb; have n0_ := Aside0.mk (below_step (by repeat (first | (with_reducible first | exact HB.out | apply below_alloc | apply pw_below_drewN | apply below_drew1) | exact HB.out)) hb); have n1_ := Aside0.mk (hbox); have n2_ := Aside0.mk ((by rw [hg]; exact (below_size (by repeat (first | (with_reducible first | exact HB.out | apply below_alloc | apply pw_below_drewN | apply below_drew1) | exact HB.out))) : w.heap.size ≤ gb133)); have n3_ := Aside0.mk ((by rw [hg]; exact (below_size (by repeat (first | (with_reducible first | exact HB.out | apply below_alloc | apply pw_below_drewN | apply below_drew1) | exact HB.out))) : w.heap.size ≤ gb133)); clear HB; have HB := n0_; have BK133 := n1_; have GW133 := n2_; have GE133 := n3_; clear n0_ n1_ n2_ n3_; clear hb hbox hg; have hcz47_0 : w46.cell? ⟨gb133, 0, none⟩ = some (.bool false) := (blk_cell BK133.out 0).trans rfl; have hcz47_1 : w46.cell? ⟨gb133, 1, none⟩ = some (.int .u64 a0_1) := (blk_cell BK133.out 1).trans rfl; have hcz47_2 : w46.cell? ⟨gb133, 2, none⟩ = some (.int .u64 a0_2) := (blk_cell BK133.out 2).trans rfl; have hfz47_0 := blk_frozen BK133.out 0; have hfz47_1 := blk_frozen BK133.out 1; have hfz47_2 := blk_frozen BK133.out 2) | ((with_reducible refine gate_callee (f := 9) rfl ?_); refine goesL_ (some 9) rfl rfl Tryd.func9 (by kernel_rfl) rfl #[.agg #[.bool false, .int .u64 a0_1, .int .u64 a0_2]] rfl (by (try simp only [List.map_toArray, List.map_cons, List.map_nil]); first | done | rfl | (simp only [Ext.u64_u8]; done) | (simp only [Ext.u64_u8]; rfl) | (simp only [List.length_drop, List.length_take]; rfl)) ?_; (with_reducible refine (ddiref02_Valid.calls false a0_1 a0_2 true _ A2.out).mono ?_); rintro e w48 ⟨rfl, hb⟩; refine ⟨_, rfl, ?_⟩; have n0_ := Aside0.mk (blk_below (g := gb133) (o := .cells #[.bool false, .int .u64 a0_1, .int .u64 a0_2] 24 (0, 0)) (by (with_reducible repeat (first | refine blk_drewN ?_ _ | refine blk_drew ?_ | refine blk_alloc ?_ _)); exact BK133.out) hb); have n1_ := Aside0.mk (below_step (by repeat (first | (with_reducible first | exact HB.out | apply below_alloc | apply pw_below_drewN | apply below_drew1 | refine below_set ?_ GE133.out) | exact HB.out)) hb); clear BK133; clear HB; have BK133 := n0_; have HB := n1_; clear n0_ n1_; (try clear hb); (try clear hb2); (try clear hk); (try clear hi); have hcz49_0 : w48.cell? ⟨gb133, 0, none⟩ = some (.bool false) := (blk_cell BK133.out 0).trans rfl; have hcz49_1 : w48.cell? ⟨gb133, 1, none⟩ = some (.int .u64 a0_1) := (blk_cell BK133.out 1).trans rfl; have hcz49_2 : w48.cell? ⟨gb133, 2, none⟩ = some (.int .u64 a0_2) := (blk_cell BK133.out 2).trans rfl; have hfz49_0 := blk_frozen BK133.out 0; have hfz49_1 := blk_frozen BK133.out 1; have hfz49_2 := blk_frozen BK133.out 2))
                  have n0_ := Aside0.mk (blk_drew BK133.out)
                  have n1_ := Aside0.mk (below_drew1 HB.out)
                  clear BK133
                  clear HB
                  have BK133 := n0_
                  have HB := n1_
                  clear n0_ n1_
                  refine start_ (n := 26) (S := fun w' => w'.cell? ⟨gb133, 0, none⟩ = some (.bool false) ∧ w'.cell? ⟨gb133, 1, none⟩ = some (.int .u64 a0_1) ∧ w'.cell? ⟨gb133, 2, none⟩ = some (.int .u64 a0_2)) (ds := []) #[false, false, false, false, false, false, false, false, false, false, false, false, false, false, false, false, false, false, false, false, false, false, false, false, false, false] (by kernel_rfl) rfl rfl ⟨(blk_cell BK133.out 0).trans rfl, (blk_cell BK133.out 1).trans rfl, (blk_cell BK133.out 2).trans rfl⟩ (fun hHeld => ?_); refine with_tabW ddiref02_Print.tab4 ddiref02_Print.bits4 (fun HT_ HW_ => ?_)
                  generalize w48.drew = w50 at BK133 HB hHeld ⊢
                  refine pure_ (i := 0) (N := some 14) (v := ?_) (a' := ?_) #[true, false, false, false, false, false, false, false, false, false, false, false, false, false, false, false, false, false, false, false, false, false, false, false, false, false] rfl rfl (any_of HT_.out (by kernel_rfl)) (fun _ _ _ h => h) (Or.inl ⟨by rfl, ?_⟩) ?_ ?_
                  rotate_left
                  · intro w'
                    go_simp
                    with_reducible rfl
                  rotate_left
                  · simp only [Act.put, List.setIfInBounds_toArray, List.set_cons_zero, List.set_cons_succ, i64_w, i32_w]
                    rfl
                  refine pure_ (i := 5) (N := some 19) (v := ?_) (a' := ?_) #[true, false, false, false, false, true, false, false, false, false, false, false, false, false, false, false, false, false, false, false, false, false, false, false, false, false] rfl rfl (any_of HT_.out (by kernel_rfl)) (fun _ _ _ h => h) (Or.inl ⟨by rfl, ?_⟩) ?_ ?_
                  rotate_left
                  · intro w'
                    go_simp
                    with_reducible rfl
                  rotate_left
                  · simp only [Act.put, List.setIfInBounds_toArray, List.set_cons_zero, List.set_cons_succ, i64_w, i32_w]
                    rfl
                  refine pure_ (i := 12) (N := some 26) (v := ?_) (a' := ?_) #[true, false, false, false, false, true, false, false, false, false, false, false, true, false, false, false, false, false, false, false, false, false, false, false, false, false] rfl rfl (any_of HT_.out (by kernel_rfl)) (fun _ _ _ h => h) (Or.inl ⟨by rfl, ?_⟩) ?_ ?_
                  rotate_left
                  · intro w'
                    go_simp
                    with_reducible rfl
                  rotate_left
                  · simp only [Act.put, List.setIfInBounds_toArray, List.set_cons_zero, List.set_cons_succ, i64_w, i32_w]
                    rfl
                  refine pure_ (i := 19) (N := some 33) (v := ?_) (a' := ?_) #[true, false, false, false, false, true, false, false, false, false, false, false, true, false, false, false, false, false, false, true, false, false, false, false, false, false] rfl rfl (any_of HT_.out (by kernel_rfl)) (fun _ _ _ h => h) (Or.inl ⟨by rfl, ?_⟩) ?_ ?_
                  rotate_left
                  · intro w'
                    go_simp
                    with_reducible rfl
                  rotate_left
                  · simp only [Act.put, List.setIfInBounds_toArray, List.set_cons_zero, List.set_cons_succ, i64_w, i32_w]
                    rfl
                  refine take_ (i := 1) (N := some 15) (v := ?_) (a' := ?_) #[true, true, false, false, false, true, false, false, false, false, false, false, true, false, false, false, false, false, false, true, false, false, false, false, false, false] rfl rfl (take_ofW HT_.out HW_.out (by kernel_rfl)) (fun _ _ _ h => h) (Or.inl ⟨by rfl, ?_⟩) hHeld ?_ ?_
                  rotate_left
                  · rintro w' ⟨s0, s1, s2⟩
                    go_simp
                    with_reducible rfl
                  rotate_left
                  · simp only [Act.put, List.setIfInBounds_toArray, List.set_cons_zero, List.set_cons_succ, i64_w, i32_w]
                    rfl
                  refine pure_ (i := 2) (N := some 16) (v := ?_) (a' := ?_) #[true, true, true, false, false, true, false, false, false, false, false, false, true, false, false, false, false, false, false, true, false, false, false, false, false, false] rfl rfl (any_of HT_.out (by kernel_rfl)) (fun _ _ _ h => h) (Or.inl ⟨by rfl, ?_⟩) ?_ ?_
                  rotate_left
                  · intro w'
                    go_simp
                    with_reducible rfl
                  rotate_left
                  · simp only [Act.put, List.setIfInBounds_toArray, List.set_cons_zero, List.set_cons_succ, i64_w, i32_w]
                    rfl
                  refine take_ (i := 6) (N := some 20) (v := ?_) (a' := ?_) #[true, true, true, false, false, true, true, false, false, false, false, false, true, false, false, false, false, false, false, true, false, false, false, false, false, false] rfl rfl (take_ofW HT_.out HW_.out (by kernel_rfl)) (fun _ _ _ h => h) (Or.inl ⟨by rfl, ?_⟩) hHeld ?_ ?_
                  rotate_left
                  · rintro w' ⟨s0, s1, s2⟩
                    go_simp
                    with_reducible rfl
                  rotate_left
                  · simp only [Act.put, List.setIfInBounds_toArray, List.set_cons_zero, List.set_cons_succ, i64_w, i32_w]
                    rfl
                  refine pure_ (i := 7) (N := some 21) (v := ?_) (a' := ?_) #[true, true, true, false, false, true, true, true, false, false, false, false, true, false, false, false, false, false, false, true, false, false, false, false, false, false] rfl rfl (any_of HT_.out (by kernel_rfl)) (fun _ _ _ h => h) (Or.inl ⟨by rfl, ?_⟩) ?_ ?_
                  rotate_left
                  · intro w'
                    go_simp
                    with_reducible rfl
                  rotate_left
                  · simp only [Act.put, List.setIfInBounds_toArray, List.set_cons_zero, List.set_cons_succ, i64_w, i32_w]
                    rfl
                  refine pure_ (i := 8) (N := some 22) (v := ?_) (a' := ?_) #[true, true, true, false, false, true, true, true, true, false, false, false, true, false, false, false, false, false, false, true, false, false, false, false, false, false] rfl rfl (any_of HT_.out (by kernel_rfl)) (fun _ _ _ h => h) (Or.inl ⟨by rfl, ?_⟩) ?_ ?_
                  rotate_left
                  · intro w'
                    go_simp
                    with_reducible rfl
                  rotate_left
                  · simp only [Act.put, List.setIfInBounds_toArray, List.set_cons_zero, List.set_cons_succ, i64_w, i32_w]
                    rfl
                  refine take_ (i := 13) (N := some 27) (v := ?_) (a' := ?_) #[true, true, true, false, false, true, true, true, true, false, false, false, true, true, false, false, false, false, false, true, false, false, false, false, false, false] rfl rfl (take_ofW HT_.out HW_.out (by kernel_rfl)) (fun _ _ _ h => h) (Or.inl ⟨by rfl, ?_⟩) hHeld ?_ ?_
                  rotate_left
                  · rintro w' ⟨s0, s1, s2⟩
                    go_simp
                    with_reducible rfl
                  rotate_left
                  · simp only [Act.put, List.setIfInBounds_toArray, List.set_cons_zero, List.set_cons_succ, i64_w, i32_w]
                    rfl
                  refine pure_ (i := 14) (N := some 28) (v := ?_) (a' := ?_) #[true, true, true, false, false, true, true, true, true, false, false, false, true, true, true, false, false, false, false, true, false, false, false, false, false, false] rfl rfl (any_of HT_.out (by kernel_rfl)) (fun _ _ _ h => h) (Or.inl ⟨by rfl, ?_⟩) ?_ ?_
                  rotate_left
                  · intro w'
                    go_simp
                    with_reducible rfl
                  rotate_left
                  · simp only [Act.put, List.setIfInBounds_toArray, List.set_cons_zero, List.set_cons_succ, i64_w, i32_w]
                    rfl
                  refine pure_ (i := 15) (N := some 29) (v := ?_) (a' := ?_) #[true, true, true, false, false, true, true, true, true, false, false, false, true, true, true, true, false, false, false, true, false, false, false, false, false, false] rfl rfl (any_of HT_.out (by kernel_rfl)) (fun _ _ _ h => h) (Or.inl ⟨by rfl, ?_⟩) ?_ ?_
                  rotate_left
                  · intro w'
                    go_simp
                    with_reducible rfl
                  rotate_left
                  · simp only [Act.put, List.setIfInBounds_toArray, List.set_cons_zero, List.set_cons_succ, i64_w, i32_w]
                    rfl
                  refine take_ (i := 20) (N := some 34) (v := ?_) (a' := ?_) #[true, true, true, false, false, true, true, true, true, false, false, false, true, true, true, true, false, false, false, true, true, false, false, false, false, false] rfl rfl (take_ofW HT_.out HW_.out (by kernel_rfl)) (fun _ _ _ h => h) (Or.inl ⟨by rfl, ?_⟩) hHeld ?_ ?_
                  rotate_left
                  · rintro w' ⟨s0, s1, s2⟩
                    go_simp
                    with_reducible rfl
                  rotate_left
                  · simp only [Act.put, List.setIfInBounds_toArray, List.set_cons_zero, List.set_cons_succ, i64_w, i32_w]
                    rfl
                  refine pure_ (i := 21) (N := some 35) (v := ?_) (a' := ?_) #[true, true, true, false, false, true, true, true, true, false, false, false, true, true, true, true, false, false, false, true, true, true, false, false, false, false] rfl rfl (any_of HT_.out (by kernel_rfl)) (fun _ _ _ h => h) (Or.inl ⟨by rfl, ?_⟩) ?_ ?_
                  rotate_left
                  · intro w'
                    go_simp
                    with_reducible rfl
                  rotate_left
                  · simp only [Act.put, List.setIfInBounds_toArray, List.set_cons_zero, List.set_cons_succ, i64_w, i32_w]
                    rfl
                  refine one_ (i := 3) (N := some 17) #[true, true, true, true, false, true, true, true, true, false, false, false, true, true, true, true, false, false, false, true, true, true, false, false, false, false] rfl rfl (one_of HT_.out (by kernel_rfl)) (by decide) (fun K hK => ?_)
                  refine goes_ Tryd.func16 (by kernel_rfl) rfl #[.int .u64 (IntKind.u64.wrap (Int.tdiv a0_2 16777216))] (by rfl) rfl rfl (by (try simp only [List.map_toArray, List.map_cons, List.map_nil]); first | done | rfl | (simp only [Ext.u64_u8]; done) | (simp only [Ext.u64_u8]; rfl) | (simp only [List.length_drop, List.length_take]; rfl)) ?_
                  with_reducible refine (ddiref02_decimal.calls (IntKind.u64.wrap (Int.tdiv a0_2 16777216)) t135 _ A36.out).mono ?_
                  rintro e w51 ⟨rfl, hb⟩
                  refine ⟨_, rfl, ?_⟩
                  have n0_ := Aside0.mk (blk_below (g := gb133) (o := .cells #[.bool false, .int .u64 a0_1, .int .u64 a0_2] 24 (0, 0)) (by (with_reducible repeat (first | refine blk_drewN ?_ _ | refine blk_drew ?_ | refine blk_alloc ?_ _)); exact BK133.out) hb)
                  have n1_ := Aside0.mk (below_step (by repeat (first | (with_reducible first | exact HB.out | apply below_alloc | apply pw_below_drewN | apply below_drew1 | refine below_set ?_ GE133.out) | exact HB.out)) hb)
                  clear BK133
                  clear HB
                  have BK133 := n0_
                  have HB := n1_
                  clear n0_ n1_
                  (try clear hb)
                  (try clear hb2)
                  (try clear hk)
                  (try clear hi)
                  refine hK.out _ _ ⟨(blk_cell BK133.out 0).trans rfl, (blk_cell BK133.out 1).trans rfl, (blk_cell BK133.out 2).trans rfl⟩ (fun hHeld => ?_)
                  clear hK K
                  refine norm_ (a' := ?_) ?_ ?_
                  rotate_left
                  · show Act.put _ (some 17) _ = _
                    simp only [Act.put, List.setIfInBounds_toArray, List.set_cons_zero, List.set_cons_succ, i64_w, i32_w]
                    rfl
                  refine pure_ (i := 4) (N := some 18) (v := ?_) (a' := ?_) #[true, true, true, true, true, true, true, true, true, false, false, false, true, true, true, true, false, false, false, true, true, true, false, false, false, false] rfl rfl (any_of HT_.out (by kernel_rfl)) (fun _ _ _ h => h) (Or.inl ⟨by rfl, ?_⟩) ?_ ?_
                  rotate_left
                  · intro w'
                    go_simp
                    with_reducible rfl
                  rotate_left
                  · simp only [Act.put, List.setIfInBounds_toArray, List.set_cons_zero, List.set_cons_succ, i64_w, i32_w]
                    rfl
                  refine one_ (i := 9) (N := some 23) #[true, true, true, true, true, true, true, true, true, true, false, false, true, true, true, true, false, false, false, true, true, true, false, false, false, false] rfl rfl (one_of HT_.out (by kernel_rfl)) (by decide) (fun K hK => ?_)
                  refine goes_ Tryd.func16 (by kernel_rfl) rfl #[.int .u64 (Int.tmod (IntKind.u64.wrap (Int.tdiv a0_2 65536)) 256)] (by rfl) rfl rfl (by (try simp only [List.map_toArray, List.map_cons, List.map_nil]); first | done | rfl | (simp only [Ext.u64_u8]; done) | (simp only [Ext.u64_u8]; rfl) | (simp only [List.length_drop, List.length_take]; rfl)) ?_
                  with_reducible refine (ddiref02_decimal.calls (Int.tmod (IntKind.u64.wrap (Int.tdiv a0_2 65536)) 256) t136 _ A38.out).mono ?_
                  rintro e w52 ⟨rfl, hb⟩
                  refine ⟨_, rfl, ?_⟩
                  have n0_ := Aside0.mk (blk_below (g := gb133) (o := .cells #[.bool false, .int .u64 a0_1, .int .u64 a0_2] 24 (0, 0)) (by (with_reducible repeat (first | refine blk_drewN ?_ _ | refine blk_drew ?_ | refine blk_alloc ?_ _)); exact BK133.out) hb)
                  have n1_ := Aside0.mk (below_step (by repeat (first | (with_reducible first | exact HB.out | apply below_alloc | apply pw_below_drewN | apply below_drew1 | refine below_set ?_ GE133.out) | exact HB.out)) hb)
                  clear BK133
                  clear HB
                  have BK133 := n0_
                  have HB := n1_
                  clear n0_ n1_
                  (try clear hb)
                  (try clear hb2)
                  (try clear hk)
                  (try clear hi)
                  refine hK.out _ _ ⟨(blk_cell BK133.out 0).trans rfl, (blk_cell BK133.out 1).trans rfl, (blk_cell BK133.out 2).trans rfl⟩ (fun hHeld => ?_)
                  clear hK K
                  refine norm_ (a' := ?_) ?_ ?_
                  rotate_left
                  · show Act.put _ (some 23) _ = _
                    simp only [Act.put, List.setIfInBounds_toArray, List.set_cons_zero, List.set_cons_succ, i64_w, i32_w]
                    rfl
                  refine pure_ (i := 10) (N := some 24) (v := ?_) (a' := ?_) #[true, true, true, true, true, true, true, true, true, true, true, false, true, true, true, true, false, false, false, true, true, true, false, false, false, false] rfl rfl (any_of HT_.out (by kernel_rfl)) (fun _ _ _ h => h) (Or.inl ⟨by rfl, ?_⟩) ?_ ?_
                  rotate_left
                  · intro w'
                    go_simp
                    with_reducible rfl
                  rotate_left
                  · simp only [Act.put, List.setIfInBounds_toArray, List.set_cons_zero, List.set_cons_succ, i64_w, i32_w]
                    rfl
                  refine pure_ (i := 11) (N := some 25) (v := ?_) (a' := ?_) #[true, true, true, true, true, true, true, true, true, true, true, true, true, true, true, true, false, false, false, true, true, true, false, false, false, false] rfl rfl (any_of HT_.out (by kernel_rfl)) (fun _ _ _ h => h) (Or.inl ⟨by rfl, ?_⟩) ?_ ?_
                  rotate_left
                  · intro w'
                    go_simp
                    with_reducible rfl
                  rotate_left
                  · simp only [Act.put, List.setIfInBounds_toArray, List.set_cons_zero, List.set_cons_succ, i64_w, i32_w]
                    rfl
                  refine one_ (i := 16) (N := some 30) #[true, true, true, true, true, true, true, true, true, true, true, true, true, true, true, true, true, false, false, true, true, true, false, false, false, false] rfl rfl (one_of HT_.out (by kernel_rfl)) (by decide) (fun K hK => ?_)
                  refine goes_ Tryd.func16 (by kernel_rfl) rfl #[.int .u64 (Int.tmod (IntKind.u64.wrap (Int.tdiv a0_2 256)) 256)] (by rfl) rfl rfl (by (try simp only [List.map_toArray, List.map_cons, List.map_nil]); first | done | rfl | (simp only [Ext.u64_u8]; done) | (simp only [Ext.u64_u8]; rfl) | (simp only [List.length_drop, List.length_take]; rfl)) ?_
                  with_reducible refine (ddiref02_decimal.calls (Int.tmod (IntKind.u64.wrap (Int.tdiv a0_2 256)) 256) t137 _ A41.out).mono ?_
                  rintro e w53 ⟨rfl, hb⟩
                  refine ⟨_, rfl, ?_⟩
                  have n0_ := Aside0.mk (blk_below (g := gb133) (o := .cells #[.bool false, .int .u64 a0_1, .int .u64 a0_2] 24 (0, 0)) (by (with_reducible repeat (first | refine blk_drewN ?_ _ | refine blk_drew ?_ | refine blk_alloc ?_ _)); exact BK133.out) hb)
                  have n1_ := Aside0.mk (below_step (by repeat (first | (with_reducible first | exact HB.out | apply below_alloc | apply pw_below_drewN | apply below_drew1 | refine below_set ?_ GE133.out) | exact HB.out)) hb)
                  clear BK133
                  clear HB
                  have BK133 := n0_
                  have HB := n1_
                  clear n0_ n1_
                  (try clear hb)
                  (try clear hb2)
                  (try clear hk)
                  (try clear hi)
                  refine hK.out _ _ ⟨(blk_cell BK133.out 0).trans rfl, (blk_cell BK133.out 1).trans rfl, (blk_cell BK133.out 2).trans rfl⟩ (fun hHeld => ?_)
                  clear hK K
                  refine norm_ (a' := ?_) ?_ ?_
                  rotate_left
                  · show Act.put _ (some 30) _ = _
                    simp only [Act.put, List.setIfInBounds_toArray, List.set_cons_zero, List.set_cons_succ, i64_w, i32_w]
                    rfl
                  refine pure_ (i := 17) (N := some 31) (v := ?_) (a' := ?_) #[true, true, true, true, true, true, true, true, true, true, true, true, true, true, true, true, true, true, false, true, true, true, false, false, false, false] rfl rfl (any_of HT_.out (by kernel_rfl)) (fun _ _ _ h => h) (Or.inl ⟨by rfl, ?_⟩) ?_ ?_
                  rotate_left
                  · intro w'
                    go_simp
                    with_reducible rfl
                  rotate_left
                  · simp only [Act.put, List.setIfInBounds_toArray, List.set_cons_zero, List.set_cons_succ, i64_w, i32_w]
                    rfl
                  refine pure_ (i := 18) (N := some 32) (v := ?_) (a' := ?_) #[true, true, true, true, true, true, true, true, true, true, true, true, true, true, true, true, true, true, true, true, true, true, false, false, false, false] rfl rfl (any_of HT_.out (by kernel_rfl)) (fun _ _ _ h => h) (Or.inl ⟨by rfl, ?_⟩) ?_ ?_
                  rotate_left
                  · intro w'
                    go_simp
                    with_reducible rfl
                  rotate_left
                  · simp only [Act.put, List.setIfInBounds_toArray, List.set_cons_zero, List.set_cons_succ, i64_w, i32_w]
                    rfl
                  refine one_ (i := 22) (N := some 36) #[true, true, true, true, true, true, true, true, true, true, true, true, true, true, true, true, true, true, true, true, true, true, true, false, false, false] rfl rfl (one_of HT_.out (by kernel_rfl)) (by decide) (fun K hK => ?_)
                  refine goes_ Tryd.func16 (by kernel_rfl) rfl #[.int .u64 (Int.tmod a0_2 256)] (by rfl) rfl rfl (by (try simp only [List.map_toArray, List.map_cons, List.map_nil]); first | done | rfl | (simp only [Ext.u64_u8]; done) | (simp only [Ext.u64_u8]; rfl) | (simp only [List.length_drop, List.length_take]; rfl)) ?_
                  with_reducible refine (ddiref02_decimal.calls (Int.tmod a0_2 256) t138 _ A44.out).mono ?_
                  rintro e w54 ⟨rfl, hb⟩
                  refine ⟨_, rfl, ?_⟩
                  have n0_ := Aside0.mk (blk_below (g := gb133) (o := .cells #[.bool false, .int .u64 a0_1, .int .u64 a0_2] 24 (0, 0)) (by (with_reducible repeat (first | refine blk_drewN ?_ _ | refine blk_drew ?_ | refine blk_alloc ?_ _)); exact BK133.out) hb)
                  have n1_ := Aside0.mk (below_step (by repeat (first | (with_reducible first | exact HB.out | apply below_alloc | apply pw_below_drewN | apply below_drew1 | refine below_set ?_ GE133.out) | exact HB.out)) hb)
                  clear BK133
                  clear HB
                  have BK133 := n0_
                  have HB := n1_
                  clear n0_ n1_
                  (try clear hb)
                  (try clear hb2)
                  (try clear hk)
                  (try clear hi)
                  refine hK.out _ _ ⟨(blk_cell BK133.out 0).trans rfl, (blk_cell BK133.out 1).trans rfl, (blk_cell BK133.out 2).trans rfl⟩ (fun hHeld => ?_)
                  clear hK K
                  refine norm_ (a' := ?_) ?_ ?_
                  rotate_left
                  · show Act.put _ (some 36) _ = _
                    simp only [Act.put, List.setIfInBounds_toArray, List.set_cons_zero, List.set_cons_succ, i64_w, i32_w]
                    rfl
                  refine pure_ (i := 23) (N := some 37) (v := ?_) (a' := ?_) #[true, true, true, true, true, true, true, true, true, true, true, true, true, true, true, true, true, true, true, true, true, true, true, true, false, false] rfl rfl (any_of HT_.out (by kernel_rfl)) (fun _ _ _ h => h) (Or.inl ⟨by rfl, ?_⟩) ?_ ?_
                  rotate_left
                  · intro w'
                    go_simp
                    with_reducible rfl
                  rotate_left
                  · simp only [Act.put, List.setIfInBounds_toArray, List.set_cons_zero, List.set_cons_succ, i64_w, i32_w]
                    rfl
                  refine pure_ (i := 24) (N := some 2) (v := ?_) (a' := ?_) #[true, true, true, true, true, true, true, true, true, true, true, true, true, true, true, true, true, true, true, true, true, true, true, true, true, false] rfl rfl (any_of HT_.out (by kernel_rfl)) (fun _ _ _ h => h) (Or.inl ⟨by rfl, ?_⟩) ?_ ?_
                  rotate_left
                  · intro w'
                    go_simp
                    with_reducible rfl
                  rotate_left
                  · simp only [Act.put, List.setIfInBounds_toArray, List.set_cons_zero, List.set_cons_succ, i64_w, i32_w]
                    rfl
                  refine pure_ (i := 25) (N := some 3) (v := ?_) (a' := ?_) #[true, true, true, true, true, true, true, true, true, true, true, true, true, true, true, true, true, true, true, true, true, true, true, true, true, true] rfl rfl (any_of HT_.out (by kernel_rfl)) (fun _ _ _ h => h) (Or.inl ⟨by rfl, ?_⟩) ?_ ?_
                  rotate_left
                  · intro w'
                    go_simp
                    with_reducible rfl
                  rotate_left
                  · simp only [Act.put, List.setIfInBounds_toArray, List.set_cons_zero, List.set_cons_succ, i64_w, i32_w]
                    rfl
                  refine done_ (done_of HT_.out (by kernel_rfl)) ?_
                  try go_wp2
                  go_ret2
                  exact ⟨by first | rfl | (simp [errW_none, errW_some] <;> rfl) | (simp [*, errW_none, errW_some] <;> rfl), by repeat (first | (with_reducible first | exact HB.out | apply below_alloc | apply pw_below_drewN | apply below_drew1 | refine below_set ?_ GE133.out) | exact HB.out)⟩
                · rw [if_neg c45] at H
                  exact absurd H (by simp)
              · rw [if_neg c43] at H
                exact absurd H (by simp)
            · rw [if_neg c42] at H
              exact absurd H (by simp)
          · rw [if_neg c40] at H
            exact absurd H (by simp)
        · rw [if_neg c39] at H
          exact absurd H (by simp)
      · rw [if_neg c37] at H
        exact absurd H (by simp)
  · replace c3 := Bool.eq_false_iff.mpr c3
    subst c3
    have H1 : (some ((⟨#[]⟩ : ByteArray), 3)) = some (r1, r2) := by rw [if_neg (show ¬ (false = true) by decide)] at H; exact H
    clear H
    have H := H1
    clear H1
    simp only [Option.some.injEq, Prod.mk.injEq] at H
    obtain ⟨rfl, rfl⟩ := H
    go_enter Tryd.func6, Tryd.ntmps6
    go_wp2_with (first | ((with_reducible refine gate_dst (N := 1) rfl ?_); refine box_event ?hg (N := 1) ?hd (cs := #[.bool a0_0, .int .u64 a0_1, .int .u64 a0_2]) (t := 24) ?hr ?_; (case hd => rfl); (case hg => rfl); (case hr => first | (go_simp; done) | (go_simp; rfl)); intro gb133 hg w55 hbox hb; have n0_ := Aside0.mk (below_step (by repeat (first | (with_reducible first | exact HB.out | apply below_alloc | apply pw_below_drewN | apply below_drew1) | exact HB.out)) hb); have n1_ := Aside0.mk (hbox); have n2_ := Aside0.mk ((by rw [hg]; exact (below_size (by repeat (first | (with_reducible first | exact HB.out | apply below_alloc | apply pw_below_drewN | apply below_drew1) | exact HB.out))) : w.heap.size ≤ gb133)); have n3_ := Aside0.mk ((by rw [hg]; exact (below_size (by repeat (first | (with_reducible first | exact HB.out | apply below_alloc | apply pw_below_drewN | apply below_drew1) | exact HB.out))) : w.heap.size ≤ gb133)); clear HB; have HB := n0_; have BK133 := n1_; have GW133 := n2_; have GE133 := n3_; clear n0_ n1_ n2_ n3_; clear hb hbox hg; have hcz56_0 : w55.cell? ⟨gb133, 0, none⟩ = some (.bool a0_0) := (blk_cell BK133.out 0).trans rfl; have hcz56_1 : w55.cell? ⟨gb133, 1, none⟩ = some (.int .u64 a0_1) := (blk_cell BK133.out 1).trans rfl; have hcz56_2 : w55.cell? ⟨gb133, 2, none⟩ = some (.int .u64 a0_2) := (blk_cell BK133.out 2).trans rfl; have hfz56_0 := blk_frozen BK133.out 0; have hfz56_1 := blk_frozen BK133.out 1; have hfz56_2 := blk_frozen BK133.out 2) | ((with_reducible refine gate_callee (f := 9) rfl ?_); refine goesL_ (some 9) rfl rfl Tryd.func9 (by kernel_rfl) rfl #[.agg #[.bool a0_0, .int .u64 a0_1, .int .u64 a0_2]] rfl (by (try simp only [List.map_toArray, List.map_cons, List.map_nil]); first | done | rfl | (simp only [Ext.u64_u8]; done) | (simp only [Ext.u64_u8]; rfl) | (simp only [List.length_drop, List.length_take]; rfl)) ?_; (with_reducible refine (ddiref02_Valid.calls a0_0 a0_1 a0_2 false _ A2.out).mono ?_); rintro e w57 ⟨rfl, hb⟩; refine ⟨_, rfl, ?_⟩; have n0_ := Aside0.mk (blk_below (g := gb133) (o := .cells #[.bool a0_0, .int .u64 a0_1, .int .u64 a0_2] 24 (0, 0)) (by (with_reducible repeat (first | refine blk_drewN ?_ _ | refine blk_drew ?_ | refine blk_alloc ?_ _)); exact BK133.out) hb); have n1_ := Aside0.mk (below_step (by repeat (first | (with_reducible first | exact HB.out | apply below_alloc | apply pw_below_drewN | apply below_drew1 | refine below_set ?_ GE133.out) | exact HB.out)) hb); clear BK133; clear HB; have BK133 := n0_; have HB := n1_; clear n0_ n1_; (try clear hb); (try clear hb2); (try clear hk); (try clear hi)))
    go_ret2
    exact ⟨by first | rfl | (simp [errW_none, errW_some] <;> rfl) | (simp [*, errW_none, errW_some] <;> rfl), by repeat (first | (with_reducible first | exact HB.out | apply below_alloc | apply pw_below_drewN | apply below_drew1 | refine below_set ?_ GE133.out) | exact HB.out)⟩

end Go.Proofs.YtmkgjibmfabbdaaDoor.PB
