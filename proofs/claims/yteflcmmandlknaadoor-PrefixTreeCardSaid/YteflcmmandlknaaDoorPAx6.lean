/- The Go functions in Lean, with the proofs that the code comes to these answers: printed by this session's program (wip/px) out of the seat's translation. Conditions: each theorem's own. -/
import Derived.Test.YteflcmmandlknaaDoorPAx0
import Derived.Test.YteflcmmandlknaaDoorPAx5
namespace Go.Proofs.YteflcmmandlknaaDoor.PA
open Go.RowKit Go.Proofs.YteflcmmandlknaaDoorW.PrintWords Go.Proofs.YteflcmmandlknaaDoorW.PrintLast Go.Proofs.YteflcmmandlknaaDoorW.PrintMore
attribute [local go_sem] max2_int min2_int max_two min_two max_three min_three max_four min_four   -- for this text's walks alone
attribute [local go_sem ↓] Ext.isSome_setCell
open Press
set_option linter.unusedVariables false
set_option linter.unusedSimpArgs false

/-! ### addr_digit: function 79 -/
mutual
def addr_digit.j0 : Nat → Int → Bool → Option (Int)
 | 0, _, _ => none
 | k + 1, x0, x3 => if x3 = true then (some ((x0 - 48) % 256)) else (if x0 ≥ 97 then (addr_digit.j1 k x0 (decide (x0 ≤ 102))) else (addr_digit.j1 k x0 false))
def addr_digit.j1 : Nat → Int → Bool → Option (Int)
 | 0, _, _ => none
 | k + 1, x0, x13 => if x13 = true then (some (((x0 - 97) % 256) + 10)) else (if x0 ≥ 65 then (if x0 ≤ 70 then (some (((x0 - 65) % 256) + 10)) else (some (-1))) else (some (-1)))
end
def addr_digit.f (k : Nat) (a0 : Int) : Option (Int) := if a0 ≥ 48 then (addr_digit.j0 k a0 (decide (a0 ≤ 57))) else (addr_digit.j0 k a0 false)
theorem addr_digit.mono_l : ∀ k, (∀ y0 y1, LeO (addr_digit.j0 k y0 y1) (addr_digit.j0 (k + 1) y0 y1)) ∧ (∀ y0 y1, LeO (addr_digit.j1 k y0 y1) (addr_digit.j1 (k + 1) y0 y1))
 | 0 => ⟨fun _ _ r h => by simp [addr_digit.j0] at h, fun _ _ r h => by simp [addr_digit.j1] at h⟩
 | k + 1 => by
  obtain ⟨ih0, ih1⟩ := addr_digit.mono_l k
  refine ⟨?_, ?_⟩
  ·
   intro y0 y1
   unfold addr_digit.j0
   repeat' first
   | (with_reducible exact ih0 _ _)
   | (with_reducible exact ih1 _ _)
   | (with_reducible exact LeO.refl _)
   | (with_reducible exact LeO.none _)
   | (with_reducible refine LeO.ite ?_ ?_)
   | (with_reducible refine LeO.bind ?_ (fun _ => ?_))
   | exact ih0 _ _
   | exact ih1 _ _
   | exact LeO.none _
   | refine LeO.ite ?_ ?_
   | refine LeO.bind ?_ (fun _ => ?_)
  ·
   intro y0 y1
   unfold addr_digit.j1
   repeat' first
   | (with_reducible exact ih0 _ _)
   | (with_reducible exact ih1 _ _)
   | (with_reducible exact LeO.refl _)
   | (with_reducible exact LeO.none _)
   | (with_reducible refine LeO.ite ?_ ?_)
   | (with_reducible refine LeO.bind ?_ (fun _ => ?_))
   | exact ih0 _ _
   | exact ih1 _ _
   | exact LeO.none _
   | refine LeO.ite ?_ ?_
   | refine LeO.bind ?_ (fun _ => ?_)
theorem addr_digit.mono : ∀ a0 k, LeO (addr_digit.f k a0) (addr_digit.f (k + 1) a0) := by
 intro a0 k
 obtain ⟨ih0, ih1⟩ := addr_digit.mono_l k
 unfold addr_digit.f
 repeat' first
  | (with_reducible exact ih0 _ _)
  | (with_reducible exact ih1 _ _)
  | (with_reducible exact LeO.refl _)
  | (with_reducible exact LeO.none _)
  | (with_reducible refine LeO.ite ?_ ?_)
  | (with_reducible refine LeO.bind ?_ (fun _ => ?_))
  | exact ih0 _ _
  | exact ih1 _ _
  | exact LeO.none _
  | refine LeO.ite ?_ ?_
  | refine LeO.bind ?_ (fun _ => ?_)
set_option maxHeartbeats 40000000 in
set_option maxRecDepth 100000 in
theorem addr_digit.calls (k : Nat) (a0 : Int) (r : Int) (w : World) (h : addr_digit.f k a0 = some r) :
 Calls Tryd.prog 79 #[.int .u8 a0] w fun e w' => e = .returned (.int .i64 r) ∧ Drawn0 w w' := by
 have H : (if a0 ≥ 48 then (addr_digit.j0 k a0 (decide (a0 ≤ 57))) else (addr_digit.j0 k a0 false)) = some r := h
 clear h
 have HC2 := Aside0.mk H
 clear H
 go_enter Tryd.func79, Tryd.ntmps79
 go_upto_region 1 with (fail)
 go_cut [3] (fun v3 wc => ∃ (kq : Nat) (x3_1 : Bool), v3 = .bool x3_1 ∧ Aside0 (addr_digit.j0 kq a0 x3_1 = some r) ∧ Aside0 (kq ≤ k) ∧ Drawn0 w wc)
 case first =>
  have H := HC2.out
  clear HC2
  by_cases c3 : a0 ≥ 48
  ·
   rw [if_pos c3] at H
   have c3b0 : decide (48 ≤ a0) = true := decide_eq_true c3
   clear c3
   (first | rw [c3b0] | (simp only [i64_w, i32_w]; rw [c3b0]) | skip)
   have H' := Aside0.mk H
   clear H
   go_wp2
   refine Met.intro ?_
   go_step
   (repeat apply Exists.intro)
   refine ⟨?rel, ?heq_⟩
   case heq_ => first | rfl | (rw [c3b0]) | (simp only [c3b0])
   case rel => exact ⟨_, (decide (a0 ≤ 57)), pT, H', ⟨by first | omega | exact Nat.le_refl _⟩, by repeat (first | exact Drawn0.refl _ | apply Drawn0.step)⟩
  ·
   rw [if_neg c3] at H
   have c3b0 : decide (48 ≤ a0) = false := decide_eq_false c3
   clear c3
   (first | rw [c3b0] | (simp only [i64_w, i32_w]; rw [c3b0]) | skip)
   have H' := Aside0.mk H
   clear H
   go_wp2
   refine Met.intro ?_
   go_step
   (repeat apply Exists.intro)
   refine ⟨?rel, ?heq_⟩
   case heq_ => first | rfl | (rw [c3b0]) | (simp only [c3b0])
   case rel => exact ⟨_, (false), pT, H', ⟨by first | omega | exact Nat.le_refl _⟩, by repeat (first | exact Drawn0.refl _ | apply Drawn0.step)⟩
 case rest =>
  clear HC2
  try clear p2
  try clear c3
  try clear c3b0
  obtain ⟨kq, x3_1, rfl, HA, HJ1, ⟨mc1, rfl⟩⟩ := hcut
  cases kq with
  | zero => exact absurd HA.out (by simp [addr_digit.j0])
  | succ kj1 =>
   have H := HA.out
   clear HA
   simp only [addr_digit.j0] at H
   by_cases c4 : x3_1 = true
   ·
    subst c4
    rw [if_pos rfl] at H
    obtain rfl := Option.some.inj H
    go_wp2
    go_ret
    exact ⟨by first | rfl | (simp; done) | (simp [*]; done) | ((try simp only [Bool.not_not]); (generalize ByteArray.toList _ = l_); cases l_ <;> rfl) | (simp; (generalize ByteArray.toList _ = l_); cases l_ <;> rfl), by repeat (first | exact Drawn0.refl _ | apply Drawn0.step)⟩
   ·
    replace c4 := Bool.eq_false_iff.mpr c4
    subst c4
    rw [if_neg (show ¬ (false = true) by decide)] at H
    have HC5 := Aside0.mk H
    clear H
    go_upto_region 3 with (fail)
    go_cut [13] (fun v13 wc => ∃ (kq : Nat) (x13_4 : Bool), v13 = .bool x13_4 ∧ Aside0 (addr_digit.j1 kq a0 x13_4 = some r) ∧ Aside0 (kq ≤ kj1) ∧ Drawn0 w wc)
    case first =>
     have H := HC5.out
     clear HC5
     by_cases c6 : a0 ≥ 97
     ·
      rw [if_pos c6] at H
      have c6b0 : decide (97 ≤ a0) = true := decide_eq_true c6
      clear c6
      (first | rw [c6b0] | (simp only [i64_w, i32_w]; rw [c6b0]) | skip)
      have H' := Aside0.mk H
      clear H
      go_wp2
      refine Met.intro ?_
      go_step
      (repeat apply Exists.intro)
      refine ⟨?rel, ?heq_⟩
      case heq_ => first | rfl | (rw [c6b0]) | (simp only [c6b0])
      case rel => exact ⟨_, (decide (a0 ≤ 102)), pT, H', ⟨by have := HJ1.out; first | omega | exact Nat.le_refl _⟩, by repeat (first | exact Drawn0.refl _ | apply Drawn0.step)⟩
     ·
      rw [if_neg c6] at H
      have c6b0 : decide (97 ≤ a0) = false := decide_eq_false c6
      clear c6
      (first | rw [c6b0] | (simp only [i64_w, i32_w]; rw [c6b0]) | skip)
      have H' := Aside0.mk H
      clear H
      go_wp2
      refine Met.intro ?_
      go_step
      (repeat apply Exists.intro)
      refine ⟨?rel, ?heq_⟩
      case heq_ => first | rfl | (rw [c6b0]) | (simp only [c6b0])
      case rel => exact ⟨_, (false), pT, H', ⟨by have := HJ1.out; first | omega | exact Nat.le_refl _⟩, by repeat (first | exact Drawn0.refl _ | apply Drawn0.step)⟩
    case rest =>
     clear HC5
     try clear c1
     try clear p2
     try clear c3
     try clear c3b0
     try clear c4
     try clear c6
     try clear c6b0
     try clear p2
     obtain ⟨kq, x13_4, rfl, HA, HJ4, ⟨mc4, rfl⟩⟩ := hcut
     cases kq with
     | zero => exact absurd HA.out (by simp [addr_digit.j1])
     | succ kj4 =>
      have H := HA.out
      clear HA
      simp only [addr_digit.j1] at H
      by_cases c7 : x13_4 = true
      ·
       subst c7
       rw [if_pos rfl] at H
       obtain rfl := Option.some.inj H
       go_wp2
       go_ret
       exact ⟨by first | rfl | (simp; done) | (simp [*]; done) | ((try simp only [Bool.not_not]); (generalize ByteArray.toList _ = l_); cases l_ <;> rfl) | (simp; (generalize ByteArray.toList _ = l_); cases l_ <;> rfl), by repeat (first | exact Drawn0.refl _ | apply Drawn0.step)⟩
      ·
       replace c7 := Bool.eq_false_iff.mpr c7
       subst c7
       rw [if_neg (show ¬ (false = true) by decide)] at H
       by_cases c8 : a0 ≥ 65
       ·
        rw [if_pos c8] at H
        have c8b0 : decide (65 ≤ a0) = true := decide_eq_true c8
        clear c8
        by_cases c9 : a0 ≤ 70
        ·
         rw [if_pos c9] at H
         have c9b0 : decide (a0 ≤ 70) = true := decide_eq_true c9
         clear c9
         obtain rfl := Option.some.inj H
         go_wp2
         go_ret
         exact ⟨by first | rfl | (simp; done) | (simp [*]; done) | ((try simp only [Bool.not_not]); (generalize ByteArray.toList _ = l_); cases l_ <;> rfl) | (simp; (generalize ByteArray.toList _ = l_); cases l_ <;> rfl), by repeat (first | exact Drawn0.refl _ | apply Drawn0.step)⟩
        ·
         rw [if_neg c9] at H
         have c9b0 : decide (a0 ≤ 70) = false := decide_eq_false c9
         clear c9
         obtain rfl := Option.some.inj H
         go_wp2
         go_ret
         exact ⟨by first | rfl | (simp; done) | (simp [*]; done) | ((try simp only [Bool.not_not]); (generalize ByteArray.toList _ = l_); cases l_ <;> rfl) | (simp; (generalize ByteArray.toList _ = l_); cases l_ <;> rfl), by repeat (first | exact Drawn0.refl _ | apply Drawn0.step)⟩
       ·
        rw [if_neg c8] at H
        have c8b0 : decide (65 ≤ a0) = false := decide_eq_false c8
        clear c8
        obtain rfl := Option.some.inj H
        go_wp2
        go_ret
        exact ⟨by first | rfl | (simp; done) | (simp [*]; done) | ((try simp only [Bool.not_not]); (generalize ByteArray.toList _ = l_); cases l_ <;> rfl) | (simp; (generalize ByteArray.toList _ = l_); cases l_ <;> rfl), by repeat (first | exact Drawn0.refl _ | apply Drawn0.step)⟩

/-! ### addr_list: function 61 -/
mutual
def addr_list.l0 : Nat → List Int → List ByteArray → Int → Int → Option (List Int × Bool)
 | 0, _, _, _, _ => none
 | k + 1, x4, x13, x14, x15 => if x15 < x14 then (if 0 ≤ x15 then (if x15 < (x13.length : Int) then (if ((rdOf ByteArray.empty x13 x15).size : Int) < 1 then (addr_list.j1 k x4 (rdOf ByteArray.empty x13 x15) x13 x14 x15 true) else (if ((rdOf ByteArray.empty x13 x15).size : Int) > 4 then (addr_list.j1 k x4 (rdOf ByteArray.empty x13 x15) x13 x14 x15 true) else (addr_list.j1 k x4 (rdOf ByteArray.empty x13 x15) x13 x14 x15 ((x4.length : Int) == 8)))) else (none)) else (none)) else (some (x4, true))
def addr_list.j1 : Nat → List Int → ByteArray → List ByteArray → Int → Int → Bool → Option (List Int × Bool)
 | 0, _, _, _, _, _, _ => none
 | k + 1, x4, x6, x13, x14, x15, x31 => if x31 = true then (some (([] : List Int), false)) else (addr_list.l1 k x4 x6 0 x13 x14 x15 (x6.size : Int) 0)
def addr_list.l1 : Nat → List Int → ByteArray → Int → List ByteArray → Int → Int → Int → Int → Option (List Int × Bool)
 | 0, _, _, _, _, _, _, _, _ => none
 | k + 1, x4, x6, x7, x13, x14, x15, x33, x34 => if x34 < x33 then (if 0 ≤ x34 then (if x34 < (x6.size : Int) then ((addr_digit.f k (bt x6 x34)).bind fun t147 => (if t147 < 0 then (some (([] : List Int), false)) else (addr_list.l1 k x4 x6 (wrap64 ((wrap64 (16 * x7)) + t147)) x13 x14 x15 x33 (wrap64 (x34 + 1))))) else (none)) else (none)) else (if x4.length < 70368744177664 then (addr_list.l0 k (x4 ++ [IntKind.u16.wrap (x7)]) x13 x14 (wrap64 (x15 + 1))) else (none))
end
def addr_list.f (k : Nat) (a0 : ByteArray) : Option (List Int × Bool) := if a0.toList = ([] : List UInt8) then (some (([] : List Int), true)) else ((strings_Split.f a0 (⟨#[58]⟩ : ByteArray)).bind fun t143 => (addr_list.l0 k ([] : List Int) t143 (t143.length : Int) 0))
theorem addr_list.mono_l : ∀ k, (∀ y0 y1 y2 y3, LeO (addr_list.l0 k y0 y1 y2 y3) (addr_list.l0 (k + 1) y0 y1 y2 y3)) ∧ (∀ y0 y1 y2 y3 y4 y5, LeO (addr_list.j1 k y0 y1 y2 y3 y4 y5) (addr_list.j1 (k + 1) y0 y1 y2 y3 y4 y5)) ∧ (∀ y0 y1 y2 y3 y4 y5 y6 y7, LeO (addr_list.l1 k y0 y1 y2 y3 y4 y5 y6 y7) (addr_list.l1 (k + 1) y0 y1 y2 y3 y4 y5 y6 y7))
 | 0 => ⟨fun _ _ _ _ r h => by simp [addr_list.l0] at h, fun _ _ _ _ _ _ r h => by simp [addr_list.j1] at h, fun _ _ _ _ _ _ _ _ r h => by simp [addr_list.l1] at h⟩
 | k + 1 => by
  obtain ⟨ih0, ih1, ih2⟩ := addr_list.mono_l k
  refine ⟨?_, ?_, ?_⟩
  ·
   intro y0 y1 y2 y3
   unfold addr_list.l0
   repeat' first
   | (with_reducible exact ih0 _ _ _ _)
   | (with_reducible exact ih1 _ _ _ _ _ _)
   | (with_reducible exact ih2 _ _ _ _ _ _ _ _)
   | (with_reducible exact addr_digit.mono _ _)
   | (with_reducible exact LeO.refl _)
   | (with_reducible exact LeO.none _)
   | (with_reducible refine LeO.ite ?_ ?_)
   | (with_reducible refine LeO.bind ?_ (fun _ => ?_))
   | exact ih0 _ _ _ _
   | exact ih1 _ _ _ _ _ _
   | exact ih2 _ _ _ _ _ _ _ _
   | exact addr_digit.mono _ _
   | exact LeO.none _
   | refine LeO.ite ?_ ?_
   | refine LeO.bind ?_ (fun _ => ?_)
  ·
   intro y0 y1 y2 y3 y4 y5
   unfold addr_list.j1
   repeat' first
   | (with_reducible exact ih0 _ _ _ _)
   | (with_reducible exact ih1 _ _ _ _ _ _)
   | (with_reducible exact ih2 _ _ _ _ _ _ _ _)
   | (with_reducible exact addr_digit.mono _ _)
   | (with_reducible exact LeO.refl _)
   | (with_reducible exact LeO.none _)
   | (with_reducible refine LeO.ite ?_ ?_)
   | (with_reducible refine LeO.bind ?_ (fun _ => ?_))
   | exact ih0 _ _ _ _
   | exact ih1 _ _ _ _ _ _
   | exact ih2 _ _ _ _ _ _ _ _
   | exact addr_digit.mono _ _
   | exact LeO.none _
   | refine LeO.ite ?_ ?_
   | refine LeO.bind ?_ (fun _ => ?_)
  ·
   intro y0 y1 y2 y3 y4 y5 y6 y7
   unfold addr_list.l1
   repeat' first
   | (with_reducible exact ih0 _ _ _ _)
   | (with_reducible exact ih1 _ _ _ _ _ _)
   | (with_reducible exact ih2 _ _ _ _ _ _ _ _)
   | (with_reducible exact addr_digit.mono _ _)
   | (with_reducible exact LeO.refl _)
   | (with_reducible exact LeO.none _)
   | (with_reducible refine LeO.ite ?_ ?_)
   | (with_reducible refine LeO.bind ?_ (fun _ => ?_))
   | exact ih0 _ _ _ _
   | exact ih1 _ _ _ _ _ _
   | exact ih2 _ _ _ _ _ _ _ _
   | exact addr_digit.mono _ _
   | exact LeO.none _
   | refine LeO.ite ?_ ?_
   | refine LeO.bind ?_ (fun _ => ?_)
theorem addr_list.mono : ∀ a0 k, LeO (addr_list.f k a0) (addr_list.f (k + 1) a0) := by
 intro a0 k
 obtain ⟨ih0, ih1, ih2⟩ := addr_list.mono_l k
 unfold addr_list.f
 repeat' first
  | (with_reducible exact ih0 _ _ _ _)
  | (with_reducible exact ih1 _ _ _ _ _ _)
  | (with_reducible exact ih2 _ _ _ _ _ _ _ _)
  | (with_reducible exact addr_digit.mono _ _)
  | (with_reducible exact LeO.refl _)
  | (with_reducible exact LeO.none _)
  | (with_reducible refine LeO.ite ?_ ?_)
  | (with_reducible refine LeO.bind ?_ (fun _ => ?_))
  | exact ih0 _ _ _ _
  | exact ih1 _ _ _ _ _ _
  | exact ih2 _ _ _ _ _ _ _ _
  | exact addr_digit.mono _ _
  | exact LeO.none _
  | refine LeO.ite ?_ ?_
  | refine LeO.bind ?_ (fun _ => ?_)
set_option maxHeartbeats 40000000 in
set_option maxRecDepth 100000 in
theorem addr_list.calls (k : Nat) (a0 : ByteArray) (r1 : List Int) (r2 : Bool) (w : World) (hLD : Laid w) (h : addr_list.f k a0 = some (r1, r2)) :
 Calls Tryd.prog 61 #[.string a0] w fun e w' => ∃ v0_ : Value, e = .returned (.tuple #[v0_, .bool r2]) ∧ Kd.R (Kd.int .u16) 80 w' w.heap.size (fun _ => True) v0_ r1 ∧ Below w.heap.size w w' := by
 have HLD := Aside0.mk hLD
 clear hLD
 have HB := Aside0.mk (Below.refl w.heap.size w)
 have H : (if a0.toList = ([] : List UInt8) then (some (([] : List Int), true)) else ((strings_Split.f a0 (⟨#[58]⟩ : ByteArray)).bind fun t143 => (addr_list.l0 k ([] : List Int) t143 (t143.length : Int) 0))) = some (r1, r2) := h
 clear h
 by_cases c2 : a0.toList = ([] : List UInt8)
 ·
  rw [if_pos c2] at H
  have c2b0 : (a0.toList == ([] : List UInt8)) = true := beq_iff_eq.mpr c2
  have c2b1 : (a0.toList != ([] : List UInt8)) = false := bne_eq_false_iff_eq.mpr c2
  clear c2
  simp only [Option.some.injEq, Prod.mk.injEq] at H
  obtain ⟨rfl, rfl⟩ := H
  go_enter Tryd.func61, Tryd.ntmps61
  go_wp2
  go_ret2
  exact ⟨_, by first | rfl | (simp [errW_none, errW_some] <;> rfl) | (simp [*, errW_none, errW_some] <;> rfl), by first | exact Kd.R_nil _ _ _ _ _ | exact Kd.N_nil _ _ _ _ _ | exact Kd.V_nil _ _ _ _ _ | exact Kd.Q_nil _ _ _ _ _ | exact Kd.S_nil _ _ _ _ _, by repeat (first | (with_reducible first | exact HB.out | apply below_alloc | apply pw_below_drewN | apply below_drew1) | exact HB.out)⟩
 ·
  rw [if_neg c2] at H
  have c2b0 : (a0.toList == ([] : List UInt8)) = false := beq_eq_false_iff_ne.mpr c2
  have c2b1 : (a0.toList != ([] : List UInt8)) = true := bne_iff_ne.mpr c2
  replace H := Option.bind_eq_some_iff.mp H
  obtain ⟨t143, A30, H⟩ := H
  replace H : (addr_list.l0 k ([] : List Int) t143 (t143.length : Int) 0) = some (r1, r2) := H
  have A3 := Aside0.mk A30
  clear A30
  have H' := Aside0.mk H
  clear H
  go_enter Tryd.func61, Tryd.ntmps61
  go_wp2_with (first | ((with_reducible refine gate_callee (f := 59) rfl ?_); refine goesA (some 13) Tryd.func59 #[.string a0, .string (⟨#[58]⟩ : ByteArray)] ?_; (with_reducible refine (strings_Split.calls a0 (⟨#[58]⟩ : ByteArray) t143 _ ?side1 A3.out).mono ?_); (case side1 => exact Laid.below HLD.out (pE HB)); rintro e w4 ⟨v144, rfl, ho0, hb⟩; refine ⟨_, rfl, ?_⟩; have HO145 := Aside0.mk (Kd.R_lower ho0 (below_size (by repeat (first | (with_reducible first | exact HB.out | apply below_alloc | apply pw_below_drewN | apply below_drew1) | exact HB.out)))); replace HB := (pS HB hb); (try clear hb); (try clear hk); (try clear ho0); obtain ⟨Ao5, co5, eo5⟩ := Kd.R_slice HO145.out; subst eo5))
  go_loopg [4, 15] k (fun kq v4 v15 w' => ∃ (x4_1 : List Int) (x15_1 : Int), v15 = .int .i64 x15_1 ∧ Aside0 (addr_list.l0 kq x4_1 t143 (t143.length : Int) x15_1 = some (r1, r2)) ∧ Aside0 (kq ≤ k) ∧ Aside0 (Kd.R (Kd.int .u16) 80 w' w.heap.size (fun _ => True) v4 x4_1) ∧ Aside0 (Kd.R Kd.string 9 w' w.heap.size (fun _ => True) (.slice Ao5 t143.length co5) t143) ∧ Aside0 (Below w.heap.size w w'))
  case atStart => exact ⟨(([] : List Int)), (0), pT, H', ⟨Nat.le_refl _⟩, ⟨by first | exact Kd.R_nil _ _ _ _ _ | exact Kd.N_nil _ _ _ _ _ | exact Kd.V_nil _ _ _ _ _ | exact Kd.Q_nil _ _ _ _ _ | exact Kd.S_nil _ _ _ _ _⟩, ⟨by (with_reducible repeat (first | apply Kd.R_alloc | apply Kd.R_drewN | apply Kd.R_drew)); exact HO145.out⟩, ⟨pE HB⟩⟩
  case round =>
   clear H'
   try clear c2
   try clear c2b0
   try clear c2b1
   try clear p2
   try clear c5
   obtain ⟨x4_1, x15_1, rfl, HA, HK1, HO_4, HO_13, HB⟩ := hrel
   cases gk with
   | zero => exact absurd HA.out (by simp [addr_list.l0])
   | succ k1 =>
    have H := HA.out
    clear HA
    simp only [addr_list.l0] at H
    by_cases c6 : x15_1 < (t143.length : Int)
    ·
     rw [if_pos c6] at H
     have c6b0 : decide (x15_1 < (t143.length : Int)) = true := decide_eq_true c6
     clear c6
     by_cases c7 : 0 ≤ x15_1
     ·
      rw [if_pos c7] at H
      have c7b0 : decide (0 ≤ x15_1) = true := decide_eq_true c7
      clear c7
      by_cases c8 : x15_1 < (t143.length : Int)
      ·
       rw [if_pos c8] at H
       have c8b0 : decide (x15_1 < (t143.length : Int)) = true := decide_eq_true c8
       clear c8
       have HC9 := Aside0.mk H
       clear H
       have p146 : 0 ≤ (x15_1 : Int) := of_decide_eq_true (by first | (with_reducible assumption) | assumption)
       have q146 : x15_1 < (t143.length : Int) := of_decide_eq_true (by first | (with_reducible assumption) | assumption)
       obtain ⟨ad146, e146, hx146_0⟩ := Kd.at_string (Kd.R_reads' HO_13.out).2.2 x15_1 p146 q146
       cases e146
       replace p146 := eq_true p146
       replace q146 := eq_true q146
       go_upto_region 7 with (fail)
       go_cut [31] (fun v31 wc => ∃ (kq : Nat) (x31_8 : Bool), v31 = .bool x31_8 ∧ Aside0 (addr_list.j1 kq x4_1 (rdOf ByteArray.empty t143 x15_1) t143 (t143.length : Int) x15_1 x31_8 = some (r1, r2)) ∧ Aside0 (kq ≤ k1) ∧ Aside0 (Kd.R (Kd.int .u16) 80 wc w.heap.size (fun _ => True) u4 x4_1) ∧ Aside0 (Kd.R Kd.string 9 wc w.heap.size (fun _ => True) (.slice (some ad146) t143.length co5) t143) ∧ Aside0 (Below w.heap.size w wc))
       case first =>
        have H := HC9.out
        clear HC9
        by_cases c10 : ((rdOf ByteArray.empty t143 x15_1).size : Int) < 1
        ·
         rw [if_pos c10] at H
         have c10b0 : decide (((rdOf ByteArray.empty t143 x15_1).size : Int) < 1) = true := decide_eq_true c10
         have c10b1 : decide ((rdOf ByteArray.empty t143 x15_1).size < 1) = true := decide_eq_true (by omega)
         clear c10
         (first | rw [c10b0] | (simp only [i64_w, i32_w]; rw [c10b0]) | skip)
         have H' := Aside0.mk H
         clear H
         go_wp2
         refine Met.intro ?_
         go_step
         (repeat apply Exists.intro)
         refine ⟨?rel, ?heq_⟩
         case heq_ => first | rfl | (rw [c10b0]) | (simp only [c10b0])
         case rel => exact ⟨_, (true), pT, H', ⟨by have := HK1.out; first | omega | exact Nat.le_refl _⟩, ⟨by (with_reducible repeat (first | apply Kd.R_alloc | apply Kd.R_drewN | apply Kd.R_drew)); exact HO_4.out⟩, ⟨by (with_reducible repeat (first | apply Kd.R_alloc | apply Kd.R_drewN | apply Kd.R_drew)); exact HO_13.out⟩, ⟨pE HB⟩⟩
        ·
         rw [if_neg c10] at H
         have c10b0 : decide (((rdOf ByteArray.empty t143 x15_1).size : Int) < 1) = false := decide_eq_false c10
         have c10b1 : decide ((rdOf ByteArray.empty t143 x15_1).size < 1) = false := decide_eq_false (by omega)
         clear c10
         (first | rw [c10b0] | (simp only [i64_w, i32_w]; rw [c10b0]) | skip)
         by_cases c11 : ((rdOf ByteArray.empty t143 x15_1).size : Int) > 4
         ·
          rw [if_pos c11] at H
          have c11b0 : decide (4 < ((rdOf ByteArray.empty t143 x15_1).size : Int)) = true := decide_eq_true c11
          have c11b1 : decide (4 < (rdOf ByteArray.empty t143 x15_1).size) = true := decide_eq_true (by omega)
          clear c11
          have H' := Aside0.mk H
          clear H
          go_wp2
          refine Met.intro ?_
          go_step
          (repeat apply Exists.intro)
          refine ⟨?rel, ?heq_⟩
          case heq_ => first | rfl | (rw [c10b0]) | (simp only [c10b0])
          case rel => exact ⟨_, (true), pT, H', ⟨by have := HK1.out; first | omega | exact Nat.le_refl _⟩, ⟨by (with_reducible repeat (first | apply Kd.R_alloc | apply Kd.R_drewN | apply Kd.R_drew)); exact HO_4.out⟩, ⟨by (with_reducible repeat (first | apply Kd.R_alloc | apply Kd.R_drewN | apply Kd.R_drew)); exact HO_13.out⟩, ⟨pE HB⟩⟩
         ·
          rw [if_neg c11] at H
          have c11b0 : decide (4 < ((rdOf ByteArray.empty t143 x15_1).size : Int)) = false := decide_eq_false c11
          have c11b1 : decide (4 < (rdOf ByteArray.empty t143 x15_1).size) = false := decide_eq_false (by omega)
          clear c11
          have H' := Aside0.mk H
          clear H
          obtain ⟨Ao12, co12, eo12⟩ := Kd.R_slice HO_4.out
          subst eo12
          go_wp2
          refine Met.intro ?_
          go_step
          (repeat apply Exists.intro)
          refine ⟨?rel, ?heq_⟩
          case heq_ => first | rfl | (rw [c10b0]) | (simp only [c10b0])
          case rel => exact ⟨_, (((x4_1.length : Int) == 8)), pT, H', ⟨by have := HK1.out; first | omega | exact Nat.le_refl _⟩, ⟨by (with_reducible repeat (first | apply Kd.R_alloc | apply Kd.R_drewN | apply Kd.R_drew)); exact HO_4.out⟩, ⟨by (with_reducible repeat (first | apply Kd.R_alloc | apply Kd.R_drewN | apply Kd.R_drew)); exact HO_13.out⟩, ⟨pE HB⟩⟩
       case rest =>
        clear HC9
        try clear c1
        try clear p1
        try clear q1
        try clear hx1
        try clear c2
        try clear c2b0
        try clear c2b1
        try clear p2
        try clear c5
        try clear c6
        try clear c6b0
        try clear c7
        try clear c7b0
        try clear c8
        try clear c8b0
        try clear c10
        try clear c10b0
        try clear c10b1
        try clear c11
        try clear c11b0
        try clear c11b1
        try clear hx146_0
        try clear p146
        try clear p2
        try clear q146
        obtain ⟨kq, x31_8, rfl, HA, HJ8, HO_4, HO_13, HB⟩ := hcut
        cases kq with
        | zero => exact absurd HA.out (by simp [addr_list.j1])
        | succ kj8 =>
         have H := HA.out
         clear HA
         simp only [addr_list.j1] at H
         by_cases c13 : x31_8 = true
         ·
          subst c13
          have H1 : (some (([] : List Int), false)) = some (r1, r2) := by rw [if_pos rfl] at H; exact H
          clear H
          have H := H1
          clear H1
          simp only [Option.some.injEq, Prod.mk.injEq] at H
          obtain ⟨rfl, rfl⟩ := H
          go_wp2
          go_ret2
          exact ⟨_, by first | rfl | (simp [errW_none, errW_some] <;> rfl) | (simp [*, errW_none, errW_some] <;> rfl), by first | exact Kd.R_nil _ _ _ _ _ | exact Kd.N_nil _ _ _ _ _ | exact Kd.V_nil _ _ _ _ _ | exact Kd.Q_nil _ _ _ _ _ | exact Kd.S_nil _ _ _ _ _, by repeat (first | (with_reducible first | exact HB.out | apply below_alloc | apply pw_below_drewN | apply below_drew1) | exact HB.out)⟩
         ·
          replace c13 := Bool.eq_false_iff.mpr c13
          subst c13
          have H1 : (addr_list.l1 kj8 x4_1 (rdOf ByteArray.empty t143 x15_1) 0 t143 (t143.length : Int) x15_1 ((rdOf ByteArray.empty t143 x15_1).size : Int) 0) = some (r1, r2) := by rw [if_neg (show ¬ (false = true) by decide)] at H; exact H
          clear H
          have H := H1
          clear H1
          have H' := Aside0.mk H
          clear H
          go_wp2
          go_loopg [7, 34] kj8 (fun kq v7 v34 w' => ∃ (x7_3 : Int) (x34_3 : Int), v7 = .int .i64 x7_3 ∧ v34 = .int .i64 x34_3 ∧ Aside0 (addr_list.l1 kq x4_1 (rdOf ByteArray.empty t143 x15_1) x7_3 t143 (t143.length : Int) x15_1 ((rdOf ByteArray.empty t143 x15_1).size : Int) x34_3 = some (r1, r2)) ∧ Aside0 (kq ≤ kj8) ∧ Aside0 (Kd.R (Kd.int .u16) 80 w' w.heap.size (fun _ => True) u4 x4_1) ∧ Aside0 (Kd.R Kd.string 9 w' w.heap.size (fun _ => True) (.slice (some ad146) t143.length co5) t143) ∧ Aside0 (Below w.heap.size w w'))
          case atStart => exact ⟨(0), (0), pT, pT, H', ⟨Nat.le_refl _⟩, ⟨by (with_reducible repeat (first | apply Kd.R_alloc | apply Kd.R_drewN | apply Kd.R_drew)); exact HO_4.out⟩, ⟨by (with_reducible repeat (first | apply Kd.R_alloc | apply Kd.R_drewN | apply Kd.R_drew)); exact HO_13.out⟩, ⟨pE HB⟩⟩
          case round =>
           clear H'
           try clear c1
           try clear p1
           try clear q1
           try clear hx1
           try clear c2
           try clear c2b0
           try clear c2b1
           try clear p2
           try clear c5
           try clear c6
           try clear c6b0
           try clear c7
           try clear c7b0
           try clear c8
           try clear c8b0
           try clear c10
           try clear c10b0
           try clear c10b1
           try clear c11
           try clear c11b0
           try clear c11b1
           try clear c13
           try clear hx146_0
           try clear p1
           try clear p146
           try clear p2
           try clear q1
           try clear q146
           obtain ⟨x7_3, x34_3, rfl, rfl, HA, HK3, HO_4, HO_13, HB⟩ := hrel
           cases gk with
           | zero => exact absurd HA.out (by simp [addr_list.l1])
           | succ k3 =>
            have H := HA.out
            clear HA
            simp only [addr_list.l1] at H
            by_cases c14 : x34_3 < ((rdOf ByteArray.empty t143 x15_1).size : Int)
            ·
             rw [if_pos c14] at H
             have c14b0 : decide (x34_3 < ((rdOf ByteArray.empty t143 x15_1).size : Int)) = true := decide_eq_true c14
             clear c14
             by_cases c15 : 0 ≤ x34_3
             ·
              rw [if_pos c15] at H
              have c15b0 : decide (0 ≤ x34_3) = true := decide_eq_true c15
              clear c15
              by_cases c16 : x34_3 < ((rdOf ByteArray.empty t143 x15_1).size : Int)
              ·
               rw [if_pos c16] at H
               have c16b0 : decide (x34_3 < ((rdOf ByteArray.empty t143 x15_1).size : Int)) = true := decide_eq_true c16
               clear c16
               replace H := Option.bind_eq_some_iff.mp H
               obtain ⟨t147, A180, H⟩ := H
               replace H : (if t147 < 0 then (some (([] : List Int), false)) else (addr_list.l1 k3 x4_1 (rdOf ByteArray.empty t143 x15_1) (wrap64 ((wrap64 (16 * x7_3)) + t147)) t143 (t143.length : Int) x15_1 ((rdOf ByteArray.empty t143 x15_1).size : Int) (wrap64 (x34_3 + 1)))) = some (r1, r2) := H
               have A18 := Aside0.mk A180
               clear A180
               by_cases c19 : t147 < 0
               ·
                rw [if_pos c19] at H
                have c19b0 : decide (t147 < 0) = true := decide_eq_true c19
                clear c19
                simp only [Option.some.injEq, Prod.mk.injEq] at H
                obtain ⟨rfl, rfl⟩ := H
                have p17 : 0 ≤ (x34_3 : Int) := of_decide_eq_true (by first | (with_reducible assumption) | assumption)
                have q17 : x34_3 < ((rdOf ByteArray.empty t143 x15_1).size : Int) := of_decide_eq_true (by first | (with_reducible assumption) | assumption)
                have hx17 := bt_at (rdOf ByteArray.empty t143 x15_1) x34_3
                replace p17 := eq_true p17
                replace q17 := eq_true q17
                go_wp2_with (first | ((with_reducible refine gate_callee (f := 79) rfl ?_); refine goesA (some 40) Tryd.func79 #[.int .u8 (bt (rdOf ByteArray.empty t143 x15_1) x34_3)] ?_; (with_reducible refine (addr_digit.calls k3 (bt (rdOf ByteArray.empty t143 x15_1) x34_3) t147 _ A18.out).mono ?_); rintro e w' ⟨rfl, ⟨nd, rfl⟩⟩; refine ⟨_, rfl, ?_⟩))
                go_ret2
                exact ⟨_, by first | rfl | (simp [errW_none, errW_some] <;> rfl) | (simp [*, errW_none, errW_some] <;> rfl), by first | exact Kd.R_nil _ _ _ _ _ | exact Kd.N_nil _ _ _ _ _ | exact Kd.V_nil _ _ _ _ _ | exact Kd.Q_nil _ _ _ _ _ | exact Kd.S_nil _ _ _ _ _, by repeat (first | (with_reducible first | exact HB.out | apply below_alloc | apply pw_below_drewN | apply below_drew1) | exact HB.out)⟩
               ·
                rw [if_neg c19] at H
                have c19b0 : decide (t147 < 0) = false := decide_eq_false c19
                clear c19
                have H' := Aside0.mk H
                clear H
                have p17 : 0 ≤ (x34_3 : Int) := of_decide_eq_true (by first | (with_reducible assumption) | assumption)
                have q17 : x34_3 < ((rdOf ByteArray.empty t143 x15_1).size : Int) := of_decide_eq_true (by first | (with_reducible assumption) | assumption)
                have hx17 := bt_at (rdOf ByteArray.empty t143 x15_1) x34_3
                replace p17 := eq_true p17
                replace q17 := eq_true q17
                go_wp2_with (first | ((with_reducible refine gate_callee (f := 79) rfl ?_); refine goesA (some 40) Tryd.func79 #[.int .u8 (bt (rdOf ByteArray.empty t143 x15_1) x34_3)] ?_; (with_reducible refine (addr_digit.calls k3 (bt (rdOf ByteArray.empty t143 x15_1) x34_3) t147 _ A18.out).mono ?_); rintro e w' ⟨rfl, ⟨nd, rfl⟩⟩; refine ⟨_, rfl, ?_⟩))
                go_roundg k3
                case measure => have := HK1.out; have := HJ8.out; have := HK3.out; omega
                case rel => exact ⟨(wrap64 ((wrap64 (16 * x7_3)) + t147)), (wrap64 (x34_3 + 1)), pT, pT, H', ⟨by have := HK1.out; have := HJ8.out; have := HK3.out; omega⟩, ⟨by (with_reducible repeat (first | apply Kd.R_alloc | apply Kd.R_drewN | apply Kd.R_drew)); exact HO_4.out⟩, ⟨by (with_reducible repeat (first | apply Kd.R_alloc | apply Kd.R_drewN | apply Kd.R_drew)); exact HO_13.out⟩, ⟨pE HB⟩⟩
              ·
               rw [if_neg c16] at H
               exact absurd H (by simp)
             ·
              rw [if_neg c15] at H
              exact absurd H (by simp)
            ·
             rw [if_neg c14] at H
             have c14b0 : decide (x34_3 < ((rdOf ByteArray.empty t143 x15_1).size : Int)) = false := decide_eq_false c14
             clear c14
             by_cases c20 : x4_1.length < 70368744177664
             ·
              rw [if_pos c20] at H
              have LMc20 := Aside0.mk c20
              clear c20
              obtain ⟨y148, hy148⟩ : ∃ y_ : List Int, y_ = (x4_1 ++ [IntKind.u16.wrap (x7_3)]) := ⟨_, rfl⟩
              replace H : (addr_list.l0 k3 y148 t143 (t143.length : Int) (wrap64 (x15_1 + 1))) = some (r1, r2) := by first | (rw [hy148]; with_reducible exact H) | (have H2_ := (Option.bind_some _ _).symm.trans H; rw [hy148]; with_reducible exact H2_) | (have H2_ := (Option.bind_some _ _).symm.trans H; with_reducible exact H2_) | with_reducible exact H | (rw [hy148]; exact H) | exact H
              have Ny148 := Aside0.mk hy148
              clear hy148
              have H' := Aside0.mk H
              clear H
              go_wp2_with (first | ((with_reducible refine gate_builtin (b := .append) (xs := #[.tmp 48, .tmp 51]) rfl ?_); (try (refine gate_guard (by rfl) ?_; dsimp only)); at_builtin; refine Kd.R_append (Kd.int .u16) (w0 := w) w.heap.size rfl (.tmp 48) (.tmp 51) 87 80 (.int .u16 0) 2 rfl Tryd.underlying87 info80 rfl (by decide) (by omega) u4 x4_1 (IntKind.u16.wrap (x7_3)) [.int .u16 (IntKind.u16.wrap (x7_3))] (fun _ => True) (fun _ => False) rfl rfl ?aP (fun _ hk => hk.elim) ?aF ?aO ?aB ?aS ?aL ?_; (case aP => exact rfl); (case aB => exact (by repeat (first | (with_reducible first | exact HB.out | apply below_alloc | apply pw_below_drewN | apply below_drew1) | exact HB.out))); (case aF => exact (fun _ _ => trivial)); (case aO => exact (by (with_reducible repeat (first | apply Kd.R_alloc | apply Kd.R_drewN | apply Kd.R_drew)); exact HO_4.out)); (case aS => exact (below_size (by repeat (first | (with_reducible first | exact HB.out | apply below_alloc | apply pw_below_drewN | apply below_drew1) | exact HB.out)))); (case aL => have := LMc20.out; omega); intro v149 w21 ho hb hg hat; rw [← Ny148.out] at ho; have HO150 := Aside0.mk (ho); replace HO_13 := Aside0.mk (Kd.R_over' (by (with_reducible repeat (first | apply Kd.R_alloc | apply Kd.R_drewN | apply Kd.R_drew)); exact HO_13.out) (Kd.R_typed (by (with_reducible repeat (first | apply Kd.R_alloc | apply Kd.R_drewN | apply Kd.R_drew)); exact HO_4.out)) (by decide) hg); replace HB := Aside0.mk (hb); clear HO_4; clear ho hb hg hat))
              go_roundg k3
              case measure => have := HK1.out; have := HJ8.out; have := HK3.out; omega
              case rel => exact ⟨(y148), (wrap64 (x15_1 + 1)), pT, H', ⟨by have := HK1.out; have := HJ8.out; have := HK3.out; omega⟩, ⟨by (with_reducible repeat (first | apply Kd.R_alloc | apply Kd.R_drewN | apply Kd.R_drew)); exact HO150.out⟩, ⟨by (with_reducible repeat (first | apply Kd.R_alloc | apply Kd.R_drewN | apply Kd.R_drew)); exact HO_13.out⟩, ⟨pE HB⟩⟩
             ·
              rw [if_neg c20] at H
              exact absurd H (by simp)
      ·
       rw [if_neg c8] at H
       exact absurd H (by simp)
     ·
      rw [if_neg c7] at H
      exact absurd H (by simp)
    ·
     rw [if_neg c6] at H
     have c6b0 : decide (x15_1 < (t143.length : Int)) = false := decide_eq_false c6
     clear c6
     simp only [Option.some.injEq, Prod.mk.injEq] at H
     obtain ⟨rfl, rfl⟩ := H
     go_wp2
     go_ret2
     exact ⟨_, by first | rfl | (simp [errW_none, errW_some] <;> rfl) | (simp [*, errW_none, errW_some] <;> rfl), by (with_reducible repeat (first | apply Kd.R_alloc | apply Kd.R_drewN | apply Kd.R_drew)); exact HO_4.out, by repeat (first | (with_reducible first | exact HB.out | apply below_alloc | apply pw_below_drewN | apply below_drew1) | exact HB.out)⟩

end Go.Proofs.YteflcmmandlknaaDoor.PA
