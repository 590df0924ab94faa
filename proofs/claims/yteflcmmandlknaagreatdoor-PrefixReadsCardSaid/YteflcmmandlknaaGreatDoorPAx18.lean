/- The Go functions in Lean, with the proofs that the code comes to these answers: printed by this session's program (wip/px) out of the seat's translation. Conditions: each theorem's own. -/
import Derived.Test.YteflcmmandlknaaGreatDoorPAx0
import Derived.Test.YteflcmmandlknaaGreatDoorPAx6
import Derived.Test.YteflcmmandlknaaGreatDoorPAx17
namespace Go.Proofs.YteflcmmandlknaaGreatDoor.PA
open Go.RowKit Go.Proofs.YteflcmmandlknaaGreatDoorW.PrintWords Go.Proofs.YteflcmmandlknaaGreatDoorW.PrintLast Go.Proofs.YteflcmmandlknaaGreatDoorW.PrintMore
attribute [local go_sem] max2_int min2_int max_two min_two max_three min_three max_four min_four   -- for this text's walks alone
attribute [local go_sem ↓] Ext.isSome_setCell
open Press
set_option linter.unusedVariables false
set_option linter.unusedSimpArgs false
/-! ### ddiref02_number: function 97 -/
mutual
def ddiref02_number.j0 : Nat → ByteArray → Bool → Option (Int × Bool)
 | 0, _, _ => none
 | k + 1, x0, x23 => if x23 = true then (some (0, false)) else (ddiref02_number.l0 k x0 0 0)
def ddiref02_number.l0 : Nat → ByteArray → Int → Int → Option (Int × Bool)
 | 0, _, _, _ => none
 | k + 1, x0, x4, x5 => if x5 < (x0.size : Int) then (if 0 ≤ x5 then (if (bt x0 x5) < 48 then (some (0, false)) else (if (bt x0 x5) > 57 then (some (0, false)) else (ddiref02_number.l0 k x0 (IntKind.u64.wrap ((IntKind.u64.wrap (x4 * 10)) + (((bt x0 x5) - 48) % 256))) (wrap64 (x5 + 1))))) else (none)) else (some (x4, decide (x4 ≤ 255)))
end
def ddiref02_number.f (k : Nat) (a0 : ByteArray) : Option (Int × Bool) := if (a0.size : Int) < 1 then (ddiref02_number.j0 k a0 true) else (if (a0.size : Int) > 3 then (ddiref02_number.j0 k a0 true) else (if (a0.size : Int) > 1 then (if 0 < (a0.size : Int) then (ddiref02_number.j0 k a0 ((bt a0 0) == 48)) else (none)) else (ddiref02_number.j0 k a0 false)))
theorem ddiref02_number.mono_l : ∀ k, (∀ y0 y1, LeO (ddiref02_number.j0 k y0 y1) (ddiref02_number.j0 (k + 1) y0 y1)) ∧ (∀ y0 y1 y2, LeO (ddiref02_number.l0 k y0 y1 y2) (ddiref02_number.l0 (k + 1) y0 y1 y2))
 | 0 => ⟨fun _ _ r h => by simp [ddiref02_number.j0] at h, fun _ _ _ r h => by simp [ddiref02_number.l0] at h⟩
 | k + 1 => by
  obtain ⟨ih0, ih1⟩ := ddiref02_number.mono_l k
  refine ⟨?_, ?_⟩
  ·
   intro y0 y1
   unfold ddiref02_number.j0
   repeat' with_reducible first | exact ih0 _ _ | exact ih1 _ _ _ | exact LeO.refl _ | exact LeO.none _ | refine LeO.ite ?_ ?_ | refine LeO.bind ?_ (fun _ => ?_)
  ·
   intro y0 y1 y2
   unfold ddiref02_number.l0
   repeat' with_reducible first | exact ih0 _ _ | exact ih1 _ _ _ | exact LeO.refl _ | exact LeO.none _ | refine LeO.ite ?_ ?_ | refine LeO.bind ?_ (fun _ => ?_)
theorem ddiref02_number.mono : ∀ a0 k, LeO (ddiref02_number.f k a0) (ddiref02_number.f (k + 1) a0) := by
 intro a0 k
 obtain ⟨ih0, ih1⟩ := ddiref02_number.mono_l k
 unfold ddiref02_number.f
 repeat' with_reducible first | exact ih0 _ _ | exact ih1 _ _ _ | exact LeO.refl _ | exact LeO.none _ | refine LeO.ite ?_ ?_ | refine LeO.bind ?_ (fun _ => ?_)
set_option maxHeartbeats 40000000 in
set_option maxRecDepth 100000 in
theorem ddiref02_number.calls (k : Nat) (a0 : ByteArray) (r1 : Int) (r2 : Bool) (w : World) (h : ddiref02_number.f k a0 = some (r1, r2)) :
 Calls Tryz.prog 97 #[.string a0] w fun e w' => e = .returned (.tuple #[.int .u64 r1, .bool r2]) ∧ Drawn0 w w' := by
 have H : (if (a0.size : Int) < 1 then (ddiref02_number.j0 k a0 true) else (if (a0.size : Int) > 3 then (ddiref02_number.j0 k a0 true) else (if (a0.size : Int) > 1 then (if 0 < (a0.size : Int) then (ddiref02_number.j0 k a0 ((bt a0 0) == 48)) else (none)) else (ddiref02_number.j0 k a0 false)))) = some (r1, r2) := h
 clear h
 have HC2 := Aside0.mk H
 clear H
 go_enter Tryz.func97, Tryz.ntmps97
 go_upto_region 1 with (fail)
 go_cut [23] (fun v23 wc => ∃ (kq : Nat) (x23_1 : Bool), v23 = .bool x23_1 ∧ Aside0 (ddiref02_number.j0 kq a0 x23_1 = some (r1, r2)) ∧ Aside0 (kq ≤ k) ∧ Drawn0 w wc)
 case first =>
  have H := HC2.out
  clear HC2
  by_cases c3 : (a0.size : Int) < 1
  ·
   rw [if_pos c3] at H
   have c3b0 := decide_eq_true c3
   have c3b1 : decide (a0.size < 1) = true := decide_eq_true (by omega)
   clear c3
   (first | rw [c3b0] | (simp only [i64_w, i32_w]; rw [c3b0]) | skip)
   have H' := Aside0.mk H
   clear H
   go_wp2
   refine Met.intro ?_
   go_step
   (repeat apply Exists.intro)
   refine ⟨?rel, ?heq_⟩
   case heq_ => first | rfl | (rw [c3b0]) | (simp only [c3b0])
   case rel => exact ⟨_, (true), pT, H', ⟨by first | omega | exact Nat.le_refl _⟩, by repeat (first | exact Drawn0.refl _ | apply Drawn0.step)⟩
  ·
   rw [if_neg c3] at H
   have c3b0 := decide_eq_false c3
   have c3b1 : decide (a0.size < 1) = false := decide_eq_false (by omega)
   clear c3
   (first | rw [c3b0] | (simp only [i64_w, i32_w]; rw [c3b0]) | skip)
   by_cases c4 : (a0.size : Int) > 3
   ·
    rw [if_pos c4] at H
    have c4b0 := decide_eq_true c4
    have c4b1 : decide (3 < a0.size) = true := decide_eq_true (by omega)
    clear c4
    have H' := Aside0.mk H
    clear H
    go_wp2
    refine Met.intro ?_
    go_step
    (repeat apply Exists.intro)
    refine ⟨?rel, ?heq_⟩
    case heq_ => first | rfl | (rw [c3b0]) | (simp only [c3b0])
    case rel => exact ⟨_, (true), pT, H', ⟨by first | omega | exact Nat.le_refl _⟩, by repeat (first | exact Drawn0.refl _ | apply Drawn0.step)⟩
   ·
    rw [if_neg c4] at H
    have c4b0 := decide_eq_false c4
    have c4b1 : decide (3 < a0.size) = false := decide_eq_false (by omega)
    clear c4
    by_cases c5 : (a0.size : Int) > 1
    ·
     rw [if_pos c5] at H
     have c5b0 := decide_eq_true c5
     have c5b1 : decide (1 < a0.size) = true := decide_eq_true (by omega)
     clear c5
     by_cases c6 : 0 < (a0.size : Int)
     ·
      rw [if_pos c6] at H
      have c6b0 := decide_eq_true c6
      have c6b1 : decide (0 < a0.size) = true := decide_eq_true (by omega)
      clear c6
      have H' := Aside0.mk H
      clear H
      have p7 : 0 ≤ (0 : Int) := (by omega)
      have q7 : 0 < a0.size := (by have : (0 : Int) < (a0.size : Int) := of_decide_eq_true (by first | (with_reducible assumption) | assumption); omega)
      have hx7 : ∀ h : 0 < a0.size, ((a0[0]'h).toNat : Int) = bt a0 0 := bt_at a0 0
      clear p7
      have qi7 : (0 < (a0.size : Int)) = True := eq_true (of_decide_eq_true (by first | (with_reducible assumption) | assumption))
      replace q7 := eq_true q7
      go_wp2
      refine Met.intro ?_
      go_step
      (repeat apply Exists.intro)
      refine ⟨?rel, ?heq_⟩
      case heq_ => first | rfl | (rw [c3b0]) | (simp only [c3b0])
      case rel => exact ⟨_, (((bt a0 0) == 48)), pT, H', ⟨by first | omega | exact Nat.le_refl _⟩, by repeat (first | exact Drawn0.refl _ | apply Drawn0.step)⟩
     ·
      rw [if_neg c6] at H
      exact absurd H (by simp)
    ·
     rw [if_neg c5] at H
     have c5b0 := decide_eq_false c5
     have c5b1 : decide (1 < a0.size) = false := decide_eq_false (by omega)
     clear c5
     have H' := Aside0.mk H
     clear H
     go_wp2
     refine Met.intro ?_
     go_step
     (repeat apply Exists.intro)
     refine ⟨?rel, ?heq_⟩
     case heq_ => first | rfl | (rw [c3b0]) | (simp only [c3b0])
     case rel => exact ⟨_, (false), pT, H', ⟨by first | omega | exact Nat.le_refl _⟩, by repeat (first | exact Drawn0.refl _ | apply Drawn0.step)⟩
 case rest =>
  clear HC2
  obtain ⟨kq, x23_1, rfl, HA, HJ1, ⟨mc1, rfl⟩⟩ := hcut
  cases kq with
  | zero => exact absurd HA.out (by simp [ddiref02_number.j0])
  | succ kj1 =>
   have H := HA.out
   clear HA
   simp only [ddiref02_number.j0] at H
   by_cases c8 : x23_1 = true
   ·
    subst c8
    have H1 : (some (0, false)) = some (r1, r2) := by rw [if_pos rfl] at H; exact H
    clear H
    have H := H1
    clear H1
    simp only [Option.some.injEq, Prod.mk.injEq] at H
    obtain ⟨rfl, rfl⟩ := H
    go_wp2
    go_ret2
    exact ⟨by first | rfl | (simp; done) | (simp [*]; done) | ((try simp only [Bool.not_not]); (generalize ByteArray.toList _ = l_); cases l_ <;> rfl) | (simp; (generalize ByteArray.toList _ = l_); cases l_ <;> rfl), by repeat (first | exact Drawn0.refl _ | apply Drawn0.step)⟩
   ·
    replace c8 := Bool.eq_false_iff.mpr c8
    subst c8
    rw [if_neg (show ¬ (false = true) by decide)] at H
    have H' := Aside0.mk H
    clear H
    go_wp2
    go_loopg [4, 5] kj1 (fun kq v4 v5 w' => ∃ (x4_2 : Int) (x5_2 : Int), v4 = .int .u64 x4_2 ∧ v5 = .int .i64 x5_2 ∧ Aside0 (ddiref02_number.l0 kq a0 x4_2 x5_2 = some (r1, r2)) ∧ Aside0 (kq ≤ kj1) ∧ Drawn0 w w')
    case atStart => exact ⟨(0), (0), pT, pT, H', ⟨Nat.le_refl _⟩, by repeat (first | exact Drawn0.refl _ | apply Drawn0.step)⟩
    case round =>
     clear H'
     try clear c8
     obtain ⟨x4_2, x5_2, rfl, rfl, HA, HK2, ⟨m2, rfl⟩⟩ := hrel
     cases gk with
     | zero => exact absurd HA.out (by simp [ddiref02_number.l0])
     | succ k2 =>
      have H := HA.out
      clear HA
      simp only [ddiref02_number.l0] at H
      by_cases c9 : x5_2 < (a0.size : Int)
      ·
       rw [if_pos c9] at H
       have c9b0 := decide_eq_true c9
       clear c9
       by_cases c10 : 0 ≤ x5_2
       ·
        rw [if_pos c10] at H
        have c10b0 := decide_eq_true c10
        clear c10
        by_cases c12 : (bt a0 x5_2) < 48
        ·
         rw [if_pos c12] at H
         have c12b0 := decide_eq_true c12
         clear c12
         simp only [Option.some.injEq, Prod.mk.injEq] at H
         obtain ⟨rfl, rfl⟩ := H
         have p11 : 0 ≤ (x5_2 : Int) := of_decide_eq_true (by first | (with_reducible assumption) | assumption)
         have q11 : x5_2 < (a0.size : Int) := of_decide_eq_true (by first | (with_reducible assumption) | assumption)
         have hx11 := bt_at a0 x5_2
         replace p11 := eq_true p11
         replace q11 := eq_true q11
         go_wp2
         go_ret2
         exact ⟨by first | rfl | (simp; done) | (simp [*]; done) | ((try simp only [Bool.not_not]); (generalize ByteArray.toList _ = l_); cases l_ <;> rfl) | (simp; (generalize ByteArray.toList _ = l_); cases l_ <;> rfl), by repeat (first | exact Drawn0.refl _ | apply Drawn0.step)⟩
        ·
         rw [if_neg c12] at H
         have c12b0 := decide_eq_false c12
         clear c12
         by_cases c14 : (bt a0 x5_2) > 57
         ·
          rw [if_pos c14] at H
          have c14b0 := decide_eq_true c14
          clear c14
          simp only [Option.some.injEq, Prod.mk.injEq] at H
          obtain ⟨rfl, rfl⟩ := H
          have p11 : 0 ≤ (x5_2 : Int) := of_decide_eq_true (by first | (with_reducible assumption) | assumption)
          have q11 : x5_2 < (a0.size : Int) := of_decide_eq_true (by first | (with_reducible assumption) | assumption)
          have hx11 := bt_at a0 x5_2
          replace p11 := eq_true p11
          replace q11 := eq_true q11
          have p13 : 0 ≤ (x5_2 : Int) := of_decide_eq_true (by first | (with_reducible assumption) | assumption)
          have q13 : x5_2 < (a0.size : Int) := of_decide_eq_true (by first | (with_reducible assumption) | assumption)
          have hx13 := bt_at a0 x5_2
          replace p13 := eq_true p13
          replace q13 := eq_true q13
          go_wp2
          go_ret2
          exact ⟨by first | rfl | (simp; done) | (simp [*]; done) | ((try simp only [Bool.not_not]); (generalize ByteArray.toList _ = l_); cases l_ <;> rfl) | (simp; (generalize ByteArray.toList _ = l_); cases l_ <;> rfl), by repeat (first | exact Drawn0.refl _ | apply Drawn0.step)⟩
         ·
          rw [if_neg c14] at H
          have c14b0 := decide_eq_false c14
          clear c14
          have H' := Aside0.mk H
          clear H
          have p11 : 0 ≤ (x5_2 : Int) := of_decide_eq_true (by first | (with_reducible assumption) | assumption)
          have q11 : x5_2 < (a0.size : Int) := of_decide_eq_true (by first | (with_reducible assumption) | assumption)
          have hx11 := bt_at a0 x5_2
          replace p11 := eq_true p11
          replace q11 := eq_true q11
          have p13 : 0 ≤ (x5_2 : Int) := of_decide_eq_true (by first | (with_reducible assumption) | assumption)
          have q13 : x5_2 < (a0.size : Int) := of_decide_eq_true (by first | (with_reducible assumption) | assumption)
          have hx13 := bt_at a0 x5_2
          replace p13 := eq_true p13
          replace q13 := eq_true q13
          have p15 : 0 ≤ (x5_2 : Int) := of_decide_eq_true (by first | (with_reducible assumption) | assumption)
          have q15 : x5_2 < (a0.size : Int) := of_decide_eq_true (by first | (with_reducible assumption) | assumption)
          have hx15 := bt_at a0 x5_2
          replace p15 := eq_true p15
          replace q15 := eq_true q15
          go_wp2
          go_roundg k2
          case measure => have := HJ1.out; have := HK2.out; omega
          case rel => exact ⟨(IntKind.u64.wrap ((IntKind.u64.wrap (x4_2 * 10)) + (((bt a0 x5_2) - 48) % 256))), (wrap64 (x5_2 + 1)), pT, pT, H', ⟨by have := HJ1.out; have := HK2.out; omega⟩, by repeat (first | exact Drawn0.refl _ | apply Drawn0.step)⟩
       ·
        rw [if_neg c10] at H
        exact absurd H (by simp)
      ·
       rw [if_neg c9] at H
       have c9b0 := decide_eq_false c9
       clear c9
       simp only [Option.some.injEq, Prod.mk.injEq] at H
       obtain ⟨rfl, rfl⟩ := H
       go_wp2
       go_ret2
       exact ⟨by first | rfl | (simp; done) | (simp [*]; done) | ((try simp only [Bool.not_not]); (generalize ByteArray.toList _ = l_); cases l_ <;> rfl) | (simp; (generalize ByteArray.toList _ = l_); cases l_ <;> rfl), by repeat (first | exact Drawn0.refl _ | apply Drawn0.step)⟩

/-! ### ddiref02_four: function 68 -/
mutual
def ddiref02_four.l0 : Nat → ByteArray → Int → Int → Int → Int → Option (Bool × Int × Int × Int)
 | 0, _, _, _, _, _ => none
 | k + 1, x0, x4, x5, x6, x7 => if x7 ≤ (x0.size : Int) then (if x7 < (x0.size : Int) then (if 0 ≤ x7 then (ddiref02_four.j1 k x0 x4 x5 x6 x7 ((bt x0 x7) != 46)) else (none)) else (ddiref02_four.j1 k x0 x4 x5 x6 x7 false)) else (if x5 = 4 then (some (false, 0, x4, 0)) else (some (false, 0, 0, 3)))
def ddiref02_four.j1 : Nat → ByteArray → Int → Int → Int → Int → Bool → Option (Bool × Int × Int × Int)
 | 0, _, _, _, _, _, _ => none
 | k + 1, x0, x4, x5, x6, x7, x25 => if x25 = true then (ddiref02_four.l0 k x0 x4 x5 x6 (wrap64 (x7 + 1))) else (if 0 ≤ x6 then (if x6 ≤ x7 then (if x7 ≤ (x0.size : Int) then ((ddiref02_number.f k (x0.extract (x6 : Int).toNat (x7 : Int).toNat)).bind fun bt154 => (if bt154.2 = true then (if x5 = 4 then (some (false, 0, 0, 3)) else (ddiref02_four.l0 k x0 (IntKind.u64.wrap ((IntKind.u64.wrap (x4 * 256)) + bt154.1)) (wrap64 (x5 + 1)) (wrap64 (x7 + 1)) (wrap64 (x7 + 1)))) else (some (false, 0, 0, 3)))) else (none)) else (none)) else (none))
end
def ddiref02_four.f (k : Nat) (a0 : ByteArray) : Option (Bool × Int × Int × Int) := ddiref02_four.l0 k a0 0 0 0 0
theorem ddiref02_four.mono_l : ∀ k, (∀ y0 y1 y2 y3 y4, LeO (ddiref02_four.l0 k y0 y1 y2 y3 y4) (ddiref02_four.l0 (k + 1) y0 y1 y2 y3 y4)) ∧ (∀ y0 y1 y2 y3 y4 y5, LeO (ddiref02_four.j1 k y0 y1 y2 y3 y4 y5) (ddiref02_four.j1 (k + 1) y0 y1 y2 y3 y4 y5))
 | 0 => ⟨fun _ _ _ _ _ r h => by simp [ddiref02_four.l0] at h, fun _ _ _ _ _ _ r h => by simp [ddiref02_four.j1] at h⟩
 | k + 1 => by
  obtain ⟨ih0, ih1⟩ := ddiref02_four.mono_l k
  refine ⟨?_, ?_⟩
  ·
   intro y0 y1 y2 y3 y4
   unfold ddiref02_four.l0
   repeat' with_reducible first | exact ih0 _ _ _ _ _ | exact ih1 _ _ _ _ _ _ | exact ddiref02_number.mono _ _ | exact LeO.refl _ | exact LeO.none _ | refine LeO.ite ?_ ?_ | refine LeO.bind ?_ (fun _ => ?_)
  ·
   intro y0 y1 y2 y3 y4 y5
   unfold ddiref02_four.j1
   repeat' with_reducible first | exact ih0 _ _ _ _ _ | exact ih1 _ _ _ _ _ _ | exact ddiref02_number.mono _ _ | exact LeO.refl _ | exact LeO.none _ | refine LeO.ite ?_ ?_ | refine LeO.bind ?_ (fun _ => ?_)
theorem ddiref02_four.mono : ∀ a0 k, LeO (ddiref02_four.f k a0) (ddiref02_four.f (k + 1) a0) := by
 intro a0 k
 obtain ⟨ih0, ih1⟩ := ddiref02_four.mono_l k
 unfold ddiref02_four.f
 repeat' with_reducible first | exact ih0 _ _ _ _ _ | exact ih1 _ _ _ _ _ _ | exact ddiref02_number.mono _ _ | exact LeO.refl _ | exact LeO.none _ | refine LeO.ite ?_ ?_ | refine LeO.bind ?_ (fun _ => ?_)
set_option maxHeartbeats 40000000 in
set_option maxRecDepth 100000 in
theorem ddiref02_four.calls (k : Nat) (a0 : ByteArray) (r1 : Bool) (r2 : Int) (r3 : Int) (r4 : Int) (w : World) (h : ddiref02_four.f k a0 = some (r1, r2, r3, r4)) :
 Calls Tryz.prog 68 #[.string a0] w fun e w' => e = .returned (.tuple #[.agg #[.bool r1, .int .u64 r2, .int .u64 r3], .int .i64 r4]) ∧ Below w.heap.size w w' := by
 have hu24 := Tryz.underlying24
 have HB := Aside0.mk (Below.refl w.heap.size w)
 have H : (ddiref02_four.l0 k a0 0 0 0 0) = some (r1, r2, r3, r4) := h
 clear h
 have H' := Aside0.mk H
 clear H
 go_enter Tryz.func68, Tryz.ntmps68
 go_wp2_with (first | ((with_reducible refine gate_dst (N := 2) rfl ?_); refine boxA (N := 2) (cs := #[.bool false, .int .u64 0, .int .u64 0]) (t := 24) ?_; intro gb153 hg w2 hbox hb; have BK153 := Aside0.mk (hbox); have GE153 := (pZ HB hg); replace HB := (pS HB hb); clear hb hbox hg))
 go_loopg [4, 5, 6, 7] k (fun kq v4 v5 v6 v7 w' => ∃ (x4_1 : Int) (x5_1 : Int) (x6_1 : Int) (x7_1 : Int) (x154000_1 : Bool) (x154001_1 : Int) (x154002_1 : Int), v4 = .int .u64 x4_1 ∧ v5 = .int .i64 x5_1 ∧ v6 = .int .i64 x6_1 ∧ v7 = .int .i64 x7_1 ∧ Aside0 (ddiref02_four.l0 kq a0 x4_1 x5_1 x6_1 x7_1 = some (r1, r2, r3, r4)) ∧ Aside0 (kq ≤ k) ∧ Aside0 (w'.heap[gb153]? = some (.cells #[.bool x154000_1, .int .u64 x154001_1, .int .u64 x154002_1] 24 (0, 0))) ∧ Aside0 (Below w.heap.size w w'))
 case atStart => exact ⟨(0), (0), (0), (0), (false), (0), (0), pT, pT, pT, pT, H', ⟨Nat.le_refl _⟩, ⟨pM BK153⟩, ⟨pE HB⟩⟩
 case round =>
  clear H'
  obtain ⟨x4_1, x5_1, x6_1, x7_1, x154000_1, x154001_1, x154002_1, rfl, rfl, rfl, rfl, HA, HK1, BK153, HB⟩ := hrel
  cases gk with
  | zero => exact absurd HA.out (by simp [ddiref02_four.l0])
  | succ k1 =>
   have H := HA.out
   clear HA
   simp only [ddiref02_four.l0] at H
   by_cases c3 : x7_1 ≤ (a0.size : Int)
   ·
    rw [if_pos c3] at H
    have c3b0 := decide_eq_true c3
    clear c3
    have HC4 := Aside0.mk H
    clear H
    go_upto_region 7 with (fail)
    go_cut [25] (fun v25 wc => ∃ (kq : Nat) (x25_3 : Bool), v25 = .bool x25_3 ∧ Aside0 (ddiref02_four.j1 kq a0 x4_1 x5_1 x6_1 x7_1 x25_3 = some (r1, r2, r3, r4)) ∧ Aside0 (kq ≤ k1) ∧ Aside0 (wc.heap[gb153]? = some (.cells #[.bool x154000_1, .int .u64 x154001_1, .int .u64 x154002_1] 24 (0, 0))) ∧ Aside0 (Below w.heap.size w wc))
    case first =>
     have H := HC4.out
     clear HC4
     by_cases c5 : x7_1 < (a0.size : Int)
     ·
      rw [if_pos c5] at H
      have c5b0 := decide_eq_true c5
      clear c5
      (first | rw [c5b0] | (simp only [i64_w, i32_w]; rw [c5b0]) | skip)
      by_cases c6 : 0 ≤ x7_1
      ·
       rw [if_pos c6] at H
       have c6b0 := decide_eq_true c6
       clear c6
       have H' := Aside0.mk H
       clear H
       have p7 : 0 ≤ (x7_1 : Int) := of_decide_eq_true (by first | (with_reducible assumption) | assumption)
       have q7 : x7_1 < (a0.size : Int) := of_decide_eq_true (by first | (with_reducible assumption) | assumption)
       have hx7 := bt_at a0 x7_1
       replace p7 := eq_true p7
       replace q7 := eq_true q7
       go_wp2
       refine Met.intro ?_
       go_step
       (repeat apply Exists.intro)
       refine ⟨?rel, ?heq_⟩
       case heq_ => first | rfl | (rw [c5b0]) | (simp only [c5b0])
       case rel => exact ⟨_, (((bt a0 x7_1) != 46)), pT, H', ⟨by have := HK1.out; first | omega | exact Nat.le_refl _⟩, ⟨pM BK153⟩, ⟨pE HB⟩⟩
      ·
       rw [if_neg c6] at H
       exact absurd H (by simp)
     ·
      rw [if_neg c5] at H
      have c5b0 := decide_eq_false c5
      clear c5
      (first | rw [c5b0] | (simp only [i64_w, i32_w]; rw [c5b0]) | skip)
      have H' := Aside0.mk H
      clear H
      go_wp2
      refine Met.intro ?_
      go_step
      (repeat apply Exists.intro)
      refine ⟨?rel, ?heq_⟩
      case heq_ => first | rfl | (rw [c5b0]) | (simp only [c5b0])
      case rel => exact ⟨_, (false), pT, H', ⟨by have := HK1.out; first | omega | exact Nat.le_refl _⟩, ⟨pM BK153⟩, ⟨pE HB⟩⟩
    case rest =>
     clear HC4
     try clear c3
     try clear c3b0
     obtain ⟨kq, x25_3, rfl, HA, HJ3, BK153, HB⟩ := hcut
     cases kq with
     | zero => exact absurd HA.out (by simp [ddiref02_four.j1])
     | succ kj3 =>
      have H := HA.out
      clear HA
      simp only [ddiref02_four.j1] at H
      by_cases c8 : x25_3 = true
      ·
       subst c8
       have H1 : (ddiref02_four.l0 kj3 a0 x4_1 x5_1 x6_1 (wrap64 (x7_1 + 1))) = some (r1, r2, r3, r4) := by rw [if_pos rfl] at H; exact H
       clear H
       have H := H1
       clear H1
       have H' := Aside0.mk H
       clear H
       go_wp2
       go_roundg kj3
       case measure => have := HK1.out; have := HJ3.out; omega
       case rel => exact ⟨(x4_1), (x5_1), (x6_1), (wrap64 (x7_1 + 1)), (x154000_1), (x154001_1), (x154002_1), pT, pT, pT, pT, H', ⟨by have := HK1.out; have := HJ3.out; omega⟩, ⟨pM BK153⟩, ⟨pE HB⟩⟩
      ·
       replace c8 := Bool.eq_false_iff.mpr c8
       subst c8
       rw [if_neg (show ¬ (false = true) by decide)] at H
       by_cases c9 : 0 ≤ x6_1
       ·
        rw [if_pos c9] at H
        have c9b0 := eq_true c9
        have c9b1 := decide_eq_true c9
        clear c9
        by_cases c10 : x6_1 ≤ x7_1
        ·
         rw [if_pos c10] at H
         have c10b0 := eq_true c10
         have c10b1 := decide_eq_true c10
         clear c10
         by_cases c11 : x7_1 ≤ (a0.size : Int)
         ·
          rw [if_pos c11] at H
          have c11b0 := eq_true c11
          have c11b1 := decide_eq_true c11
          clear c11
          replace H := Option.bind_eq_some_iff.mp H
          obtain ⟨⟨t154, t155⟩, A120, H⟩ := H
          replace H : (if t155 = true then (if x5_1 = 4 then (some (false, 0, 0, 3)) else (ddiref02_four.l0 kj3 a0 (IntKind.u64.wrap ((IntKind.u64.wrap (x4_1 * 256)) + t154)) (wrap64 (x5_1 + 1)) (wrap64 (x7_1 + 1)) (wrap64 (x7_1 + 1)))) else (some (false, 0, 0, 3))) = some (r1, r2, r3, r4) := H
          have A12 := Aside0.mk A120
          clear A120
          by_cases c13 : t155 = true
          ·
           subst c13
           have H1 : (if x5_1 = 4 then (some (false, 0, 0, 3)) else (ddiref02_four.l0 kj3 a0 (IntKind.u64.wrap ((IntKind.u64.wrap (x4_1 * 256)) + t154)) (wrap64 (x5_1 + 1)) (wrap64 (x7_1 + 1)) (wrap64 (x7_1 + 1)))) = some (r1, r2, r3, r4) := by rw [if_pos rfl] at H; exact H
           clear H
           have H := H1
           clear H1
           by_cases c14 : x5_1 = 4
           ·
            rw [if_pos c14] at H
            have c14b0 : (x5_1 == 4) = true := beq_iff_eq.mpr c14
            have c14b1 : (x5_1 != 4) = false := bne_eq_false_iff_eq.mpr c14
            clear c14
            simp only [Option.some.injEq, Prod.mk.injEq] at H
            obtain ⟨rfl, rfl, rfl, rfl⟩ := H
            go_wp2_with (first | ((with_reducible refine gate_callee (f := 97) rfl ?_); refine goesA (some 31) Tryz.func97 #[.string (a0.extract (x6_1 : Int).toNat (x7_1 : Int).toNat)] ?_; (with_reducible refine (ddiref02_number.calls kj3 (a0.extract (x6_1 : Int).toNat (x7_1 : Int).toNat) t154 true _ A12.out).mono ?_); rintro e w' ⟨rfl, ⟨nd, rfl⟩⟩; refine ⟨_, rfl, ?_⟩; (try (rw [drewN_self wc]; generalize hq_ : World.drewN wc _ = wc; replace BK153 : Aside0 (wc.heap[gb153]? = some (.cells #[.bool x154000_1, .int .u64 x154001_1, .int .u64 x154002_1] 24 (0, 0))) := ⟨by rw [← hq_]; exact (pM BK153)⟩; replace HB : Aside0 (Below w.heap.size w wc) := ⟨by rw [← hq_]; exact (by repeat (first | (with_reducible first | exact HB.out | apply below_alloc | apply pw_below_drewN | apply below_drew1 | refine below_set ?_ GE153.out) | exact HB.out))⟩; clear hq_)); obtain ⟨hcz15_0, hcz15_1, hcz15_2, hfz15_0, hfz15_1, hfz15_2⟩ := pC3 BK153))
            refine bodyPost_ret (results_ct rfl _ _ gb153 24 #[.bool false, .int .u64 0, .int .u64 0] (0, 0) _ rfl (pP (pP (pP (pM BK153)))) Tryz.underlying24 rfl (by kernel_rfl)) rfl ?_
            exact pR (pE HB)
           ·
            rw [if_neg c14] at H
            have c14b0 : (x5_1 == 4) = false := beq_eq_false_iff_ne.mpr c14
            have c14b1 : (x5_1 != 4) = true := bne_iff_ne.mpr c14
            have H' := Aside0.mk H
            clear H
            go_wp2_with (first | ((with_reducible refine gate_callee (f := 97) rfl ?_); refine goesA (some 31) Tryz.func97 #[.string (a0.extract (x6_1 : Int).toNat (x7_1 : Int).toNat)] ?_; (with_reducible refine (ddiref02_number.calls kj3 (a0.extract (x6_1 : Int).toNat (x7_1 : Int).toNat) t154 true _ A12.out).mono ?_); rintro e w' ⟨rfl, ⟨nd, rfl⟩⟩; refine ⟨_, rfl, ?_⟩))
            go_roundg kj3
            case measure => have := HK1.out; have := HJ3.out; omega
            case rel => exact ⟨(IntKind.u64.wrap ((IntKind.u64.wrap (x4_1 * 256)) + t154)), (wrap64 (x5_1 + 1)), (wrap64 (x7_1 + 1)), (wrap64 (x7_1 + 1)), (x154000_1), (x154001_1), (x154002_1), pT, pT, pT, pT, H', ⟨by have := HK1.out; have := HJ3.out; omega⟩, ⟨pM BK153⟩, ⟨pE HB⟩⟩
          ·
           replace c13 := Bool.eq_false_iff.mpr c13
           subst c13
           rw [if_neg (show ¬ (false = true) by decide)] at H
           simp only [Option.some.injEq, Prod.mk.injEq] at H
           obtain ⟨rfl, rfl, rfl, rfl⟩ := H
           go_wp2_with (first | ((with_reducible refine gate_callee (f := 97) rfl ?_); refine goesA (some 31) Tryz.func97 #[.string (a0.extract (x6_1 : Int).toNat (x7_1 : Int).toNat)] ?_; (with_reducible refine (ddiref02_number.calls kj3 (a0.extract (x6_1 : Int).toNat (x7_1 : Int).toNat) t154 false _ A12.out).mono ?_); rintro e w' ⟨rfl, ⟨nd, rfl⟩⟩; refine ⟨_, rfl, ?_⟩; (try (rw [drewN_self wc]; generalize hq_ : World.drewN wc _ = wc; replace BK153 : Aside0 (wc.heap[gb153]? = some (.cells #[.bool x154000_1, .int .u64 x154001_1, .int .u64 x154002_1] 24 (0, 0))) := ⟨by rw [← hq_]; exact (pM BK153)⟩; replace HB : Aside0 (Below w.heap.size w wc) := ⟨by rw [← hq_]; exact (by repeat (first | (with_reducible first | exact HB.out | apply below_alloc | apply pw_below_drewN | apply below_drew1 | refine below_set ?_ GE153.out) | exact HB.out))⟩; clear hq_)); obtain ⟨hcz16_0, hcz16_1, hcz16_2, hfz16_0, hfz16_1, hfz16_2⟩ := pC3 BK153))
           refine bodyPost_ret (results_ct rfl _ _ gb153 24 #[.bool false, .int .u64 0, .int .u64 0] (0, 0) _ rfl (pP (pP (pP (pM BK153)))) Tryz.underlying24 rfl (by kernel_rfl)) rfl ?_
           exact pR (pE HB)
         ·
          rw [if_neg c11] at H
          exact absurd H (by simp)
        ·
         rw [if_neg c10] at H
         exact absurd H (by simp)
       ·
        rw [if_neg c9] at H
        exact absurd H (by simp)
   ·
    rw [if_neg c3] at H
    have c3b0 := decide_eq_false c3
    clear c3
    by_cases c17 : x5_1 = 4
    ·
     rw [if_pos c17] at H
     have c17b0 : (x5_1 == 4) = true := beq_iff_eq.mpr c17
     have c17b1 : (x5_1 != 4) = false := bne_eq_false_iff_eq.mpr c17
     clear c17
     simp only [Option.some.injEq, Prod.mk.injEq] at H
     obtain ⟨rfl, rfl, rfl, rfl⟩ := H
     obtain ⟨hcz18_0, hcz18_1, hcz18_2, hfz18_0, hfz18_1, hfz18_2⟩ := pC3 BK153
     go_wp2
     refine bodyPost_ret (results_ct rfl _ _ gb153 24 #[.bool false, .int .u64 0, .int .u64 x4_1] (0, 0) _ rfl (pP (pP (pP (pM BK153)))) Tryz.underlying24 rfl (by kernel_rfl)) rfl ?_
     exact pR (pE HB)
    ·
     rw [if_neg c17] at H
     have c17b0 : (x5_1 == 4) = false := beq_eq_false_iff_ne.mpr c17
     have c17b1 : (x5_1 != 4) = true := bne_iff_ne.mpr c17
     simp only [Option.some.injEq, Prod.mk.injEq] at H
     obtain ⟨rfl, rfl, rfl, rfl⟩ := H
     obtain ⟨hcz19_0, hcz19_1, hcz19_2, hfz19_0, hfz19_1, hfz19_2⟩ := pC3 BK153
     go_wp2
     refine bodyPost_ret (results_ct rfl _ _ gb153 24 #[.bool false, .int .u64 0, .int .u64 0] (0, 0) _ rfl (pP (pP (pP (pM BK153)))) Tryz.underlying24 rfl (by kernel_rfl)) rfl ?_
     exact pR (pE HB)

/-! ### ddiref02_Parse: function 40 -/
def ddiref02_Parse.l0 : Nat → ByteArray → Int → Option (Bool × Int × Int × Int)
 | 0, _, _ => none
 | k + 1, x0, x4 => if x4 < (x0.size : Int) then (if 0 ≤ x4 then (if (bt x0 x4) = 58 then ((ddiref02_six.f k x0).bind fun bt157 => (some (bt157.1, bt157.2.1, bt157.2.2.1, bt157.2.2.2))) else (ddiref02_Parse.l0 k x0 (wrap64 (x4 + 1)))) else (none)) else ((ddiref02_four.f k x0).bind fun bt161 => (some (bt161.1, bt161.2.1, bt161.2.2.1, bt161.2.2.2)))
def ddiref02_Parse.f (k : Nat) (a0 : ByteArray) : Option (Bool × Int × Int × Int) := if (a0.size : Int) > 39 then (some (false, 0, 0, 3)) else (ddiref02_Parse.l0 k a0 0)
theorem ddiref02_Parse.mono_l : ∀ k, (∀ y0 y1, LeO (ddiref02_Parse.l0 k y0 y1) (ddiref02_Parse.l0 (k + 1) y0 y1))
 | 0 => fun _ _ r h => by simp [ddiref02_Parse.l0] at h
 | k + 1 => by
  have ih0 := ddiref02_Parse.mono_l k
  ·
   intro y0 y1
   unfold ddiref02_Parse.l0
   repeat' with_reducible first | exact ih0 _ _ | exact ddiref02_four.mono _ _ | exact ddiref02_six.mono _ _ | exact LeO.refl _ | exact LeO.none _ | refine LeO.ite ?_ ?_ | refine LeO.bind ?_ (fun _ => ?_)
theorem ddiref02_Parse.mono : ∀ a0 k, LeO (ddiref02_Parse.f k a0) (ddiref02_Parse.f (k + 1) a0) := by
 intro a0 k
 have ih0 := ddiref02_Parse.mono_l k
 unfold ddiref02_Parse.f
 repeat' with_reducible first | exact ih0 _ _ | exact ddiref02_four.mono _ _ | exact ddiref02_six.mono _ _ | exact LeO.refl _ | exact LeO.none _ | refine LeO.ite ?_ ?_ | refine LeO.bind ?_ (fun _ => ?_)
set_option maxHeartbeats 40000000 in
set_option maxRecDepth 100000 in
theorem ddiref02_Parse.calls (k : Nat) (a0 : ByteArray) (r1 : Bool) (r2 : Int) (r3 : Int) (r4 : Int) (w : World) (h : ddiref02_Parse.f k a0 = some (r1, r2, r3, r4)) :
 Calls Tryz.prog 40 #[.string a0] w fun e w' => e = .returned (.tuple #[.agg #[.bool r1, .int .u64 r2, .int .u64 r3], .int .i64 r4]) ∧ Below w.heap.size w w' := by
 have hu24 := Tryz.underlying24
 have HB := Aside0.mk (Below.refl w.heap.size w)
 have H : (if (a0.size : Int) > 39 then (some (false, 0, 0, 3)) else (ddiref02_Parse.l0 k a0 0)) = some (r1, r2, r3, r4) := h
 clear h
 by_cases c2 : (a0.size : Int) > 39
 ·
  rw [if_pos c2] at H
  have c2b0 := decide_eq_true c2
  have c2b1 : decide (39 < a0.size) = true := decide_eq_true (by omega)
  clear c2
  simp only [Option.some.injEq, Prod.mk.injEq] at H
  obtain ⟨rfl, rfl, rfl, rfl⟩ := H
  go_enter Tryz.func40, Tryz.ntmps40
  go_wp2_with (first | ((with_reducible refine gate_dst (N := 2) rfl ?_); refine boxA (N := 2) (cs := #[.bool false, .int .u64 0, .int .u64 0]) (t := 24) ?_; intro gb156 hg w3 hbox hb; have BK156 := Aside0.mk (hbox); have GW156 := (pZ HB hg); have GE156 := (pZ HB hg); replace HB := (pS HB hb); clear hb hbox hg; obtain ⟨hcz4_0, hcz4_1, hcz4_2, hfz4_0, hfz4_1, hfz4_2⟩ := pC3 BK156))
  refine bodyPost_ret (results_ct rfl _ _ gb156 24 #[.bool false, .int .u64 0, .int .u64 0] (0, 0) _ rfl (pP (pP (pP (pM BK156)))) Tryz.underlying24 rfl (by kernel_rfl)) rfl ?_
  exact pR (pE HB)
 ·
  rw [if_neg c2] at H
  have c2b0 := decide_eq_false c2
  have c2b1 : decide (39 < a0.size) = false := decide_eq_false (by omega)
  clear c2
  have H' := Aside0.mk H
  clear H
  go_enter Tryz.func40, Tryz.ntmps40
  go_wp2_with (first | ((with_reducible refine gate_dst (N := 2) rfl ?_); refine boxA (N := 2) (cs := #[.bool false, .int .u64 0, .int .u64 0]) (t := 24) ?_; intro gb156 hg w5 hbox hb; have BK156 := Aside0.mk (hbox); have GW156 := (pZ HB hg); have GE156 := (pZ HB hg); replace HB := (pS HB hb); clear hb hbox hg))
  go_loopg [4] k (fun kq v4 w' => ∃ (x4_1 : Int) (x157000_1 : Bool) (x157001_1 : Int) (x157002_1 : Int), v4 = .int .i64 x4_1 ∧ Aside0 (ddiref02_Parse.l0 kq a0 x4_1 = some (r1, r2, r3, r4)) ∧ Aside0 (kq ≤ k) ∧ Aside0 (w'.heap[gb156]? = some (.cells #[.bool x157000_1, .int .u64 x157001_1, .int .u64 x157002_1] 24 (0, 0))) ∧ Aside0 (Below w.heap.size w w'))
  case atStart => exact ⟨(0), (false), (0), (0), pT, H', ⟨Nat.le_refl _⟩, ⟨pM BK156⟩, ⟨pE HB⟩⟩
  case round =>
   clear H'
   try clear c2
   try clear c2b0
   try clear c2b1
   obtain ⟨x4_1, x157000_1, x157001_1, x157002_1, rfl, HA, HK1, BK156, HB⟩ := hrel
   cases gk with
   | zero => exact absurd HA.out (by simp [ddiref02_Parse.l0])
   | succ k1 =>
    have H := HA.out
    clear HA
    simp only [ddiref02_Parse.l0] at H
    by_cases c6 : x4_1 < (a0.size : Int)
    ·
     rw [if_pos c6] at H
     have c6b0 := decide_eq_true c6
     clear c6
     by_cases c7 : 0 ≤ x4_1
     ·
      rw [if_pos c7] at H
      have c7b0 := decide_eq_true c7
      clear c7
      by_cases c9 : (bt a0 x4_1) = 58
      ·
       rw [if_pos c9] at H
       have c9b0 : ((bt a0 x4_1) == 58) = true := beq_iff_eq.mpr c9
       have c9b1 : ((bt a0 x4_1) != 58) = false := bne_eq_false_iff_eq.mpr c9
       clear c9
       replace H := Option.bind_eq_some_iff.mp H
       obtain ⟨⟨t157, t158, t159, t160⟩, A100, H⟩ := H
       replace H : (some (t157, t158, t159, t160)) = some (r1, r2, r3, r4) := H
       have A10 := Aside0.mk A100
       clear A100
       simp only [Option.some.injEq, Prod.mk.injEq] at H
       obtain ⟨rfl, rfl, rfl, rfl⟩ := H
       have p8 : 0 ≤ (x4_1 : Int) := of_decide_eq_true (by first | (with_reducible assumption) | assumption)
       have q8 : x4_1 < (a0.size : Int) := of_decide_eq_true (by first | (with_reducible assumption) | assumption)
       have hx8 := bt_at a0 x4_1
       replace p8 := eq_true p8
       replace q8 := eq_true q8
       go_wp2_with (first | ((with_reducible refine gate_callee (f := 67) rfl ?_); refine goesA (some 20) Tryz.func67 #[.string a0] ?_; (with_reducible refine (ddiref02_six.calls k1 a0 t157 t158 t159 t160 _ A10.out).mono ?_); rintro e w11 ⟨rfl, hb⟩; refine ⟨_, rfl, ?_⟩; replace BK156 := (pB BK156 hb); replace HB := (pS HB hb); (try clear hb); obtain ⟨hcz12_0, hcz12_1, hcz12_2, hfz12_0, hfz12_1, hfz12_2⟩ := pC3 BK156))
       refine bodyPost_ret (results_ct rfl _ _ gb156 24 #[.bool t157, .int .u64 t158, .int .u64 t159] (0, 0) _ rfl (pP (pP (pP (pM BK156)))) Tryz.underlying24 rfl (by kernel_rfl)) rfl ?_
       exact pR (pE HB)
      ·
       rw [if_neg c9] at H
       have c9b0 : ((bt a0 x4_1) == 58) = false := beq_eq_false_iff_ne.mpr c9
       have c9b1 : ((bt a0 x4_1) != 58) = true := bne_iff_ne.mpr c9
       have H' := Aside0.mk H
       clear H
       have p8 : 0 ≤ (x4_1 : Int) := of_decide_eq_true (by first | (with_reducible assumption) | assumption)
       have q8 : x4_1 < (a0.size : Int) := of_decide_eq_true (by first | (with_reducible assumption) | assumption)
       have hx8 := bt_at a0 x4_1
       replace p8 := eq_true p8
       replace q8 := eq_true q8
       go_wp2
       go_roundg k1
       case measure => have := HK1.out; omega
       case rel => exact ⟨(wrap64 (x4_1 + 1)), (x157000_1), (x157001_1), (x157002_1), pT, H', ⟨by have := HK1.out; omega⟩, ⟨pM BK156⟩, ⟨pE HB⟩⟩
     ·
      rw [if_neg c7] at H
      exact absurd H (by simp)
    ·
     rw [if_neg c6] at H
     have c6b0 := decide_eq_false c6
     clear c6
     replace H := Option.bind_eq_some_iff.mp H
     obtain ⟨⟨t161, t162, t163, t164⟩, A130, H⟩ := H
     replace H : (some (t161, t162, t163, t164)) = some (r1, r2, r3, r4) := H
     have A13 := Aside0.mk A130
     clear A130
     simp only [Option.some.injEq, Prod.mk.injEq] at H
     obtain ⟨rfl, rfl, rfl, rfl⟩ := H
     go_wp2_with (first | ((with_reducible refine gate_callee (f := 68) rfl ?_); refine goesA (some 24) Tryz.func68 #[.string a0] ?_; (with_reducible refine (ddiref02_four.calls k1 a0 t161 t162 t163 t164 _ A13.out).mono ?_); rintro e w14 ⟨rfl, hb⟩; refine ⟨_, rfl, ?_⟩; replace BK156 := (pB BK156 hb); replace HB := (pS HB hb); (try clear hb); obtain ⟨hcz15_0, hcz15_1, hcz15_2, hfz15_0, hfz15_1, hfz15_2⟩ := pC3 BK156))
     refine bodyPost_ret (results_ct rfl _ _ gb156 24 #[.bool t161, .int .u64 t162, .int .u64 t163] (0, 0) _ rfl (pP (pP (pP (pM BK156)))) Tryz.underlying24 rfl (by kernel_rfl)) rfl ?_
     exact pR (pE HB)

/-! ### ddiref03_number: function 41 -/
mutual
def ddiref03_number.j0 : Nat → ByteArray → Bool → Option (Int × Bool)
 | 0, _, _ => none
 | k + 1, x0, x23 => if x23 = true then (some (0, false)) else (ddiref03_number.l0 k x0 0 0)
def ddiref03_number.l0 : Nat → ByteArray → Int → Int → Option (Int × Bool)
 | 0, _, _, _ => none
 | k + 1, x0, x4, x5 => if x5 < (x0.size : Int) then (if 0 ≤ x5 then (if (bt x0 x5) < 48 then (some (0, false)) else (if (bt x0 x5) > 57 then (some (0, false)) else (ddiref03_number.l0 k x0 (wrap64 ((wrap64 (10 * x4)) + (((bt x0 x5) - 48) % 256))) (wrap64 (x5 + 1))))) else (none)) else (some (x4, true))
end
def ddiref03_number.f (k : Nat) (a0 : ByteArray) : Option (Int × Bool) := if (a0.size : Int) < 1 then (ddiref03_number.j0 k a0 true) else (if (a0.size : Int) > 3 then (ddiref03_number.j0 k a0 true) else (if 0 < (a0.size : Int) then (if (bt a0 0) = 48 then (ddiref03_number.j0 k a0 (decide ((a0.size : Int) > 1))) else (ddiref03_number.j0 k a0 false)) else (none)))
theorem ddiref03_number.mono_l : ∀ k, (∀ y0 y1, LeO (ddiref03_number.j0 k y0 y1) (ddiref03_number.j0 (k + 1) y0 y1)) ∧ (∀ y0 y1 y2, LeO (ddiref03_number.l0 k y0 y1 y2) (ddiref03_number.l0 (k + 1) y0 y1 y2))
 | 0 => ⟨fun _ _ r h => by simp [ddiref03_number.j0] at h, fun _ _ _ r h => by simp [ddiref03_number.l0] at h⟩
 | k + 1 => by
  obtain ⟨ih0, ih1⟩ := ddiref03_number.mono_l k
  refine ⟨?_, ?_⟩
  ·
   intro y0 y1
   unfold ddiref03_number.j0
   repeat' with_reducible first | exact ih0 _ _ | exact ih1 _ _ _ | exact LeO.refl _ | exact LeO.none _ | refine LeO.ite ?_ ?_ | refine LeO.bind ?_ (fun _ => ?_)
  ·
   intro y0 y1 y2
   unfold ddiref03_number.l0
   repeat' with_reducible first | exact ih0 _ _ | exact ih1 _ _ _ | exact LeO.refl _ | exact LeO.none _ | refine LeO.ite ?_ ?_ | refine LeO.bind ?_ (fun _ => ?_)
theorem ddiref03_number.mono : ∀ a0 k, LeO (ddiref03_number.f k a0) (ddiref03_number.f (k + 1) a0) := by
 intro a0 k
 obtain ⟨ih0, ih1⟩ := ddiref03_number.mono_l k
 unfold ddiref03_number.f
 repeat' with_reducible first | exact ih0 _ _ | exact ih1 _ _ _ | exact LeO.refl _ | exact LeO.none _ | refine LeO.ite ?_ ?_ | refine LeO.bind ?_ (fun _ => ?_)
set_option maxHeartbeats 40000000 in
set_option maxRecDepth 100000 in
theorem ddiref03_number.calls (k : Nat) (a0 : ByteArray) (r1 : Int) (r2 : Bool) (w : World) (h : ddiref03_number.f k a0 = some (r1, r2)) :
 Calls Tryz.prog 41 #[.string a0] w fun e w' => e = .returned (.tuple #[.int .i64 r1, .bool r2]) ∧ Drawn0 w w' := by
 have H : (if (a0.size : Int) < 1 then (ddiref03_number.j0 k a0 true) else (if (a0.size : Int) > 3 then (ddiref03_number.j0 k a0 true) else (if 0 < (a0.size : Int) then (if (bt a0 0) = 48 then (ddiref03_number.j0 k a0 (decide ((a0.size : Int) > 1))) else (ddiref03_number.j0 k a0 false)) else (none)))) = some (r1, r2) := h
 clear h
 have HC2 := Aside0.mk H
 clear H
 go_enter Tryz.func41, Tryz.ntmps41
 go_upto_region 1 with (fail)
 go_cut [23] (fun v23 wc => ∃ (kq : Nat) (x23_1 : Bool), v23 = .bool x23_1 ∧ Aside0 (ddiref03_number.j0 kq a0 x23_1 = some (r1, r2)) ∧ Aside0 (kq ≤ k) ∧ Drawn0 w wc)
 case first =>
  have H := HC2.out
  clear HC2
  by_cases c3 : (a0.size : Int) < 1
  ·
   rw [if_pos c3] at H
   have c3b0 := decide_eq_true c3
   have c3b1 : decide (a0.size < 1) = true := decide_eq_true (by omega)
   clear c3
   (first | rw [c3b0] | (simp only [i64_w, i32_w]; rw [c3b0]) | skip)
   have H' := Aside0.mk H
   clear H
   go_wp2
   refine Met.intro ?_
   go_step
   (repeat apply Exists.intro)
   refine ⟨?rel, ?heq_⟩
   case heq_ => first | rfl | (rw [c3b0]) | (simp only [c3b0])
   case rel => exact ⟨_, (true), pT, H', ⟨by first | omega | exact Nat.le_refl _⟩, by repeat (first | exact Drawn0.refl _ | apply Drawn0.step)⟩
  ·
   rw [if_neg c3] at H
   have c3b0 := decide_eq_false c3
   have c3b1 : decide (a0.size < 1) = false := decide_eq_false (by omega)
   clear c3
   (first | rw [c3b0] | (simp only [i64_w, i32_w]; rw [c3b0]) | skip)
   by_cases c4 : (a0.size : Int) > 3
   ·
    rw [if_pos c4] at H
    have c4b0 := decide_eq_true c4
    have c4b1 : decide (3 < a0.size) = true := decide_eq_true (by omega)
    clear c4
    have H' := Aside0.mk H
    clear H
    go_wp2
    refine Met.intro ?_
    go_step
    (repeat apply Exists.intro)
    refine ⟨?rel, ?heq_⟩
    case heq_ => first | rfl | (rw [c3b0]) | (simp only [c3b0])
    case rel => exact ⟨_, (true), pT, H', ⟨by first | omega | exact Nat.le_refl _⟩, by repeat (first | exact Drawn0.refl _ | apply Drawn0.step)⟩
   ·
    rw [if_neg c4] at H
    have c4b0 := decide_eq_false c4
    have c4b1 : decide (3 < a0.size) = false := decide_eq_false (by omega)
    clear c4
    by_cases c5 : 0 < (a0.size : Int)
    ·
     rw [if_pos c5] at H
     have c5b0 := decide_eq_true c5
     have c5b1 : decide (0 < a0.size) = true := decide_eq_true (by omega)
     clear c5
     by_cases c7 : (bt a0 0) = 48
     ·
      rw [if_pos c7] at H
      have c7b0 : ((bt a0 0) == 48) = true := beq_iff_eq.mpr c7
      have c7b1 : ((bt a0 0) != 48) = false := bne_eq_false_iff_eq.mpr c7
      clear c7
      have H' := Aside0.mk H
      clear H
      have p6 : 0 ≤ (0 : Int) := (by omega)
      have q6 : 0 < a0.size := (by have : (0 : Int) < (a0.size : Int) := of_decide_eq_true (by first | (with_reducible assumption) | assumption); omega)
      have hx6 : ∀ h : 0 < a0.size, ((a0[0]'h).toNat : Int) = bt a0 0 := bt_at a0 0
      clear p6
      have qi6 : (0 < (a0.size : Int)) = True := eq_true (of_decide_eq_true (by first | (with_reducible assumption) | assumption))
      replace q6 := eq_true q6
      go_wp2
      refine Met.intro ?_
      go_step
      (repeat apply Exists.intro)
      refine ⟨?rel, ?heq_⟩
      case heq_ => first | rfl | (rw [c3b0]) | (simp only [c3b0])
      case rel => exact ⟨_, (decide ((a0.size : Int) > 1)), pT, H', ⟨by first | omega | exact Nat.le_refl _⟩, by repeat (first | exact Drawn0.refl _ | apply Drawn0.step)⟩
     ·
      rw [if_neg c7] at H
      have c7b0 : ((bt a0 0) == 48) = false := beq_eq_false_iff_ne.mpr c7
      have c7b1 : ((bt a0 0) != 48) = true := bne_iff_ne.mpr c7
      have H' := Aside0.mk H
      clear H
      have p6 : 0 ≤ (0 : Int) := (by omega)
      have q6 : 0 < a0.size := (by have : (0 : Int) < (a0.size : Int) := of_decide_eq_true (by first | (with_reducible assumption) | assumption); omega)
      have hx6 : ∀ h : 0 < a0.size, ((a0[0]'h).toNat : Int) = bt a0 0 := bt_at a0 0
      clear p6
      have qi6 : (0 < (a0.size : Int)) = True := eq_true (of_decide_eq_true (by first | (with_reducible assumption) | assumption))
      replace q6 := eq_true q6
      go_wp2
      refine Met.intro ?_
      go_step
      (repeat apply Exists.intro)
      refine ⟨?rel, ?heq_⟩
      case heq_ => first | rfl | (rw [c3b0]) | (simp only [c3b0])
      case rel => exact ⟨_, (false), pT, H', ⟨by first | omega | exact Nat.le_refl _⟩, by repeat (first | exact Drawn0.refl _ | apply Drawn0.step)⟩
    ·
     rw [if_neg c5] at H
     exact absurd H (by simp)
 case rest =>
  clear HC2
  obtain ⟨kq, x23_1, rfl, HA, HJ1, ⟨mc1, rfl⟩⟩ := hcut
  cases kq with
  | zero => exact absurd HA.out (by simp [ddiref03_number.j0])
  | succ kj1 =>
   have H := HA.out
   clear HA
   simp only [ddiref03_number.j0] at H
   by_cases c8 : x23_1 = true
   ·
    subst c8
    have H1 : (some (0, false)) = some (r1, r2) := by rw [if_pos rfl] at H; exact H
    clear H
    have H := H1
    clear H1
    simp only [Option.some.injEq, Prod.mk.injEq] at H
    obtain ⟨rfl, rfl⟩ := H
    go_wp2
    go_ret2
    exact ⟨by first | rfl | (simp; done) | (simp [*]; done) | ((try simp only [Bool.not_not]); (generalize ByteArray.toList _ = l_); cases l_ <;> rfl) | (simp; (generalize ByteArray.toList _ = l_); cases l_ <;> rfl), by repeat (first | exact Drawn0.refl _ | apply Drawn0.step)⟩
   ·
    replace c8 := Bool.eq_false_iff.mpr c8
    subst c8
    rw [if_neg (show ¬ (false = true) by decide)] at H
    have H' := Aside0.mk H
    clear H
    go_wp2
    go_loopg [4, 5] kj1 (fun kq v4 v5 w' => ∃ (x4_2 : Int) (x5_2 : Int), v4 = .int .i64 x4_2 ∧ v5 = .int .i64 x5_2 ∧ Aside0 (ddiref03_number.l0 kq a0 x4_2 x5_2 = some (r1, r2)) ∧ Aside0 (kq ≤ kj1) ∧ Drawn0 w w')
    case atStart => exact ⟨(0), (0), pT, pT, H', ⟨Nat.le_refl _⟩, by repeat (first | exact Drawn0.refl _ | apply Drawn0.step)⟩
    case round =>
     clear H'
     try clear c8
     obtain ⟨x4_2, x5_2, rfl, rfl, HA, HK2, ⟨m2, rfl⟩⟩ := hrel
     cases gk with
     | zero => exact absurd HA.out (by simp [ddiref03_number.l0])
     | succ k2 =>
      have H := HA.out
      clear HA
      simp only [ddiref03_number.l0] at H
      by_cases c9 : x5_2 < (a0.size : Int)
      ·
       rw [if_pos c9] at H
       have c9b0 := decide_eq_true c9
       clear c9
       by_cases c10 : 0 ≤ x5_2
       ·
        rw [if_pos c10] at H
        have c10b0 := decide_eq_true c10
        clear c10
        by_cases c12 : (bt a0 x5_2) < 48
        ·
         rw [if_pos c12] at H
         have c12b0 := decide_eq_true c12
         clear c12
         simp only [Option.some.injEq, Prod.mk.injEq] at H
         obtain ⟨rfl, rfl⟩ := H
         have p11 : 0 ≤ (x5_2 : Int) := of_decide_eq_true (by first | (with_reducible assumption) | assumption)
         have q11 : x5_2 < (a0.size : Int) := of_decide_eq_true (by first | (with_reducible assumption) | assumption)
         have hx11 := bt_at a0 x5_2
         replace p11 := eq_true p11
         replace q11 := eq_true q11
         go_wp2
         go_ret2
         exact ⟨by first | rfl | (simp; done) | (simp [*]; done) | ((try simp only [Bool.not_not]); (generalize ByteArray.toList _ = l_); cases l_ <;> rfl) | (simp; (generalize ByteArray.toList _ = l_); cases l_ <;> rfl), by repeat (first | exact Drawn0.refl _ | apply Drawn0.step)⟩
        ·
         rw [if_neg c12] at H
         have c12b0 := decide_eq_false c12
         clear c12
         by_cases c14 : (bt a0 x5_2) > 57
         ·
          rw [if_pos c14] at H
          have c14b0 := decide_eq_true c14
          clear c14
          simp only [Option.some.injEq, Prod.mk.injEq] at H
          obtain ⟨rfl, rfl⟩ := H
          have p11 : 0 ≤ (x5_2 : Int) := of_decide_eq_true (by first | (with_reducible assumption) | assumption)
          have q11 : x5_2 < (a0.size : Int) := of_decide_eq_true (by first | (with_reducible assumption) | assumption)
          have hx11 := bt_at a0 x5_2
          replace p11 := eq_true p11
          replace q11 := eq_true q11
          have p13 : 0 ≤ (x5_2 : Int) := of_decide_eq_true (by first | (with_reducible assumption) | assumption)
          have q13 : x5_2 < (a0.size : Int) := of_decide_eq_true (by first | (with_reducible assumption) | assumption)
          have hx13 := bt_at a0 x5_2
          replace p13 := eq_true p13
          replace q13 := eq_true q13
          go_wp2
          go_ret2
          exact ⟨by first | rfl | (simp; done) | (simp [*]; done) | ((try simp only [Bool.not_not]); (generalize ByteArray.toList _ = l_); cases l_ <;> rfl) | (simp; (generalize ByteArray.toList _ = l_); cases l_ <;> rfl), by repeat (first | exact Drawn0.refl _ | apply Drawn0.step)⟩
         ·
          rw [if_neg c14] at H
          have c14b0 := decide_eq_false c14
          clear c14
          have H' := Aside0.mk H
          clear H
          have p11 : 0 ≤ (x5_2 : Int) := of_decide_eq_true (by first | (with_reducible assumption) | assumption)
          have q11 : x5_2 < (a0.size : Int) := of_decide_eq_true (by first | (with_reducible assumption) | assumption)
          have hx11 := bt_at a0 x5_2
          replace p11 := eq_true p11
          replace q11 := eq_true q11
          have p13 : 0 ≤ (x5_2 : Int) := of_decide_eq_true (by first | (with_reducible assumption) | assumption)
          have q13 : x5_2 < (a0.size : Int) := of_decide_eq_true (by first | (with_reducible assumption) | assumption)
          have hx13 := bt_at a0 x5_2
          replace p13 := eq_true p13
          replace q13 := eq_true q13
          have p15 : 0 ≤ (x5_2 : Int) := of_decide_eq_true (by first | (with_reducible assumption) | assumption)
          have q15 : x5_2 < (a0.size : Int) := of_decide_eq_true (by first | (with_reducible assumption) | assumption)
          have hx15 := bt_at a0 x5_2
          replace p15 := eq_true p15
          replace q15 := eq_true q15
          go_wp2
          go_roundg k2
          case measure => have := HJ1.out; have := HK2.out; omega
          case rel => exact ⟨(wrap64 ((wrap64 (10 * x4_2)) + (((bt a0 x5_2) - 48) % 256))), (wrap64 (x5_2 + 1)), pT, pT, H', ⟨by have := HJ1.out; have := HK2.out; omega⟩, by repeat (first | exact Drawn0.refl _ | apply Drawn0.step)⟩
       ·
        rw [if_neg c10] at H
        exact absurd H (by simp)
      ·
       rw [if_neg c9] at H
       have c9b0 := decide_eq_false c9
       clear c9
       simp only [Option.some.injEq, Prod.mk.injEq] at H
       obtain ⟨rfl, rfl⟩ := H
       go_wp2
       go_ret2
       exact ⟨by first | rfl | (simp; done) | (simp [*]; done) | ((try simp only [Bool.not_not]); (generalize ByteArray.toList _ = l_); cases l_ <;> rfl) | (simp; (generalize ByteArray.toList _ = l_); cases l_ <;> rfl), by repeat (first | exact Drawn0.refl _ | apply Drawn0.step)⟩

/-! ### ddiref03_Parse: function 8 -/
mutual
def ddiref03_Parse.j1 : Nat → ByteArray → Int → Option (Bool × Int × Int × Int × Int)
 | 0, _, _ => none
 | k + 1, x0, x4 => if x4 = (x0.size : Int) then (some (false, 0, 0, 0, 3)) else (if 0 ≤ x4 then (if x4 ≤ (x0.size : Int) then ((ddiref02_Parse.f k (x0.extract 0 (x4 : Int).toNat)).bind fun bt166 => (if 0 ≤ (wrap64 (x4 + 1)) then (if (wrap64 (x4 + 1)) ≤ (x0.size : Int) then ((ddiref03_number.f k (x0.extract ((wrap64 (x4 + 1)) : Int).toNat x0.size)).bind fun bt171 => (if bt166.2.2.2 = 0 then (if bt171.2 = true then ((ddiref03_Valid.f k bt166.1 bt166.2.1 bt166.2.2.1 bt171.1).bind fun t174 => (if t174 = true then (some (bt166.1, bt166.2.1, bt166.2.2.1, bt171.1, 0)) else (some (false, 0, 0, 0, 3)))) else (some (false, 0, 0, 0, 3))) else (some (false, 0, 0, 0, 3)))) else (none)) else (none))) else (none)) else (none))
def ddiref03_Parse.l0 : Nat → ByteArray → Int → Option (Bool × Int × Int × Int × Int)
 | 0, _, _ => none
 | k + 1, x0, x4 => if x4 < (x0.size : Int) then (if 0 ≤ x4 then (if (bt x0 x4) = 47 then (ddiref03_Parse.j1 k x0 x4) else (ddiref03_Parse.l0 k x0 (wrap64 (x4 + 1)))) else (none)) else (ddiref03_Parse.j1 k x0 x4)
end
def ddiref03_Parse.f (k : Nat) (a0 : ByteArray) : Option (Bool × Int × Int × Int × Int) := ddiref03_Parse.l0 k a0 0
theorem ddiref03_Parse.mono_l : ∀ k, (∀ y0 y1, LeO (ddiref03_Parse.j1 k y0 y1) (ddiref03_Parse.j1 (k + 1) y0 y1)) ∧ (∀ y0 y1, LeO (ddiref03_Parse.l0 k y0 y1) (ddiref03_Parse.l0 (k + 1) y0 y1))
 | 0 => ⟨fun _ _ r h => by simp [ddiref03_Parse.j1] at h, fun _ _ r h => by simp [ddiref03_Parse.l0] at h⟩
 | k + 1 => by
  obtain ⟨ih0, ih1⟩ := ddiref03_Parse.mono_l k
  refine ⟨?_, ?_⟩
  ·
   intro y0 y1
   unfold ddiref03_Parse.j1
   repeat' with_reducible first | exact ih0 _ _ | exact ih1 _ _ | exact ddiref02_Parse.mono _ _ | exact ddiref03_Valid.mono _ _ _ _ _ | exact ddiref03_number.mono _ _ | exact LeO.refl _ | exact LeO.none _ | refine LeO.ite ?_ ?_ | refine LeO.bind ?_ (fun _ => ?_)
  ·
   intro y0 y1
   unfold ddiref03_Parse.l0
   repeat' with_reducible first | exact ih0 _ _ | exact ih1 _ _ | exact ddiref02_Parse.mono _ _ | exact ddiref03_Valid.mono _ _ _ _ _ | exact ddiref03_number.mono _ _ | exact LeO.refl _ | exact LeO.none _ | refine LeO.ite ?_ ?_ | refine LeO.bind ?_ (fun _ => ?_)
theorem ddiref03_Parse.mono : ∀ a0 k, LeO (ddiref03_Parse.f k a0) (ddiref03_Parse.f (k + 1) a0) := by
 intro a0 k
 obtain ⟨ih0, ih1⟩ := ddiref03_Parse.mono_l k
 unfold ddiref03_Parse.f
 repeat' with_reducible first | exact ih0 _ _ | exact ih1 _ _ | exact ddiref02_Parse.mono _ _ | exact ddiref03_Valid.mono _ _ _ _ _ | exact ddiref03_number.mono _ _ | exact LeO.refl _ | exact LeO.none _ | refine LeO.ite ?_ ?_ | refine LeO.bind ?_ (fun _ => ?_)
set_option maxHeartbeats 40000000 in
set_option maxRecDepth 100000 in
theorem ddiref03_Parse.calls (k : Nat) (a0 : ByteArray) (r1 : Bool) (r2 : Int) (r3 : Int) (r4 : Int) (r5 : Int) (w : World) (h : ddiref03_Parse.f k a0 = some (r1, r2, r3, r4, r5)) :
 Calls Tryz.prog 8 #[.string a0] w fun e w' => e = .returned (.tuple #[.agg #[.bool r1, .int .u64 r2, .int .u64 r3, .int .i64 r4], .int .i64 r5]) ∧ Below w.heap.size w w' := by
 have hu26 := Tryz.underlying26
 have hu24 := Tryz.underlying24
 have HB := Aside0.mk (Below.refl w.heap.size w)
 have H : (ddiref03_Parse.l0 k a0 0) = some (r1, r2, r3, r4, r5) := h
 clear h
 have HC2 := Aside0.mk H
 clear H
 go_enter Tryz.func8, Tryz.ntmps8
 go_upto_block 0 with (first | ((with_reducible refine gate_dst (N := 2) rfl ?_); refine boxA (N := 2) (cs := #[.bool false, .int .u64 0, .int .u64 0, .int .i64 0]) (t := 26) ?_; intro gb165 hg w3 hbox hb; have BK165 := Aside0.mk (hbox); have GE165 := (pZ HB hg); replace HB := (pS HB hb); clear hb hbox hg))
 (try simp only [Act.put, List.setIfInBounds_toArray, List.set_cons_zero, List.set_cons_succ])
 go_cut [4] (fun v4 wc => ∃ (kq : Nat) (x4_1 : Int), v4 = .int .i64 x4_1 ∧ Aside0 (ddiref03_Parse.j1 kq a0 x4_1 = some (r1, r2, r3, r4, r5)) ∧ Aside0 (kq ≤ k) ∧ Aside0 (wc.heap[gb165]? = some (.cells #[.bool false, .int .u64 0, .int .u64 0, .int .i64 0] 26 (0, 0))) ∧ Aside0 (Below w.heap.size w wc))
 case first =>
  have H := HC2.out
  clear HC2
  have H' := Aside0.mk H
  clear H
  go_wp2
  go_loopg [4] k (fun kq v4 w' => ∃ (x4_1 : Int), v4 = .int .i64 x4_1 ∧ Aside0 (ddiref03_Parse.l0 kq a0 x4_1 = some (r1, r2, r3, r4, r5)) ∧ Aside0 (kq ≤ k) ∧ Aside0 (w'.heap[gb165]? = some (.cells #[.bool false, .int .u64 0, .int .u64 0, .int .i64 0] 26 (0, 0))) ∧ Aside0 (Below w.heap.size w w'))
  case atStart => exact ⟨(0), pT, H', ⟨Nat.le_refl _⟩, ⟨pM BK165⟩, ⟨pE HB⟩⟩
  case round =>
   clear H'
   obtain ⟨x4_1, rfl, HA, HK1, BK165, HB⟩ := hrel
   cases gk with
   | zero => exact absurd HA.out (by simp [ddiref03_Parse.l0])
   | succ k1 =>
    have H := HA.out
    clear HA
    simp only [ddiref03_Parse.l0] at H
    by_cases c4 : x4_1 < (a0.size : Int)
    ·
     rw [if_pos c4] at H
     have c4b0 := decide_eq_true c4
     clear c4
     (first | rw [c4b0] | (simp only [i64_w, i32_w]; rw [c4b0]) | skip)
     by_cases c5 : 0 ≤ x4_1
     ·
      rw [if_pos c5] at H
      have c5b0 := decide_eq_true c5
      clear c5
      by_cases c7 : (bt a0 x4_1) = 47
      ·
       rw [if_pos c7] at H
       have c7b0 : ((bt a0 x4_1) == 47) = true := beq_iff_eq.mpr c7
       have c7b1 : ((bt a0 x4_1) != 47) = false := bne_eq_false_iff_eq.mpr c7
       clear c7
       have H' := Aside0.mk H
       clear H
       have p6 : 0 ≤ (x4_1 : Int) := of_decide_eq_true (by first | (with_reducible assumption) | assumption)
       have q6 : x4_1 < (a0.size : Int) := of_decide_eq_true (by first | (with_reducible assumption) | assumption)
       have hx6 := bt_at a0 x4_1
       replace p6 := eq_true p6
       replace q6 := eq_true q6
       go_wp2
       refine Met.intro ?_
       go_step
       (repeat apply Exists.intro)
       refine ⟨?rel, ?heq_⟩
       case heq_ => first | rfl | (rw [c4b0]) | (simp only [c4b0])
       case rel => exact ⟨_, (x4_1), pT, H', ⟨by have := HK1.out; first | omega | exact Nat.le_refl _⟩, ⟨pM BK165⟩, ⟨pE HB⟩⟩
      ·
       rw [if_neg c7] at H
       have c7b0 : ((bt a0 x4_1) == 47) = false := beq_eq_false_iff_ne.mpr c7
       have c7b1 : ((bt a0 x4_1) != 47) = true := bne_iff_ne.mpr c7
       have H' := Aside0.mk H
       clear H
       have p6 : 0 ≤ (x4_1 : Int) := of_decide_eq_true (by first | (with_reducible assumption) | assumption)
       have q6 : x4_1 < (a0.size : Int) := of_decide_eq_true (by first | (with_reducible assumption) | assumption)
       have hx6 := bt_at a0 x4_1
       replace p6 := eq_true p6
       replace q6 := eq_true q6
       go_wp2
       go_roundg k1
       case measure => have := HK1.out; omega
       case rel => exact ⟨(wrap64 (x4_1 + 1)), pT, H', ⟨by have := HK1.out; omega⟩, ⟨pM BK165⟩, ⟨pE HB⟩⟩
     ·
      rw [if_neg c5] at H
      exact absurd H (by simp)
    ·
     rw [if_neg c4] at H
     have c4b0 := decide_eq_false c4
     clear c4
     (first | rw [c4b0] | (simp only [i64_w, i32_w]; rw [c4b0]) | skip)
     have H' := Aside0.mk H
     clear H
     go_wp2
     refine Met.intro ?_
     go_step
     (repeat apply Exists.intro)
     refine ⟨?rel, ?heq_⟩
     case heq_ => first | rfl | (rw [c4b0]) | (simp only [c4b0])
     case rel => exact ⟨_, (x4_1), pT, H', ⟨by have := HK1.out; first | omega | exact Nat.le_refl _⟩, ⟨pM BK165⟩, ⟨pE HB⟩⟩
 case rest =>
  clear HC2
  obtain ⟨kq, x4_1, rfl, HA, HJ1, BK165, HB⟩ := hcut
  cases kq with
  | zero => exact absurd HA.out (by simp [ddiref03_Parse.j1])
  | succ kj1 =>
   have H := HA.out
   clear HA
   simp only [ddiref03_Parse.j1] at H
   by_cases c8 : x4_1 = (a0.size : Int)
   ·
    rw [if_pos c8] at H
    have c8b0 : (x4_1 == (a0.size : Int)) = true := beq_iff_eq.mpr c8
    have c8b1 : (x4_1 != (a0.size : Int)) = false := bne_eq_false_iff_eq.mpr c8
    clear c8
    simp only [Option.some.injEq, Prod.mk.injEq] at H
    obtain ⟨rfl, rfl, rfl, rfl, rfl⟩ := H
    obtain ⟨hcz9_0, hcz9_1, hcz9_2, hcz9_3, hfz9_0, hfz9_1, hfz9_2, hfz9_3⟩ := pC4 BK165
    go_wp2
    refine bodyPost_ret (results_ct rfl _ _ gb165 26 #[.bool false, .int .u64 0, .int .u64 0, .int .i64 0] (0, 0) _ rfl (pP (pP (pP (pP (pM BK165))))) Tryz.underlying26 rfl (by kernel_rfl)) rfl ?_
    exact pR (pE HB)
   ·
    rw [if_neg c8] at H
    have c8b0 : (x4_1 == (a0.size : Int)) = false := beq_eq_false_iff_ne.mpr c8
    have c8b1 : (x4_1 != (a0.size : Int)) = true := bne_iff_ne.mpr c8
    by_cases c10 : 0 ≤ x4_1
    ·
     rw [if_pos c10] at H
     have c10b0 := eq_true c10
     have c10b1 := decide_eq_true c10
     clear c10
     by_cases c11 : x4_1 ≤ (a0.size : Int)
     ·
      rw [if_pos c11] at H
      have c11b0 := eq_true c11
      have c11b1 := decide_eq_true c11
      clear c11
      replace H := Option.bind_eq_some_iff.mp H
      obtain ⟨⟨t166, t167, t168, t169⟩, A120, H⟩ := H
      replace H : (if 0 ≤ (wrap64 (x4_1 + 1)) then (if (wrap64 (x4_1 + 1)) ≤ (a0.size : Int) then ((ddiref03_number.f kj1 (a0.extract ((wrap64 (x4_1 + 1)) : Int).toNat a0.size)).bind fun bt171 => (if t169 = 0 then (if bt171.2 = true then ((ddiref03_Valid.f kj1 t166 t167 t168 bt171.1).bind fun t174 => (if t174 = true then (some (t166, t167, t168, bt171.1, 0)) else (some (false, 0, 0, 0, 3)))) else (some (false, 0, 0, 0, 3))) else (some (false, 0, 0, 0, 3)))) else (none)) else (none)) = some (r1, r2, r3, r4, r5) := H
      have A12 := Aside0.mk A120
      clear A120
      obtain ⟨ji13, hji13⟩ : ∃ j_ : Int, (wrap64 (x4_1 + 1)) = j_ := ⟨_, rfl⟩
      replace H : (if 0 ≤ (ji13) then (if (ji13) ≤ (a0.size : Int) then ((ddiref03_number.f kj1 (a0.extract ((ji13) : Int).toNat a0.size)).bind fun bt171 => (if t169 = 0 then (if bt171.2 = true then ((ddiref03_Valid.f kj1 t166 t167 t168 bt171.1).bind fun t174 => (if t174 = true then (some (t166, t167, t168, bt171.1, 0)) else (some (false, 0, 0, 0, 3)))) else (some (false, 0, 0, 0, 3))) else (some (false, 0, 0, 0, 3)))) else (none)) else (none)) = some (r1, r2, r3, r4, r5) := by first | (rw [hji13] at H; exact H) | (simp only [hji13] at H ⊢; exact H)
      (try rw [hji13] at A12)
      have hji13w : (IntKind.i64.wrap (x4_1 + 1)) = ji13 := (i64_w _).trans hji13
      by_cases c14 : 0 ≤ (ji13)
      ·
       rw [if_pos c14] at H
       have c14b0 := eq_true c14
       have c14b1 := decide_eq_true c14
       clear c14
       by_cases c15 : (ji13) ≤ (a0.size : Int)
       ·
        rw [if_pos c15] at H
        have c15b0 := eq_true c15
        have c15b1 := decide_eq_true c15
        clear c15
        replace H := Option.bind_eq_some_iff.mp H
        obtain ⟨⟨t171, t172⟩, A160, H⟩ := H
        replace H : (if t169 = 0 then (if t172 = true then ((ddiref03_Valid.f kj1 t166 t167 t168 t171).bind fun t174 => (if t174 = true then (some (t166, t167, t168, t171, 0)) else (some (false, 0, 0, 0, 3)))) else (some (false, 0, 0, 0, 3))) else (some (false, 0, 0, 0, 3))) = some (r1, r2, r3, r4, r5) := H
        have A16 := Aside0.mk A160
        clear A160
        by_cases c17 : t169 = 0
        ·
         rw [if_pos c17] at H
         have c17b0 : (t169 == 0) = true := beq_iff_eq.mpr c17
         have c17b1 : (t169 != 0) = false := bne_eq_false_iff_eq.mpr c17
         clear c17
         by_cases c18 : t172 = true
         ·
          subst c18
          have H1 : ((ddiref03_Valid.f kj1 t166 t167 t168 t171).bind fun t174 => (if t174 = true then (some (t166, t167, t168, t171, 0)) else (some (false, 0, 0, 0, 3)))) = some (r1, r2, r3, r4, r5) := by rw [if_pos rfl] at H; exact H
          clear H
          have H := H1
          clear H1
          replace H := Option.bind_eq_some_iff.mp H
          obtain ⟨t174, A190, H⟩ := H
          have A19 := Aside0.mk A190
          clear A190
          by_cases c20 : t174 = true
          ·
           subst c20
           have H1 : (some (t166, t167, t168, t171, 0)) = some (r1, r2, r3, r4, r5) := by rw [if_pos rfl] at H; exact H
           clear H
           have H := H1
           clear H1
           simp only [Option.some.injEq, Prod.mk.injEq] at H
           obtain ⟨rfl, rfl, rfl, rfl, rfl⟩ := H
           go_wp2_with (first | ((with_reducible refine gate_callee (f := 40) rfl ?_); refine goesA (some 31) Tryz.func40 #[.string (a0.extract 0 (x4_1 : Int).toNat)] ?_; (with_reducible refine (ddiref02_Parse.calls kj1 (a0.extract 0 (x4_1 : Int).toNat) t166 t167 t168 t169 _ A12.out).mono ?_); rintro e w21 ⟨rfl, hb⟩; refine ⟨_, rfl, ?_⟩; replace BK165 := (pB BK165 hb); replace HB := (pS HB hb); (try clear hb)) | ((with_reducible refine gate_dst (N := 5) rfl ?_); refine boxA (N := 5) (cs := #[.bool false, .int .u64 0, .int .u64 0]) (t := 24) ?_; intro gb170 hg w22 hbox hb; have BK170 := Aside0.mk (hbox); have GW170 := (pZ HB hg); have GE170 := (pZ HB hg); have NB165_170 := (pL BK165 hg); have NB170_165 := (pG BK165 hg); replace BK165 := (pB BK165 hb); replace HB := (pS HB hb); clear hb hbox hg; have hnb23 := NB170_165.out; have hnc23 := NB165_170.out; obtain ⟨hcz24_0, hcz24_1, hcz24_2, hfz24_0, hfz24_1, hfz24_2⟩ := pC3 BK170) | ((with_reducible refine gate_callee (f := 41) rfl ?_); refine goesL_ (some 39) rfl rfl Tryz.func41 (by kernel_rfl) rfl #[.string (a0.extract ((ji13) : Int).toNat a0.size)] rfl (by (try simp only [List.map_toArray, List.map_cons, List.map_nil]); first | done | (simp only [hji13]; rfl) | rfl | (simp only [List.length_drop, List.length_take]; rfl)) ?_; (with_reducible refine (ddiref03_number.calls kj1 (a0.extract ((ji13) : Int).toNat a0.size) t171 true _ A16.out).mono ?_); rintro e w' ⟨rfl, ⟨nd, rfl⟩⟩; refine ⟨_, rfl, ?_⟩) | ((with_reducible refine gate_dst (N := 9) rfl ?_); refine boxA (N := 9) (cs := #[.bool false, .int .u64 0, .int .u64 0, .int .i64 0]) (t := 26) ?_; intro gb173 hg w25 hbox hb; have BK173 := Aside0.mk (hbox); have GW173 := (pZ HB hg); have GE173 := (pZ HB hg); have NB165_173 := Aside0.mk ((by rw [hg]; exact Nat.ne_of_lt (blk_lt (g := gb165) (o := .cells #[.bool false, .int .u64 0, .int .u64 0, .int .i64 0] 26 (0, 0)) (pK NB165_170 (pK NB165_170 (pK NB165_170 (pM BK165))))) : gb165 ≠ gb173)); have NB173_165 := Aside0.mk ((by rw [hg]; exact Nat.ne_of_gt (blk_lt (g := gb165) (o := .cells #[.bool false, .int .u64 0, .int .u64 0, .int .i64 0] 26 (0, 0)) (pK NB165_170 (pK NB165_170 (pK NB165_170 (pM BK165))))) : gb173 ≠ gb165)); have NB170_173 := Aside0.mk ((by rw [hg]; exact Nat.ne_of_lt (blk_lt (g := gb170) (o := .cells #[.bool t166, .int .u64 t167, .int .u64 t168] 24 (0, 0)) (pP (pP (pP (pM BK170))))) : gb170 ≠ gb173)); have NB173_170 := Aside0.mk ((by rw [hg]; exact Nat.ne_of_gt (blk_lt (g := gb170) (o := .cells #[.bool t166, .int .u64 t167, .int .u64 t168] 24 (0, 0)) (pP (pP (pP (pM BK170))))) : gb173 ≠ gb170)); replace BK165 := (pD hb (pK NB165_170 (pK NB165_170 (pK NB165_170 (pM BK165))))); replace BK170 := (pD hb (pP (pP (pP (pM BK170))))); replace HB := (pS HB hb); clear hb hbox hg; have hnb26 := NB173_165.out; have hnc26 := NB165_173.out; have hnb27 := NB173_170.out; have hnc27 := NB170_173.out; obtain ⟨hcz28_0, hcz28_1, hcz28_2, hcz28_3, hfz28_0, hfz28_1, hfz28_2, hfz28_3⟩ := pC4 BK173) | (go_at_call 27; (with_reducible refine (ddiref03_Valid.calls kj1 t166 t167 t168 t171 true _ A19.out).mono ?_); rintro e w29 ⟨rfl, hb⟩; replace BK165 := (pD hb (pK NB165_173 (pK NB165_173 (pK NB165_173 (pK NB165_173 (pM BK165)))))); replace BK170 := (pD hb (pK NB170_173 (pK NB170_173 (pK NB170_173 (pK NB170_173 (pM BK170)))))); replace BK173 := (pD hb (pP (pP (pP (pP (pM BK173)))))); replace HB := (pS HB hb); (try clear hb); obtain ⟨hcz30_0, hcz30_1, hcz30_2, hcz30_3, hfz30_0, hfz30_1, hfz30_2, hfz30_3⟩ := pC4 BK173; obtain ⟨hcz31_0, hcz31_1, hcz31_2, hcz31_3, hfz31_0, hfz31_1, hfz31_2, hfz31_3⟩ := pC4 BK165))
           refine bodyPost_ret (results_ct rfl _ _ gb165 26 #[.bool t166, .int .u64 t167, .int .u64 t168, .int .i64 t171] (0, 0) _ rfl (pP (pP (pP (pP (pM BK165))))) Tryz.underlying26 rfl (by kernel_rfl)) rfl ?_
           exact ⟨by first | rfl | (simp [errW_none, errW_some] <;> rfl) | (simp only [← hji13]; first | rfl | (simp [errW_none, errW_some] <;> rfl)) | (simp [*, errW_none, errW_some] <;> rfl), by repeat (first | (with_reducible first | exact HB.out | apply below_alloc | apply pw_below_drewN | apply below_drew1 | refine below_set ?_ GE165.out | refine below_set ?_ GE170.out | refine below_set ?_ GE173.out) | exact HB.out)⟩
          ·
           replace c20 := Bool.eq_false_iff.mpr c20
           subst c20
           rw [if_neg (show ¬ (false = true) by decide)] at H
           simp only [Option.some.injEq, Prod.mk.injEq] at H
           obtain ⟨rfl, rfl, rfl, rfl, rfl⟩ := H
           go_wp2_with (first | ((with_reducible refine gate_callee (f := 40) rfl ?_); refine goesA (some 31) Tryz.func40 #[.string (a0.extract 0 (x4_1 : Int).toNat)] ?_; (with_reducible refine (ddiref02_Parse.calls kj1 (a0.extract 0 (x4_1 : Int).toNat) t166 t167 t168 t169 _ A12.out).mono ?_); rintro e w32 ⟨rfl, hb⟩; refine ⟨_, rfl, ?_⟩; replace BK165 := (pB BK165 hb); replace HB := (pS HB hb); (try clear hb)) | ((with_reducible refine gate_dst (N := 5) rfl ?_); refine boxA (N := 5) (cs := #[.bool false, .int .u64 0, .int .u64 0]) (t := 24) ?_; intro gb170 hg w33 hbox hb; have BK170 := Aside0.mk (hbox); have GW170 := (pZ HB hg); have GE170 := (pZ HB hg); have NB165_170 := (pL BK165 hg); have NB170_165 := (pG BK165 hg); replace BK165 := (pB BK165 hb); replace HB := (pS HB hb); clear hb hbox hg; have hnb34 := NB170_165.out; have hnc34 := NB165_170.out; obtain ⟨hcz35_0, hcz35_1, hcz35_2, hfz35_0, hfz35_1, hfz35_2⟩ := pC3 BK170) | ((with_reducible refine gate_callee (f := 41) rfl ?_); refine goesL_ (some 39) rfl rfl Tryz.func41 (by kernel_rfl) rfl #[.string (a0.extract ((ji13) : Int).toNat a0.size)] rfl (by (try simp only [List.map_toArray, List.map_cons, List.map_nil]); first | done | (simp only [hji13]; rfl) | rfl | (simp only [List.length_drop, List.length_take]; rfl)) ?_; (with_reducible refine (ddiref03_number.calls kj1 (a0.extract ((ji13) : Int).toNat a0.size) t171 true _ A16.out).mono ?_); rintro e w' ⟨rfl, ⟨nd, rfl⟩⟩; refine ⟨_, rfl, ?_⟩) | ((with_reducible refine gate_dst (N := 9) rfl ?_); refine boxA (N := 9) (cs := #[.bool false, .int .u64 0, .int .u64 0, .int .i64 0]) (t := 26) ?_; intro gb173 hg w36 hbox hb; have BK173 := Aside0.mk (hbox); have GW173 := (pZ HB hg); have GE173 := (pZ HB hg); have NB165_173 := Aside0.mk ((by rw [hg]; exact Nat.ne_of_lt (blk_lt (g := gb165) (o := .cells #[.bool false, .int .u64 0, .int .u64 0, .int .i64 0] 26 (0, 0)) (pK NB165_170 (pK NB165_170 (pK NB165_170 (pM BK165))))) : gb165 ≠ gb173)); have NB173_165 := Aside0.mk ((by rw [hg]; exact Nat.ne_of_gt (blk_lt (g := gb165) (o := .cells #[.bool false, .int .u64 0, .int .u64 0, .int .i64 0] 26 (0, 0)) (pK NB165_170 (pK NB165_170 (pK NB165_170 (pM BK165))))) : gb173 ≠ gb165)); have NB170_173 := Aside0.mk ((by rw [hg]; exact Nat.ne_of_lt (blk_lt (g := gb170) (o := .cells #[.bool t166, .int .u64 t167, .int .u64 t168] 24 (0, 0)) (pP (pP (pP (pM BK170))))) : gb170 ≠ gb173)); have NB173_170 := Aside0.mk ((by rw [hg]; exact Nat.ne_of_gt (blk_lt (g := gb170) (o := .cells #[.bool t166, .int .u64 t167, .int .u64 t168] 24 (0, 0)) (pP (pP (pP (pM BK170))))) : gb173 ≠ gb170)); replace BK165 := (pD hb (pK NB165_170 (pK NB165_170 (pK NB165_170 (pM BK165))))); replace BK170 := (pD hb (pP (pP (pP (pM BK170))))); replace HB := (pS HB hb); clear hb hbox hg; have hnb37 := NB173_165.out; have hnc37 := NB165_173.out; have hnb38 := NB173_170.out; have hnc38 := NB170_173.out; obtain ⟨hcz39_0, hcz39_1, hcz39_2, hcz39_3, hfz39_0, hfz39_1, hfz39_2, hfz39_3⟩ := pC4 BK173) | (go_at_call 27; (with_reducible refine (ddiref03_Valid.calls kj1 t166 t167 t168 t171 false _ A19.out).mono ?_); rintro e w40 ⟨rfl, hb⟩; replace BK165 := (pD hb (pK NB165_173 (pK NB165_173 (pK NB165_173 (pK NB165_173 (pM BK165)))))); replace BK170 := (pD hb (pK NB170_173 (pK NB170_173 (pK NB170_173 (pK NB170_173 (pM BK170)))))); replace BK173 := (pD hb (pP (pP (pP (pP (pM BK173)))))); replace HB := (pS HB hb); (try clear hb); obtain ⟨hcz41_0, hcz41_1, hcz41_2, hcz41_3, hfz41_0, hfz41_1, hfz41_2, hfz41_3⟩ := pC4 BK165))
           refine bodyPost_ret (results_ct rfl _ _ gb165 26 #[.bool false, .int .u64 0, .int .u64 0, .int .i64 0] (0, 0) _ rfl (pP (pP (pP (pP (pM BK165))))) Tryz.underlying26 rfl (by kernel_rfl)) rfl ?_
           exact ⟨by first | rfl | (simp [errW_none, errW_some] <;> rfl) | (simp only [← hji13]; first | rfl | (simp [errW_none, errW_some] <;> rfl)) | (simp [*, errW_none, errW_some] <;> rfl), by repeat (first | (with_reducible first | exact HB.out | apply below_alloc | apply pw_below_drewN | apply below_drew1 | refine below_set ?_ GE165.out | refine below_set ?_ GE170.out | refine below_set ?_ GE173.out) | exact HB.out)⟩
         ·
          replace c18 := Bool.eq_false_iff.mpr c18
          subst c18
          rw [if_neg (show ¬ (false = true) by decide)] at H
          simp only [Option.some.injEq, Prod.mk.injEq] at H
          obtain ⟨rfl, rfl, rfl, rfl, rfl⟩ := H
          go_wp2_with (first | ((with_reducible refine gate_callee (f := 40) rfl ?_); refine goesA (some 31) Tryz.func40 #[.string (a0.extract 0 (x4_1 : Int).toNat)] ?_; (with_reducible refine (ddiref02_Parse.calls kj1 (a0.extract 0 (x4_1 : Int).toNat) t166 t167 t168 t169 _ A12.out).mono ?_); rintro e w42 ⟨rfl, hb⟩; refine ⟨_, rfl, ?_⟩; replace BK165 := (pB BK165 hb); replace HB := (pS HB hb); (try clear hb)) | ((with_reducible refine gate_dst (N := 5) rfl ?_); refine boxA (N := 5) (cs := #[.bool false, .int .u64 0, .int .u64 0]) (t := 24) ?_; intro gb170 hg w43 hbox hb; have BK170 := Aside0.mk (hbox); have GW170 := (pZ HB hg); have GE170 := (pZ HB hg); have NB165_170 := (pL BK165 hg); have NB170_165 := (pG BK165 hg); replace BK165 := (pB BK165 hb); replace HB := (pS HB hb); clear hb hbox hg; have hnb44 := NB170_165.out; have hnc44 := NB165_170.out; obtain ⟨hcz45_0, hcz45_1, hcz45_2, hfz45_0, hfz45_1, hfz45_2⟩ := pC3 BK170) | ((with_reducible refine gate_callee (f := 41) rfl ?_); refine goesL_ (some 39) rfl rfl Tryz.func41 (by kernel_rfl) rfl #[.string (a0.extract ((ji13) : Int).toNat a0.size)] rfl (by (try simp only [List.map_toArray, List.map_cons, List.map_nil]); first | done | (simp only [hji13]; rfl) | rfl | (simp only [List.length_drop, List.length_take]; rfl)) ?_; (with_reducible refine (ddiref03_number.calls kj1 (a0.extract ((ji13) : Int).toNat a0.size) t171 false _ A16.out).mono ?_); rintro e w' ⟨rfl, ⟨nd, rfl⟩⟩; refine ⟨_, rfl, ?_⟩) | ((with_reducible refine gate_dst (N := 9) rfl ?_); refine boxA (N := 9) (cs := #[.bool false, .int .u64 0, .int .u64 0, .int .i64 0]) (t := 26) ?_; intro gb173 hg w46 hbox hb; have BK173 := Aside0.mk (hbox); have GW173 := (pZ HB hg); have GE173 := (pZ HB hg); have NB165_173 := Aside0.mk ((by rw [hg]; exact Nat.ne_of_lt (blk_lt (g := gb165) (o := .cells #[.bool false, .int .u64 0, .int .u64 0, .int .i64 0] 26 (0, 0)) (pK NB165_170 (pK NB165_170 (pK NB165_170 (pM BK165))))) : gb165 ≠ gb173)); have NB173_165 := Aside0.mk ((by rw [hg]; exact Nat.ne_of_gt (blk_lt (g := gb165) (o := .cells #[.bool false, .int .u64 0, .int .u64 0, .int .i64 0] 26 (0, 0)) (pK NB165_170 (pK NB165_170 (pK NB165_170 (pM BK165))))) : gb173 ≠ gb165)); have NB170_173 := Aside0.mk ((by rw [hg]; exact Nat.ne_of_lt (blk_lt (g := gb170) (o := .cells #[.bool t166, .int .u64 t167, .int .u64 t168] 24 (0, 0)) (pP (pP (pP (pM BK170))))) : gb170 ≠ gb173)); have NB173_170 := Aside0.mk ((by rw [hg]; exact Nat.ne_of_gt (blk_lt (g := gb170) (o := .cells #[.bool t166, .int .u64 t167, .int .u64 t168] 24 (0, 0)) (pP (pP (pP (pM BK170))))) : gb173 ≠ gb170)); replace BK165 := (pD hb (pK NB165_170 (pK NB165_170 (pK NB165_170 (pM BK165))))); replace BK170 := (pD hb (pP (pP (pP (pM BK170))))); replace HB := (pS HB hb); clear hb hbox hg; have hnb47 := NB173_165.out; have hnc47 := NB165_173.out; have hnb48 := NB173_170.out; have hnc48 := NB170_173.out; obtain ⟨hcz49_0, hcz49_1, hcz49_2, hcz49_3, hfz49_0, hfz49_1, hfz49_2, hfz49_3⟩ := pC4 BK173; obtain ⟨hcz50_0, hcz50_1, hcz50_2, hcz50_3, hfz50_0, hfz50_1, hfz50_2, hfz50_3⟩ := pC4 BK165) | ((with_reducible refine gate_store (t := 26) (p := 2) rfl ?_); refine store_event (t := 26) (p := 2) (v := ?vo_w51) (w1 := ((((((((w46.setCell ⟨gb173, 0, none⟩ (.bool t166)).setCell ⟨gb173, 1, none⟩ (.int .u64 t167)).setCell ⟨gb173, 2, none⟩ (.int .u64 t168)).setCell ⟨gb173, 3, none⟩ (.int .i64 t171)).setCell ⟨gb165, 0, none⟩ (.bool false)).setCell ⟨gb165, 1, none⟩ (.int .u64 0)).setCell ⟨gb165, 2, none⟩ (.int .u64 0)).setCell ⟨gb165, 3, none⟩ (.int .i64 0))) ?hg ?ho ?hn ?hr ?_; (case ho => rfl); (case hg => rfl); (case hn => rfl); (case hr => first | (exact Ext.run_store_chain 26 _ _ rfl _ _ _ _ rfl rfl (pK NB165_173 (pK NB165_173 (pK NB165_173 (pK NB165_173 (pM BK165))))) (by kernel_rfl) rfl rfl rfl) | (go_simp; done) | (go_simp; rfl)); intro w51 hw; replace BK165 : Aside0 (w51.heap[gb165]? = some (.cells #[.bool false, .int .u64 0, .int .u64 0, .int .i64 0] 26 (0, 0))) := (pW hw (pP (pP (pP (pP (pK NB165_173 (pK NB165_173 (pK NB165_173 (pK NB165_173 (pM BK165)))))))))); replace BK170 : Aside0 (w51.heap[gb170]? = some (.cells #[.bool t166, .int .u64 t167, .int .u64 t168] 24 (0, 0))) := (pW hw (pK NB170_165 (pK NB170_165 (pK NB170_165 (pK NB170_165 (pK NB170_173 (pK NB170_173 (pK NB170_173 (pK NB170_173 (pM BK170)))))))))); replace BK173 : Aside0 (w51.heap[gb173]? = some (.cells #[.bool t166, .int .u64 t167, .int .u64 t168, .int .i64 t171] 26 (0, 0))) := (pW hw (pK NB173_165 (pK NB173_165 (pK NB173_165 (pK NB173_165 (pP (pP (pP (pP (pM BK173)))))))))); replace HB : Aside0 (Below w.heap.size w w51) := ⟨(by rw [hw]; exact (by repeat (first | (with_reducible first | exact HB.out | apply below_alloc | apply pw_below_drewN | apply below_drew1 | refine below_set ?_ GE165.out | refine below_set ?_ GE170.out | refine below_set ?_ GE173.out) | exact HB.out)))⟩; clear hw))
          refine bodyPost_ret (results_ct rfl _ _ gb165 26 #[.bool false, .int .u64 0, .int .u64 0, .int .i64 0] (0, 0) _ rfl (pM BK165) Tryz.underlying26 rfl (by kernel_rfl)) rfl ?_
          exact ⟨by first | rfl | (simp [errW_none, errW_some] <;> rfl) | (simp only [← hji13]; first | rfl | (simp [errW_none, errW_some] <;> rfl)) | (simp [*, errW_none, errW_some] <;> rfl), by repeat (first | (with_reducible first | exact HB.out | apply below_alloc | apply pw_below_drewN | apply below_drew1 | refine below_set ?_ GE165.out | refine below_set ?_ GE170.out | refine below_set ?_ GE173.out) | exact HB.out)⟩
        ·
         rw [if_neg c17] at H
         have c17b0 : (t169 == 0) = false := beq_eq_false_iff_ne.mpr c17
         have c17b1 : (t169 != 0) = true := bne_iff_ne.mpr c17
         simp only [Option.some.injEq, Prod.mk.injEq] at H
         obtain ⟨rfl, rfl, rfl, rfl, rfl⟩ := H
         go_wp2_with (first | ((with_reducible refine gate_callee (f := 40) rfl ?_); refine goesA (some 31) Tryz.func40 #[.string (a0.extract 0 (x4_1 : Int).toNat)] ?_; (with_reducible refine (ddiref02_Parse.calls kj1 (a0.extract 0 (x4_1 : Int).toNat) t166 t167 t168 t169 _ A12.out).mono ?_); rintro e w52 ⟨rfl, hb⟩; refine ⟨_, rfl, ?_⟩; replace BK165 := (pB BK165 hb); replace HB := (pS HB hb); (try clear hb)) | ((with_reducible refine gate_dst (N := 5) rfl ?_); refine boxA (N := 5) (cs := #[.bool false, .int .u64 0, .int .u64 0]) (t := 24) ?_; intro gb170 hg w53 hbox hb; have BK170 := Aside0.mk (hbox); have GW170 := (pZ HB hg); have GE170 := (pZ HB hg); have NB165_170 := (pL BK165 hg); have NB170_165 := (pG BK165 hg); replace BK165 := (pB BK165 hb); replace HB := (pS HB hb); clear hb hbox hg; have hnb54 := NB170_165.out; have hnc54 := NB165_170.out; obtain ⟨hcz55_0, hcz55_1, hcz55_2, hfz55_0, hfz55_1, hfz55_2⟩ := pC3 BK170) | ((with_reducible refine gate_callee (f := 41) rfl ?_); refine goesL_ (some 39) rfl rfl Tryz.func41 (by kernel_rfl) rfl #[.string (a0.extract ((ji13) : Int).toNat a0.size)] rfl (by (try simp only [List.map_toArray, List.map_cons, List.map_nil]); first | done | (simp only [hji13]; rfl) | rfl | (simp only [List.length_drop, List.length_take]; rfl)) ?_; (with_reducible refine (ddiref03_number.calls kj1 (a0.extract ((ji13) : Int).toNat a0.size) t171 t172 _ A16.out).mono ?_); rintro e w' ⟨rfl, ⟨nd, rfl⟩⟩; refine ⟨_, rfl, ?_⟩) | ((with_reducible refine gate_dst (N := 9) rfl ?_); refine boxA (N := 9) (cs := #[.bool false, .int .u64 0, .int .u64 0, .int .i64 0]) (t := 26) ?_; intro gb173 hg w56 hbox hb; have BK173 := Aside0.mk (hbox); have GW173 := (pZ HB hg); have GE173 := (pZ HB hg); have NB165_173 := Aside0.mk ((by rw [hg]; exact Nat.ne_of_lt (blk_lt (g := gb165) (o := .cells #[.bool false, .int .u64 0, .int .u64 0, .int .i64 0] 26 (0, 0)) (pK NB165_170 (pK NB165_170 (pK NB165_170 (pM BK165))))) : gb165 ≠ gb173)); have NB173_165 := Aside0.mk ((by rw [hg]; exact Nat.ne_of_gt (blk_lt (g := gb165) (o := .cells #[.bool false, .int .u64 0, .int .u64 0, .int .i64 0] 26 (0, 0)) (pK NB165_170 (pK NB165_170 (pK NB165_170 (pM BK165))))) : gb173 ≠ gb165)); have NB170_173 := Aside0.mk ((by rw [hg]; exact Nat.ne_of_lt (blk_lt (g := gb170) (o := .cells #[.bool t166, .int .u64 t167, .int .u64 t168] 24 (0, 0)) (pP (pP (pP (pM BK170))))) : gb170 ≠ gb173)); have NB173_170 := Aside0.mk ((by rw [hg]; exact Nat.ne_of_gt (blk_lt (g := gb170) (o := .cells #[.bool t166, .int .u64 t167, .int .u64 t168] 24 (0, 0)) (pP (pP (pP (pM BK170))))) : gb173 ≠ gb170)); replace BK165 := (pD hb (pK NB165_170 (pK NB165_170 (pK NB165_170 (pM BK165))))); replace BK170 := (pD hb (pP (pP (pP (pM BK170))))); replace HB := (pS HB hb); clear hb hbox hg; have hnb57 := NB173_165.out; have hnc57 := NB165_173.out; have hnb58 := NB173_170.out; have hnc58 := NB170_173.out; obtain ⟨hcz59_0, hcz59_1, hcz59_2, hcz59_3, hfz59_0, hfz59_1, hfz59_2, hfz59_3⟩ := pC4 BK173; obtain ⟨hcz60_0, hcz60_1, hcz60_2, hcz60_3, hfz60_0, hfz60_1, hfz60_2, hfz60_3⟩ := pC4 BK165) | ((with_reducible refine gate_store (t := 26) (p := 2) rfl ?_); refine store_event (t := 26) (p := 2) (v := ?vo_w61) (w1 := ((((((((w56.setCell ⟨gb173, 0, none⟩ (.bool t166)).setCell ⟨gb173, 1, none⟩ (.int .u64 t167)).setCell ⟨gb173, 2, none⟩ (.int .u64 t168)).setCell ⟨gb173, 3, none⟩ (.int .i64 t171)).setCell ⟨gb165, 0, none⟩ (.bool false)).setCell ⟨gb165, 1, none⟩ (.int .u64 0)).setCell ⟨gb165, 2, none⟩ (.int .u64 0)).setCell ⟨gb165, 3, none⟩ (.int .i64 0))) ?hg ?ho ?hn ?hr ?_; (case ho => rfl); (case hg => rfl); (case hn => rfl); (case hr => first | (exact Ext.run_store_chain 26 _ _ rfl _ _ _ _ rfl rfl (pK NB165_173 (pK NB165_173 (pK NB165_173 (pK NB165_173 (pM BK165))))) (by kernel_rfl) rfl rfl rfl) | (go_simp; done) | (go_simp; rfl)); intro w61 hw; replace BK165 : Aside0 (w61.heap[gb165]? = some (.cells #[.bool false, .int .u64 0, .int .u64 0, .int .i64 0] 26 (0, 0))) := (pW hw (pP (pP (pP (pP (pK NB165_173 (pK NB165_173 (pK NB165_173 (pK NB165_173 (pM BK165)))))))))); replace BK170 : Aside0 (w61.heap[gb170]? = some (.cells #[.bool t166, .int .u64 t167, .int .u64 t168] 24 (0, 0))) := (pW hw (pK NB170_165 (pK NB170_165 (pK NB170_165 (pK NB170_165 (pK NB170_173 (pK NB170_173 (pK NB170_173 (pK NB170_173 (pM BK170)))))))))); replace BK173 : Aside0 (w61.heap[gb173]? = some (.cells #[.bool t166, .int .u64 t167, .int .u64 t168, .int .i64 t171] 26 (0, 0))) := (pW hw (pK NB173_165 (pK NB173_165 (pK NB173_165 (pK NB173_165 (pP (pP (pP (pP (pM BK173)))))))))); replace HB : Aside0 (Below w.heap.size w w61) := ⟨(by rw [hw]; exact (by repeat (first | (with_reducible first | exact HB.out | apply below_alloc | apply pw_below_drewN | apply below_drew1 | refine below_set ?_ GE165.out | refine below_set ?_ GE170.out | refine below_set ?_ GE173.out) | exact HB.out)))⟩; clear hw))
         refine bodyPost_ret (results_ct rfl _ _ gb165 26 #[.bool false, .int .u64 0, .int .u64 0, .int .i64 0] (0, 0) _ rfl (pM BK165) Tryz.underlying26 rfl (by kernel_rfl)) rfl ?_
         exact ⟨by first | rfl | (simp [errW_none, errW_some] <;> rfl) | (simp only [← hji13]; first | rfl | (simp [errW_none, errW_some] <;> rfl)) | (simp [*, errW_none, errW_some] <;> rfl), by repeat (first | (with_reducible first | exact HB.out | apply below_alloc | apply pw_below_drewN | apply below_drew1 | refine below_set ?_ GE165.out | refine below_set ?_ GE170.out | refine below_set ?_ GE173.out) | exact HB.out)⟩
       ·
        rw [if_neg c15] at H
        exact absurd H (by simp)
      ·
       rw [if_neg c14] at H
       exact absurd H (by simp)
     ·
      rw [if_neg c11] at H
      exact absurd H (by simp)
    ·
     rw [if_neg c10] at H
     exact absurd H (by simp)
end Go.Proofs.YteflcmmandlknaaGreatDoor.PA
