/- The Go functions in Lean, with the proofs that the code comes to these answers: printed by this session's program (wip/px) out of the seat's translation. Conditions: each theorem's own. -/
import Derived.Test.YtaehonmfoanloaaDoorPAx0
namespace Go.Proofs.YtaehonmfoanloaaDoor.PA
open Go.RowKit Go.Proofs.YtaehonmfoanloaaDoorW.PrintWords Go.Proofs.YtaehonmfoanloaaDoorW.PrintLast Go.Proofs.YtaehonmfoanloaaDoorW.PrintMore
attribute [local go_sem] max2_int min2_int max_two min_two max_three min_three max_four min_four   -- for this text's walks alone
attribute [local go_sem ↓] Ext.isSome_setCell
open Press
set_option linter.unusedVariables false
set_option linter.unusedSimpArgs false

/-! ### ddiref01_isLabel: function 82 -/
mutual
def ddiref01_isLabel.j0 : Nat → ByteArray → Bool → Option (Bool)
 | 0, _, _ => none
 | k + 1, x0, x14 => if x14 = true then (some false) else (ddiref01_isLabel.l0 k x0 0)
def ddiref01_isLabel.l0 : Nat → ByteArray → Int → Option (Bool)
 | 0, _, _ => none
 | k + 1, x0, x3 => if x3 < (x0.size : Int) then (if 0 ≤ x3 then (if (bt x0 x3) ≥ 97 then (if (bt x0 x3) ≤ 122 then (ddiref01_isLabel.l0 k x0 (wrap64 (x3 + 1))) else (if (bt x0 x3) ≥ 48 then (if (bt x0 x3) ≤ 57 then (ddiref01_isLabel.l0 k x0 (wrap64 (x3 + 1))) else (if (bt x0 x3) = 45 then (ddiref01_isLabel.l0 k x0 (wrap64 (x3 + 1))) else (if ((bt x0 x3) = 95) then (ddiref01_isLabel.l0 k x0 (wrap64 (x3 + 1))) else (some false)))) else (if (bt x0 x3) = 45 then (ddiref01_isLabel.l0 k x0 (wrap64 (x3 + 1))) else (if ((bt x0 x3) = 95) then (ddiref01_isLabel.l0 k x0 (wrap64 (x3 + 1))) else (some false))))) else (if (bt x0 x3) ≥ 48 then (if (bt x0 x3) ≤ 57 then (ddiref01_isLabel.l0 k x0 (wrap64 (x3 + 1))) else (if (bt x0 x3) = 45 then (ddiref01_isLabel.l0 k x0 (wrap64 (x3 + 1))) else (if ((bt x0 x3) = 95) then (ddiref01_isLabel.l0 k x0 (wrap64 (x3 + 1))) else (some false)))) else (if (bt x0 x3) = 45 then (ddiref01_isLabel.l0 k x0 (wrap64 (x3 + 1))) else (if ((bt x0 x3) = 95) then (ddiref01_isLabel.l0 k x0 (wrap64 (x3 + 1))) else (some false))))) else (none)) else (some true)
end
def ddiref01_isLabel.f (k : Nat) (a0 : ByteArray) : Option (Bool) := if a0.toList = ([42] : List UInt8) then (some true) else (if (a0.size : Int) < 1 then (ddiref01_isLabel.j0 k a0 true) else (ddiref01_isLabel.j0 k a0 (decide ((a0.size : Int) > 63))))
theorem ddiref01_isLabel.mono_l : ∀ k, (∀ y0 y1, LeO (ddiref01_isLabel.j0 k y0 y1) (ddiref01_isLabel.j0 (k + 1) y0 y1)) ∧ (∀ y0 y1, LeO (ddiref01_isLabel.l0 k y0 y1) (ddiref01_isLabel.l0 (k + 1) y0 y1))
 | 0 => ⟨fun _ _ r h => by simp [ddiref01_isLabel.j0] at h, fun _ _ r h => by simp [ddiref01_isLabel.l0] at h⟩
 | k + 1 => by
  obtain ⟨ih0, ih1⟩ := ddiref01_isLabel.mono_l k
  refine ⟨?_, ?_⟩
  ·
   intro y0 y1
   unfold ddiref01_isLabel.j0
   repeat' with_reducible first | exact ih0 _ _ | exact ih1 _ _ | exact LeO.refl _ | exact LeO.none _ | refine LeO.ite ?_ ?_ | refine LeO.bind ?_ (fun _ => ?_)
  ·
   intro y0 y1
   unfold ddiref01_isLabel.l0
   repeat' with_reducible first | exact ih0 _ _ | exact ih1 _ _ | exact LeO.refl _ | exact LeO.none _ | refine LeO.ite ?_ ?_ | refine LeO.bind ?_ (fun _ => ?_)
theorem ddiref01_isLabel.mono : ∀ a0 k, LeO (ddiref01_isLabel.f k a0) (ddiref01_isLabel.f (k + 1) a0) := by
 intro a0 k
 obtain ⟨ih0, ih1⟩ := ddiref01_isLabel.mono_l k
 unfold ddiref01_isLabel.f
 repeat' with_reducible first | exact ih0 _ _ | exact ih1 _ _ | exact LeO.refl _ | exact LeO.none _ | refine LeO.ite ?_ ?_ | refine LeO.bind ?_ (fun _ => ?_)
set_option maxHeartbeats 40000000 in
set_option maxRecDepth 100000 in
theorem ddiref01_isLabel.calls (k : Nat) (a0 : ByteArray) (r : Bool) (w : World) (h : ddiref01_isLabel.f k a0 = some r) :
 Calls Tryd.prog 82 #[.string a0] w fun e w' => e = .returned (.bool r) ∧ Drawn0 w w' := by
 have H : (if a0.toList = ([42] : List UInt8) then (some true) else (if (a0.size : Int) < 1 then (ddiref01_isLabel.j0 k a0 true) else (ddiref01_isLabel.j0 k a0 (decide ((a0.size : Int) > 63))))) = some r := h
 clear h
 by_cases c2 : a0.toList = ([42] : List UInt8)
 ·
  rw [if_pos c2] at H
  have c2b0 : (a0.toList == ([42] : List UInt8)) = true := beq_iff_eq.mpr c2
  have c2b1 : (a0.toList != ([42] : List UInt8)) = false := bne_eq_false_iff_eq.mpr c2
  clear c2
  obtain rfl := Option.some.inj H
  go_enter Tryd.func82, Tryd.ntmps82
  go_wp2
  go_ret
  exact pV
 ·
  rw [if_neg c2] at H
  have c2b0 : (a0.toList == ([42] : List UInt8)) = false := beq_eq_false_iff_ne.mpr c2
  have c2b1 : (a0.toList != ([42] : List UInt8)) = true := bne_iff_ne.mpr c2
  have HC3 := Aside0.mk H
  clear H
  go_enter Tryd.func82, Tryd.ntmps82
  go_upto_region 3 with (fail)
  go_cut [14] (fun v14 wc => ∃ (kq : Nat) (x14_2 : Bool), v14 = .bool x14_2 ∧ Aside0 (ddiref01_isLabel.j0 kq a0 x14_2 = some r) ∧ Aside0 (kq ≤ k) ∧ Drawn0 w wc)
  case first =>
   have H := HC3.out
   clear HC3
   by_cases c4 : (a0.size : Int) < 1
   ·
    rw [if_pos c4] at H
    have c4b0 := decide_eq_true c4
    have c4b1 : decide (a0.size < 1) = true := decide_eq_true (by omega)
    clear c4
    (first | rw [c4b0] | (simp only [i64_w, i32_w]; rw [c4b0]) | skip)
    have H' := Aside0.mk H
    clear H
    go_wp2
    refine Met.intro ?_
    go_step
    (repeat apply Exists.intro)
    refine ⟨?rel, ?heq_⟩
    case heq_ => first | rfl | (rw [c4b0]) | (simp only [c4b0])
    case rel => exact ⟨_, (true), pT, H', ⟨by first | omega | exact Nat.le_refl _⟩, by repeat (first | exact Drawn0.refl _ | apply Drawn0.step)⟩
   ·
    rw [if_neg c4] at H
    have c4b0 := decide_eq_false c4
    have c4b1 : decide (a0.size < 1) = false := decide_eq_false (by omega)
    clear c4
    (first | rw [c4b0] | (simp only [i64_w, i32_w]; rw [c4b0]) | skip)
    have H' := Aside0.mk H
    clear H
    go_wp2
    refine Met.intro ?_
    go_step
    (repeat apply Exists.intro)
    refine ⟨?rel, ?heq_⟩
    case heq_ => first | rfl | (rw [c4b0]) | (simp only [c4b0])
    case rel => exact ⟨_, (decide ((a0.size : Int) > 63)), pT, H', ⟨by first | omega | exact Nat.le_refl _⟩, by repeat (first | exact Drawn0.refl _ | apply Drawn0.step)⟩
  case rest =>
   clear HC3
   try clear c2
   try clear c2b0
   try clear c2b1
   obtain ⟨kq, x14_2, rfl, HA, HJ2, ⟨mc2, rfl⟩⟩ := hcut
   cases kq with
   | zero => exact absurd HA.out (by simp [ddiref01_isLabel.j0])
   | succ kj2 =>
    have H := HA.out
    clear HA
    simp only [ddiref01_isLabel.j0] at H
    by_cases c5 : x14_2 = true
    ·
     subst c5
     rw [if_pos rfl] at H
     obtain rfl := Option.some.inj H
     go_wp2
     go_ret
     exact pV
    ·
     replace c5 := Bool.eq_false_iff.mpr c5
     subst c5
     rw [if_neg (show ¬ (false = true) by decide)] at H
     have H' := Aside0.mk H
     clear H
     go_wp2
     go_loopg [3] kj2 (fun kq v3 w' => ∃ (x3_2 : Int), v3 = .int .i64 x3_2 ∧ Aside0 (ddiref01_isLabel.l0 kq a0 x3_2 = some r) ∧ Aside0 (kq ≤ kj2) ∧ Drawn0 w w')
     case atStart => exact ⟨(0), pT, H', ⟨Nat.le_refl _⟩, by repeat (first | exact Drawn0.refl _ | apply Drawn0.step)⟩
     case round =>
      clear H'
      try clear c2
      try clear c2b0
      try clear c2b1
      try clear c5
      obtain ⟨x3_2, rfl, HA, HK2, ⟨m2, rfl⟩⟩ := hrel
      cases gk with
      | zero => exact absurd HA.out (by simp [ddiref01_isLabel.l0])
      | succ k2 =>
       have H := HA.out
       clear HA
       simp only [ddiref01_isLabel.l0] at H
       by_cases c6 : x3_2 < (a0.size : Int)
       ·
        rw [if_pos c6] at H
        have c6b0 := decide_eq_true c6
        clear c6
        by_cases c7 : 0 ≤ x3_2
        ·
         rw [if_pos c7] at H
         have c7b0 := decide_eq_true c7
         clear c7
         by_cases c9 : (bt a0 x3_2) ≥ 97
         ·
          rw [if_pos c9] at H
          have c9b0 := decide_eq_true c9
          clear c9
          by_cases c10 : (bt a0 x3_2) ≤ 122
          ·
           rw [if_pos c10] at H
           have c10b0 := decide_eq_true c10
           clear c10
           have H' := Aside0.mk H
           clear H
           have p8 : 0 ≤ (x3_2 : Int) := oD
           have q8 : x3_2 < (a0.size : Int) := oD
           have hx8 := bt_at a0 x3_2
           replace p8 := eq_true p8
           replace q8 := eq_true q8
           go_wp2
           go_roundg k2
           case measure => have := HJ2.out; have := HK2.out; omega
           case rel => exact ⟨(wrap64 (x3_2 + 1)), pT, H', ⟨by have := HJ2.out; have := HK2.out; omega⟩, by repeat (first | exact Drawn0.refl _ | apply Drawn0.step)⟩
          ·
           rw [if_neg c10] at H
           have c10b0 := decide_eq_false c10
           clear c10
           by_cases c11 : (bt a0 x3_2) ≥ 48
           ·
            rw [if_pos c11] at H
            have c11b0 := decide_eq_true c11
            clear c11
            by_cases c12 : (bt a0 x3_2) ≤ 57
            ·
             rw [if_pos c12] at H
             have c12b0 := decide_eq_true c12
             clear c12
             have H' := Aside0.mk H
             clear H
             have p8 : 0 ≤ (x3_2 : Int) := oD
             have q8 : x3_2 < (a0.size : Int) := oD
             have hx8 := bt_at a0 x3_2
             replace p8 := eq_true p8
             replace q8 := eq_true q8
             go_wp2
             go_roundg k2
             case measure => have := HJ2.out; have := HK2.out; omega
             case rel => exact ⟨(wrap64 (x3_2 + 1)), pT, H', ⟨by have := HJ2.out; have := HK2.out; omega⟩, by repeat (first | exact Drawn0.refl _ | apply Drawn0.step)⟩
            ·
             rw [if_neg c12] at H
             have c12b0 := decide_eq_false c12
             clear c12
             by_cases c13 : (bt a0 x3_2) = 45
             ·
              rw [if_pos c13] at H
              have c13b0 : ((bt a0 x3_2) == 45) = true := beq_iff_eq.mpr c13
              have c13b1 : ((bt a0 x3_2) != 45) = false := bne_eq_false_iff_eq.mpr c13
              clear c13
              have H' := Aside0.mk H
              clear H
              have p8 : 0 ≤ (x3_2 : Int) := oD
              have q8 : x3_2 < (a0.size : Int) := oD
              have hx8 := bt_at a0 x3_2
              replace p8 := eq_true p8
              replace q8 := eq_true q8
              go_wp2
              go_roundg k2
              case measure => have := HJ2.out; have := HK2.out; omega
              case rel => exact ⟨(wrap64 (x3_2 + 1)), pT, H', ⟨by have := HJ2.out; have := HK2.out; omega⟩, by repeat (first | exact Drawn0.refl _ | apply Drawn0.step)⟩
             ·
              rw [if_neg c13] at H
              have c13b0 : ((bt a0 x3_2) == 45) = false := beq_eq_false_iff_ne.mpr c13
              have c13b1 : ((bt a0 x3_2) != 45) = true := bne_iff_ne.mpr c13
              by_cases c14 : ((bt a0 x3_2) = 95)
              ·
               rw [if_pos c14] at H
               have c14b0 : ((bt a0 x3_2) == 95) = true := beq_iff_eq.mpr c14
               have c14b1 : ((bt a0 x3_2) != 95) = false := bne_eq_false_iff_eq.mpr c14
               clear c14
               have H' := Aside0.mk H
               clear H
               have p8 : 0 ≤ (x3_2 : Int) := oD
               have q8 : x3_2 < (a0.size : Int) := oD
               have hx8 := bt_at a0 x3_2
               replace p8 := eq_true p8
               replace q8 := eq_true q8
               go_wp2
               go_roundg k2
               case measure => have := HJ2.out; have := HK2.out; omega
               case rel => exact ⟨(wrap64 (x3_2 + 1)), pT, H', ⟨by have := HJ2.out; have := HK2.out; omega⟩, by repeat (first | exact Drawn0.refl _ | apply Drawn0.step)⟩
              ·
               rw [if_neg c14] at H
               have c14b0 : ((bt a0 x3_2) == 95) = false := beq_eq_false_iff_ne.mpr c14
               have c14b1 : ((bt a0 x3_2) != 95) = true := bne_iff_ne.mpr c14
               obtain rfl := Option.some.inj H
               have p8 : 0 ≤ (x3_2 : Int) := oD
               have q8 : x3_2 < (a0.size : Int) := oD
               have hx8 := bt_at a0 x3_2
               replace p8 := eq_true p8
               replace q8 := eq_true q8
               go_wp2
               go_ret
               exact pV
           ·
            rw [if_neg c11] at H
            have c11b0 := decide_eq_false c11
            clear c11
            by_cases c15 : (bt a0 x3_2) = 45
            ·
             rw [if_pos c15] at H
             have c15b0 : ((bt a0 x3_2) == 45) = true := beq_iff_eq.mpr c15
             have c15b1 : ((bt a0 x3_2) != 45) = false := bne_eq_false_iff_eq.mpr c15
             clear c15
             have H' := Aside0.mk H
             clear H
             have p8 : 0 ≤ (x3_2 : Int) := oD
             have q8 : x3_2 < (a0.size : Int) := oD
             have hx8 := bt_at a0 x3_2
             replace p8 := eq_true p8
             replace q8 := eq_true q8
             go_wp2
             go_roundg k2
             case measure => have := HJ2.out; have := HK2.out; omega
             case rel => exact ⟨(wrap64 (x3_2 + 1)), pT, H', ⟨by have := HJ2.out; have := HK2.out; omega⟩, by repeat (first | exact Drawn0.refl _ | apply Drawn0.step)⟩
            ·
             rw [if_neg c15] at H
             have c15b0 : ((bt a0 x3_2) == 45) = false := beq_eq_false_iff_ne.mpr c15
             have c15b1 : ((bt a0 x3_2) != 45) = true := bne_iff_ne.mpr c15
             by_cases c16 : ((bt a0 x3_2) = 95)
             ·
              rw [if_pos c16] at H
              have c16b0 : ((bt a0 x3_2) == 95) = true := beq_iff_eq.mpr c16
              have c16b1 : ((bt a0 x3_2) != 95) = false := bne_eq_false_iff_eq.mpr c16
              clear c16
              have H' := Aside0.mk H
              clear H
              have p8 : 0 ≤ (x3_2 : Int) := oD
              have q8 : x3_2 < (a0.size : Int) := oD
              have hx8 := bt_at a0 x3_2
              replace p8 := eq_true p8
              replace q8 := eq_true q8
              go_wp2
              go_roundg k2
              case measure => have := HJ2.out; have := HK2.out; omega
              case rel => exact ⟨(wrap64 (x3_2 + 1)), pT, H', ⟨by have := HJ2.out; have := HK2.out; omega⟩, by repeat (first | exact Drawn0.refl _ | apply Drawn0.step)⟩
             ·
              rw [if_neg c16] at H
              have c16b0 : ((bt a0 x3_2) == 95) = false := beq_eq_false_iff_ne.mpr c16
              have c16b1 : ((bt a0 x3_2) != 95) = true := bne_iff_ne.mpr c16
              obtain rfl := Option.some.inj H
              have p8 : 0 ≤ (x3_2 : Int) := oD
              have q8 : x3_2 < (a0.size : Int) := oD
              have hx8 := bt_at a0 x3_2
              replace p8 := eq_true p8
              replace q8 := eq_true q8
              go_wp2
              go_ret
              exact pV
         ·
          rw [if_neg c9] at H
          have c9b0 := decide_eq_false c9
          clear c9
          by_cases c17 : (bt a0 x3_2) ≥ 48
          ·
           rw [if_pos c17] at H
           have c17b0 := decide_eq_true c17
           clear c17
           by_cases c18 : (bt a0 x3_2) ≤ 57
           ·
            rw [if_pos c18] at H
            have c18b0 := decide_eq_true c18
            clear c18
            have H' := Aside0.mk H
            clear H
            have p8 : 0 ≤ (x3_2 : Int) := oD
            have q8 : x3_2 < (a0.size : Int) := oD
            have hx8 := bt_at a0 x3_2
            replace p8 := eq_true p8
            replace q8 := eq_true q8
            go_wp2
            go_roundg k2
            case measure => have := HJ2.out; have := HK2.out; omega
            case rel => exact ⟨(wrap64 (x3_2 + 1)), pT, H', ⟨by have := HJ2.out; have := HK2.out; omega⟩, by repeat (first | exact Drawn0.refl _ | apply Drawn0.step)⟩
           ·
            rw [if_neg c18] at H
            have c18b0 := decide_eq_false c18
            clear c18
            by_cases c19 : (bt a0 x3_2) = 45
            ·
             rw [if_pos c19] at H
             have c19b0 : ((bt a0 x3_2) == 45) = true := beq_iff_eq.mpr c19
             have c19b1 : ((bt a0 x3_2) != 45) = false := bne_eq_false_iff_eq.mpr c19
             clear c19
             have H' := Aside0.mk H
             clear H
             have p8 : 0 ≤ (x3_2 : Int) := oD
             have q8 : x3_2 < (a0.size : Int) := oD
             have hx8 := bt_at a0 x3_2
             replace p8 := eq_true p8
             replace q8 := eq_true q8
             go_wp2
             go_roundg k2
             case measure => have := HJ2.out; have := HK2.out; omega
             case rel => exact ⟨(wrap64 (x3_2 + 1)), pT, H', ⟨by have := HJ2.out; have := HK2.out; omega⟩, by repeat (first | exact Drawn0.refl _ | apply Drawn0.step)⟩
            ·
             rw [if_neg c19] at H
             have c19b0 : ((bt a0 x3_2) == 45) = false := beq_eq_false_iff_ne.mpr c19
             have c19b1 : ((bt a0 x3_2) != 45) = true := bne_iff_ne.mpr c19
             by_cases c20 : ((bt a0 x3_2) = 95)
             ·
              rw [if_pos c20] at H
              have c20b0 : ((bt a0 x3_2) == 95) = true := beq_iff_eq.mpr c20
              have c20b1 : ((bt a0 x3_2) != 95) = false := bne_eq_false_iff_eq.mpr c20
              clear c20
              have H' := Aside0.mk H
              clear H
              have p8 : 0 ≤ (x3_2 : Int) := oD
              have q8 : x3_2 < (a0.size : Int) := oD
              have hx8 := bt_at a0 x3_2
              replace p8 := eq_true p8
              replace q8 := eq_true q8
              go_wp2
              go_roundg k2
              case measure => have := HJ2.out; have := HK2.out; omega
              case rel => exact ⟨(wrap64 (x3_2 + 1)), pT, H', ⟨by have := HJ2.out; have := HK2.out; omega⟩, by repeat (first | exact Drawn0.refl _ | apply Drawn0.step)⟩
             ·
              rw [if_neg c20] at H
              have c20b0 : ((bt a0 x3_2) == 95) = false := beq_eq_false_iff_ne.mpr c20
              have c20b1 : ((bt a0 x3_2) != 95) = true := bne_iff_ne.mpr c20
              obtain rfl := Option.some.inj H
              have p8 : 0 ≤ (x3_2 : Int) := oD
              have q8 : x3_2 < (a0.size : Int) := oD
              have hx8 := bt_at a0 x3_2
              replace p8 := eq_true p8
              replace q8 := eq_true q8
              go_wp2
              go_ret
              exact pV
          ·
           rw [if_neg c17] at H
           have c17b0 := decide_eq_false c17
           clear c17
           by_cases c21 : (bt a0 x3_2) = 45
           ·
            rw [if_pos c21] at H
            have c21b0 : ((bt a0 x3_2) == 45) = true := beq_iff_eq.mpr c21
            have c21b1 : ((bt a0 x3_2) != 45) = false := bne_eq_false_iff_eq.mpr c21
            clear c21
            have H' := Aside0.mk H
            clear H
            have p8 : 0 ≤ (x3_2 : Int) := oD
            have q8 : x3_2 < (a0.size : Int) := oD
            have hx8 := bt_at a0 x3_2
            replace p8 := eq_true p8
            replace q8 := eq_true q8
            go_wp2
            go_roundg k2
            case measure => have := HJ2.out; have := HK2.out; omega
            case rel => exact ⟨(wrap64 (x3_2 + 1)), pT, H', ⟨by have := HJ2.out; have := HK2.out; omega⟩, by repeat (first | exact Drawn0.refl _ | apply Drawn0.step)⟩
           ·
            rw [if_neg c21] at H
            have c21b0 : ((bt a0 x3_2) == 45) = false := beq_eq_false_iff_ne.mpr c21
            have c21b1 : ((bt a0 x3_2) != 45) = true := bne_iff_ne.mpr c21
            by_cases c22 : ((bt a0 x3_2) = 95)
            ·
             rw [if_pos c22] at H
             have c22b0 : ((bt a0 x3_2) == 95) = true := beq_iff_eq.mpr c22
             have c22b1 : ((bt a0 x3_2) != 95) = false := bne_eq_false_iff_eq.mpr c22
             clear c22
             have H' := Aside0.mk H
             clear H
             have p8 : 0 ≤ (x3_2 : Int) := oD
             have q8 : x3_2 < (a0.size : Int) := oD
             have hx8 := bt_at a0 x3_2
             replace p8 := eq_true p8
             replace q8 := eq_true q8
             go_wp2
             go_roundg k2
             case measure => have := HJ2.out; have := HK2.out; omega
             case rel => exact ⟨(wrap64 (x3_2 + 1)), pT, H', ⟨by have := HJ2.out; have := HK2.out; omega⟩, by repeat (first | exact Drawn0.refl _ | apply Drawn0.step)⟩
            ·
             rw [if_neg c22] at H
             have c22b0 : ((bt a0 x3_2) == 95) = false := beq_eq_false_iff_ne.mpr c22
             have c22b1 : ((bt a0 x3_2) != 95) = true := bne_iff_ne.mpr c22
             obtain rfl := Option.some.inj H
             have p8 : 0 ≤ (x3_2 : Int) := oD
             have q8 : x3_2 < (a0.size : Int) := oD
             have hx8 := bt_at a0 x3_2
             replace p8 := eq_true p8
             replace q8 := eq_true q8
             go_wp2
             go_ret
             exact pV
        ·
         rw [if_neg c7] at H
         exact absurd H (by simp)
       ·
        rw [if_neg c6] at H
        have c6b0 := decide_eq_false c6
        clear c6
        obtain rfl := Option.some.inj H
        go_wp2
        go_ret
        exact pV

end Go.Proofs.YtaehonmfoanloaaDoor.PA
