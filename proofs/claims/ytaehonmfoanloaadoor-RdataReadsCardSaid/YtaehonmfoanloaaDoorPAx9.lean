/- The Go functions in Lean, with the proofs that the code comes to these answers: printed by this session's program (wip/px) out of the seat's translation. Conditions: each theorem's own. -/
import Derived.Test.YtaehonmfoanloaaDoorPAx0
namespace Go.Proofs.YtaehonmfoanloaaDoor.PA
open Go.RowKit Go.Proofs.YtaehonmfoanloaaDoorW.PrintWords Go.Proofs.YtaehonmfoanloaaDoorW.PrintLast Go.Proofs.YtaehonmfoanloaaDoorW.PrintMore
attribute [local go_sem] max2_int min2_int max_two min_two max_three min_three max_four min_four   -- for this text's walks alone
attribute [local go_sem ↓] Ext.isSome_setCell
open Press
set_option linter.unusedVariables false
set_option linter.unusedSimpArgs false

/-! ### ddiref05_Letter: function 98 -/
def ddiref05_Letter.f (a0 : Int) (a1 : Bool) : Option (Int × Bool) := if a0 ≥ 65 then (if a0 ≤ 90 then (some ((((a0 - 65) % 256) + 97) % 256, true)) else (if a0 ≥ 97 then (if a0 ≤ 122 then (some (a0, true)) else (if a0 ≥ 48 then (if a0 ≤ 57 then (some (a0, true)) else (if a0 = 45 then (some (a0, true)) else (if a0 = 95 then (some (a0, true)) else (if a0 = 42 then (some (a0, a1)) else (some (a0, false)))))) else (if a0 = 45 then (some (a0, true)) else (if a0 = 95 then (some (a0, true)) else (if a0 = 42 then (some (a0, a1)) else (some (a0, false))))))) else (if a0 ≥ 48 then (if a0 ≤ 57 then (some (a0, true)) else (if a0 = 45 then (some (a0, true)) else (if a0 = 95 then (some (a0, true)) else (if a0 = 42 then (some (a0, a1)) else (some (a0, false)))))) else (if a0 = 45 then (some (a0, true)) else (if a0 = 95 then (some (a0, true)) else (if a0 = 42 then (some (a0, a1)) else (some (a0, false)))))))) else (if a0 ≥ 97 then (if a0 ≤ 122 then (some (a0, true)) else (if a0 ≥ 48 then (if a0 ≤ 57 then (some (a0, true)) else (if a0 = 45 then (some (a0, true)) else (if a0 = 95 then (some (a0, true)) else (if a0 = 42 then (some (a0, a1)) else (some (a0, false)))))) else (if a0 = 45 then (some (a0, true)) else (if a0 = 95 then (some (a0, true)) else (if a0 = 42 then (some (a0, a1)) else (some (a0, false))))))) else (if a0 ≥ 48 then (if a0 ≤ 57 then (some (a0, true)) else (if a0 = 45 then (some (a0, true)) else (if a0 = 95 then (some (a0, true)) else (if a0 = 42 then (some (a0, a1)) else (some (a0, false)))))) else (if a0 = 45 then (some (a0, true)) else (if a0 = 95 then (some (a0, true)) else (if a0 = 42 then (some (a0, a1)) else (some (a0, false)))))))
set_option maxHeartbeats 40000000 in
set_option maxRecDepth 100000 in
theorem ddiref05_Letter.calls (a0 : Int) (a1 : Bool) (r1 : Int) (r2 : Bool) (w : World) (h : ddiref05_Letter.f a0 a1 = some (r1, r2)) :
 Calls Tryd.prog 98 #[.int .u8 a0, .bool a1] w fun e w' => e = .returned (.tuple #[.int .u8 r1, .bool r2]) ∧ Drawn0 w w' := by
 have H : (if a0 ≥ 65 then (if a0 ≤ 90 then (some ((((a0 - 65) % 256) + 97) % 256, true)) else (if a0 ≥ 97 then (if a0 ≤ 122 then (some (a0, true)) else (if a0 ≥ 48 then (if a0 ≤ 57 then (some (a0, true)) else (if a0 = 45 then (some (a0, true)) else (if a0 = 95 then (some (a0, true)) else (if a0 = 42 then (some (a0, a1)) else (some (a0, false)))))) else (if a0 = 45 then (some (a0, true)) else (if a0 = 95 then (some (a0, true)) else (if a0 = 42 then (some (a0, a1)) else (some (a0, false))))))) else (if a0 ≥ 48 then (if a0 ≤ 57 then (some (a0, true)) else (if a0 = 45 then (some (a0, true)) else (if a0 = 95 then (some (a0, true)) else (if a0 = 42 then (some (a0, a1)) else (some (a0, false)))))) else (if a0 = 45 then (some (a0, true)) else (if a0 = 95 then (some (a0, true)) else (if a0 = 42 then (some (a0, a1)) else (some (a0, false)))))))) else (if a0 ≥ 97 then (if a0 ≤ 122 then (some (a0, true)) else (if a0 ≥ 48 then (if a0 ≤ 57 then (some (a0, true)) else (if a0 = 45 then (some (a0, true)) else (if a0 = 95 then (some (a0, true)) else (if a0 = 42 then (some (a0, a1)) else (some (a0, false)))))) else (if a0 = 45 then (some (a0, true)) else (if a0 = 95 then (some (a0, true)) else (if a0 = 42 then (some (a0, a1)) else (some (a0, false))))))) else (if a0 ≥ 48 then (if a0 ≤ 57 then (some (a0, true)) else (if a0 = 45 then (some (a0, true)) else (if a0 = 95 then (some (a0, true)) else (if a0 = 42 then (some (a0, a1)) else (some (a0, false)))))) else (if a0 = 45 then (some (a0, true)) else (if a0 = 95 then (some (a0, true)) else (if a0 = 42 then (some (a0, a1)) else (some (a0, false)))))))) = some (r1, r2) := h
 clear h
 by_cases c3 : a0 ≥ 65
 ·
  rw [if_pos c3] at H
  have c3b0 := decide_eq_true c3
  clear c3
  by_cases c4 : a0 ≤ 90
  ·
   rw [if_pos c4] at H
   have c4b0 := decide_eq_true c4
   clear c4
   simp only [Option.some.injEq, Prod.mk.injEq] at H
   obtain ⟨rfl, rfl⟩ := H
   go_enter Tryd.func98, Tryd.ntmps98
   go_wp2
   go_ret2
   exact pV
  ·
   rw [if_neg c4] at H
   have c4b0 := decide_eq_false c4
   clear c4
   by_cases c5 : a0 ≥ 97
   ·
    rw [if_pos c5] at H
    have c5b0 := decide_eq_true c5
    clear c5
    by_cases c6 : a0 ≤ 122
    ·
     rw [if_pos c6] at H
     have c6b0 := decide_eq_true c6
     clear c6
     simp only [Option.some.injEq, Prod.mk.injEq] at H
     obtain ⟨rfl, rfl⟩ := H
     go_enter Tryd.func98, Tryd.ntmps98
     go_wp2
     go_ret2
     exact pV
    ·
     rw [if_neg c6] at H
     have c6b0 := decide_eq_false c6
     clear c6
     by_cases c7 : a0 ≥ 48
     ·
      rw [if_pos c7] at H
      have c7b0 := decide_eq_true c7
      clear c7
      by_cases c8 : a0 ≤ 57
      ·
       rw [if_pos c8] at H
       have c8b0 := decide_eq_true c8
       clear c8
       simp only [Option.some.injEq, Prod.mk.injEq] at H
       obtain ⟨rfl, rfl⟩ := H
       go_enter Tryd.func98, Tryd.ntmps98
       go_wp2
       go_ret2
       exact pV
      ·
       rw [if_neg c8] at H
       have c8b0 := decide_eq_false c8
       clear c8
       by_cases c9 : a0 = 45
       ·
        rw [if_pos c9] at H
        have c9b0 : (a0 == 45) = true := beq_iff_eq.mpr c9
        have c9b1 : (a0 != 45) = false := bne_eq_false_iff_eq.mpr c9
        clear c9
        simp only [Option.some.injEq, Prod.mk.injEq] at H
        obtain ⟨rfl, rfl⟩ := H
        go_enter Tryd.func98, Tryd.ntmps98
        go_wp2
        go_ret2
        exact pV
       ·
        rw [if_neg c9] at H
        have c9b0 : (a0 == 45) = false := beq_eq_false_iff_ne.mpr c9
        have c9b1 : (a0 != 45) = true := bne_iff_ne.mpr c9
        by_cases c10 : a0 = 95
        ·
         rw [if_pos c10] at H
         have c10b0 : (a0 == 95) = true := beq_iff_eq.mpr c10
         have c10b1 : (a0 != 95) = false := bne_eq_false_iff_eq.mpr c10
         clear c10
         simp only [Option.some.injEq, Prod.mk.injEq] at H
         obtain ⟨rfl, rfl⟩ := H
         go_enter Tryd.func98, Tryd.ntmps98
         go_wp2
         go_ret2
         exact pV
        ·
         rw [if_neg c10] at H
         have c10b0 : (a0 == 95) = false := beq_eq_false_iff_ne.mpr c10
         have c10b1 : (a0 != 95) = true := bne_iff_ne.mpr c10
         by_cases c11 : a0 = 42
         ·
          rw [if_pos c11] at H
          have c11b0 : (a0 == 42) = true := beq_iff_eq.mpr c11
          have c11b1 : (a0 != 42) = false := bne_eq_false_iff_eq.mpr c11
          clear c11
          simp only [Option.some.injEq, Prod.mk.injEq] at H
          obtain ⟨rfl, rfl⟩ := H
          go_enter Tryd.func98, Tryd.ntmps98
          go_wp2
          go_ret2
          exact pV
         ·
          rw [if_neg c11] at H
          have c11b0 : (a0 == 42) = false := beq_eq_false_iff_ne.mpr c11
          have c11b1 : (a0 != 42) = true := bne_iff_ne.mpr c11
          simp only [Option.some.injEq, Prod.mk.injEq] at H
          obtain ⟨rfl, rfl⟩ := H
          go_enter Tryd.func98, Tryd.ntmps98
          go_wp2
          go_ret2
          exact pV
     ·
      rw [if_neg c7] at H
      have c7b0 := decide_eq_false c7
      clear c7
      by_cases c12 : a0 = 45
      ·
       rw [if_pos c12] at H
       have c12b0 : (a0 == 45) = true := beq_iff_eq.mpr c12
       have c12b1 : (a0 != 45) = false := bne_eq_false_iff_eq.mpr c12
       clear c12
       simp only [Option.some.injEq, Prod.mk.injEq] at H
       obtain ⟨rfl, rfl⟩ := H
       go_enter Tryd.func98, Tryd.ntmps98
       go_wp2
       go_ret2
       exact pV
      ·
       rw [if_neg c12] at H
       have c12b0 : (a0 == 45) = false := beq_eq_false_iff_ne.mpr c12
       have c12b1 : (a0 != 45) = true := bne_iff_ne.mpr c12
       by_cases c13 : a0 = 95
       ·
        rw [if_pos c13] at H
        have c13b0 : (a0 == 95) = true := beq_iff_eq.mpr c13
        have c13b1 : (a0 != 95) = false := bne_eq_false_iff_eq.mpr c13
        clear c13
        simp only [Option.some.injEq, Prod.mk.injEq] at H
        obtain ⟨rfl, rfl⟩ := H
        go_enter Tryd.func98, Tryd.ntmps98
        go_wp2
        go_ret2
        exact pV
       ·
        rw [if_neg c13] at H
        have c13b0 : (a0 == 95) = false := beq_eq_false_iff_ne.mpr c13
        have c13b1 : (a0 != 95) = true := bne_iff_ne.mpr c13
        by_cases c14 : a0 = 42
        ·
         rw [if_pos c14] at H
         have c14b0 : (a0 == 42) = true := beq_iff_eq.mpr c14
         have c14b1 : (a0 != 42) = false := bne_eq_false_iff_eq.mpr c14
         clear c14
         simp only [Option.some.injEq, Prod.mk.injEq] at H
         obtain ⟨rfl, rfl⟩ := H
         go_enter Tryd.func98, Tryd.ntmps98
         go_wp2
         go_ret2
         exact pV
        ·
         rw [if_neg c14] at H
         have c14b0 : (a0 == 42) = false := beq_eq_false_iff_ne.mpr c14
         have c14b1 : (a0 != 42) = true := bne_iff_ne.mpr c14
         simp only [Option.some.injEq, Prod.mk.injEq] at H
         obtain ⟨rfl, rfl⟩ := H
         go_enter Tryd.func98, Tryd.ntmps98
         go_wp2
         go_ret2
         exact pV
   ·
    rw [if_neg c5] at H
    have c5b0 := decide_eq_false c5
    clear c5
    by_cases c15 : a0 ≥ 48
    ·
     rw [if_pos c15] at H
     have c15b0 := decide_eq_true c15
     clear c15
     by_cases c16 : a0 ≤ 57
     ·
      rw [if_pos c16] at H
      have c16b0 := decide_eq_true c16
      clear c16
      simp only [Option.some.injEq, Prod.mk.injEq] at H
      obtain ⟨rfl, rfl⟩ := H
      go_enter Tryd.func98, Tryd.ntmps98
      go_wp2
      go_ret2
      exact pV
     ·
      rw [if_neg c16] at H
      have c16b0 := decide_eq_false c16
      clear c16
      by_cases c17 : a0 = 45
      ·
       rw [if_pos c17] at H
       have c17b0 : (a0 == 45) = true := beq_iff_eq.mpr c17
       have c17b1 : (a0 != 45) = false := bne_eq_false_iff_eq.mpr c17
       clear c17
       simp only [Option.some.injEq, Prod.mk.injEq] at H
       obtain ⟨rfl, rfl⟩ := H
       go_enter Tryd.func98, Tryd.ntmps98
       go_wp2
       go_ret2
       exact pV
      ·
       rw [if_neg c17] at H
       have c17b0 : (a0 == 45) = false := beq_eq_false_iff_ne.mpr c17
       have c17b1 : (a0 != 45) = true := bne_iff_ne.mpr c17
       by_cases c18 : a0 = 95
       ·
        rw [if_pos c18] at H
        have c18b0 : (a0 == 95) = true := beq_iff_eq.mpr c18
        have c18b1 : (a0 != 95) = false := bne_eq_false_iff_eq.mpr c18
        clear c18
        simp only [Option.some.injEq, Prod.mk.injEq] at H
        obtain ⟨rfl, rfl⟩ := H
        go_enter Tryd.func98, Tryd.ntmps98
        go_wp2
        go_ret2
        exact pV
       ·
        rw [if_neg c18] at H
        have c18b0 : (a0 == 95) = false := beq_eq_false_iff_ne.mpr c18
        have c18b1 : (a0 != 95) = true := bne_iff_ne.mpr c18
        by_cases c19 : a0 = 42
        ·
         rw [if_pos c19] at H
         have c19b0 : (a0 == 42) = true := beq_iff_eq.mpr c19
         have c19b1 : (a0 != 42) = false := bne_eq_false_iff_eq.mpr c19
         clear c19
         simp only [Option.some.injEq, Prod.mk.injEq] at H
         obtain ⟨rfl, rfl⟩ := H
         go_enter Tryd.func98, Tryd.ntmps98
         go_wp2
         go_ret2
         exact pV
        ·
         rw [if_neg c19] at H
         have c19b0 : (a0 == 42) = false := beq_eq_false_iff_ne.mpr c19
         have c19b1 : (a0 != 42) = true := bne_iff_ne.mpr c19
         simp only [Option.some.injEq, Prod.mk.injEq] at H
         obtain ⟨rfl, rfl⟩ := H
         go_enter Tryd.func98, Tryd.ntmps98
         go_wp2
         go_ret2
         exact pV
    ·
     rw [if_neg c15] at H
     have c15b0 := decide_eq_false c15
     clear c15
     by_cases c20 : a0 = 45
     ·
      rw [if_pos c20] at H
      have c20b0 : (a0 == 45) = true := beq_iff_eq.mpr c20
      have c20b1 : (a0 != 45) = false := bne_eq_false_iff_eq.mpr c20
      clear c20
      simp only [Option.some.injEq, Prod.mk.injEq] at H
      obtain ⟨rfl, rfl⟩ := H
      go_enter Tryd.func98, Tryd.ntmps98
      go_wp2
      go_ret2
      exact pV
     ·
      rw [if_neg c20] at H
      have c20b0 : (a0 == 45) = false := beq_eq_false_iff_ne.mpr c20
      have c20b1 : (a0 != 45) = true := bne_iff_ne.mpr c20
      by_cases c21 : a0 = 95
      ·
       rw [if_pos c21] at H
       have c21b0 : (a0 == 95) = true := beq_iff_eq.mpr c21
       have c21b1 : (a0 != 95) = false := bne_eq_false_iff_eq.mpr c21
       clear c21
       simp only [Option.some.injEq, Prod.mk.injEq] at H
       obtain ⟨rfl, rfl⟩ := H
       go_enter Tryd.func98, Tryd.ntmps98
       go_wp2
       go_ret2
       exact pV
      ·
       rw [if_neg c21] at H
       have c21b0 : (a0 == 95) = false := beq_eq_false_iff_ne.mpr c21
       have c21b1 : (a0 != 95) = true := bne_iff_ne.mpr c21
       by_cases c22 : a0 = 42
       ·
        rw [if_pos c22] at H
        have c22b0 : (a0 == 42) = true := beq_iff_eq.mpr c22
        have c22b1 : (a0 != 42) = false := bne_eq_false_iff_eq.mpr c22
        clear c22
        simp only [Option.some.injEq, Prod.mk.injEq] at H
        obtain ⟨rfl, rfl⟩ := H
        go_enter Tryd.func98, Tryd.ntmps98
        go_wp2
        go_ret2
        exact pV
       ·
        rw [if_neg c22] at H
        have c22b0 : (a0 == 42) = false := beq_eq_false_iff_ne.mpr c22
        have c22b1 : (a0 != 42) = true := bne_iff_ne.mpr c22
        simp only [Option.some.injEq, Prod.mk.injEq] at H
        obtain ⟨rfl, rfl⟩ := H
        go_enter Tryd.func98, Tryd.ntmps98
        go_wp2
        go_ret2
        exact pV
 ·
  rw [if_neg c3] at H
  have c3b0 := decide_eq_false c3
  clear c3
  by_cases c23 : a0 ≥ 97
  ·
   rw [if_pos c23] at H
   have c23b0 := decide_eq_true c23
   clear c23
   by_cases c24 : a0 ≤ 122
   ·
    rw [if_pos c24] at H
    have c24b0 := decide_eq_true c24
    clear c24
    simp only [Option.some.injEq, Prod.mk.injEq] at H
    obtain ⟨rfl, rfl⟩ := H
    go_enter Tryd.func98, Tryd.ntmps98
    go_wp2
    go_ret2
    exact pV
   ·
    rw [if_neg c24] at H
    have c24b0 := decide_eq_false c24
    clear c24
    by_cases c25 : a0 ≥ 48
    ·
     rw [if_pos c25] at H
     have c25b0 := decide_eq_true c25
     clear c25
     by_cases c26 : a0 ≤ 57
     ·
      rw [if_pos c26] at H
      have c26b0 := decide_eq_true c26
      clear c26
      simp only [Option.some.injEq, Prod.mk.injEq] at H
      obtain ⟨rfl, rfl⟩ := H
      go_enter Tryd.func98, Tryd.ntmps98
      go_wp2
      go_ret2
      exact pV
     ·
      rw [if_neg c26] at H
      have c26b0 := decide_eq_false c26
      clear c26
      by_cases c27 : a0 = 45
      ·
       rw [if_pos c27] at H
       have c27b0 : (a0 == 45) = true := beq_iff_eq.mpr c27
       have c27b1 : (a0 != 45) = false := bne_eq_false_iff_eq.mpr c27
       clear c27
       simp only [Option.some.injEq, Prod.mk.injEq] at H
       obtain ⟨rfl, rfl⟩ := H
       go_enter Tryd.func98, Tryd.ntmps98
       go_wp2
       go_ret2
       exact pV
      ·
       rw [if_neg c27] at H
       have c27b0 : (a0 == 45) = false := beq_eq_false_iff_ne.mpr c27
       have c27b1 : (a0 != 45) = true := bne_iff_ne.mpr c27
       by_cases c28 : a0 = 95
       ·
        rw [if_pos c28] at H
        have c28b0 : (a0 == 95) = true := beq_iff_eq.mpr c28
        have c28b1 : (a0 != 95) = false := bne_eq_false_iff_eq.mpr c28
        clear c28
        simp only [Option.some.injEq, Prod.mk.injEq] at H
        obtain ⟨rfl, rfl⟩ := H
        go_enter Tryd.func98, Tryd.ntmps98
        go_wp2
        go_ret2
        exact pV
       ·
        rw [if_neg c28] at H
        have c28b0 : (a0 == 95) = false := beq_eq_false_iff_ne.mpr c28
        have c28b1 : (a0 != 95) = true := bne_iff_ne.mpr c28
        by_cases c29 : a0 = 42
        ·
         rw [if_pos c29] at H
         have c29b0 : (a0 == 42) = true := beq_iff_eq.mpr c29
         have c29b1 : (a0 != 42) = false := bne_eq_false_iff_eq.mpr c29
         clear c29
         simp only [Option.some.injEq, Prod.mk.injEq] at H
         obtain ⟨rfl, rfl⟩ := H
         go_enter Tryd.func98, Tryd.ntmps98
         go_wp2
         go_ret2
         exact pV
        ·
         rw [if_neg c29] at H
         have c29b0 : (a0 == 42) = false := beq_eq_false_iff_ne.mpr c29
         have c29b1 : (a0 != 42) = true := bne_iff_ne.mpr c29
         simp only [Option.some.injEq, Prod.mk.injEq] at H
         obtain ⟨rfl, rfl⟩ := H
         go_enter Tryd.func98, Tryd.ntmps98
         go_wp2
         go_ret2
         exact pV
    ·
     rw [if_neg c25] at H
     have c25b0 := decide_eq_false c25
     clear c25
     by_cases c30 : a0 = 45
     ·
      rw [if_pos c30] at H
      have c30b0 : (a0 == 45) = true := beq_iff_eq.mpr c30
      have c30b1 : (a0 != 45) = false := bne_eq_false_iff_eq.mpr c30
      clear c30
      simp only [Option.some.injEq, Prod.mk.injEq] at H
      obtain ⟨rfl, rfl⟩ := H
      go_enter Tryd.func98, Tryd.ntmps98
      go_wp2
      go_ret2
      exact pV
     ·
      rw [if_neg c30] at H
      have c30b0 : (a0 == 45) = false := beq_eq_false_iff_ne.mpr c30
      have c30b1 : (a0 != 45) = true := bne_iff_ne.mpr c30
      by_cases c31 : a0 = 95
      ·
       rw [if_pos c31] at H
       have c31b0 : (a0 == 95) = true := beq_iff_eq.mpr c31
       have c31b1 : (a0 != 95) = false := bne_eq_false_iff_eq.mpr c31
       clear c31
       simp only [Option.some.injEq, Prod.mk.injEq] at H
       obtain ⟨rfl, rfl⟩ := H
       go_enter Tryd.func98, Tryd.ntmps98
       go_wp2
       go_ret2
       exact pV
      ·
       rw [if_neg c31] at H
       have c31b0 : (a0 == 95) = false := beq_eq_false_iff_ne.mpr c31
       have c31b1 : (a0 != 95) = true := bne_iff_ne.mpr c31
       by_cases c32 : a0 = 42
       ·
        rw [if_pos c32] at H
        have c32b0 : (a0 == 42) = true := beq_iff_eq.mpr c32
        have c32b1 : (a0 != 42) = false := bne_eq_false_iff_eq.mpr c32
        clear c32
        simp only [Option.some.injEq, Prod.mk.injEq] at H
        obtain ⟨rfl, rfl⟩ := H
        go_enter Tryd.func98, Tryd.ntmps98
        go_wp2
        go_ret2
        exact pV
       ·
        rw [if_neg c32] at H
        have c32b0 : (a0 == 42) = false := beq_eq_false_iff_ne.mpr c32
        have c32b1 : (a0 != 42) = true := bne_iff_ne.mpr c32
        simp only [Option.some.injEq, Prod.mk.injEq] at H
        obtain ⟨rfl, rfl⟩ := H
        go_enter Tryd.func98, Tryd.ntmps98
        go_wp2
        go_ret2
        exact pV
  ·
   rw [if_neg c23] at H
   have c23b0 := decide_eq_false c23
   clear c23
   by_cases c33 : a0 ≥ 48
   ·
    rw [if_pos c33] at H
    have c33b0 := decide_eq_true c33
    clear c33
    by_cases c34 : a0 ≤ 57
    ·
     rw [if_pos c34] at H
     have c34b0 := decide_eq_true c34
     clear c34
     simp only [Option.some.injEq, Prod.mk.injEq] at H
     obtain ⟨rfl, rfl⟩ := H
     go_enter Tryd.func98, Tryd.ntmps98
     go_wp2
     go_ret2
     exact pV
    ·
     rw [if_neg c34] at H
     have c34b0 := decide_eq_false c34
     clear c34
     by_cases c35 : a0 = 45
     ·
      rw [if_pos c35] at H
      have c35b0 : (a0 == 45) = true := beq_iff_eq.mpr c35
      have c35b1 : (a0 != 45) = false := bne_eq_false_iff_eq.mpr c35
      clear c35
      simp only [Option.some.injEq, Prod.mk.injEq] at H
      obtain ⟨rfl, rfl⟩ := H
      go_enter Tryd.func98, Tryd.ntmps98
      go_wp2
      go_ret2
      exact pV
     ·
      rw [if_neg c35] at H
      have c35b0 : (a0 == 45) = false := beq_eq_false_iff_ne.mpr c35
      have c35b1 : (a0 != 45) = true := bne_iff_ne.mpr c35
      by_cases c36 : a0 = 95
      ·
       rw [if_pos c36] at H
       have c36b0 : (a0 == 95) = true := beq_iff_eq.mpr c36
       have c36b1 : (a0 != 95) = false := bne_eq_false_iff_eq.mpr c36
       clear c36
       simp only [Option.some.injEq, Prod.mk.injEq] at H
       obtain ⟨rfl, rfl⟩ := H
       go_enter Tryd.func98, Tryd.ntmps98
       go_wp2
       go_ret2
       exact pV
      ·
       rw [if_neg c36] at H
       have c36b0 : (a0 == 95) = false := beq_eq_false_iff_ne.mpr c36
       have c36b1 : (a0 != 95) = true := bne_iff_ne.mpr c36
       by_cases c37 : a0 = 42
       ·
        rw [if_pos c37] at H
        have c37b0 : (a0 == 42) = true := beq_iff_eq.mpr c37
        have c37b1 : (a0 != 42) = false := bne_eq_false_iff_eq.mpr c37
        clear c37
        simp only [Option.some.injEq, Prod.mk.injEq] at H
        obtain ⟨rfl, rfl⟩ := H
        go_enter Tryd.func98, Tryd.ntmps98
        go_wp2
        go_ret2
        exact pV
       ·
        rw [if_neg c37] at H
        have c37b0 : (a0 == 42) = false := beq_eq_false_iff_ne.mpr c37
        have c37b1 : (a0 != 42) = true := bne_iff_ne.mpr c37
        simp only [Option.some.injEq, Prod.mk.injEq] at H
        obtain ⟨rfl, rfl⟩ := H
        go_enter Tryd.func98, Tryd.ntmps98
        go_wp2
        go_ret2
        exact pV
   ·
    rw [if_neg c33] at H
    have c33b0 := decide_eq_false c33
    clear c33
    by_cases c38 : a0 = 45
    ·
     rw [if_pos c38] at H
     have c38b0 : (a0 == 45) = true := beq_iff_eq.mpr c38
     have c38b1 : (a0 != 45) = false := bne_eq_false_iff_eq.mpr c38
     clear c38
     simp only [Option.some.injEq, Prod.mk.injEq] at H
     obtain ⟨rfl, rfl⟩ := H
     go_enter Tryd.func98, Tryd.ntmps98
     go_wp2
     go_ret2
     exact pV
    ·
     rw [if_neg c38] at H
     have c38b0 : (a0 == 45) = false := beq_eq_false_iff_ne.mpr c38
     have c38b1 : (a0 != 45) = true := bne_iff_ne.mpr c38
     by_cases c39 : a0 = 95
     ·
      rw [if_pos c39] at H
      have c39b0 : (a0 == 95) = true := beq_iff_eq.mpr c39
      have c39b1 : (a0 != 95) = false := bne_eq_false_iff_eq.mpr c39
      clear c39
      simp only [Option.some.injEq, Prod.mk.injEq] at H
      obtain ⟨rfl, rfl⟩ := H
      go_enter Tryd.func98, Tryd.ntmps98
      go_wp2
      go_ret2
      exact pV
     ·
      rw [if_neg c39] at H
      have c39b0 : (a0 == 95) = false := beq_eq_false_iff_ne.mpr c39
      have c39b1 : (a0 != 95) = true := bne_iff_ne.mpr c39
      by_cases c40 : a0 = 42
      ·
       rw [if_pos c40] at H
       have c40b0 : (a0 == 42) = true := beq_iff_eq.mpr c40
       have c40b1 : (a0 != 42) = false := bne_eq_false_iff_eq.mpr c40
       clear c40
       simp only [Option.some.injEq, Prod.mk.injEq] at H
       obtain ⟨rfl, rfl⟩ := H
       go_enter Tryd.func98, Tryd.ntmps98
       go_wp2
       go_ret2
       exact pV
      ·
       rw [if_neg c40] at H
       have c40b0 : (a0 == 42) = false := beq_eq_false_iff_ne.mpr c40
       have c40b1 : (a0 != 42) = true := bne_iff_ne.mpr c40
       simp only [Option.some.injEq, Prod.mk.injEq] at H
       obtain ⟨rfl, rfl⟩ := H
       go_enter Tryd.func98, Tryd.ntmps98
       go_wp2
       go_ret2
       exact pV

-- NOT PRINTED: function 90 (ddiref05_TakeLabel)

-- NOT PRINTED: function 73 (ddiref05_TakeName)

/-! ### ddiref05_rest: function 75 -/
def ddiref05_rest.f (a0 : ByteArray) (a1_0 : Int) (a1_1 : Int) : Option (ByteArray × Int × Int) := if a1_1 = 0 then (if 0 ≤ a1_0 then (if a1_0 ≤ (a0.size : Int) then (some (a0.extract (a1_0 : Int).toNat a0.size, (a0.size : Int), 0)) else (none)) else (none)) else (some ((⟨#[]⟩ : ByteArray), a1_0, a1_1))
set_option maxHeartbeats 40000000 in
set_option maxRecDepth 100000 in
theorem ddiref05_rest.calls (a0 : ByteArray) (a1_0 : Int) (a1_1 : Int) (r1 : ByteArray) (r2 : Int) (r3 : Int) (w : World) (h : ddiref05_rest.f a0 a1_0 a1_1 = some (r1, r2, r3)) :
 Calls Tryd.prog 75 #[.string a0, .agg #[.int .i64 a1_0, .int .i64 a1_1]] w fun e w' => e = .returned (.tuple #[.string r1, .agg #[.int .i64 r2, .int .i64 r3]]) ∧ Below w.heap.size w w' := by
 have hu67 := Tryd.underlying67
 have HB := Aside0.mk (Below.refl w.heap.size w)
 have H : (if a1_1 = 0 then (if 0 ≤ a1_0 then (if a1_0 ≤ (a0.size : Int) then (some (a0.extract (a1_0 : Int).toNat a0.size, (a0.size : Int), 0)) else (none)) else (none)) else (some ((⟨#[]⟩ : ByteArray), a1_0, a1_1))) = some (r1, r2, r3) := h
 clear h
 by_cases c3 : a1_1 = 0
 ·
  rw [if_pos c3] at H
  have c3b0 : (a1_1 == 0) = true := beq_iff_eq.mpr c3
  have c3b1 : (a1_1 != 0) = false := bne_eq_false_iff_eq.mpr c3
  clear c3
  by_cases c4 : 0 ≤ a1_0
  ·
   rw [if_pos c4] at H
   have c4b0 := eq_true c4
   have c4b1 := decide_eq_true c4
   clear c4
   by_cases c5 : a1_0 ≤ (a0.size : Int)
   ·
    rw [if_pos c5] at H
    have c5b0 := eq_true c5
    have c5b1 := decide_eq_true c5
    clear c5
    simp only [Option.some.injEq, Prod.mk.injEq] at H
    obtain ⟨rfl, rfl, rfl⟩ := H
    go_enter Tryd.func75, Tryd.ntmps75
    go_wp2_with (first | ((with_reducible refine gate_dst (N := 3) rfl ?_); refine boxA (N := 3) (cs := #[.int .i64 a1_0, .int .i64 a1_1]) (t := 67) ?_; intro gb242 hg w6 hbox hb; have BK242 := Aside0.mk (hbox); have GE242 := (pZ HB hg); replace HB := (pS HB hb); clear hb hbox hg) | ((with_reducible refine gate_dst (N := 5) rfl ?_); refine boxA (N := 5) (cs := #[.int .i64 0, .int .i64 0]) (t := 67) ?_; intro gb243 hg w7 hbox hb; have BK243 := Aside0.mk (hbox); have GE243 := (pZ HB hg); have NB242_243 := (pL BK242 hg); have NB243_242 := (pG BK242 hg); replace BK242 := (pB BK242 hb); replace HB := (pS HB hb); clear hb hbox hg; have hnb8 := NB242_243.out; have hnc8 := NB243_242.out; obtain ⟨hcz9_0, hcz9_1, hfz9_0, hfz9_1⟩ := pC2 BK242; obtain ⟨hcz10_0, hcz10_1, hfz10_0, hfz10_1⟩ := pC2 BK243))
    refine bodyPost_ret (results_tc rfl _ _ gb243 67 #[.int .i64 (a0.size : Int), .int .i64 0] (0, 0) _ rfl (pP (pP (pM BK243))) Tryd.underlying67 rfl (by kernel_rfl)) rfl ?_
    exact pR (pE HB)
   ·
    rw [if_neg c5] at H
    exact absurd H (by simp)
  ·
   rw [if_neg c4] at H
   exact absurd H (by simp)
 ·
  rw [if_neg c3] at H
  have c3b0 : (a1_1 == 0) = false := beq_eq_false_iff_ne.mpr c3
  have c3b1 : (a1_1 != 0) = true := bne_iff_ne.mpr c3
  simp only [Option.some.injEq, Prod.mk.injEq] at H
  obtain ⟨rfl, rfl, rfl⟩ := H
  go_enter Tryd.func75, Tryd.ntmps75
  try go_wp2_with (first | ((with_reducible refine gate_dst (N := 3) rfl ?_); refine boxA (N := 3) (cs := #[.int .i64 a1_0, .int .i64 a1_1]) (t := 67) ?_; intro gb242 hg w11 hbox hb; have BK242 := Aside0.mk (hbox); have GE242 := (pZ HB hg); replace HB := (pS HB hb); clear hb hbox hg) | ((with_reducible refine gate_dst (N := 5) rfl ?_); refine boxA (N := 5) (cs := #[.int .i64 0, .int .i64 0]) (t := 67) ?_; intro gb243 hg w12 hbox hb; have BK243 := Aside0.mk (hbox); have GE243 := (pZ HB hg); have NB242_243 := (pL BK242 hg); have NB243_242 := (pG BK242 hg); replace BK242 := (pB BK242 hb); replace HB := (pS HB hb); clear hb hbox hg; have hnb13 := NB242_243.out; have hnc13 := NB243_242.out; obtain ⟨hcz14_0, hcz14_1, hfz14_0, hfz14_1⟩ := pC2 BK242))
  replace BK242 := Aside0.mk (blk_drew BK242.out)
  replace BK243 := Aside0.mk (blk_drew BK243.out)
  replace HB := Aside0.mk (below_drew1 HB.out)
  refine start_ (n := 3) (S := fun w' => w'.cell? ⟨gb242, 0, none⟩ = some (.int .i64 a1_0) ∧ w'.cell? ⟨gb242, 1, none⟩ = some (.int .i64 a1_1)) (ds := []) (tk 3 0) (by kernel_rfl) rfl rfl ⟨bC BK242 0, bC BK242 1⟩ (fun hHeld => ?_)
  generalize w12.drew = w15 at BK242 BK243 HB hHeld ⊢
  refine pure_ (i := 1) (N := some 4) (v := ?_) (a' := ?_) #[false, true, false] rfl rfl (by kernel_rfl) (fun _ _ _ h => h) (Or.inl ⟨by rfl, ?_⟩) ?_ ?_
  rotate_left
  ·
   intro w'
   go_simp
   with_reducible rfl
  rotate_left
  ·
   simp only [Act.put, List.setIfInBounds_toArray, List.set_cons_zero, List.set_cons_succ, i64_w, i32_w]
   rfl
  refine take_ (i := 0) (N := some 9) (v := ?_) (a' := ?_) (tk 3 2) rfl rfl (by kernel_rfl) (fun _ _ _ h => h) (Or.inl ⟨by rfl, ?_⟩) hHeld ?_ ?_
  rotate_left
  ·
   rintro w' ⟨s0, s1⟩
   go_simp
   with_reducible rfl
  rotate_left
  ·
   simp only [Act.put, List.setIfInBounds_toArray, List.set_cons_zero, List.set_cons_succ, i64_w, i32_w]
   rfl
  refine one_ (i := 2) (N := none) (tk 3 3) rfl rfl (by kernel_rfl) (by decide) (fun K hK => ?_)
  have hs16 : w15.cell? ⟨gb243, 0, none⟩ = some (.int .i64 0) := bC BK243 0
  have hfs16 := blk_frozen BK243.out 0
  have hns16_0 := NB242_243.out
  have hms16_0 := NB243_242.out
  have hs17 : w15.cell? ⟨gb243, 1, none⟩ = some (.int .i64 0) := bC BK243 1
  have hfs17 := blk_frozen BK243.out 1
  have hns17_0 := NB242_243.out
  have hms17_0 := NB243_242.out
  refine skip_ (w1 := ?_) (by rfl) rfl ?_ ?_
  rotate_left
  ·
   go_simp
   rfl
  refine hK.out _ _ ⟨((cell_far (p := ⟨gb243, _, none⟩) NB242_243.out _).trans (((cell_far (p := ⟨gb243, _, none⟩) NB242_243.out _).trans (hHeld.1)))), ((cell_far (p := ⟨gb243, _, none⟩) NB242_243.out _).trans (((cell_far (p := ⟨gb243, _, none⟩) NB242_243.out _).trans (hHeld.2))))⟩ (fun hHeld => ?_)
  clear hK K
  refine done_ (by kernel_rfl) ?_
  try go_wp2
  refine bodyPost_ret (results_tc rfl _ _ gb243 67 #[.int .i64 a1_0, .int .i64 a1_1] (0, 0) _ rfl (pP (pP (pM BK243))) Tryd.underlying67 rfl (by kernel_rfl)) rfl ?_
  exact pR (pE HB)

-- NOT PRINTED: function 76 (ddiref05_signature)

end Go.Proofs.YtaehonmfoanloaaDoor.PA
