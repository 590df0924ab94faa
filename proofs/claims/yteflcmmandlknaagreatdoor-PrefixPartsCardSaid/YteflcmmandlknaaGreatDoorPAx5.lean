/- The Go functions in Lean, with the proofs that the code comes to these answers: printed by this session's program (wip/px) out of the seat's translation. Conditions: each theorem's own. -/
import Derived.Test.YteflcmmandlknaaGreatDoorPAx0
import Derived.Test.YteflcmmandlknaaGreatDoorPAx4
namespace Go.Proofs.YteflcmmandlknaaGreatDoor.PA
open Go.RowKit Go.Proofs.YteflcmmandlknaaGreatDoorW.PrintWords Go.Proofs.YteflcmmandlknaaGreatDoorW.PrintLast Go.Proofs.YteflcmmandlknaaGreatDoorW.PrintMore
attribute [local go_sem] max2_int min2_int max_two min_two max_three min_three max_four min_four   -- for this text's walks alone
attribute [local go_sem ↓] Ext.isSome_setCell
open Press
set_option linter.unusedVariables false
set_option linter.unusedSimpArgs false
/-! ### addr_list: function 88 -/
mutual
def addr_list.l0 : Nat → List Int → List ByteArray → Int → Int → Option (List Int × Bool)
 | 0, _, _, _, _ => none
 | k + 1, x4, x13, x14, x15 => if x15 < x14 then (if 0 ≤ x15 then (if x15 < (x13.length : Int) then (if ((rdOf ByteArray.empty x13 x15).size : Int) < 1 then (addr_list.j1 k x4 (rdOf ByteArray.empty x13 x15) x13 x14 x15 true) else (if ((rdOf ByteArray.empty x13 x15).size : Int) > 4 then (addr_list.j1 k x4 (rdOf ByteArray.empty x13 x15) x13 x14 x15 true) else (addr_list.j1 k x4 (rdOf ByteArray.empty x13 x15) x13 x14 x15 ((x4.length : Int) == 8)))) else (none)) else (none)) else (some (x4, true))
def addr_list.j1 : Nat → List Int → ByteArray → List ByteArray → Int → Int → Bool → Option (List Int × Bool)
 | 0, _, _, _, _, _, _ => none
 | k + 1, x4, x6, x13, x14, x15, x31 => if x31 = true then (some (([] : List Int), false)) else (addr_list.l1 k x4 x6 0 x13 x14 x15 (x6.size : Int) 0)
def addr_list.l1 : Nat → List Int → ByteArray → Int → List ByteArray → Int → Int → Int → Int → Option (List Int × Bool)
 | 0, _, _, _, _, _, _, _, _ => none
 | k + 1, x4, x6, x7, x13, x14, x15, x33, x34 => if x34 < x33 then (if 0 ≤ x34 then (if x34 < (x6.size : Int) then ((addr_digit.f k (bt x6 x34)).bind fun t120 => (if t120 < 0 then (some (([] : List Int), false)) else (addr_list.l1 k x4 x6 (wrap64 ((wrap64 (16 * x7)) + t120)) x13 x14 x15 x33 (wrap64 (x34 + 1))))) else (none)) else (none)) else (if x4.length < 70368744177664 then (addr_list.l0 k (x4 ++ [IntKind.u16.wrap (x7)]) x13 x14 (wrap64 (x15 + 1))) else (none))
end
def addr_list.f (k : Nat) (a0 : ByteArray) : Option (List Int × Bool) := if a0.toList = ([] : List UInt8) then (some (([] : List Int), true)) else ((strings_Split.f a0 (⟨#[58]⟩ : ByteArray)).bind fun t116 => (addr_list.l0 k ([] : List Int) t116 (t116.length : Int) 0))
theorem addr_list.mono_l : ∀ k, (∀ y0 y1 y2 y3, LeO (addr_list.l0 k y0 y1 y2 y3) (addr_list.l0 (k + 1) y0 y1 y2 y3)) ∧ (∀ y0 y1 y2 y3 y4 y5, LeO (addr_list.j1 k y0 y1 y2 y3 y4 y5) (addr_list.j1 (k + 1) y0 y1 y2 y3 y4 y5)) ∧ (∀ y0 y1 y2 y3 y4 y5 y6 y7, LeO (addr_list.l1 k y0 y1 y2 y3 y4 y5 y6 y7) (addr_list.l1 (k + 1) y0 y1 y2 y3 y4 y5 y6 y7))
 | 0 => ⟨fun _ _ _ _ r h => by simp [addr_list.l0] at h, fun _ _ _ _ _ _ r h => by simp [addr_list.j1] at h, fun _ _ _ _ _ _ _ _ r h => by simp [addr_list.l1] at h⟩
 | k + 1 => by
  obtain ⟨ih0, ih1, ih2⟩ := addr_list.mono_l k
  refine ⟨?_, ?_, ?_⟩
  ·
   intro y0 y1 y2 y3
   unfold addr_list.l0
   repeat' with_reducible first | exact ih0 _ _ _ _ | exact ih1 _ _ _ _ _ _ | exact ih2 _ _ _ _ _ _ _ _ | exact addr_digit.mono _ _ | exact LeO.refl _ | exact LeO.none _ | refine LeO.ite ?_ ?_ | refine LeO.bind ?_ (fun _ => ?_)
  ·
   intro y0 y1 y2 y3 y4 y5
   unfold addr_list.j1
   repeat' with_reducible first | exact ih0 _ _ _ _ | exact ih1 _ _ _ _ _ _ | exact ih2 _ _ _ _ _ _ _ _ | exact addr_digit.mono _ _ | exact LeO.refl _ | exact LeO.none _ | refine LeO.ite ?_ ?_ | refine LeO.bind ?_ (fun _ => ?_)
  ·
   intro y0 y1 y2 y3 y4 y5 y6 y7
   unfold addr_list.l1
   repeat' with_reducible first | exact ih0 _ _ _ _ | exact ih1 _ _ _ _ _ _ | exact ih2 _ _ _ _ _ _ _ _ | exact addr_digit.mono _ _ | exact LeO.refl _ | exact LeO.none _ | refine LeO.ite ?_ ?_ | refine LeO.bind ?_ (fun _ => ?_)
theorem addr_list.mono : ∀ a0 k, LeO (addr_list.f k a0) (addr_list.f (k + 1) a0) := by
 intro a0 k
 obtain ⟨ih0, ih1, ih2⟩ := addr_list.mono_l k
 unfold addr_list.f
 repeat' with_reducible first | exact ih0 _ _ _ _ | exact ih1 _ _ _ _ _ _ | exact ih2 _ _ _ _ _ _ _ _ | exact addr_digit.mono _ _ | exact LeO.refl _ | exact LeO.none _ | refine LeO.ite ?_ ?_ | refine LeO.bind ?_ (fun _ => ?_)
set_option maxHeartbeats 40000000 in
set_option maxRecDepth 100000 in
theorem addr_list.calls (k : Nat) (a0 : ByteArray) (r1 : List Int) (r2 : Bool) (w : World) (hLD : Laid w) (h : addr_list.f k a0 = some (r1, r2)) :
 Calls Tryz.prog 88 #[.string a0] w fun e w' => ∃ v0_ : Value, e = .returned (.tuple #[v0_, .bool r2]) ∧ Kd.R (Kd.int .u16) 93 w' w.heap.size (fun _ => True) v0_ r1 ∧ Below w.heap.size w w' := by
 have HLD := Aside0.mk hLD
 clear hLD
 have HB := Aside0.mk (Below.refl w.heap.size w)
 have H : (if a0.toList = ([] : List UInt8) then (some (([] : List Int), true)) else ((strings_Split.f a0 (⟨#[58]⟩ : ByteArray)).bind fun t116 => (addr_list.l0 k ([] : List Int) t116 (t116.length : Int) 0))) = some (r1, r2) := h
 clear h
 by_cases c2 : a0.toList = ([] : List UInt8)
 ·
  rw [if_pos c2] at H
  have c2b0 : (a0.toList == ([] : List UInt8)) = true := beq_iff_eq.mpr c2
  have c2b1 : (a0.toList != ([] : List UInt8)) = false := bne_eq_false_iff_eq.mpr c2
  clear c2
  simp only [Option.some.injEq, Prod.mk.injEq] at H
  obtain ⟨rfl, rfl⟩ := H
  go_enter Tryz.func88, Tryz.ntmps88
  go_wp2
  go_ret2
  exact ⟨_, by first | rfl | (simp [errW_none, errW_some] <;> rfl) | (simp [*, errW_none, errW_some] <;> rfl), by first | exact Kd.R_nil _ _ _ _ _ | exact Kd.N_nil _ _ _ _ _ | exact Kd.V_nil _ _ _ _ _ | exact Kd.Q_nil _ _ _ _ _ | exact Kd.S_nil _ _ _ _ _, by repeat (first | (with_reducible first | exact HB.out | apply below_alloc | apply pw_below_drewN | apply below_drew1) | exact HB.out)⟩
 ·
  rw [if_neg c2] at H
  have c2b0 : (a0.toList == ([] : List UInt8)) = false := beq_eq_false_iff_ne.mpr c2
  have c2b1 : (a0.toList != ([] : List UInt8)) = true := bne_iff_ne.mpr c2
  replace H := Option.bind_eq_some_iff.mp H
  obtain ⟨t116, A30, H⟩ := H
  have A3 := Aside0.mk A30
  clear A30
  have H' := Aside0.mk H
  clear H
  go_enter Tryz.func88, Tryz.ntmps88
  go_wp2_with (first | ((with_reducible refine gate_callee (f := 86) rfl ?_); refine goesA (some 13) Tryz.func86 #[.string a0, .string (⟨#[58]⟩ : ByteArray)] ?_; (with_reducible refine (strings_Split.calls a0 (⟨#[58]⟩ : ByteArray) t116 _ ?side1 A3.out).mono ?_); (case side1 => exact Laid.below HLD.out (pE HB)); rintro e w4 ⟨v117, rfl, ho0, hb⟩; refine ⟨_, rfl, ?_⟩; have HO118 := Aside0.mk (Kd.R_lower ho0 (below_size (by repeat (first | (with_reducible first | exact HB.out | apply below_alloc | apply pw_below_drewN | apply below_drew1) | exact HB.out)))); replace HB := (pS HB hb); (try clear hb); (try clear hk); (try clear ho0); obtain ⟨Ao5, co5, eo5⟩ := Kd.R_slice HO118.out; subst eo5))
  go_loopg [4, 15] k (fun kq v4 v15 w' => ∃ (x4_1 : List Int) (x15_1 : Int), v15 = .int .i64 x15_1 ∧ Aside0 (addr_list.l0 kq x4_1 t116 (t116.length : Int) x15_1 = some (r1, r2)) ∧ Aside0 (kq ≤ k) ∧ Aside0 (Kd.R (Kd.int .u16) 93 w' w.heap.size (fun _ => True) v4 x4_1) ∧ Aside0 (Kd.R Kd.string 9 w' w.heap.size (fun _ => True) (.slice Ao5 t116.length co5) t116) ∧ Aside0 (Below w.heap.size w w'))
  case atStart => exact ⟨(([] : List Int)), (0), pT, H', ⟨Nat.le_refl _⟩, ⟨by first | exact Kd.R_nil _ _ _ _ _ | exact Kd.N_nil _ _ _ _ _ | exact Kd.V_nil _ _ _ _ _ | exact Kd.Q_nil _ _ _ _ _ | exact Kd.S_nil _ _ _ _ _⟩, ⟨by (with_reducible repeat (first | apply Kd.R_alloc | apply Kd.R_drewN | apply Kd.R_drew)); exact HO118.out⟩, ⟨pE HB⟩⟩
  case round =>
   clear H'
   try clear c2
   try clear c2b0
   try clear c2b1
   obtain ⟨x4_1, x15_1, rfl, HA, HK1, HO_4, HO_13, HB⟩ := hrel
   cases gk with
   | zero => exact absurd HA.out (by simp [addr_list.l0])
   | succ k1 =>
    have H := HA.out
    clear HA
    simp only [addr_list.l0] at H
    by_cases c6 : x15_1 < (t116.length : Int)
    ·
     rw [if_pos c6] at H
     have c6b0 := decide_eq_true c6
     clear c6
     by_cases c7 : 0 ≤ x15_1
     ·
      rw [if_pos c7] at H
      have c7b0 := decide_eq_true c7
      clear c7
      by_cases c8 : x15_1 < (t116.length : Int)
      ·
       rw [if_pos c8] at H
       have c8b0 := decide_eq_true c8
       clear c8
       have HC9 := Aside0.mk H
       clear H
       have p119 : 0 ≤ (x15_1 : Int) := oD
       have q119 : x15_1 < (t116.length : Int) := oD
       obtain ⟨ad119, e119, hx119_0⟩ := Kd.at_string (Kd.R_reads' HO_13.out).2.2 x15_1 p119 q119
       cases e119
       replace p119 := eq_true p119
       replace q119 := eq_true q119
       go_upto_region 7 with (fail)
       go_cut [31] (fun v31 wc => ∃ (kq : Nat) (x31_8 : Bool), v31 = .bool x31_8 ∧ Aside0 (addr_list.j1 kq x4_1 (rdOf ByteArray.empty t116 x15_1) t116 (t116.length : Int) x15_1 x31_8 = some (r1, r2)) ∧ Aside0 (kq ≤ k1) ∧ Aside0 (Kd.R (Kd.int .u16) 93 wc w.heap.size (fun _ => True) u4 x4_1) ∧ Aside0 (Kd.R Kd.string 9 wc w.heap.size (fun _ => True) (.slice (some ad119) t116.length co5) t116) ∧ Aside0 (Below w.heap.size w wc))
       case first =>
        have H := HC9.out
        clear HC9
        by_cases c10 : ((rdOf ByteArray.empty t116 x15_1).size : Int) < 1
        ·
         rw [if_pos c10] at H
         have c10b0 := decide_eq_true c10
         have c10b1 : decide ((rdOf ByteArray.empty t116 x15_1).size < 1) = true := decide_eq_true (by omega)
         clear c10
         (first | rw [c10b0] | (simp only [i64_w, i32_w]; rw [c10b0]) | skip)
         have H' := Aside0.mk H
         clear H
         go_wp2
         refine Met.intro ?_
         go_step
         (repeat apply Exists.intro)
         refine ⟨?rel, ?heq_⟩
         case heq_ => first | rfl | (rw [c10b0]) | (simp only [c10b0])
         case rel => exact ⟨_, (true), pT, H', ⟨by have := HK1.out; first | omega | exact Nat.le_refl _⟩, ⟨by (with_reducible repeat (first | apply Kd.R_alloc | apply Kd.R_drewN | apply Kd.R_drew)); exact HO_4.out⟩, ⟨by (with_reducible repeat (first | apply Kd.R_alloc | apply Kd.R_drewN | apply Kd.R_drew)); exact HO_13.out⟩, ⟨pE HB⟩⟩
        ·
         rw [if_neg c10] at H
         have c10b0 := decide_eq_false c10
         have c10b1 : decide ((rdOf ByteArray.empty t116 x15_1).size < 1) = false := decide_eq_false (by omega)
         clear c10
         (first | rw [c10b0] | (simp only [i64_w, i32_w]; rw [c10b0]) | skip)
         by_cases c11 : ((rdOf ByteArray.empty t116 x15_1).size : Int) > 4
         ·
          rw [if_pos c11] at H
          have c11b0 := decide_eq_true c11
          have c11b1 : decide (4 < (rdOf ByteArray.empty t116 x15_1).size) = true := decide_eq_true (by omega)
          clear c11
          have H' := Aside0.mk H
          clear H
          go_wp2
          refine Met.intro ?_
          go_step
          (repeat apply Exists.intro)
          refine ⟨?rel, ?heq_⟩
          case heq_ => first | rfl | (rw [c10b0]) | (simp only [c10b0])
          case rel => exact ⟨_, (true), pT, H', ⟨by have := HK1.out; first | omega | exact Nat.le_refl _⟩, ⟨by (with_reducible repeat (first | apply Kd.R_alloc | apply Kd.R_drewN | apply Kd.R_drew)); exact HO_4.out⟩, ⟨by (with_reducible repeat (first | apply Kd.R_alloc | apply Kd.R_drewN | apply Kd.R_drew)); exact HO_13.out⟩, ⟨pE HB⟩⟩
         ·
          rw [if_neg c11] at H
          have c11b0 := decide_eq_false c11
          have c11b1 : decide (4 < (rdOf ByteArray.empty t116 x15_1).size) = false := decide_eq_false (by omega)
          clear c11
          have H' := Aside0.mk H
          clear H
          obtain ⟨Ao12, co12, eo12⟩ := Kd.R_slice HO_4.out
          subst eo12
          go_wp2
          refine Met.intro ?_
          go_step
          (repeat apply Exists.intro)
          refine ⟨?rel, ?heq_⟩
          case heq_ => first | rfl | (rw [c10b0]) | (simp only [c10b0])
          case rel => exact ⟨_, (((x4_1.length : Int) == 8)), pT, H', ⟨by have := HK1.out; first | omega | exact Nat.le_refl _⟩, ⟨by (with_reducible repeat (first | apply Kd.R_alloc | apply Kd.R_drewN | apply Kd.R_drew)); exact HO_4.out⟩, ⟨by (with_reducible repeat (first | apply Kd.R_alloc | apply Kd.R_drewN | apply Kd.R_drew)); exact HO_13.out⟩, ⟨pE HB⟩⟩
       case rest =>
        clear HC9
        try clear c2
        try clear c2b0
        try clear c2b1
        try clear c6
        try clear c6b0
        try clear c7
        try clear c7b0
        try clear c8
        try clear c8b0
        try clear hx119_0
        try clear p119
        try clear q119
        obtain ⟨kq, x31_8, rfl, HA, HJ8, HO_4, HO_13, HB⟩ := hcut
        cases kq with
        | zero => exact absurd HA.out (by simp [addr_list.j1])
        | succ kj8 =>
         have H := HA.out
         clear HA
         simp only [addr_list.j1] at H
         by_cases c13 : x31_8 = true
         ·
          subst c13
          have H1 : (some (([] : List Int), false)) = some (r1, r2) := by rw [if_pos rfl] at H; exact H
          clear H
          have H := H1
          clear H1
          simp only [Option.some.injEq, Prod.mk.injEq] at H
          obtain ⟨rfl, rfl⟩ := H
          go_wp2
          go_ret2
          exact ⟨_, by first | rfl | (simp [errW_none, errW_some] <;> rfl) | (simp [*, errW_none, errW_some] <;> rfl), by first | exact Kd.R_nil _ _ _ _ _ | exact Kd.N_nil _ _ _ _ _ | exact Kd.V_nil _ _ _ _ _ | exact Kd.Q_nil _ _ _ _ _ | exact Kd.S_nil _ _ _ _ _, by repeat (first | (with_reducible first | exact HB.out | apply below_alloc | apply pw_below_drewN | apply below_drew1) | exact HB.out)⟩
         ·
          replace c13 := Bool.eq_false_iff.mpr c13
          subst c13
          rw [if_neg (show ¬ (false = true) by decide)] at H
          have H' := Aside0.mk H
          clear H
          go_wp2
          go_loopg [7, 34] kj8 (fun kq v7 v34 w' => ∃ (x7_3 : Int) (x34_3 : Int), v7 = .int .i64 x7_3 ∧ v34 = .int .i64 x34_3 ∧ Aside0 (addr_list.l1 kq x4_1 (rdOf ByteArray.empty t116 x15_1) x7_3 t116 (t116.length : Int) x15_1 ((rdOf ByteArray.empty t116 x15_1).size : Int) x34_3 = some (r1, r2)) ∧ Aside0 (kq ≤ kj8) ∧ Aside0 (Kd.R (Kd.int .u16) 93 w' w.heap.size (fun _ => True) u4 x4_1) ∧ Aside0 (Kd.R Kd.string 9 w' w.heap.size (fun _ => True) (.slice (some ad119) t116.length co5) t116) ∧ Aside0 (Below w.heap.size w w'))
          case atStart => exact ⟨(0), (0), pT, pT, H', ⟨Nat.le_refl _⟩, ⟨by (with_reducible repeat (first | apply Kd.R_alloc | apply Kd.R_drewN | apply Kd.R_drew)); exact HO_4.out⟩, ⟨by (with_reducible repeat (first | apply Kd.R_alloc | apply Kd.R_drewN | apply Kd.R_drew)); exact HO_13.out⟩, ⟨pE HB⟩⟩
          case round =>
           clear H'
           try clear c2
           try clear c2b0
           try clear c2b1
           try clear c6
           try clear c6b0
           try clear c7
           try clear c7b0
           try clear c8
           try clear c8b0
           try clear c13
           try clear hx119_0
           try clear p119
           try clear q119
           obtain ⟨x7_3, x34_3, rfl, rfl, HA, HK3, HO_4, HO_13, HB⟩ := hrel
           cases gk with
           | zero => exact absurd HA.out (by simp [addr_list.l1])
           | succ k3 =>
            have H := HA.out
            clear HA
            simp only [addr_list.l1] at H
            by_cases c14 : x34_3 < ((rdOf ByteArray.empty t116 x15_1).size : Int)
            ·
             rw [if_pos c14] at H
             have c14b0 := decide_eq_true c14
             clear c14
             by_cases c15 : 0 ≤ x34_3
             ·
              rw [if_pos c15] at H
              have c15b0 := decide_eq_true c15
              clear c15
              by_cases c16 : x34_3 < ((rdOf ByteArray.empty t116 x15_1).size : Int)
              ·
               rw [if_pos c16] at H
               have c16b0 := decide_eq_true c16
               clear c16
               replace H := Option.bind_eq_some_iff.mp H
               obtain ⟨t120, A180, H⟩ := H
               have A18 := Aside0.mk A180
               clear A180
               by_cases c19 : t120 < 0
               ·
                rw [if_pos c19] at H
                have c19b0 := decide_eq_true c19
                clear c19
                simp only [Option.some.injEq, Prod.mk.injEq] at H
                obtain ⟨rfl, rfl⟩ := H
                have p17 : 0 ≤ (x34_3 : Int) := oD
                have q17 : x34_3 < ((rdOf ByteArray.empty t116 x15_1).size : Int) := oD
                have hx17 := bt_at (rdOf ByteArray.empty t116 x15_1) x34_3
                replace p17 := eq_true p17
                replace q17 := eq_true q17
                go_wp2_with (first | ((with_reducible refine gate_callee (f := 109) rfl ?_); refine goesA (some 40) Tryz.func109 #[.int .u8 (bt (rdOf ByteArray.empty t116 x15_1) x34_3)] ?_; (with_reducible refine (addr_digit.calls k3 (bt (rdOf ByteArray.empty t116 x15_1) x34_3) t120 _ A18.out).mono ?_); rintro e w' ⟨rfl, ⟨nd, rfl⟩⟩; refine ⟨_, rfl, ?_⟩))
                go_ret2
                exact ⟨_, by first | rfl | (simp [errW_none, errW_some] <;> rfl) | (simp [*, errW_none, errW_some] <;> rfl), by first | exact Kd.R_nil _ _ _ _ _ | exact Kd.N_nil _ _ _ _ _ | exact Kd.V_nil _ _ _ _ _ | exact Kd.Q_nil _ _ _ _ _ | exact Kd.S_nil _ _ _ _ _, by repeat (first | (with_reducible first | exact HB.out | apply below_alloc | apply pw_below_drewN | apply below_drew1) | exact HB.out)⟩
               ·
                rw [if_neg c19] at H
                have c19b0 := decide_eq_false c19
                clear c19
                have H' := Aside0.mk H
                clear H
                have p17 : 0 ≤ (x34_3 : Int) := oD
                have q17 : x34_3 < ((rdOf ByteArray.empty t116 x15_1).size : Int) := oD
                have hx17 := bt_at (rdOf ByteArray.empty t116 x15_1) x34_3
                replace p17 := eq_true p17
                replace q17 := eq_true q17
                go_wp2_with (first | ((with_reducible refine gate_callee (f := 109) rfl ?_); refine goesA (some 40) Tryz.func109 #[.int .u8 (bt (rdOf ByteArray.empty t116 x15_1) x34_3)] ?_; (with_reducible refine (addr_digit.calls k3 (bt (rdOf ByteArray.empty t116 x15_1) x34_3) t120 _ A18.out).mono ?_); rintro e w' ⟨rfl, ⟨nd, rfl⟩⟩; refine ⟨_, rfl, ?_⟩))
                go_roundg k3
                case measure => have := HK1.out; have := HJ8.out; have := HK3.out; omega
                case rel => exact ⟨(wrap64 ((wrap64 (16 * x7_3)) + t120)), (wrap64 (x34_3 + 1)), pT, pT, H', ⟨by have := HK1.out; have := HJ8.out; have := HK3.out; omega⟩, ⟨by (with_reducible repeat (first | apply Kd.R_alloc | apply Kd.R_drewN | apply Kd.R_drew)); exact HO_4.out⟩, ⟨by (with_reducible repeat (first | apply Kd.R_alloc | apply Kd.R_drewN | apply Kd.R_drew)); exact HO_13.out⟩, ⟨pE HB⟩⟩
              ·
               rw [if_neg c16] at H
               exact absurd H (by simp)
             ·
              rw [if_neg c15] at H
              exact absurd H (by simp)
            ·
             rw [if_neg c14] at H
             have c14b0 := decide_eq_false c14
             clear c14
             by_cases c20 : x4_1.length < 70368744177664
             ·
              rw [if_pos c20] at H
              have LMc20 := Aside0.mk c20
              clear c20
              obtain ⟨y121, hy121⟩ : ∃ y_ : List Int, y_ = (x4_1 ++ [IntKind.u16.wrap (x7_3)]) := ⟨_, rfl⟩
              replace H : (addr_list.l0 k3 y121 t116 (t116.length : Int) (wrap64 (x15_1 + 1))) = some (r1, r2) := by first | (rw [hy121]; with_reducible exact H) | (have H2_ := (Option.bind_some _ _).symm.trans H; rw [hy121]; with_reducible exact H2_) | (have H2_ := (Option.bind_some _ _).symm.trans H; with_reducible exact H2_) | with_reducible exact H | (rw [hy121]; exact H) | exact H
              have Ny121 := Aside0.mk hy121
              clear hy121
              have H' := Aside0.mk H
              clear H
              go_wp2_with (first | ((with_reducible refine gate_builtin (b := .append) (xs := #[.tmp 48, .tmp 51]) rfl ?_); (try (refine gate_guard (by rfl) ?_; dsimp only)); at_builtin; refine Kd.R_append (Kd.int .u16) (w0 := w) w.heap.size rfl (.tmp 48) (.tmp 51) 100 93 (.int .u16 0) 2 rfl Tryz.underlying100 info93 rfl (by decide) (by omega) u4 x4_1 (IntKind.u16.wrap (x7_3)) [.int .u16 (IntKind.u16.wrap (x7_3))] (fun _ => True) (fun _ => False) rfl rfl ?aP (fun _ hk => hk.elim) ?aF ?aO ?aB ?aS ?aL ?_; (case aP => exact rfl); (case aB => exact (by repeat (first | (with_reducible first | exact HB.out | apply below_alloc | apply pw_below_drewN | apply below_drew1) | exact HB.out))); (case aF => exact (fun _ _ => trivial)); (case aO => exact (by (with_reducible repeat (first | apply Kd.R_alloc | apply Kd.R_drewN | apply Kd.R_drew)); exact HO_4.out)); (case aS => exact (below_size (by repeat (first | (with_reducible first | exact HB.out | apply below_alloc | apply pw_below_drewN | apply below_drew1) | exact HB.out)))); (case aL => have := LMc20.out; omega); intro v122 w21 ho hb hg hat; rw [← Ny121.out] at ho; have HO123 := Aside0.mk (ho); replace HO_13 := Aside0.mk (Kd.R_over' (by (with_reducible repeat (first | apply Kd.R_alloc | apply Kd.R_drewN | apply Kd.R_drew)); exact HO_13.out) (Kd.R_typed (by (with_reducible repeat (first | apply Kd.R_alloc | apply Kd.R_drewN | apply Kd.R_drew)); exact HO_4.out)) (by decide) hg); replace HB := Aside0.mk (hb); clear HO_4; clear ho hb hg hat))
              go_roundg k3
              case measure => have := HK1.out; have := HJ8.out; have := HK3.out; omega
              case rel => exact ⟨(y121), (wrap64 (x15_1 + 1)), pT, H', ⟨by have := HK1.out; have := HJ8.out; have := HK3.out; omega⟩, ⟨by (with_reducible repeat (first | apply Kd.R_alloc | apply Kd.R_drewN | apply Kd.R_drew)); exact HO123.out⟩, ⟨by (with_reducible repeat (first | apply Kd.R_alloc | apply Kd.R_drewN | apply Kd.R_drew)); exact HO_13.out⟩, ⟨pE HB⟩⟩
             ·
              rw [if_neg c20] at H
              exact absurd H (by simp)
      ·
       rw [if_neg c8] at H
       exact absurd H (by simp)
     ·
      rw [if_neg c7] at H
      exact absurd H (by simp)
    ·
     rw [if_neg c6] at H
     have c6b0 := decide_eq_false c6
     clear c6
     simp only [Option.some.injEq, Prod.mk.injEq] at H
     obtain ⟨rfl, rfl⟩ := H
     go_wp2
     go_ret2
     exact ⟨_, by first | rfl | (simp [errW_none, errW_some] <;> rfl) | (simp [*, errW_none, errW_some] <;> rfl), by (with_reducible repeat (first | apply Kd.R_alloc | apply Kd.R_drewN | apply Kd.R_drew)); exact HO_4.out, by repeat (first | (with_reducible first | exact HB.out | apply below_alloc | apply pw_below_drewN | apply below_drew1) | exact HB.out)⟩

/-! ### addr_six: function 63 (given) -/
/-- One more group behind a number. -/
def shift16 (x g : Int) : Int := Go.bits .or .u64 (IntKind.u64.wrap (x * 65536)) (IntKind.u64.wrap g)
def num4 (a b c d : Int) : Int := shift16 (shift16 (shift16 (Go.bits .or .u64 0 (IntKind.u64.wrap a)) b) c) d
set_option maxHeartbeats 4000000 in
set_option maxRecDepth 100000 in
theorem groups_addr.calls (g0 g1 g2 g3 g4 g5 g6 g7 : Int) (w : World) :
    Calls Tryz.prog 89 #[.agg #[.int .u16 g0, .int .u16 g1, .int .u16 g2, .int .u16 g3, .int .u16 g4, .int .u16 g5, .int .u16 g6, .int .u16 g7]] w fun e w' => e = .returned (.agg #[.bool true, .int .u64 (num4 g0 g1 g2 g3), .int .u64 (num4 g4 g5 g6 g7)]) ∧ Below w.heap.size w w' := by
  have huA_ := Tryz.underlying24
  have huG_ := Tryz.underlying95
  have hz : (0 : Int) * 65536 = 0 := rfl
  go_enter Tryz.func89, Tryz.ntmps89
  go_wp2
  refine wp_loop_rounds 5 ?_
  rw [rounds_succ]
  go_wp2
  go_region
  go_wp2
  go_region
  go_wp2
  rw [rounds_succ]
  go_wp2
  go_region
  go_wp2
  go_region
  go_wp2
  rw [rounds_succ]
  go_wp2
  go_region
  go_wp2
  go_region
  go_wp2
  rw [rounds_succ]
  go_wp2
  go_region
  go_wp2
  go_region
  go_wp2
  rw [rounds_succ]
  go_wp2
  refine bodyPost_ret (v := .agg #[.bool true, .int .u64 (num4 g0 g1 g2 g3), .int .u64 (num4 g4 g5 g6 g7)]) (by simp [results, Tryz.results89, go_sem, num4, shift16]) rfl ⟨rfl, ?_⟩
  repeat (first | exact Below.refl _ _ | apply below_drew | apply below_alloc | apply pw_below_drewN)
theorem below_mono_ {B B' : Nat} {w w' : World} (h : Below B w w') (hb : B' ≤ B) : Below B' w w' := ⟨h.os, h.tape, h.output, h.size, fun k hk => h.block k (by omega)⟩
theorem blk_new_drewN (w : World) (o : Obj) (n : Nat) : ((w.alloc o).drewN n).heap[w.heap.size]? = some o := by
  show (w.heap.push o)[w.heap.size]? = _
  simp
def zeros8 : List Value := [.int .u16 0, .int .u16 0, .int .u16 0, .int .u16 0, .int .u16 0, .int .u16 0, .int .u16 0, .int .u16 0]
/-- Eight groups: the head's, zeros, the tail's. -/
def six8 (a b : List Int) : List Int := a ++ (List.replicate (8 - a.length - b.length) 0 ++ b)
theorem nums_one (k : IntKind) (xs : List Int) : ∀ v ∈ nums k xs, v.oneCell' = true := by
  intro v hv
  simp only [nums, List.mem_map] at hv
  obtain ⟨x, _, rfl⟩ := hv
  rfl
theorem cells_of_C {k : IntKind} {w : World} {A : Option Addr} {n : Nat} {xs : List Int} (h : (Kd.int k).C w A n xs) (hn : 0 < n) : ∃ ad, A = some ad ∧ ∀ j v, (nums k xs)[j]? = some v → w.cell? (ad.add j) = some v := by
  obtain ⟨ad, e, hc⟩ := h.2.2 hn
  refine ⟨ad, e, fun j v hv => ?_⟩
  simp only [nums, List.getElem?_map, Option.map_eq_some_iff] at hv
  obtain ⟨p, hp, rfl⟩ := hv
  obtain ⟨c, _, hr, hcell⟩ := hc j p hp
  have := hcell 0 (.int k p) (by rw [show c = [Value.int k p] from hr]; rfl)
  simpa [Kd.int, Kd.scalar] using this
theorem six8_length (a b : List Int) (h : a.length + b.length ≤ 8) : (six8 a b).length = 8 := by simp [six8]; omega
theorem list8 (l : List Int) (h : l.length = 8) : nums .u16 l = [.int .u16 (rd l 0), .int .u16 (rd l 1), .int .u16 (rd l 2), .int .u16 (rd l 3), .int .u16 (rd l 4), .int .u16 (rd l 5), .int .u16 (rd l 6), .int .u16 (rd l 7)] := by
  match l, h with
  | [_, _, _, _, _, _, _, _], _ => rfl
theorem six_splice (a b : List Int) (lo : Nat) (h : lo + b.length = 8) (h2 : a.length + b.length ≤ 8) : splice (splice zeros8 0 (nums .u16 a)) lo (nums .u16 b) = nums .u16 (six8 a b) := by
  have hz : zeros8 = List.replicate 8 (.int .u16 0) := rfl
  have e1 : splice zeros8 0 (nums .u16 a) = nums .u16 a ++ List.replicate (8 - a.length) (.int .u16 0) := by
    unfold splice
    rw [hz, List.drop_replicate, nums_length, Nat.zero_add]; rfl
  rw [e1]
  unfold splice
  rw [List.drop_of_length_le (by simp [nums_length]; omega), List.append_nil, List.take_append, List.take_of_length_le (by rw [nums_length]; omega), nums_length, List.take_replicate]
  simp only [six8, nums, List.map_append, List.map_replicate, List.append_assoc]
  congr 2
  congr 1
  omega
theorem six_row {w : World} {g lo : Nat} {X1 X2 : List Value} {a b : List Int} (h : Hid (w.heap[g]? = some (.cells (splice (splice zeros8 0 X1) lo X2).toArray 95 (0, 0)))) (h1 : X1 = nums .u16 a) (h2 : X2 = nums .u16 b) (hl : lo + b.length = 8) (hs : a.length + b.length ≤ 8) :
    w.heap[g]? = some (.cells #[.int .u16 (rd (six8 a b) 0), .int .u16 (rd (six8 a b) 1), .int .u16 (rd (six8 a b) 2), .int .u16 (rd (six8 a b) 3), .int .u16 (rd (six8 a b) 4), .int .u16 (rd (six8 a b) 5), .int .u16 (rd (six8 a b) 6), .int .u16 (rd (six8 a b) 7)] 95 (0, 0)) := by
  have h' : w.heap[g]? = _ := h
  rw [h', h1, h2, six_splice a b lo hl hs, list8 _ (six8_length a b hs)]
set_option maxHeartbeats 4000000 in
set_option maxRecDepth 100000 in
theorem six_ok (k : Nat) (a0 s1 s2 : ByteArray) (ok is sh : Bool) (a b : List Int) (w : World) (hLD : Laid w) (hc : strings_Cut.f a0 (⟨#[58, 58]⟩ : ByteArray) = some (s1, s2, sh)) (hx : addr_list.f k s1 = some (a, ok)) (hy : addr_list.f k s2 = some (b, is)) (h1 : ok = false) :
    Calls Tryz.prog 63 #[.string a0] w fun e w' => e = .returned (.tuple #[.agg #[.bool false, .int .u64 0, .int .u64 0], .bool false]) ∧ Below w.heap.size w w' := by
  have huA_ := Tryz.underlying24
  have huG_ := Tryz.underlying95
  have HLD := Aside0.mk hLD
  have HC := Aside0.mk hc
  have HX := Aside0.mk hx
  have HY := Aside0.mk hy
  clear hc hx hy hLD
  subst h1
  go_enter Tryz.func63, Tryz.ntmps63
  go_wp2_with fail
  refine (strings_Cut.calls a0 _ s1 s2 _ _ (HLD.out.below (by repeat (first | exact Below.refl _ _ | apply below_drew | apply below_alloc | apply pw_below_drewN))) HC.out).mono ?_
  rintro e w1 ⟨rfl, ⟨n, rfl⟩⟩
  go_wp2_with fail
  refine (addr_list.calls k s1 a _ _ (HLD.out.below (by repeat (first | exact Below.refl _ _ | apply below_drew | apply below_alloc | apply pw_below_drewN))) HX.out).mono ?_
  rintro e w2 ⟨va, rfl, ha, hb2⟩
  obtain ⟨Aa, ca, rfl⟩ := Kd.R_slice ha
  have hw2 : Below w.heap.size w w2 := Below.trans (by repeat (first | exact Below.refl _ _ | apply below_drew | apply below_alloc | apply pw_below_drewN)) (below_mono_ hb2 (by simp))
  have hr2 : w2.heap[w.heap.size]? = some (.cells #[.bool false, .int .u64 0, .int .u64 0] 24 (0, 0)) := (hb2.block _ (by simp)).trans (blk_new_drewN _ _ _)
  have HA := Aside0.mk ha
  have HW2 := Aside0.mk hw2
  have HR2 := Aside0.mk hr2
  clear ha hw2 hr2 hb2
  go_wp2_with fail
  refine (addr_list.calls k s2 b _ _ (HLD.out.below HW2.out) HY.out).mono ?_
  rintro e w3 ⟨vb, rfl, hb, hb3⟩
  obtain ⟨Ab, cb, rfl⟩ := Kd.R_slice hb
  have hw3 : Below w.heap.size w w3 := HW2.out.trans (below_mono_ hb3 HW2.out.size)
  have hr3 : w3.heap[w.heap.size]? = some (.cells #[.bool false, .int .u64 0, .int .u64 0] 24 (0, 0)) := (hb3.block _ (blk_lt HR2.out)).trans HR2.out
  have ha3 := Kd.R_below HA.out hb3
  have HA3 := Aside0.mk ha3
  have HB3 := Aside0.mk hb
  have HW3 := Aside0.mk hw3
  have HR3 := Aside0.mk hr3
  clear ha3 hb hw3 hr3 hb3 HA HW2 HR2
  have hc0 : w3.cell? ⟨w.heap.size, 0, none⟩ = some (.bool false) := (blk_cell HR3.out 0).trans rfl
  have hc1 : w3.cell? ⟨w.heap.size, 1, none⟩ = some (.int .u64 0) := (blk_cell HR3.out 1).trans rfl
  have hc2 : w3.cell? ⟨w.heap.size, 2, none⟩ = some (.int .u64 0) := (blk_cell HR3.out 2).trans rfl
  have hf0 := blk_frozen HR3.out 0
  have hf1 := blk_frozen HR3.out 1
  have hf2 := blk_frozen HR3.out 2
  have hnb : w.heap.size < w3.heap.size := blk_lt HR3.out
  go_wp2_with fail
  refine bodyPost_ret (results_ct rfl _ _ w.heap.size 24 #[.bool false, .int .u64 0, .int .u64 0] (0, 0) _ rfl (by (with_reducible repeat (first | refine blk_drewN ?_ _ | refine blk_drew ?_ | refine blk_alloc ?_ _)); refine blk_put (cs := #[.bool false, .int .u64 0, .int .u64 0]) ?_ 2 _ rfl; refine blk_put (cs := #[.bool false, .int .u64 0, .int .u64 0]) ?_ 1 _ rfl; refine blk_put (cs := #[.bool false, .int .u64 0, .int .u64 0]) ?_ 0 _ rfl; exact HR3.out) Tryz.underlying24 rfl (by kernel_rfl)) rfl ?_
  exact ⟨rfl, by repeat (first | exact HW3.out | apply below_alloc | apply pw_below_drewN | apply below_drew1 | refine below_set ?_ (Nat.le_refl _))⟩
set_option maxHeartbeats 4000000 in
set_option maxRecDepth 100000 in
theorem six_is (k : Nat) (a0 s1 s2 : ByteArray) (ok is sh : Bool) (a b : List Int) (w : World) (hLD : Laid w) (hc : strings_Cut.f a0 (⟨#[58, 58]⟩ : ByteArray) = some (s1, s2, sh)) (hx : addr_list.f k s1 = some (a, ok)) (hy : addr_list.f k s2 = some (b, is)) (h1 : ok = true) (h2 : is = false) :
    Calls Tryz.prog 63 #[.string a0] w fun e w' => e = .returned (.tuple #[.agg #[.bool false, .int .u64 0, .int .u64 0], .bool false]) ∧ Below w.heap.size w w' := by
  have huA_ := Tryz.underlying24
  have huG_ := Tryz.underlying95
  have HLD := Aside0.mk hLD
  have HC := Aside0.mk hc
  have HX := Aside0.mk hx
  have HY := Aside0.mk hy
  clear hc hx hy hLD
  subst h1 h2
  go_enter Tryz.func63, Tryz.ntmps63
  go_wp2_with fail
  refine (strings_Cut.calls a0 _ s1 s2 _ _ (HLD.out.below (by repeat (first | exact Below.refl _ _ | apply below_drew | apply below_alloc | apply pw_below_drewN))) HC.out).mono ?_
  rintro e w1 ⟨rfl, ⟨n, rfl⟩⟩
  go_wp2_with fail
  refine (addr_list.calls k s1 a _ _ (HLD.out.below (by repeat (first | exact Below.refl _ _ | apply below_drew | apply below_alloc | apply pw_below_drewN))) HX.out).mono ?_
  rintro e w2 ⟨va, rfl, ha, hb2⟩
  obtain ⟨Aa, ca, rfl⟩ := Kd.R_slice ha
  have hw2 : Below w.heap.size w w2 := Below.trans (by repeat (first | exact Below.refl _ _ | apply below_drew | apply below_alloc | apply pw_below_drewN)) (below_mono_ hb2 (by simp))
  have hr2 : w2.heap[w.heap.size]? = some (.cells #[.bool false, .int .u64 0, .int .u64 0] 24 (0, 0)) := (hb2.block _ (by simp)).trans (blk_new_drewN _ _ _)
  have HA := Aside0.mk ha
  have HW2 := Aside0.mk hw2
  have HR2 := Aside0.mk hr2
  clear ha hw2 hr2 hb2
  go_wp2_with fail
  refine (addr_list.calls k s2 b _ _ (HLD.out.below HW2.out) HY.out).mono ?_
  rintro e w3 ⟨vb, rfl, hb, hb3⟩
  obtain ⟨Ab, cb, rfl⟩ := Kd.R_slice hb
  have hw3 : Below w.heap.size w w3 := HW2.out.trans (below_mono_ hb3 HW2.out.size)
  have hr3 : w3.heap[w.heap.size]? = some (.cells #[.bool false, .int .u64 0, .int .u64 0] 24 (0, 0)) := (hb3.block _ (blk_lt HR2.out)).trans HR2.out
  have ha3 := Kd.R_below HA.out hb3
  have HA3 := Aside0.mk ha3
  have HB3 := Aside0.mk hb
  have HW3 := Aside0.mk hw3
  have HR3 := Aside0.mk hr3
  clear ha3 hb hw3 hr3 hb3 HA HW2 HR2
  have hc0 : w3.cell? ⟨w.heap.size, 0, none⟩ = some (.bool false) := (blk_cell HR3.out 0).trans rfl
  have hc1 : w3.cell? ⟨w.heap.size, 1, none⟩ = some (.int .u64 0) := (blk_cell HR3.out 1).trans rfl
  have hc2 : w3.cell? ⟨w.heap.size, 2, none⟩ = some (.int .u64 0) := (blk_cell HR3.out 2).trans rfl
  have hf0 := blk_frozen HR3.out 0
  have hf1 := blk_frozen HR3.out 1
  have hf2 := blk_frozen HR3.out 2
  have hnb : w.heap.size < w3.heap.size := blk_lt HR3.out
  go_wp2_with fail
  refine bodyPost_ret (results_ct rfl _ _ w.heap.size 24 #[.bool false, .int .u64 0, .int .u64 0] (0, 0) _ rfl (by (with_reducible repeat (first | refine blk_drewN ?_ _ | refine blk_drew ?_ | refine blk_alloc ?_ _)); refine blk_put (cs := #[.bool false, .int .u64 0, .int .u64 0]) ?_ 2 _ rfl; refine blk_put (cs := #[.bool false, .int .u64 0, .int .u64 0]) ?_ 1 _ rfl; refine blk_put (cs := #[.bool false, .int .u64 0, .int .u64 0]) ?_ 0 _ rfl; exact HR3.out) Tryz.underlying24 rfl (by kernel_rfl)) rfl ?_
  exact ⟨rfl, by repeat (first | exact HW3.out | apply below_alloc | apply pw_below_drewN | apply below_drew1 | refine below_set ?_ (Nat.le_refl _))⟩
set_option maxHeartbeats 4000000 in
set_option maxRecDepth 100000 in
theorem six_sum (k : Nat) (a0 s1 s2 : ByteArray) (ok is sh : Bool) (a b : List Int) (w : World) (hLD : Laid w) (hc : strings_Cut.f a0 (⟨#[58, 58]⟩ : ByteArray) = some (s1, s2, sh)) (hx : addr_list.f k s1 = some (a, ok)) (hy : addr_list.f k s2 = some (b, is)) (h1 : ok = true) (h2 : is = true) (h3 : sh = true) (h4 : 7 < wrap64 ((a.length : Int) + b.length)) :
    Calls Tryz.prog 63 #[.string a0] w fun e w' => e = .returned (.tuple #[.agg #[.bool false, .int .u64 0, .int .u64 0], .bool false]) ∧ Below w.heap.size w w' := by
  have huA_ := Tryz.underlying24
  have huG_ := Tryz.underlying95
  have HLD := Aside0.mk hLD
  have HC := Aside0.mk hc
  have HX := Aside0.mk hx
  have HY := Aside0.mk hy
  clear hc hx hy hLD
  subst h1 h2 h3
  have h4b : decide (7 < wrap64 ((a.length : Int) + b.length)) = true := decide_eq_true h4
  clear h4
  go_enter Tryz.func63, Tryz.ntmps63
  go_wp2_with fail
  refine (strings_Cut.calls a0 _ s1 s2 _ _ (HLD.out.below (by repeat (first | exact Below.refl _ _ | apply below_drew | apply below_alloc | apply pw_below_drewN))) HC.out).mono ?_
  rintro e w1 ⟨rfl, ⟨n, rfl⟩⟩
  go_wp2_with fail
  refine (addr_list.calls k s1 a _ _ (HLD.out.below (by repeat (first | exact Below.refl _ _ | apply below_drew | apply below_alloc | apply pw_below_drewN))) HX.out).mono ?_
  rintro e w2 ⟨va, rfl, ha, hb2⟩
  obtain ⟨Aa, ca, rfl⟩ := Kd.R_slice ha
  have hw2 : Below w.heap.size w w2 := Below.trans (by repeat (first | exact Below.refl _ _ | apply below_drew | apply below_alloc | apply pw_below_drewN)) (below_mono_ hb2 (by simp))
  have hr2 : w2.heap[w.heap.size]? = some (.cells #[.bool false, .int .u64 0, .int .u64 0] 24 (0, 0)) := (hb2.block _ (by simp)).trans (blk_new_drewN _ _ _)
  have HA := Aside0.mk ha
  have HW2 := Aside0.mk hw2
  have HR2 := Aside0.mk hr2
  clear ha hw2 hr2 hb2
  go_wp2_with fail
  refine (addr_list.calls k s2 b _ _ (HLD.out.below HW2.out) HY.out).mono ?_
  rintro e w3 ⟨vb, rfl, hb, hb3⟩
  obtain ⟨Ab, cb, rfl⟩ := Kd.R_slice hb
  have hw3 : Below w.heap.size w w3 := HW2.out.trans (below_mono_ hb3 HW2.out.size)
  have hr3 : w3.heap[w.heap.size]? = some (.cells #[.bool false, .int .u64 0, .int .u64 0] 24 (0, 0)) := (hb3.block _ (blk_lt HR2.out)).trans HR2.out
  have ha3 := Kd.R_below HA.out hb3
  have HA3 := Aside0.mk ha3
  have HB3 := Aside0.mk hb
  have HW3 := Aside0.mk hw3
  have HR3 := Aside0.mk hr3
  clear ha3 hb hw3 hr3 hb3 HA HW2 HR2
  have hc0 : w3.cell? ⟨w.heap.size, 0, none⟩ = some (.bool false) := (blk_cell HR3.out 0).trans rfl
  have hc1 : w3.cell? ⟨w.heap.size, 1, none⟩ = some (.int .u64 0) := (blk_cell HR3.out 1).trans rfl
  have hc2 : w3.cell? ⟨w.heap.size, 2, none⟩ = some (.int .u64 0) := (blk_cell HR3.out 2).trans rfl
  have hf0 := blk_frozen HR3.out 0
  have hf1 := blk_frozen HR3.out 1
  have hf2 := blk_frozen HR3.out 2
  have hnb : w.heap.size < w3.heap.size := blk_lt HR3.out
  go_wp2_with fail
  refine bodyPost_ret (results_ct rfl _ _ w.heap.size 24 #[.bool false, .int .u64 0, .int .u64 0] (0, 0) _ rfl (by (with_reducible repeat (first | refine blk_drewN ?_ _ | refine blk_drew ?_ | refine blk_alloc ?_ _)); refine blk_put (cs := #[.bool false, .int .u64 0, .int .u64 0]) ?_ 2 _ rfl; refine blk_put (cs := #[.bool false, .int .u64 0, .int .u64 0]) ?_ 1 _ rfl; refine blk_put (cs := #[.bool false, .int .u64 0, .int .u64 0]) ?_ 0 _ rfl; exact HR3.out) Tryz.underlying24 rfl (by kernel_rfl)) rfl ?_
  exact ⟨rfl, by repeat (first | exact HW3.out | apply below_alloc | apply pw_below_drewN | apply below_drew1 | refine below_set ?_ (Nat.le_refl _))⟩
set_option maxHeartbeats 4000000 in
set_option maxRecDepth 100000 in
theorem six_len (k : Nat) (a0 s1 s2 : ByteArray) (ok is sh : Bool) (a b : List Int) (w : World) (hLD : Laid w) (hc : strings_Cut.f a0 (⟨#[58, 58]⟩ : ByteArray) = some (s1, s2, sh)) (hx : addr_list.f k s1 = some (a, ok)) (hy : addr_list.f k s2 = some (b, is)) (h1 : ok = true) (h2 : is = true) (h3 : sh = false) (h4 : ¬ (a.length : Int) = 8) :
    Calls Tryz.prog 63 #[.string a0] w fun e w' => e = .returned (.tuple #[.agg #[.bool false, .int .u64 0, .int .u64 0], .bool false]) ∧ Below w.heap.size w w' := by
  have huA_ := Tryz.underlying24
  have huG_ := Tryz.underlying95
  have HLD := Aside0.mk hLD
  have HC := Aside0.mk hc
  have HX := Aside0.mk hx
  have HY := Aside0.mk hy
  clear hc hx hy hLD
  subst h1 h2 h3
  have h4b : ((a.length : Int) != 8) = true := bne_iff_ne.mpr h4
  clear h4
  go_enter Tryz.func63, Tryz.ntmps63
  go_wp2_with fail
  refine (strings_Cut.calls a0 _ s1 s2 _ _ (HLD.out.below (by repeat (first | exact Below.refl _ _ | apply below_drew | apply below_alloc | apply pw_below_drewN))) HC.out).mono ?_
  rintro e w1 ⟨rfl, ⟨n, rfl⟩⟩
  go_wp2_with fail
  refine (addr_list.calls k s1 a _ _ (HLD.out.below (by repeat (first | exact Below.refl _ _ | apply below_drew | apply below_alloc | apply pw_below_drewN))) HX.out).mono ?_
  rintro e w2 ⟨va, rfl, ha, hb2⟩
  obtain ⟨Aa, ca, rfl⟩ := Kd.R_slice ha
  have hw2 : Below w.heap.size w w2 := Below.trans (by repeat (first | exact Below.refl _ _ | apply below_drew | apply below_alloc | apply pw_below_drewN)) (below_mono_ hb2 (by simp))
  have hr2 : w2.heap[w.heap.size]? = some (.cells #[.bool false, .int .u64 0, .int .u64 0] 24 (0, 0)) := (hb2.block _ (by simp)).trans (blk_new_drewN _ _ _)
  have HA := Aside0.mk ha
  have HW2 := Aside0.mk hw2
  have HR2 := Aside0.mk hr2
  clear ha hw2 hr2 hb2
  go_wp2_with fail
  refine (addr_list.calls k s2 b _ _ (HLD.out.below HW2.out) HY.out).mono ?_
  rintro e w3 ⟨vb, rfl, hb, hb3⟩
  obtain ⟨Ab, cb, rfl⟩ := Kd.R_slice hb
  have hw3 : Below w.heap.size w w3 := HW2.out.trans (below_mono_ hb3 HW2.out.size)
  have hr3 : w3.heap[w.heap.size]? = some (.cells #[.bool false, .int .u64 0, .int .u64 0] 24 (0, 0)) := (hb3.block _ (blk_lt HR2.out)).trans HR2.out
  have ha3 := Kd.R_below HA.out hb3
  have HA3 := Aside0.mk ha3
  have HB3 := Aside0.mk hb
  have HW3 := Aside0.mk hw3
  have HR3 := Aside0.mk hr3
  clear ha3 hb hw3 hr3 hb3 HA HW2 HR2
  have hc0 : w3.cell? ⟨w.heap.size, 0, none⟩ = some (.bool false) := (blk_cell HR3.out 0).trans rfl
  have hc1 : w3.cell? ⟨w.heap.size, 1, none⟩ = some (.int .u64 0) := (blk_cell HR3.out 1).trans rfl
  have hc2 : w3.cell? ⟨w.heap.size, 2, none⟩ = some (.int .u64 0) := (blk_cell HR3.out 2).trans rfl
  have hf0 := blk_frozen HR3.out 0
  have hf1 := blk_frozen HR3.out 1
  have hf2 := blk_frozen HR3.out 2
  have hnb : w.heap.size < w3.heap.size := blk_lt HR3.out
  go_wp2_with fail
  refine bodyPost_ret (results_ct rfl _ _ w.heap.size 24 #[.bool false, .int .u64 0, .int .u64 0] (0, 0) _ rfl (by (with_reducible repeat (first | refine blk_drewN ?_ _ | refine blk_drew ?_ | refine blk_alloc ?_ _)); refine blk_put (cs := #[.bool false, .int .u64 0, .int .u64 0]) ?_ 2 _ rfl; refine blk_put (cs := #[.bool false, .int .u64 0, .int .u64 0]) ?_ 1 _ rfl; refine blk_put (cs := #[.bool false, .int .u64 0, .int .u64 0]) ?_ 0 _ rfl; exact HR3.out) Tryz.underlying24 rfl (by kernel_rfl)) rfl ?_
  exact ⟨rfl, by repeat (first | exact HW3.out | apply below_alloc | apply pw_below_drewN | apply below_drew1 | refine below_set ?_ (Nat.le_refl _))⟩
set_option maxHeartbeats 4000000 in
set_option maxRecDepth 100000 in
theorem six_short0 (k : Nat) (a0 s1 s2 : ByteArray) (ok is sh : Bool) (a b : List Int) (w : World) (hLD : Laid w) (hc : strings_Cut.f a0 (⟨#[58, 58]⟩ : ByteArray) = some (s1, s2, sh)) (hx : addr_list.f k s1 = some (a, ok)) (hy : addr_list.f k s2 = some (b, is)) (h1 : ok = true) (h2 : is = true) (h3 : sh = true) (h4 : a.length + b.length ≤ 7) (h5 : b.length = 0) :
    Calls Tryz.prog 63 #[.string a0] w fun e w' => e = .returned (.tuple #[.agg #[.bool true, .int .u64 (num4 (rd (six8 a b) 0) (rd (six8 a b) 1) (rd (six8 a b) 2) (rd (six8 a b) 3)), .int .u64 (num4 (rd (six8 a b) 4) (rd (six8 a b) 5) (rd (six8 a b) 6) (rd (six8 a b) 7))], .bool true]) ∧ Below w.heap.size w w' := by
  have huA_ := Tryz.underlying24
  have huG_ := Tryz.underlying95
  have HLD := Aside0.mk hLD
  have HC := Aside0.mk hc
  have HX := Aside0.mk hx
  have HY := Aside0.mk hy
  clear hc hx hy hLD
  subst h1 h2 h3
  have h4b : decide (7 < wrap64 ((a.length : Int) + b.length)) = false := decide_eq_false (by unfold wrap64; omega)
  have H4 := Aside0.mk h4
  clear h4
  go_enter Tryz.func63, Tryz.ntmps63
  go_wp2_with fail
  refine (strings_Cut.calls a0 _ s1 s2 _ _ (HLD.out.below (by repeat (first | exact Below.refl _ _ | apply below_drew | apply below_alloc | apply pw_below_drewN))) HC.out).mono ?_
  rintro e w1 ⟨rfl, ⟨n, rfl⟩⟩
  go_wp2_with fail
  refine (addr_list.calls k s1 a _ _ (HLD.out.below (by repeat (first | exact Below.refl _ _ | apply below_drew | apply below_alloc | apply pw_below_drewN))) HX.out).mono ?_
  rintro e w2 ⟨va, rfl, ha, hb2⟩
  obtain ⟨Aa, ca, rfl⟩ := Kd.R_slice ha
  have hw2 : Below w.heap.size w w2 := Below.trans (by repeat (first | exact Below.refl _ _ | apply below_drew | apply below_alloc | apply pw_below_drewN)) (below_mono_ hb2 (by simp))
  have hr2 : w2.heap[w.heap.size]? = some (.cells #[.bool false, .int .u64 0, .int .u64 0] 24 (0, 0)) := (hb2.block _ (by simp)).trans (blk_new_drewN _ _ _)
  have HA := Aside0.mk ha
  have HW2 := Aside0.mk hw2
  have HR2 := Aside0.mk hr2
  clear ha hw2 hr2 hb2
  go_wp2_with fail
  refine (addr_list.calls k s2 b _ _ (HLD.out.below HW2.out) HY.out).mono ?_
  rintro e w3 ⟨vb, rfl, hb, hb3⟩
  obtain ⟨Ab, cb, rfl⟩ := Kd.R_slice hb
  have hw3 : Below w.heap.size w w3 := HW2.out.trans (below_mono_ hb3 HW2.out.size)
  have hr3 : w3.heap[w.heap.size]? = some (.cells #[.bool false, .int .u64 0, .int .u64 0] 24 (0, 0)) := (hb3.block _ (blk_lt HR2.out)).trans HR2.out
  have ha3 := Kd.R_below HA.out hb3
  have HA3 := Aside0.mk ha3
  have HB3 := Aside0.mk hb
  have HW3 := Aside0.mk hw3
  have HR3 := Aside0.mk hr3
  clear ha3 hb hw3 hr3 hb3 HA HW2 HR2
  have hc0 : w3.cell? ⟨w.heap.size, 0, none⟩ = some (.bool false) := (blk_cell HR3.out 0).trans rfl
  have hc1 : w3.cell? ⟨w.heap.size, 1, none⟩ = some (.int .u64 0) := (blk_cell HR3.out 1).trans rfl
  have hc2 : w3.cell? ⟨w.heap.size, 2, none⟩ = some (.int .u64 0) := (blk_cell HR3.out 2).trans rfl
  have hf0 := blk_frozen HR3.out 0
  have hf1 := blk_frozen HR3.out 1
  have hf2 := blk_frozen HR3.out 2
  have hnb : w.heap.size < w3.heap.size := blk_lt HR3.out
  obtain ⟨lo, hlo⟩ : ∃ lo : Nat, lo + b.length = 8 := ⟨8 - b.length, by have := H4.out; omega⟩
  have HLO := Aside0.mk hlo
  have hw0 : wrap64 (8 - (b.length : Int)) = (lo : Int) := by unfold wrap64; omega
  have hlo8 : lo ≤ 8 := by omega
  have hloI : (lo : Int) ≤ 8 := by omega
  have hlo0 : (0 : Int) ≤ (lo : Int) := by omega
  have har8 : Tryz.prog.arrayLen 95 = 8 := by kernel_rfl
  have har : (lo : Int) ≤ ((Tryz.prog.arrayLen 95 : Nat) : Int) := by rw [har8]; omega
  clear hlo
  have HBL := Aside0.mk h5
  clear h5
  obtain rfl : lo = 8 := by have := HLO.out; have := HBL.out; omega
  have hla : a.length ≤ 8 := by have := H4.out; omega
  obtain ⟨X1, hX1⟩ : ∃ X1 : List Value, X1 = nums .u16 a := ⟨_, rfl⟩
  have HX1 := Aside0.mk hX1
  obtain ⟨X2, hX2⟩ : ∃ X2 : List Value, X2 = nums .u16 b := ⟨_, rfl⟩
  have HX2 := Aside0.mk hX2
  have hl1 : X1.length = a.length := by rw [hX1, nums_length]
  have hl2 : X2.length = b.length := by rw [hX2, nums_length]
  have HL1 := Aside0.mk hl1
  have HL2 := Aside0.mk hl2
  clear hX1 hX2 hl1 hl2
  have hca := Kd.C_alloc (Kd.R_reads' HA3.out).2.2 (.cells zeros8.toArray 95)
  have HCA := Aside0.mk hca
  clear hca
  go_wp2_with (first
    | ((with_reducible refine gate_builtin (b := .copy) (xs := #[.tmp 55, .tmp 56]) rfl ?_); (refine wpList_copy_splice rfl (.tmp 55) (.tmp 56) 100 100 rfl 93 Tryz.underlying100 (by kernel_rfl) _ _ 8 8 a.length ca (by rfl) (by rfl) w3.heap.size 0 zeros8 95 (blk_new _ _) X1 (by rw [HL1.out]; simp [Nat.min_def]; omega) (fun hp => (by rw [HX1.out]; exact ⟨rfl, cells_of_C HCA.out (by rw [← HL1.out]; exact hp)⟩)) (by rw [HL1.out]; show 0 + a.length ≤ 8; omega) (by rw [HX1.out]; exact nums_one _ _) w3.heap.size w3 (below_alloc (Below.refl _ _) _) (Nat.le_refl _) ?_); intro w4 HG4 hB4; have HB4 := Aside0.mk hB4; have HCB := Aside0.mk (Kd.C_below (Kd.R_reads' HB3.out).2.2 hB4); clear hB4)
    | ((with_reducible refine gate_builtin (b := .copy) (xs := #[.tmp 61, .tmp 62]) rfl ?_); (refine wpList_copy_splice rfl (.tmp 61) (.tmp 62) 100 100 rfl 93 Tryz.underlying100 (by kernel_rfl) _ _ 0 0 b.length cb (by rfl) (by rfl) w3.heap.size 8 (splice zeros8 0 X1) 95 HG4 X2 (by rw [HL2.out, HBL.out]; rfl) (fun hp => absurd hp (by rw [HL2.out]; have := HBL.out; omega)) (by rw [HL2.out, length_splice _ _ _ (by rw [HL1.out]; show 0 + a.length ≤ 8; omega)]; have := HLO.out; show 8 + b.length ≤ 8; omega) (by rw [HX2.out]; exact nums_one _ _) w3.heap.size w3 HB4.out (Nat.le_refl _) ?_); intro w5 HG5 hB5; have HB5 := Aside0.mk hB5; clear hB5)
    | ((with_reducible refine gate_ (.load 95 (.tmp 11)) rfl ?_); (refine wpList_load_row rfl 95 (.tmp 11) rfl w3.heap.size (by rfl) 95 #[.int .u16 (rd (six8 a b) 0), .int .u16 (rd (six8 a b) 1), .int .u16 (rd (six8 a b) 2), .int .u16 (rd (six8 a b) 3), .int .u16 (rd (six8 a b) 4), .int .u16 (rd (six8 a b) 5), .int .u16 (rd (six8 a b) 6), .int .u16 (rd (six8 a b) 7)] (0, 0) _ (six_row HG5 HX1.out HX2.out HLO.out (by have := H4.out; omega)) huG_ rfl (by kernel_rfl) ?_)))
  refine (groups_addr.calls (rd (six8 a b) 0) (rd (six8 a b) 1) (rd (six8 a b) 2) (rd (six8 a b) 3) (rd (six8 a b) 4) (rd (six8 a b) 5) (rd (six8 a b) 6) (rd (six8 a b) 7) _).mono ?_
  rintro e w6 ⟨rfl, hb6⟩
  have hr5 : w5.heap[w.heap.size]? = some (.cells #[.bool false, .int .u64 0, .int .u64 0] 24 (0, 0)) := (HB5.out.block _ hnb).trans HR3.out
  have hr6 : w6.heap[w.heap.size]? = some (.cells #[.bool false, .int .u64 0, .int .u64 0] 24 (0, 0)) := (hb6.block _ (blk_lt hr5)).trans hr5
  have hw5 : Below w.heap.size w w5 := HW3.out.trans (below_mono_ HB5.out (Nat.le_of_lt hnb))
  have hw6 : Below w.heap.size w w6 := hw5.trans (below_mono_ hb6 hw5.size)
  have HR6 := Aside0.mk hr6
  have HW6 := Aside0.mk hw6
  clear hr5 hw5 hb6 hr6 hw6 hc0 hc1 hc2 hf0 hf1 hf2
  have hc0 : w6.cell? ⟨w.heap.size, 0, none⟩ = some (.bool false) := (blk_cell HR6.out 0).trans rfl
  have hc1 : w6.cell? ⟨w.heap.size, 1, none⟩ = some (.int .u64 0) := (blk_cell HR6.out 1).trans rfl
  have hc2 : w6.cell? ⟨w.heap.size, 2, none⟩ = some (.int .u64 0) := (blk_cell HR6.out 2).trans rfl
  have hf0 := blk_frozen HR6.out 0
  have hf1 := blk_frozen HR6.out 1
  have hf2 := blk_frozen HR6.out 2
  obtain ⟨hi, hhi⟩ : ∃ x : Int, num4 (rd (six8 a b) 0) (rd (six8 a b) 1) (rd (six8 a b) 2) (rd (six8 a b) 3) = x := ⟨_, rfl⟩
  obtain ⟨lo_, hlo_⟩ : ∃ x : Int, num4 (rd (six8 a b) 4) (rd (six8 a b) 5) (rd (six8 a b) 6) (rd (six8 a b) 7) = x := ⟨_, rfl⟩
  rw [hhi, hlo_]
  have HHI := Aside0.mk hhi
  have HLO_ := Aside0.mk hlo_
  clear hhi hlo_
  go_wp2_with fail
  refine bodyPost_ret (results_ct rfl _ _ w.heap.size 24 #[.bool true, .int .u64 hi, .int .u64 lo_] (0, 0) _ rfl (by (with_reducible repeat (first | refine blk_drewN ?_ _ | refine blk_drew ?_ | refine blk_alloc ?_ _)); refine blk_put (cs := #[.bool true, .int .u64 hi, .int .u64 0]) ?_ 2 _ rfl; refine blk_put (cs := #[.bool true, .int .u64 0, .int .u64 0]) ?_ 1 _ rfl; refine blk_put (cs := #[.bool false, .int .u64 0, .int .u64 0]) ?_ 0 _ rfl; exact HR6.out) Tryz.underlying24 rfl (by kernel_rfl)) rfl ?_
  exact ⟨by rw [HHI.out, HLO_.out]; rfl, by repeat (first | exact HW6.out | apply below_alloc | apply pw_below_drewN | apply below_drew1 | refine below_set ?_ (Nat.le_refl _))⟩
set_option maxHeartbeats 4000000 in
set_option maxRecDepth 100000 in
theorem six_short1 (k : Nat) (a0 s1 s2 : ByteArray) (ok is sh : Bool) (a b : List Int) (w : World) (hLD : Laid w) (hc : strings_Cut.f a0 (⟨#[58, 58]⟩ : ByteArray) = some (s1, s2, sh)) (hx : addr_list.f k s1 = some (a, ok)) (hy : addr_list.f k s2 = some (b, is)) (h1 : ok = true) (h2 : is = true) (h3 : sh = true) (h4 : a.length + b.length ≤ 7) (h5 : 0 < b.length) :
    Calls Tryz.prog 63 #[.string a0] w fun e w' => e = .returned (.tuple #[.agg #[.bool true, .int .u64 (num4 (rd (six8 a b) 0) (rd (six8 a b) 1) (rd (six8 a b) 2) (rd (six8 a b) 3)), .int .u64 (num4 (rd (six8 a b) 4) (rd (six8 a b) 5) (rd (six8 a b) 6) (rd (six8 a b) 7))], .bool true]) ∧ Below w.heap.size w w' := by
  have huA_ := Tryz.underlying24
  have huG_ := Tryz.underlying95
  have HLD := Aside0.mk hLD
  have HC := Aside0.mk hc
  have HX := Aside0.mk hx
  have HY := Aside0.mk hy
  clear hc hx hy hLD
  subst h1 h2 h3
  have h4b : decide (7 < wrap64 ((a.length : Int) + b.length)) = false := decide_eq_false (by unfold wrap64; omega)
  have H4 := Aside0.mk h4
  clear h4
  go_enter Tryz.func63, Tryz.ntmps63
  go_wp2_with fail
  refine (strings_Cut.calls a0 _ s1 s2 _ _ (HLD.out.below (by repeat (first | exact Below.refl _ _ | apply below_drew | apply below_alloc | apply pw_below_drewN))) HC.out).mono ?_
  rintro e w1 ⟨rfl, ⟨n, rfl⟩⟩
  go_wp2_with fail
  refine (addr_list.calls k s1 a _ _ (HLD.out.below (by repeat (first | exact Below.refl _ _ | apply below_drew | apply below_alloc | apply pw_below_drewN))) HX.out).mono ?_
  rintro e w2 ⟨va, rfl, ha, hb2⟩
  obtain ⟨Aa, ca, rfl⟩ := Kd.R_slice ha
  have hw2 : Below w.heap.size w w2 := Below.trans (by repeat (first | exact Below.refl _ _ | apply below_drew | apply below_alloc | apply pw_below_drewN)) (below_mono_ hb2 (by simp))
  have hr2 : w2.heap[w.heap.size]? = some (.cells #[.bool false, .int .u64 0, .int .u64 0] 24 (0, 0)) := (hb2.block _ (by simp)).trans (blk_new_drewN _ _ _)
  have HA := Aside0.mk ha
  have HW2 := Aside0.mk hw2
  have HR2 := Aside0.mk hr2
  clear ha hw2 hr2 hb2
  go_wp2_with fail
  refine (addr_list.calls k s2 b _ _ (HLD.out.below HW2.out) HY.out).mono ?_
  rintro e w3 ⟨vb, rfl, hb, hb3⟩
  obtain ⟨Ab, cb, rfl⟩ := Kd.R_slice hb
  have hw3 : Below w.heap.size w w3 := HW2.out.trans (below_mono_ hb3 HW2.out.size)
  have hr3 : w3.heap[w.heap.size]? = some (.cells #[.bool false, .int .u64 0, .int .u64 0] 24 (0, 0)) := (hb3.block _ (blk_lt HR2.out)).trans HR2.out
  have ha3 := Kd.R_below HA.out hb3
  have HA3 := Aside0.mk ha3
  have HB3 := Aside0.mk hb
  have HW3 := Aside0.mk hw3
  have HR3 := Aside0.mk hr3
  clear ha3 hb hw3 hr3 hb3 HA HW2 HR2
  have hc0 : w3.cell? ⟨w.heap.size, 0, none⟩ = some (.bool false) := (blk_cell HR3.out 0).trans rfl
  have hc1 : w3.cell? ⟨w.heap.size, 1, none⟩ = some (.int .u64 0) := (blk_cell HR3.out 1).trans rfl
  have hc2 : w3.cell? ⟨w.heap.size, 2, none⟩ = some (.int .u64 0) := (blk_cell HR3.out 2).trans rfl
  have hf0 := blk_frozen HR3.out 0
  have hf1 := blk_frozen HR3.out 1
  have hf2 := blk_frozen HR3.out 2
  have hnb : w.heap.size < w3.heap.size := blk_lt HR3.out
  obtain ⟨lo, hlo⟩ : ∃ lo : Nat, lo + b.length = 8 := ⟨8 - b.length, by have := H4.out; omega⟩
  have HLO := Aside0.mk hlo
  have hw0 : wrap64 (8 - (b.length : Int)) = (lo : Int) := by unfold wrap64; omega
  have hlo8 : lo ≤ 8 := by omega
  have hloI : (lo : Int) ≤ 8 := by omega
  have hlo0 : (0 : Int) ≤ (lo : Int) := by omega
  have har8 : Tryz.prog.arrayLen 95 = 8 := by kernel_rfl
  have har : (lo : Int) ≤ ((Tryz.prog.arrayLen 95 : Nat) : Int) := by rw [har8]; omega
  clear hlo
  have hne : ¬ (8 = lo) := by have := HLO.out; omega
  have hla : a.length ≤ 8 := by have := H4.out; omega
  obtain ⟨X1, hX1⟩ : ∃ X1 : List Value, X1 = nums .u16 a := ⟨_, rfl⟩
  have HX1 := Aside0.mk hX1
  obtain ⟨X2, hX2⟩ : ∃ X2 : List Value, X2 = nums .u16 b := ⟨_, rfl⟩
  have HX2 := Aside0.mk hX2
  have hl1 : X1.length = a.length := by rw [hX1, nums_length]
  have hl2 : X2.length = b.length := by rw [hX2, nums_length]
  have HL1 := Aside0.mk hl1
  have HL2 := Aside0.mk hl2
  clear hX1 hX2 hl1 hl2
  have hca := Kd.C_alloc (Kd.R_reads' HA3.out).2.2 (.cells zeros8.toArray 95)
  have HCA := Aside0.mk hca
  clear hca
  go_wp2_with (first
    | ((with_reducible refine gate_builtin (b := .copy) (xs := #[.tmp 55, .tmp 56]) rfl ?_); (refine wpList_copy_splice rfl (.tmp 55) (.tmp 56) 100 100 rfl 93 Tryz.underlying100 (by kernel_rfl) _ _ 8 8 a.length ca (by rfl) (by rfl) w3.heap.size 0 zeros8 95 (blk_new _ _) X1 (by rw [HL1.out]; simp [Nat.min_def]; omega) (fun hp => (by rw [HX1.out]; exact ⟨rfl, cells_of_C HCA.out (by rw [← HL1.out]; exact hp)⟩)) (by rw [HL1.out]; show 0 + a.length ≤ 8; omega) (by rw [HX1.out]; exact nums_one _ _) w3.heap.size w3 (below_alloc (Below.refl _ _) _) (Nat.le_refl _) ?_); intro w4 HG4 hB4; have HB4 := Aside0.mk hB4; have HCB := Aside0.mk (Kd.C_below (Kd.R_reads' HB3.out).2.2 hB4); clear hB4)
    | ((with_reducible refine gate_builtin (b := .copy) (xs := #[.tmp 61, .tmp 62]) rfl ?_); (refine wpList_copy_splice rfl (.tmp 61) (.tmp 62) 100 100 rfl 93 Tryz.underlying100 (by kernel_rfl) _ _ (8 - lo) (8 - lo) b.length cb (by rfl) (by rfl) w3.heap.size lo (splice zeros8 0 X1) 95 HG4 X2 (by rw [HL2.out]; have := HLO.out; simp [Nat.min_def]; omega) (fun hp => (by rw [HX2.out]; exact ⟨rfl, cells_of_C HCB.out (by rw [← HL2.out]; exact hp)⟩)) (by rw [HL2.out, length_splice _ _ _ (by rw [HL1.out]; show 0 + a.length ≤ 8; omega)]; have := HLO.out; show lo + b.length ≤ 8; omega) (by rw [HX2.out]; exact nums_one _ _) w3.heap.size w3 HB4.out (Nat.le_refl _) ?_); intro w5 HG5 hB5; have HB5 := Aside0.mk hB5; clear hB5)
    | ((with_reducible refine gate_ (.load 95 (.tmp 11)) rfl ?_); (refine wpList_load_row rfl 95 (.tmp 11) rfl w3.heap.size (by rfl) 95 #[.int .u16 (rd (six8 a b) 0), .int .u16 (rd (six8 a b) 1), .int .u16 (rd (six8 a b) 2), .int .u16 (rd (six8 a b) 3), .int .u16 (rd (six8 a b) 4), .int .u16 (rd (six8 a b) 5), .int .u16 (rd (six8 a b) 6), .int .u16 (rd (six8 a b) 7)] (0, 0) _ (six_row HG5 HX1.out HX2.out HLO.out (by have := H4.out; omega)) huG_ rfl (by kernel_rfl) ?_)))
  refine (groups_addr.calls (rd (six8 a b) 0) (rd (six8 a b) 1) (rd (six8 a b) 2) (rd (six8 a b) 3) (rd (six8 a b) 4) (rd (six8 a b) 5) (rd (six8 a b) 6) (rd (six8 a b) 7) _).mono ?_
  rintro e w6 ⟨rfl, hb6⟩
  have hr5 : w5.heap[w.heap.size]? = some (.cells #[.bool false, .int .u64 0, .int .u64 0] 24 (0, 0)) := (HB5.out.block _ hnb).trans HR3.out
  have hr6 : w6.heap[w.heap.size]? = some (.cells #[.bool false, .int .u64 0, .int .u64 0] 24 (0, 0)) := (hb6.block _ (blk_lt hr5)).trans hr5
  have hw5 : Below w.heap.size w w5 := HW3.out.trans (below_mono_ HB5.out (Nat.le_of_lt hnb))
  have hw6 : Below w.heap.size w w6 := hw5.trans (below_mono_ hb6 hw5.size)
  have HR6 := Aside0.mk hr6
  have HW6 := Aside0.mk hw6
  clear hr5 hw5 hb6 hr6 hw6 hc0 hc1 hc2 hf0 hf1 hf2
  have hc0 : w6.cell? ⟨w.heap.size, 0, none⟩ = some (.bool false) := (blk_cell HR6.out 0).trans rfl
  have hc1 : w6.cell? ⟨w.heap.size, 1, none⟩ = some (.int .u64 0) := (blk_cell HR6.out 1).trans rfl
  have hc2 : w6.cell? ⟨w.heap.size, 2, none⟩ = some (.int .u64 0) := (blk_cell HR6.out 2).trans rfl
  have hf0 := blk_frozen HR6.out 0
  have hf1 := blk_frozen HR6.out 1
  have hf2 := blk_frozen HR6.out 2
  obtain ⟨hi, hhi⟩ : ∃ x : Int, num4 (rd (six8 a b) 0) (rd (six8 a b) 1) (rd (six8 a b) 2) (rd (six8 a b) 3) = x := ⟨_, rfl⟩
  obtain ⟨lo_, hlo_⟩ : ∃ x : Int, num4 (rd (six8 a b) 4) (rd (six8 a b) 5) (rd (six8 a b) 6) (rd (six8 a b) 7) = x := ⟨_, rfl⟩
  rw [hhi, hlo_]
  have HHI := Aside0.mk hhi
  have HLO_ := Aside0.mk hlo_
  clear hhi hlo_
  go_wp2_with fail
  refine bodyPost_ret (results_ct rfl _ _ w.heap.size 24 #[.bool true, .int .u64 hi, .int .u64 lo_] (0, 0) _ rfl (by (with_reducible repeat (first | refine blk_drewN ?_ _ | refine blk_drew ?_ | refine blk_alloc ?_ _)); refine blk_put (cs := #[.bool true, .int .u64 hi, .int .u64 0]) ?_ 2 _ rfl; refine blk_put (cs := #[.bool true, .int .u64 0, .int .u64 0]) ?_ 1 _ rfl; refine blk_put (cs := #[.bool false, .int .u64 0, .int .u64 0]) ?_ 0 _ rfl; exact HR6.out) Tryz.underlying24 rfl (by kernel_rfl)) rfl ?_
  exact ⟨by rw [HHI.out, HLO_.out]; rfl, by repeat (first | exact HW6.out | apply below_alloc | apply pw_below_drewN | apply below_drew1 | refine below_set ?_ (Nat.le_refl _))⟩
set_option maxHeartbeats 4000000 in
set_option maxRecDepth 100000 in
theorem six_full (k : Nat) (a0 s1 s2 : ByteArray) (ok is sh : Bool) (a b : List Int) (w : World) (hLD : Laid w) (hc : strings_Cut.f a0 (⟨#[58, 58]⟩ : ByteArray) = some (s1, s2, sh)) (hx : addr_list.f k s1 = some (a, ok)) (hy : addr_list.f k s2 = some (b, is)) (h1 : ok = true) (h2 : is = true) (h3 : sh = false) (h4 : a.length = 8) (h5 : b.length = 0) :
    Calls Tryz.prog 63 #[.string a0] w fun e w' => e = .returned (.tuple #[.agg #[.bool true, .int .u64 (num4 (rd (six8 a b) 0) (rd (six8 a b) 1) (rd (six8 a b) 2) (rd (six8 a b) 3)), .int .u64 (num4 (rd (six8 a b) 4) (rd (six8 a b) 5) (rd (six8 a b) 6) (rd (six8 a b) 7))], .bool true]) ∧ Below w.heap.size w w' := by
  have huA_ := Tryz.underlying24
  have huG_ := Tryz.underlying95
  have HLD := Aside0.mk hLD
  have HC := Aside0.mk hc
  have HX := Aside0.mk hx
  have HY := Aside0.mk hy
  clear hc hx hy hLD
  subst h1 h2 h3
  have h4b : ((a.length : Int) != 8) = false := by simp [h4]
  have H4 := Aside0.mk (show a.length + b.length ≤ 8 by omega)
  clear h4
  go_enter Tryz.func63, Tryz.ntmps63
  go_wp2_with fail
  refine (strings_Cut.calls a0 _ s1 s2 _ _ (HLD.out.below (by repeat (first | exact Below.refl _ _ | apply below_drew | apply below_alloc | apply pw_below_drewN))) HC.out).mono ?_
  rintro e w1 ⟨rfl, ⟨n, rfl⟩⟩
  go_wp2_with fail
  refine (addr_list.calls k s1 a _ _ (HLD.out.below (by repeat (first | exact Below.refl _ _ | apply below_drew | apply below_alloc | apply pw_below_drewN))) HX.out).mono ?_
  rintro e w2 ⟨va, rfl, ha, hb2⟩
  obtain ⟨Aa, ca, rfl⟩ := Kd.R_slice ha
  have hw2 : Below w.heap.size w w2 := Below.trans (by repeat (first | exact Below.refl _ _ | apply below_drew | apply below_alloc | apply pw_below_drewN)) (below_mono_ hb2 (by simp))
  have hr2 : w2.heap[w.heap.size]? = some (.cells #[.bool false, .int .u64 0, .int .u64 0] 24 (0, 0)) := (hb2.block _ (by simp)).trans (blk_new_drewN _ _ _)
  have HA := Aside0.mk ha
  have HW2 := Aside0.mk hw2
  have HR2 := Aside0.mk hr2
  clear ha hw2 hr2 hb2
  go_wp2_with fail
  refine (addr_list.calls k s2 b _ _ (HLD.out.below HW2.out) HY.out).mono ?_
  rintro e w3 ⟨vb, rfl, hb, hb3⟩
  obtain ⟨Ab, cb, rfl⟩ := Kd.R_slice hb
  have hw3 : Below w.heap.size w w3 := HW2.out.trans (below_mono_ hb3 HW2.out.size)
  have hr3 : w3.heap[w.heap.size]? = some (.cells #[.bool false, .int .u64 0, .int .u64 0] 24 (0, 0)) := (hb3.block _ (blk_lt HR2.out)).trans HR2.out
  have ha3 := Kd.R_below HA.out hb3
  have HA3 := Aside0.mk ha3
  have HB3 := Aside0.mk hb
  have HW3 := Aside0.mk hw3
  have HR3 := Aside0.mk hr3
  clear ha3 hb hw3 hr3 hb3 HA HW2 HR2
  have hc0 : w3.cell? ⟨w.heap.size, 0, none⟩ = some (.bool false) := (blk_cell HR3.out 0).trans rfl
  have hc1 : w3.cell? ⟨w.heap.size, 1, none⟩ = some (.int .u64 0) := (blk_cell HR3.out 1).trans rfl
  have hc2 : w3.cell? ⟨w.heap.size, 2, none⟩ = some (.int .u64 0) := (blk_cell HR3.out 2).trans rfl
  have hf0 := blk_frozen HR3.out 0
  have hf1 := blk_frozen HR3.out 1
  have hf2 := blk_frozen HR3.out 2
  have hnb : w.heap.size < w3.heap.size := blk_lt HR3.out
  obtain ⟨lo, hlo⟩ : ∃ lo : Nat, lo + b.length = 8 := ⟨8 - b.length, by have := H4.out; omega⟩
  have HLO := Aside0.mk hlo
  have hw0 : wrap64 (8 - (b.length : Int)) = (lo : Int) := by unfold wrap64; omega
  have hlo8 : lo ≤ 8 := by omega
  have hloI : (lo : Int) ≤ 8 := by omega
  have hlo0 : (0 : Int) ≤ (lo : Int) := by omega
  have har8 : Tryz.prog.arrayLen 95 = 8 := by kernel_rfl
  have har : (lo : Int) ≤ ((Tryz.prog.arrayLen 95 : Nat) : Int) := by rw [har8]; omega
  clear hlo
  have HBL := Aside0.mk h5
  clear h5
  obtain rfl : lo = 8 := by have := HLO.out; have := HBL.out; omega
  have hla : a.length ≤ 8 := by have := H4.out; omega
  obtain ⟨X1, hX1⟩ : ∃ X1 : List Value, X1 = nums .u16 a := ⟨_, rfl⟩
  have HX1 := Aside0.mk hX1
  obtain ⟨X2, hX2⟩ : ∃ X2 : List Value, X2 = nums .u16 b := ⟨_, rfl⟩
  have HX2 := Aside0.mk hX2
  have hl1 : X1.length = a.length := by rw [hX1, nums_length]
  have hl2 : X2.length = b.length := by rw [hX2, nums_length]
  have HL1 := Aside0.mk hl1
  have HL2 := Aside0.mk hl2
  clear hX1 hX2 hl1 hl2
  have hca := Kd.C_alloc (Kd.R_reads' HA3.out).2.2 (.cells zeros8.toArray 95)
  have HCA := Aside0.mk hca
  clear hca
  go_wp2_with (first
    | ((with_reducible refine gate_builtin (b := .copy) (xs := #[.tmp 55, .tmp 56]) rfl ?_); (refine wpList_copy_splice rfl (.tmp 55) (.tmp 56) 100 100 rfl 93 Tryz.underlying100 (by kernel_rfl) _ _ 8 8 a.length ca (by rfl) (by rfl) w3.heap.size 0 zeros8 95 (blk_new _ _) X1 (by rw [HL1.out]; simp [Nat.min_def]; omega) (fun hp => (by rw [HX1.out]; exact ⟨rfl, cells_of_C HCA.out (by rw [← HL1.out]; exact hp)⟩)) (by rw [HL1.out]; show 0 + a.length ≤ 8; omega) (by rw [HX1.out]; exact nums_one _ _) w3.heap.size w3 (below_alloc (Below.refl _ _) _) (Nat.le_refl _) ?_); intro w4 HG4 hB4; have HB4 := Aside0.mk hB4; have HCB := Aside0.mk (Kd.C_below (Kd.R_reads' HB3.out).2.2 hB4); clear hB4)
    | ((with_reducible refine gate_builtin (b := .copy) (xs := #[.tmp 61, .tmp 62]) rfl ?_); (refine wpList_copy_splice rfl (.tmp 61) (.tmp 62) 100 100 rfl 93 Tryz.underlying100 (by kernel_rfl) _ _ 0 0 b.length cb (by rfl) (by rfl) w3.heap.size 8 (splice zeros8 0 X1) 95 HG4 X2 (by rw [HL2.out, HBL.out]; rfl) (fun hp => absurd hp (by rw [HL2.out]; have := HBL.out; omega)) (by rw [HL2.out, length_splice _ _ _ (by rw [HL1.out]; show 0 + a.length ≤ 8; omega)]; have := HLO.out; show 8 + b.length ≤ 8; omega) (by rw [HX2.out]; exact nums_one _ _) w3.heap.size w3 HB4.out (Nat.le_refl _) ?_); intro w5 HG5 hB5; have HB5 := Aside0.mk hB5; clear hB5)
    | ((with_reducible refine gate_ (.load 95 (.tmp 11)) rfl ?_); (refine wpList_load_row rfl 95 (.tmp 11) rfl w3.heap.size (by rfl) 95 #[.int .u16 (rd (six8 a b) 0), .int .u16 (rd (six8 a b) 1), .int .u16 (rd (six8 a b) 2), .int .u16 (rd (six8 a b) 3), .int .u16 (rd (six8 a b) 4), .int .u16 (rd (six8 a b) 5), .int .u16 (rd (six8 a b) 6), .int .u16 (rd (six8 a b) 7)] (0, 0) _ (six_row HG5 HX1.out HX2.out HLO.out (by have := H4.out; omega)) huG_ rfl (by kernel_rfl) ?_)))
  refine (groups_addr.calls (rd (six8 a b) 0) (rd (six8 a b) 1) (rd (six8 a b) 2) (rd (six8 a b) 3) (rd (six8 a b) 4) (rd (six8 a b) 5) (rd (six8 a b) 6) (rd (six8 a b) 7) _).mono ?_
  rintro e w6 ⟨rfl, hb6⟩
  have hr5 : w5.heap[w.heap.size]? = some (.cells #[.bool false, .int .u64 0, .int .u64 0] 24 (0, 0)) := (HB5.out.block _ hnb).trans HR3.out
  have hr6 : w6.heap[w.heap.size]? = some (.cells #[.bool false, .int .u64 0, .int .u64 0] 24 (0, 0)) := (hb6.block _ (blk_lt hr5)).trans hr5
  have hw5 : Below w.heap.size w w5 := HW3.out.trans (below_mono_ HB5.out (Nat.le_of_lt hnb))
  have hw6 : Below w.heap.size w w6 := hw5.trans (below_mono_ hb6 hw5.size)
  have HR6 := Aside0.mk hr6
  have HW6 := Aside0.mk hw6
  clear hr5 hw5 hb6 hr6 hw6 hc0 hc1 hc2 hf0 hf1 hf2
  have hc0 : w6.cell? ⟨w.heap.size, 0, none⟩ = some (.bool false) := (blk_cell HR6.out 0).trans rfl
  have hc1 : w6.cell? ⟨w.heap.size, 1, none⟩ = some (.int .u64 0) := (blk_cell HR6.out 1).trans rfl
  have hc2 : w6.cell? ⟨w.heap.size, 2, none⟩ = some (.int .u64 0) := (blk_cell HR6.out 2).trans rfl
  have hf0 := blk_frozen HR6.out 0
  have hf1 := blk_frozen HR6.out 1
  have hf2 := blk_frozen HR6.out 2
  obtain ⟨hi, hhi⟩ : ∃ x : Int, num4 (rd (six8 a b) 0) (rd (six8 a b) 1) (rd (six8 a b) 2) (rd (six8 a b) 3) = x := ⟨_, rfl⟩
  obtain ⟨lo_, hlo_⟩ : ∃ x : Int, num4 (rd (six8 a b) 4) (rd (six8 a b) 5) (rd (six8 a b) 6) (rd (six8 a b) 7) = x := ⟨_, rfl⟩
  rw [hhi, hlo_]
  have HHI := Aside0.mk hhi
  have HLO_ := Aside0.mk hlo_
  clear hhi hlo_
  go_wp2_with fail
  refine bodyPost_ret (results_ct rfl _ _ w.heap.size 24 #[.bool true, .int .u64 hi, .int .u64 lo_] (0, 0) _ rfl (by (with_reducible repeat (first | refine blk_drewN ?_ _ | refine blk_drew ?_ | refine blk_alloc ?_ _)); refine blk_put (cs := #[.bool true, .int .u64 hi, .int .u64 0]) ?_ 2 _ rfl; refine blk_put (cs := #[.bool true, .int .u64 0, .int .u64 0]) ?_ 1 _ rfl; refine blk_put (cs := #[.bool false, .int .u64 0, .int .u64 0]) ?_ 0 _ rfl; exact HR6.out) Tryz.underlying24 rfl (by kernel_rfl)) rfl ?_
  exact ⟨by rw [HHI.out, HLO_.out]; rfl, by repeat (first | exact HW6.out | apply below_alloc | apply pw_below_drewN | apply below_drew1 | refine below_set ?_ (Nat.le_refl _))⟩
def sixOf (x y : List Int × Bool) (sh : Bool) : Option (Bool × Int × Int × Bool) :=
  if x.2 = false then some (false, 0, 0, false) else if y.2 = false then some (false, 0, 0, false)
  else if sh = true then (if x.1.length + y.1.length ≤ 7 then some (true, num4 (rd (six8 x.1 y.1) 0) (rd (six8 x.1 y.1) 1) (rd (six8 x.1 y.1) 2) (rd (six8 x.1 y.1) 3), num4 (rd (six8 x.1 y.1) 4) (rd (six8 x.1 y.1) 5) (rd (six8 x.1 y.1) 6) (rd (six8 x.1 y.1) 7), true) else if x.1.length + y.1.length < 1000 then some (false, 0, 0, false) else none)
  else (if x.1.length = 8 then (if y.1.length = 0 then some (true, num4 (rd (six8 x.1 y.1) 0) (rd (six8 x.1 y.1) 1) (rd (six8 x.1 y.1) 2) (rd (six8 x.1 y.1) 3), num4 (rd (six8 x.1 y.1) 4) (rd (six8 x.1 y.1) 5) (rd (six8 x.1 y.1) 6) (rd (six8 x.1 y.1) 7), true) else none) else some (false, 0, 0, false))
def addr_six.f (k : Nat) (a0 : ByteArray) : Option (Bool × Int × Int × Bool) := (strings_Cut.f a0 (⟨#[58, 58]⟩ : ByteArray)).bind fun c => (addr_list.f k c.1).bind fun x => (addr_list.f k c.2.1).bind fun y => sixOf x y c.2.2
theorem addr_six.mono : ∀ a0 k, LeO (addr_six.f k a0) (addr_six.f (k + 1) a0) := by
  intro a0 k
  unfold addr_six.f
  exact LeO.bind (LeO.refl _) (fun _ => LeO.bind (addr_list.mono _ _) (fun _ => LeO.bind (addr_list.mono _ _) (fun _ => LeO.refl _)))
theorem addr_six.calls (k : Nat) (a0 : ByteArray) (r1 : Bool) (r2 : Int) (r3 : Int) (r4 : Bool) (w : World) (hLD : Laid w) (h : addr_six.f k a0 = some (r1, r2, r3, r4)) :
    Calls Tryz.prog 63 #[.string a0] w fun e w' => e = .returned (.tuple #[.agg #[.bool r1, .int .u64 r2, .int .u64 r3], .bool r4]) ∧ Below w.heap.size w w' := by
  unfold addr_six.f at h
  obtain ⟨⟨s1, s2, sh⟩, hc, h⟩ := Option.bind_eq_some_iff.1 h
  obtain ⟨⟨a, ok⟩, hx, h⟩ := Option.bind_eq_some_iff.1 h
  obtain ⟨⟨b, is⟩, hy, h⟩ := Option.bind_eq_some_iff.1 h
  unfold sixOf at h
  dsimp only at hc hx hy h
  split at h
  · rename_i h1
    simp only [Option.some.injEq, Prod.mk.injEq] at h
    obtain ⟨rfl, rfl, rfl, rfl⟩ := h
    exact six_ok k a0 s1 s2 ok is sh a b w hLD hc hx hy h1
  · rename_i h1
    have h1 : ok = true := by simpa using h1
    split at h
    · rename_i h2
      simp only [Option.some.injEq, Prod.mk.injEq] at h
      obtain ⟨rfl, rfl, rfl, rfl⟩ := h
      exact six_is k a0 s1 s2 ok is sh a b w hLD hc hx hy h1 h2
    · rename_i h2
      have h2 : is = true := by simpa using h2
      split at h
      · rename_i h3
        split at h
        · rename_i h4
          simp only [Option.some.injEq, Prod.mk.injEq] at h
          obtain ⟨rfl, rfl, rfl, rfl⟩ := h
          rcases Nat.eq_zero_or_pos b.length with h5 | h5
          · exact six_short0 k a0 s1 s2 ok is sh a b w hLD hc hx hy h1 h2 h3 h4 h5
          · exact six_short1 k a0 s1 s2 ok is sh a b w hLD hc hx hy h1 h2 h3 h4 h5
        · rename_i h4
          split at h
          · simp only [Option.some.injEq, Prod.mk.injEq] at h
            obtain ⟨rfl, rfl, rfl, rfl⟩ := h
            exact six_sum k a0 s1 s2 ok is sh a b w hLD hc hx hy h1 h2 h3 (by unfold wrap64; omega)
          · cases h
      · rename_i h3
        have h3 : sh = false := by simpa using h3
        split at h
        · rename_i h4
          split at h
          · rename_i h5
            simp only [Option.some.injEq, Prod.mk.injEq] at h
            obtain ⟨rfl, rfl, rfl, rfl⟩ := h
            exact six_full k a0 s1 s2 ok is sh a b w hLD hc hx hy h1 h2 h3 h4 h5
          · cases h
        · rename_i h4
          simp only [Option.some.injEq, Prod.mk.injEq] at h
          obtain ⟨rfl, rfl, rfl, rfl⟩ := h
          exact six_len k a0 s1 s2 ok is sh a b w hLD hc hx hy h1 h2 h3 (by omega)

/-! ### addr_Parse: function 37 -/
def addr_Parse.f (k : Nat) (a0 : ByteArray) : Option (Bool × Int × Int × Int) := if (a0.size : Int) > 39 then (some (false, 0, 0, 3)) else ((addr_four.f k a0).bind fun bt125 => (if bt125.2.2.2 = true then (some (bt125.1, bt125.2.1, bt125.2.2.1, 0)) else ((addr_six.f k a0).bind fun bt130 => (if bt130.2.2.2 = true then (some (bt130.1, bt130.2.1, bt130.2.2.1, 0)) else (some (false, 0, 0, 3))))))
theorem addr_Parse.mono : ∀ a0 k, LeO (addr_Parse.f k a0) (addr_Parse.f (k + 1) a0) := by
 intro a0 k
 unfold addr_Parse.f
 repeat' with_reducible first | exact addr_four.mono _ _ | exact addr_six.mono _ _ | exact LeO.refl _ | exact LeO.none _ | refine LeO.ite ?_ ?_ | refine LeO.bind ?_ (fun _ => ?_)
set_option maxHeartbeats 40000000 in
set_option maxRecDepth 100000 in
theorem addr_Parse.calls (k : Nat) (a0 : ByteArray) (r1 : Bool) (r2 : Int) (r3 : Int) (r4 : Int) (w : World) (hLD : Laid w) (h : addr_Parse.f k a0 = some (r1, r2, r3, r4)) :
 Calls Tryz.prog 37 #[.string a0] w fun e w' => e = .returned (.tuple #[.agg #[.bool r1, .int .u64 r2, .int .u64 r3], .int .i64 r4]) ∧ Below w.heap.size w w' := by
 have hu24 := Tryz.underlying24
 have HLD := Aside0.mk hLD
 clear hLD
 have HB := Aside0.mk (Below.refl w.heap.size w)
 have H : (if (a0.size : Int) > 39 then (some (false, 0, 0, 3)) else ((addr_four.f k a0).bind fun bt125 => (if bt125.2.2.2 = true then (some (bt125.1, bt125.2.1, bt125.2.2.1, 0)) else ((addr_six.f k a0).bind fun bt130 => (if bt130.2.2.2 = true then (some (bt130.1, bt130.2.1, bt130.2.2.1, 0)) else (some (false, 0, 0, 3))))))) = some (r1, r2, r3, r4) := h
 clear h
 by_cases c2 : (a0.size : Int) > 39
 ·
  rw [if_pos c2] at H
  have c2b0 := decide_eq_true c2
  have c2b1 : decide (39 < a0.size) = true := decide_eq_true (by omega)
  clear c2
  simp only [Option.some.injEq, Prod.mk.injEq] at H
  obtain ⟨rfl, rfl, rfl, rfl⟩ := H
  go_enter Tryz.func37, Tryz.ntmps37
  go_wp2_with (first | ((with_reducible refine gate_dst (N := 2) rfl ?_); refine boxA (N := 2) (cs := #[.bool false, .int .u64 0, .int .u64 0]) (t := 24) ?_; intro gb124 hg w3 hbox hb; have BK124 := Aside0.mk (hbox); have GE124 := (pZ HB hg); replace HB := (pS HB hb); clear hb hbox hg; obtain ⟨hcz4_0, hcz4_1, hcz4_2, hfz4_0, hfz4_1, hfz4_2⟩ := pC3 BK124))
  refine bodyPost_ret (results_ct rfl _ _ gb124 24 #[.bool false, .int .u64 0, .int .u64 0] (0, 0) _ rfl (pP (pP (pP (pM BK124)))) Tryz.underlying24 rfl (by kernel_rfl)) rfl ?_
  exact pR (pE HB)
 ·
  rw [if_neg c2] at H
  have c2b0 := decide_eq_false c2
  have c2b1 : decide (39 < a0.size) = false := decide_eq_false (by omega)
  clear c2
  replace H := Option.bind_eq_some_iff.mp H
  obtain ⟨⟨t125, t126, t127, t128⟩, A50, H⟩ := H
  replace H : (if t128 = true then (some (t125, t126, t127, 0)) else ((addr_six.f k a0).bind fun bt130 => (if bt130.2.2.2 = true then (some (bt130.1, bt130.2.1, bt130.2.2.1, 0)) else (some (false, 0, 0, 3))))) = some (r1, r2, r3, r4) := H
  have A5 := Aside0.mk A50
  clear A50
  by_cases c6 : t128 = true
  ·
   subst c6
   have H1 : (some (t125, t126, t127, 0)) = some (r1, r2, r3, r4) := by rw [if_pos rfl] at H; exact H
   clear H
   have H := H1
   clear H1
   simp only [Option.some.injEq, Prod.mk.injEq] at H
   obtain ⟨rfl, rfl, rfl, rfl⟩ := H
   go_enter Tryz.func37, Tryz.ntmps37
   go_wp2_with (first | ((with_reducible refine gate_dst (N := 2) rfl ?_); refine boxA (N := 2) (cs := #[.bool false, .int .u64 0, .int .u64 0]) (t := 24) ?_; intro gb124 hg w7 hbox hb; have BK124 := Aside0.mk (hbox); have GE124 := (pZ HB hg); replace HB := (pS HB hb); clear hb hbox hg) | ((with_reducible refine gate_callee (f := 62) rfl ?_); refine goesA (some 14) Tryz.func62 #[.string a0] ?_; (with_reducible refine (addr_four.calls k a0 t125 t126 t127 true _ ?side1 A5.out).mono ?_); (case side1 => exact Laid.below HLD.out (pE HB)); rintro e w8 ⟨rfl, hb⟩; refine ⟨_, rfl, ?_⟩; replace BK124 := (pB BK124 hb); replace HB := (pS HB hb); (try clear hb)) | ((with_reducible refine gate_dst (N := 4) rfl ?_); refine boxA (N := 4) (cs := #[.bool false, .int .u64 0, .int .u64 0]) (t := 24) ?_; intro gb129 hg w9 hbox hb; have BK129 := Aside0.mk (hbox); have GE129 := (pZ HB hg); have NB124_129 := (pL BK124 hg); have NB129_124 := (pG BK124 hg); replace BK124 := (pB BK124 hb); replace HB := (pS HB hb); clear hb hbox hg; have hnb10 := NB129_124.out; have hnc10 := NB124_129.out; obtain ⟨hcz11_0, hcz11_1, hcz11_2, hfz11_0, hfz11_1, hfz11_2⟩ := pC3 BK129; obtain ⟨hcz12_0, hcz12_1, hcz12_2, hfz12_0, hfz12_1, hfz12_2⟩ := pC3 BK124) | ((with_reducible refine gate_store (t := 24) (p := 2) rfl ?_); refine store_event (t := 24) (p := 2) (v := ?vo_w13) (w1 := ((((((w9.setCell ⟨gb129, 0, none⟩ (.bool t125)).setCell ⟨gb129, 1, none⟩ (.int .u64 t126)).setCell ⟨gb129, 2, none⟩ (.int .u64 t127)).setCell ⟨gb124, 0, none⟩ (.bool t125)).setCell ⟨gb124, 1, none⟩ (.int .u64 t126)).setCell ⟨gb124, 2, none⟩ (.int .u64 t127))) ?hg ?ho ?hn ?hr ?_; (case ho => rfl); (case hg => rfl); (case hn => rfl); (case hr => first | (exact Ext.run_store_chain 24 _ _ rfl _ _ _ _ rfl rfl (pK NB124_129 (pK NB124_129 (pK NB124_129 (pM BK124)))) (by kernel_rfl) rfl rfl rfl) | (go_simp; done) | (go_simp; rfl)); intro w13 hw; replace BK124 : Aside0 (w13.heap[gb124]? = some (.cells #[.bool t125, .int .u64 t126, .int .u64 t127] 24 (0, 0))) := (pW hw (pP (pP (pP (pK NB124_129 (pK NB124_129 (pK NB124_129 (pM BK124)))))))); replace BK129 : Aside0 (w13.heap[gb129]? = some (.cells #[.bool t125, .int .u64 t126, .int .u64 t127] 24 (0, 0))) := (pW hw (pK NB129_124 (pK NB129_124 (pK NB129_124 (pP (pP (pP (pM BK129)))))))); replace HB : Aside0 (Below w.heap.size w w13) := ⟨(by rw [hw]; exact (by repeat (first | (with_reducible first | exact HB.out | apply below_alloc | apply pw_below_drewN | apply below_drew1 | refine below_set ?_ GE124.out | refine below_set ?_ GE129.out) | exact HB.out)))⟩; clear hw))
   refine bodyPost_ret (results_ct rfl _ _ gb124 24 #[.bool t125, .int .u64 t126, .int .u64 t127] (0, 0) _ rfl (pM BK124) Tryz.underlying24 rfl (by kernel_rfl)) rfl ?_
   exact pR (pE HB)
  ·
   replace c6 := Bool.eq_false_iff.mpr c6
   subst c6
   rw [if_neg (show ¬ (false = true) by decide)] at H
   replace H := Option.bind_eq_some_iff.mp H
   obtain ⟨⟨t130, t131, t132, t133⟩, A140, H⟩ := H
   replace H : (if t133 = true then (some (t130, t131, t132, 0)) else (some (false, 0, 0, 3))) = some (r1, r2, r3, r4) := H
   have A14 := Aside0.mk A140
   clear A140
   by_cases c15 : t133 = true
   ·
    subst c15
    have H1 : (some (t130, t131, t132, 0)) = some (r1, r2, r3, r4) := by rw [if_pos rfl] at H; exact H
    clear H
    have H := H1
    clear H1
    simp only [Option.some.injEq, Prod.mk.injEq] at H
    obtain ⟨rfl, rfl, rfl, rfl⟩ := H
    go_enter Tryz.func37, Tryz.ntmps37
    go_wp2_with (first | ((with_reducible refine gate_dst (N := 2) rfl ?_); refine boxA (N := 2) (cs := #[.bool false, .int .u64 0, .int .u64 0]) (t := 24) ?_; intro gb124 hg w16 hbox hb; have BK124 := Aside0.mk (hbox); have GE124 := (pZ HB hg); replace HB := (pS HB hb); clear hb hbox hg) | ((with_reducible refine gate_callee (f := 62) rfl ?_); refine goesA (some 14) Tryz.func62 #[.string a0] ?_; (with_reducible refine (addr_four.calls k a0 t125 t126 t127 false _ ?side1 A5.out).mono ?_); (case side1 => exact Laid.below HLD.out (pE HB)); rintro e w17 ⟨rfl, hb⟩; refine ⟨_, rfl, ?_⟩; replace BK124 := (pB BK124 hb); replace HB := (pS HB hb); (try clear hb)) | ((with_reducible refine gate_dst (N := 4) rfl ?_); refine boxA (N := 4) (cs := #[.bool false, .int .u64 0, .int .u64 0]) (t := 24) ?_; intro gb129 hg w18 hbox hb; have BK129 := Aside0.mk (hbox); have GE129 := (pZ HB hg); have NB124_129 := (pL BK124 hg); have NB129_124 := (pG BK124 hg); replace BK124 := (pB BK124 hb); replace HB := (pS HB hb); clear hb hbox hg; have hnb19 := NB129_124.out; have hnc19 := NB124_129.out; obtain ⟨hcz20_0, hcz20_1, hcz20_2, hfz20_0, hfz20_1, hfz20_2⟩ := pC3 BK129) | ((with_reducible refine gate_callee (f := 63) rfl ?_); refine goesA (some 21) Tryz.func63 #[.string a0] ?_; (with_reducible refine (addr_six.calls k a0 t130 t131 t132 true _ ?side1 A14.out).mono ?_); (case side1 => exact Laid.below HLD.out (pE HB)); rintro e w21 ⟨rfl, hb⟩; refine ⟨_, rfl, ?_⟩; replace BK124 := (pD hb (pK NB124_129 (pK NB124_129 (pK NB124_129 (pM BK124))))); replace BK129 := (pD hb (pP (pP (pP (pM BK129))))); replace HB := (pS HB hb); (try clear hb)) | ((with_reducible refine gate_dst (N := 6) rfl ?_); refine boxA (N := 6) (cs := #[.bool false, .int .u64 0, .int .u64 0]) (t := 24) ?_; intro gb134 hg w22 hbox hb; have BK134 := Aside0.mk (hbox); have GE134 := (pZ HB hg); have NB124_134 := (pL BK124 hg); have NB134_124 := (pG BK124 hg); have NB129_134 := (pL BK129 hg); have NB134_129 := (pG BK129 hg); replace BK124 := (pB BK124 hb); replace BK129 := (pB BK129 hb); replace HB := (pS HB hb); clear hb hbox hg; have hnb23 := NB134_124.out; have hnc23 := NB124_134.out; have hnb24 := NB134_129.out; have hnc24 := NB129_134.out; obtain ⟨hcz25_0, hcz25_1, hcz25_2, hfz25_0, hfz25_1, hfz25_2⟩ := pC3 BK134; obtain ⟨hcz26_0, hcz26_1, hcz26_2, hfz26_0, hfz26_1, hfz26_2⟩ := pC3 BK124) | ((with_reducible refine gate_store (t := 24) (p := 2) rfl ?_); refine store_event (t := 24) (p := 2) (v := ?vo_w27) (w1 := ((((((w22.setCell ⟨gb134, 0, none⟩ (.bool t130)).setCell ⟨gb134, 1, none⟩ (.int .u64 t131)).setCell ⟨gb134, 2, none⟩ (.int .u64 t132)).setCell ⟨gb124, 0, none⟩ (.bool t130)).setCell ⟨gb124, 1, none⟩ (.int .u64 t131)).setCell ⟨gb124, 2, none⟩ (.int .u64 t132))) ?hg ?ho ?hn ?hr ?_; (case ho => rfl); (case hg => rfl); (case hn => rfl); (case hr => first | (exact Ext.run_store_chain 24 _ _ rfl _ _ _ _ rfl rfl (pK NB124_134 (pK NB124_134 (pK NB124_134 (pM BK124)))) (by kernel_rfl) rfl rfl rfl) | (go_simp; done) | (go_simp; rfl)); intro w27 hw; replace BK124 : Aside0 (w27.heap[gb124]? = some (.cells #[.bool t130, .int .u64 t131, .int .u64 t132] 24 (0, 0))) := (pW hw (pP (pP (pP (pK NB124_134 (pK NB124_134 (pK NB124_134 (pM BK124)))))))); replace BK129 : Aside0 (w27.heap[gb129]? = some (.cells #[.bool t125, .int .u64 t126, .int .u64 t127] 24 (0, 0))) := (pW hw (pK NB129_124 (pK NB129_124 (pK NB129_124 (pK NB129_134 (pK NB129_134 (pK NB129_134 (pM BK129)))))))); replace BK134 : Aside0 (w27.heap[gb134]? = some (.cells #[.bool t130, .int .u64 t131, .int .u64 t132] 24 (0, 0))) := (pW hw (pK NB134_124 (pK NB134_124 (pK NB134_124 (pP (pP (pP (pM BK134)))))))); replace HB : Aside0 (Below w.heap.size w w27) := ⟨(by rw [hw]; exact (by repeat (first | (with_reducible first | exact HB.out | apply below_alloc | apply pw_below_drewN | apply below_drew1 | refine below_set ?_ GE124.out | refine below_set ?_ GE129.out | refine below_set ?_ GE134.out) | exact HB.out)))⟩; clear hw))
    refine bodyPost_ret (results_ct rfl _ _ gb124 24 #[.bool t130, .int .u64 t131, .int .u64 t132] (0, 0) _ rfl (pM BK124) Tryz.underlying24 rfl (by kernel_rfl)) rfl ?_
    exact pR (pE HB)
   ·
    replace c15 := Bool.eq_false_iff.mpr c15
    subst c15
    rw [if_neg (show ¬ (false = true) by decide)] at H
    simp only [Option.some.injEq, Prod.mk.injEq] at H
    obtain ⟨rfl, rfl, rfl, rfl⟩ := H
    go_enter Tryz.func37, Tryz.ntmps37
    go_wp2_with (first | ((with_reducible refine gate_dst (N := 2) rfl ?_); refine boxA (N := 2) (cs := #[.bool false, .int .u64 0, .int .u64 0]) (t := 24) ?_; intro gb124 hg w28 hbox hb; have BK124 := Aside0.mk (hbox); have GE124 := (pZ HB hg); replace HB := (pS HB hb); clear hb hbox hg) | ((with_reducible refine gate_callee (f := 62) rfl ?_); refine goesA (some 14) Tryz.func62 #[.string a0] ?_; (with_reducible refine (addr_four.calls k a0 t125 t126 t127 false _ ?side1 A5.out).mono ?_); (case side1 => exact Laid.below HLD.out (pE HB)); rintro e w29 ⟨rfl, hb⟩; refine ⟨_, rfl, ?_⟩; replace BK124 := (pB BK124 hb); replace HB := (pS HB hb); (try clear hb)) | ((with_reducible refine gate_dst (N := 4) rfl ?_); refine boxA (N := 4) (cs := #[.bool false, .int .u64 0, .int .u64 0]) (t := 24) ?_; intro gb129 hg w30 hbox hb; have BK129 := Aside0.mk (hbox); have GE129 := (pZ HB hg); have NB124_129 := (pL BK124 hg); have NB129_124 := (pG BK124 hg); replace BK124 := (pB BK124 hb); replace HB := (pS HB hb); clear hb hbox hg; have hnb31 := NB129_124.out; have hnc31 := NB124_129.out; obtain ⟨hcz32_0, hcz32_1, hcz32_2, hfz32_0, hfz32_1, hfz32_2⟩ := pC3 BK129) | ((with_reducible refine gate_callee (f := 63) rfl ?_); refine goesA (some 21) Tryz.func63 #[.string a0] ?_; (with_reducible refine (addr_six.calls k a0 t130 t131 t132 false _ ?side1 A14.out).mono ?_); (case side1 => exact Laid.below HLD.out (pE HB)); rintro e w33 ⟨rfl, hb⟩; refine ⟨_, rfl, ?_⟩; replace BK124 := (pD hb (pK NB124_129 (pK NB124_129 (pK NB124_129 (pM BK124))))); replace BK129 := (pD hb (pP (pP (pP (pM BK129))))); replace HB := (pS HB hb); (try clear hb)) | ((with_reducible refine gate_dst (N := 6) rfl ?_); refine boxA (N := 6) (cs := #[.bool false, .int .u64 0, .int .u64 0]) (t := 24) ?_; intro gb134 hg w34 hbox hb; have BK134 := Aside0.mk (hbox); have GE134 := (pZ HB hg); have NB124_134 := (pL BK124 hg); have NB134_124 := (pG BK124 hg); have NB129_134 := (pL BK129 hg); have NB134_129 := (pG BK129 hg); replace BK124 := (pB BK124 hb); replace BK129 := (pB BK129 hb); replace HB := (pS HB hb); clear hb hbox hg; have hnb35 := NB134_124.out; have hnc35 := NB124_134.out; have hnb36 := NB134_129.out; have hnc36 := NB129_134.out; obtain ⟨hcz37_0, hcz37_1, hcz37_2, hfz37_0, hfz37_1, hfz37_2⟩ := pC3 BK134; obtain ⟨hcz38_0, hcz38_1, hcz38_2, hfz38_0, hfz38_1, hfz38_2⟩ := pC3 BK124) | ((with_reducible refine gate_store (t := 24) (p := 2) rfl ?_); refine store_event (t := 24) (p := 2) (v := ?vo_w39) (w1 := ((((((w34.setCell ⟨gb134, 0, none⟩ (.bool t130)).setCell ⟨gb134, 1, none⟩ (.int .u64 t131)).setCell ⟨gb134, 2, none⟩ (.int .u64 t132)).setCell ⟨gb124, 0, none⟩ (.bool false)).setCell ⟨gb124, 1, none⟩ (.int .u64 0)).setCell ⟨gb124, 2, none⟩ (.int .u64 0))) ?hg ?ho ?hn ?hr ?_; (case ho => rfl); (case hg => rfl); (case hn => rfl); (case hr => first | (exact Ext.run_store_chain 24 _ _ rfl _ _ _ _ rfl rfl (pK NB124_134 (pK NB124_134 (pK NB124_134 (pM BK124)))) (by kernel_rfl) rfl rfl rfl) | (go_simp; done) | (go_simp; rfl)); intro w39 hw; replace BK124 : Aside0 (w39.heap[gb124]? = some (.cells #[.bool false, .int .u64 0, .int .u64 0] 24 (0, 0))) := (pW hw (pP (pP (pP (pK NB124_134 (pK NB124_134 (pK NB124_134 (pM BK124)))))))); replace BK129 : Aside0 (w39.heap[gb129]? = some (.cells #[.bool t125, .int .u64 t126, .int .u64 t127] 24 (0, 0))) := (pW hw (pK NB129_124 (pK NB129_124 (pK NB129_124 (pK NB129_134 (pK NB129_134 (pK NB129_134 (pM BK129)))))))); replace BK134 : Aside0 (w39.heap[gb134]? = some (.cells #[.bool t130, .int .u64 t131, .int .u64 t132] 24 (0, 0))) := (pW hw (pK NB134_124 (pK NB134_124 (pK NB134_124 (pP (pP (pP (pM BK134)))))))); replace HB : Aside0 (Below w.heap.size w w39) := ⟨(by rw [hw]; exact (by repeat (first | (with_reducible first | exact HB.out | apply below_alloc | apply pw_below_drewN | apply below_drew1 | refine below_set ?_ GE124.out | refine below_set ?_ GE129.out | refine below_set ?_ GE134.out) | exact HB.out)))⟩; clear hw))
    refine bodyPost_ret (results_ct rfl _ _ gb124 24 #[.bool false, .int .u64 0, .int .u64 0] (0, 0) _ rfl (pM BK124) Tryz.underlying24 rfl (by kernel_rfl)) rfl ?_
    exact pR (pE HB)

/-! ### strconv_Itoa: function 39 (given) -/
def strconv_Itoa.f (a0 : Int) : Option ByteArray := if -9223372036854775808 ≤ a0 ∧ a0 ≤ 9223372036854775807 then some (⟨(Lib.itoa a0).toArray⟩ : ByteArray) else none
theorem strconv_Itoa.calls (a0 : Int) (r : ByteArray) (w : World) (hLD : Laid w) (h : strconv_Itoa.f a0 = some r) :
    Calls Tryz.prog 39 #[.int .i64 a0] w fun e w' => e = .returned (.string r) ∧ Below w.heap.size w w' := by
  unfold strconv_Itoa.f at h
  by_cases hb : -9223372036854775808 ≤ a0 ∧ a0 ≤ 9223372036854775807
  · rw [if_pos hb] at h
    obtain rfl := Option.some.inj h
    refine (Tryz.strconv_Itoa a0 hb.1 hb.2 w hLD.pow10).mono ?_
    rintro e w' ⟨rfl, k, os, rfl⟩
    exact ⟨rfl, Lib.below_grow w.heap.size w (Nat.le_refl _) k os⟩
  · rw [if_neg hb] at h; cases h
end Go.Proofs.YteflcmmandlknaaGreatDoor.PA
