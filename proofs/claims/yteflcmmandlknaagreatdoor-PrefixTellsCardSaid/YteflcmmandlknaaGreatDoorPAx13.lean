/- The Go functions in Lean, with the proofs that the code comes to these answers: printed by this session's program (wip/px) out of the seat's translation. Conditions: each theorem's own. -/
import Derived.Test.YteflcmmandlknaaGreatDoorPAx0
import Derived.Test.YteflcmmandlknaaGreatDoorPAx11
import Derived.Test.YteflcmmandlknaaGreatDoorPAx12
namespace Go.Proofs.YteflcmmandlknaaGreatDoor.PA
open Go.RowKit Go.Proofs.YteflcmmandlknaaGreatDoorW.PrintWords Go.Proofs.YteflcmmandlknaaGreatDoorW.PrintLast Go.Proofs.YteflcmmandlknaaGreatDoorW.PrintMore
attribute [local go_sem] max2_int min2_int max_two min_two max_three min_three max_four min_four   -- for this text's walks alone
attribute [local go_sem ↓] Ext.isSome_setCell
open Press
set_option linter.unusedVariables false
set_option linter.unusedSimpArgs false
/-! ### ddiref02_part: function 84 -/
mutual
def ddiref02_part.j0 : Nat → Int → Int → Option (Int)
 | 0, _, _ => none
 | k + 1, x1, x5 => ddiref02_part.l0 k x5 x1
def ddiref02_part.l0 : Nat → Int → Int → Option (Int)
 | 0, _, _ => none
 | k + 1, x5, x6 => if x6 < 3 then (ddiref02_part.l0 k (IntKind.u64.wrap (Int.tdiv x5 65536)) (wrap64 (x6 + 1))) else (some (Int.tmod x5 65536))
end
def ddiref02_part.f (k : Nat) (a0_0 : Bool) (a0_1 : Int) (a0_2 : Int) (a1 : Int) : Option (Int) := if a1 ≥ 4 then (ddiref02_part.j0 k (wrap64 (a1 - 4)) a0_2) else (ddiref02_part.j0 k a1 a0_1)
theorem ddiref02_part.mono_l : ∀ k, (∀ y0 y1, LeO (ddiref02_part.j0 k y0 y1) (ddiref02_part.j0 (k + 1) y0 y1)) ∧ (∀ y0 y1, LeO (ddiref02_part.l0 k y0 y1) (ddiref02_part.l0 (k + 1) y0 y1))
 | 0 => ⟨fun _ _ r h => by simp [ddiref02_part.j0] at h, fun _ _ r h => by simp [ddiref02_part.l0] at h⟩
 | k + 1 => by
  obtain ⟨ih0, ih1⟩ := ddiref02_part.mono_l k
  refine ⟨?_, ?_⟩
  ·
   intro y0 y1
   unfold ddiref02_part.j0
   repeat' with_reducible first | exact ih0 _ _ | exact ih1 _ _ | exact LeO.refl _ | exact LeO.none _ | refine LeO.ite ?_ ?_ | refine LeO.bind ?_ (fun _ => ?_)
  ·
   intro y0 y1
   unfold ddiref02_part.l0
   repeat' with_reducible first | exact ih0 _ _ | exact ih1 _ _ | exact LeO.refl _ | exact LeO.none _ | refine LeO.ite ?_ ?_ | refine LeO.bind ?_ (fun _ => ?_)
theorem ddiref02_part.mono : ∀ a0 a1 a2 a3 k, LeO (ddiref02_part.f k a0 a1 a2 a3) (ddiref02_part.f (k + 1) a0 a1 a2 a3) := by
 intro a0 a1 a2 a3 k
 obtain ⟨ih0, ih1⟩ := ddiref02_part.mono_l k
 unfold ddiref02_part.f
 repeat' with_reducible first | exact ih0 _ _ | exact ih1 _ _ | exact LeO.refl _ | exact LeO.none _ | refine LeO.ite ?_ ?_ | refine LeO.bind ?_ (fun _ => ?_)
set_option maxHeartbeats 40000000 in
set_option maxRecDepth 100000 in
theorem ddiref02_part.calls (k : Nat) (a0_0 : Bool) (a0_1 : Int) (a0_2 : Int) (a1 : Int) (r : Int) (w : World) (h : ddiref02_part.f k a0_0 a0_1 a0_2 a1 = some r) :
 Calls Tryz.prog 84 #[.agg #[.bool a0_0, .int .u64 a0_1, .int .u64 a0_2], .int .i64 a1] w fun e w' => e = .returned (.int .u64 r) ∧ Below w.heap.size w w' := by
 have hu24 := Tryz.underlying24
 have HB := Aside0.mk (Below.refl w.heap.size w)
 have H : (if a1 ≥ 4 then (ddiref02_part.j0 k (wrap64 (a1 - 4)) a0_2) else (ddiref02_part.j0 k a1 a0_1)) = some r := h
 clear h
 have HC3 := Aside0.mk H
 clear H
 go_enter Tryz.func84, Tryz.ntmps84
 go_upto_if 10 with (first | ((with_reducible refine gate_dst (N := 2) rfl ?_); refine boxA (N := 2) (cs := #[.bool a0_0, .int .u64 a0_1, .int .u64 a0_2]) (t := 24) ?_; intro gb348 hg w4 hbox hb; have BK348 := Aside0.mk (hbox); have GE348 := (pZ HB hg); replace HB := (pS HB hb); clear hb hbox hg; obtain ⟨hcz5_0, hcz5_1, hcz5_2, hfz5_0, hfz5_1, hfz5_2⟩ := pC3 BK348))
 (try simp only [Act.put, List.setIfInBounds_toArray, List.set_cons_zero, List.set_cons_succ])
 go_cut [1, 5] (fun v1 v5 wc => ∃ (kq : Nat) (x1_2 : Int) (x5_2 : Int), v1 = .int .i64 x1_2 ∧ v5 = .int .u64 x5_2 ∧ Aside0 (ddiref02_part.j0 kq x1_2 x5_2 = some r) ∧ Aside0 (kq ≤ k) ∧ Aside0 (wc.heap[gb348]? = some (.cells #[.bool a0_0, .int .u64 a0_1, .int .u64 a0_2] 24 (0, 0))) ∧ Aside0 (Below w.heap.size w wc))
 case first =>
  have H := HC3.out
  clear HC3
  by_cases c6 : a1 ≥ 4
  ·
   rw [if_pos c6] at H
   have c6b0 := decide_eq_true c6
   clear c6
   (first | rw [c6b0] | (simp only [i64_w, i32_w]; rw [c6b0]) | skip)
   have H' := Aside0.mk H
   clear H
   obtain ⟨hcz7_0, hcz7_1, hcz7_2, hfz7_0, hfz7_1, hfz7_2⟩ := pC3 BK348
   go_wp2
   refine Met.intro ?_
   go_step
   (repeat apply Exists.intro)
   refine ⟨?rel, ?heq_⟩
   case heq_ => first | rfl | (rw [c6b0]) | (simp only [c6b0])
   case rel => exact ⟨_, (wrap64 (a1 - 4)), (a0_2), pT, pT, H', ⟨by first | omega | exact Nat.le_refl _⟩, ⟨pM BK348⟩, ⟨pE HB⟩⟩
  ·
   rw [if_neg c6] at H
   have c6b0 := decide_eq_false c6
   clear c6
   (first | rw [c6b0] | (simp only [i64_w, i32_w]; rw [c6b0]) | skip)
   have H' := Aside0.mk H
   clear H
   go_wp2
   refine Met.intro ?_
   go_step
   (repeat apply Exists.intro)
   refine ⟨?rel, ?heq_⟩
   case heq_ => first | rfl | (rw [c6b0]) | (simp only [c6b0])
   case rel => exact ⟨_, (a1), (a0_1), pT, pT, H', ⟨by first | omega | exact Nat.le_refl _⟩, ⟨pM BK348⟩, ⟨pE HB⟩⟩
 case rest =>
  clear HC3
  try clear hcz5_0 hcz5_1 hcz5_2
  try clear hfz5_0 hfz5_1 hfz5_2
  obtain ⟨kq, x1_2, x5_2, rfl, rfl, HA, HJ2, BK348, HB⟩ := hcut
  cases kq with
  | zero => exact absurd HA.out (by simp [ddiref02_part.j0])
  | succ kj2 =>
   have H := HA.out
   clear HA
   simp only [ddiref02_part.j0] at H
   have H' := Aside0.mk H
   clear H
   go_wp2
   go_loopg [5, 6] kj2 (fun kq v5 v6 w' => ∃ (x5_2 : Int) (x6_2 : Int), v5 = .int .u64 x5_2 ∧ v6 = .int .i64 x6_2 ∧ Aside0 (ddiref02_part.l0 kq x5_2 x6_2 = some r) ∧ Aside0 (kq ≤ kj2) ∧ Aside0 (w'.heap[gb348]? = some (.cells #[.bool a0_0, .int .u64 a0_1, .int .u64 a0_2] 24 (0, 0))) ∧ Aside0 (Below w.heap.size w w'))
   case atStart => exact ⟨(x5_2), (x1_2), pT, pT, H', ⟨Nat.le_refl _⟩, ⟨pM BK348⟩, ⟨pE HB⟩⟩
   case round =>
    clear H'
    try clear hcz5_0 hcz5_1 hcz5_2
    try clear hfz5_0 hfz5_1 hfz5_2
    obtain ⟨x5_2, x6_2, rfl, rfl, HA, HK2, BK348, HB⟩ := hrel
    cases gk with
    | zero => exact absurd HA.out (by simp [ddiref02_part.l0])
    | succ k2 =>
     have H := HA.out
     clear HA
     simp only [ddiref02_part.l0] at H
     by_cases c8 : x6_2 < 3
     ·
      rw [if_pos c8] at H
      have c8b0 := decide_eq_true c8
      clear c8
      have H' := Aside0.mk H
      clear H
      go_wp2
      go_roundg k2
      case measure => have := HJ2.out; have := HK2.out; omega
      case rel => exact ⟨(IntKind.u64.wrap (Int.tdiv x5_2 65536)), (wrap64 (x6_2 + 1)), pT, pT, H', ⟨by have := HJ2.out; have := HK2.out; omega⟩, ⟨pM BK348⟩, ⟨pE HB⟩⟩
     ·
      rw [if_neg c8] at H
      have c8b0 := decide_eq_false c8
      clear c8
      obtain rfl := Option.some.inj H
      go_wp2
      go_ret
      exact pR (pE HB)

/-! ### ddiref02_run: function 82 -/
mutual
def ddiref02_run.l0 : Nat → Int → Int → Int → Bool → Int → Int → Option (Int × Int)
 | 0, _, _, _, _, _, _ => none
 | k + 1, x4, x5, x6, x350000, x350001, x350002 => if x6 < 8 then (ddiref02_run.l1 k x4 x5 x6 0 x350000 x350001 x350002) else (some (x4, x5))
def ddiref02_run.l1 : Nat → Int → Int → Int → Int → Bool → Int → Int → Option (Int × Int)
 | 0, _, _, _, _, _, _, _ => none
 | k + 1, x4, x5, x6, x7, x350000, x350001, x350002 => if (wrap64 (x6 + x7)) < 8 then ((ddiref02_part.f k x350000 x350001 x350002 (wrap64 (x6 + x7))).bind fun t350 => (if t350 = 0 then (ddiref02_run.l1 k x4 x5 x6 (wrap64 (x7 + 1)) x350000 x350001 x350002) else (if x7 > x5 then (ddiref02_run.l0 k x6 x7 (wrap64 (x6 + 1)) x350000 x350001 x350002) else (ddiref02_run.l0 k x4 x5 (wrap64 (x6 + 1)) x350000 x350001 x350002)))) else (if x7 > x5 then (ddiref02_run.l0 k x6 x7 (wrap64 (x6 + 1)) x350000 x350001 x350002) else (ddiref02_run.l0 k x4 x5 (wrap64 (x6 + 1)) x350000 x350001 x350002))
end
def ddiref02_run.f (k : Nat) (a0_0 : Bool) (a0_1 : Int) (a0_2 : Int) : Option (Int × Int) := ddiref02_run.l0 k 0 0 0 a0_0 a0_1 a0_2
theorem ddiref02_run.mono_l : ∀ k, (∀ y0 y1 y2 y3 y4 y5, LeO (ddiref02_run.l0 k y0 y1 y2 y3 y4 y5) (ddiref02_run.l0 (k + 1) y0 y1 y2 y3 y4 y5)) ∧ (∀ y0 y1 y2 y3 y4 y5 y6, LeO (ddiref02_run.l1 k y0 y1 y2 y3 y4 y5 y6) (ddiref02_run.l1 (k + 1) y0 y1 y2 y3 y4 y5 y6))
 | 0 => ⟨fun _ _ _ _ _ _ r h => by simp [ddiref02_run.l0] at h, fun _ _ _ _ _ _ _ r h => by simp [ddiref02_run.l1] at h⟩
 | k + 1 => by
  obtain ⟨ih0, ih1⟩ := ddiref02_run.mono_l k
  refine ⟨?_, ?_⟩
  ·
   intro y0 y1 y2 y3 y4 y5
   unfold ddiref02_run.l0
   repeat' with_reducible first | exact ih0 _ _ _ _ _ _ | exact ih1 _ _ _ _ _ _ _ | exact ddiref02_part.mono _ _ _ _ _ | exact LeO.refl _ | exact LeO.none _ | refine LeO.ite ?_ ?_ | refine LeO.bind ?_ (fun _ => ?_)
  ·
   intro y0 y1 y2 y3 y4 y5 y6
   unfold ddiref02_run.l1
   repeat' with_reducible first | exact ih0 _ _ _ _ _ _ | exact ih1 _ _ _ _ _ _ _ | exact ddiref02_part.mono _ _ _ _ _ | exact LeO.refl _ | exact LeO.none _ | refine LeO.ite ?_ ?_ | refine LeO.bind ?_ (fun _ => ?_)
theorem ddiref02_run.mono : ∀ a0 a1 a2 k, LeO (ddiref02_run.f k a0 a1 a2) (ddiref02_run.f (k + 1) a0 a1 a2) := by
 intro a0 a1 a2 k
 obtain ⟨ih0, ih1⟩ := ddiref02_run.mono_l k
 unfold ddiref02_run.f
 repeat' with_reducible first | exact ih0 _ _ _ _ _ _ | exact ih1 _ _ _ _ _ _ _ | exact ddiref02_part.mono _ _ _ _ _ | exact LeO.refl _ | exact LeO.none _ | refine LeO.ite ?_ ?_ | refine LeO.bind ?_ (fun _ => ?_)
set_option maxHeartbeats 40000000 in
set_option maxRecDepth 100000 in
theorem ddiref02_run.calls (k : Nat) (a0_0 : Bool) (a0_1 : Int) (a0_2 : Int) (r1 : Int) (r2 : Int) (w : World) (h : ddiref02_run.f k a0_0 a0_1 a0_2 = some (r1, r2)) :
 Calls Tryz.prog 82 #[.agg #[.bool a0_0, .int .u64 a0_1, .int .u64 a0_2]] w fun e w' => e = .returned (.tuple #[.int .i64 r1, .int .i64 r2]) ∧ Below w.heap.size w w' := by
 have hu24 := Tryz.underlying24
 have HB := Aside0.mk (Below.refl w.heap.size w)
 have H : (ddiref02_run.l0 k 0 0 0 a0_0 a0_1 a0_2) = some (r1, r2) := h
 clear h
 have H' := Aside0.mk H
 clear H
 go_enter Tryz.func82, Tryz.ntmps82
 go_wp2_with (first | ((with_reducible refine gate_dst (N := 1) rfl ?_); refine boxA (N := 1) (cs := #[.bool a0_0, .int .u64 a0_1, .int .u64 a0_2]) (t := 24) ?_; intro gb349 hg w2 hbox hb; have BK349 := Aside0.mk (hbox); have GE349 := (pZ HB hg); replace HB := (pS HB hb); clear hb hbox hg))
 go_loopg [4, 5, 6] k (fun kq v4 v5 v6 w' => ∃ (x4_1 : Int) (x5_1 : Int) (x6_1 : Int), v4 = .int .i64 x4_1 ∧ v5 = .int .i64 x5_1 ∧ v6 = .int .i64 x6_1 ∧ Aside0 (ddiref02_run.l0 kq x4_1 x5_1 x6_1 a0_0 a0_1 a0_2 = some (r1, r2)) ∧ Aside0 (kq ≤ k) ∧ Aside0 (w'.heap[gb349]? = some (.cells #[.bool a0_0, .int .u64 a0_1, .int .u64 a0_2] 24 (0, 0))) ∧ Aside0 (Below w.heap.size w w'))
 case atStart => exact ⟨(0), (0), (0), pT, pT, pT, H', ⟨Nat.le_refl _⟩, ⟨pM BK349⟩, ⟨pE HB⟩⟩
 case round =>
  clear H'
  obtain ⟨x4_1, x5_1, x6_1, rfl, rfl, rfl, HA, HK1, BK349, HB⟩ := hrel
  cases gk with
  | zero => exact absurd HA.out (by simp [ddiref02_run.l0])
  | succ k1 =>
   have H := HA.out
   clear HA
   simp only [ddiref02_run.l0] at H
   by_cases c3 : x6_1 < 8
   ·
    rw [if_pos c3] at H
    have c3b0 := decide_eq_true c3
    clear c3
    have H' := Aside0.mk H
    clear H
    go_wp2
    go_loopg [7] k1 (fun kq v7 w' => ∃ (x7_2 : Int), v7 = .int .i64 x7_2 ∧ Aside0 (ddiref02_run.l1 kq x4_1 x5_1 x6_1 x7_2 a0_0 a0_1 a0_2 = some (r1, r2)) ∧ Aside0 (kq ≤ k1) ∧ Aside0 (w'.heap[gb349]? = some (.cells #[.bool a0_0, .int .u64 a0_1, .int .u64 a0_2] 24 (0, 0))) ∧ Aside0 (Below w.heap.size w w'))
    case atStart => exact ⟨(0), pT, H', ⟨Nat.le_refl _⟩, ⟨pM BK349⟩, ⟨pE HB⟩⟩
    case round =>
     clear H'
     try clear c3
     try clear c3b0
     obtain ⟨x7_2, rfl, HA, HK2, BK349, HB⟩ := hrel
     cases gk with
     | zero => exact absurd HA.out (by simp [ddiref02_run.l1])
     | succ k2 =>
      have H := HA.out
      clear HA
      simp only [ddiref02_run.l1] at H
      by_cases c4 : (wrap64 (x6_1 + x7_2)) < 8
      ·
       rw [if_pos c4] at H
       have c4b0 := decide_eq_true c4
       clear c4
       replace H := Option.bind_eq_some_iff.mp H
       obtain ⟨t350, A50, H⟩ := H
       have A5 := Aside0.mk A50
       clear A50
       by_cases c6 : t350 = 0
       ·
        rw [if_pos c6] at H
        have c6b0 : (t350 == 0) = true := beq_iff_eq.mpr c6
        have c6b1 : (t350 != 0) = false := bne_eq_false_iff_eq.mpr c6
        clear c6
        have H' := Aside0.mk H
        clear H
        obtain ⟨hcz7_0, hcz7_1, hcz7_2, hfz7_0, hfz7_1, hfz7_2⟩ := pC3 BK349
        go_wp2_with (first | (go_at_call 84; (with_reducible refine (ddiref02_part.calls k2 a0_0 a0_1 a0_2 (wrap64 (x6_1 + x7_2)) t350 _ A5.out).mono ?_); rintro e w8 ⟨rfl, hb⟩; replace BK349 := (pB BK349 hb); replace HB := (pS HB hb); (try clear hb)))
        go_roundg k2
        case measure => have := HK1.out; have := HK2.out; omega
        case rel => exact ⟨(wrap64 (x7_2 + 1)), pT, H', ⟨by have := HK1.out; have := HK2.out; omega⟩, ⟨pM BK349⟩, ⟨pE HB⟩⟩
       ·
        rw [if_neg c6] at H
        have c6b0 : (t350 == 0) = false := beq_eq_false_iff_ne.mpr c6
        have c6b1 : (t350 != 0) = true := bne_iff_ne.mpr c6
        by_cases c9 : x7_2 > x5_1
        ·
         rw [if_pos c9] at H
         have c9b0 := decide_eq_true c9
         clear c9
         have H' := Aside0.mk H
         clear H
         obtain ⟨hcz10_0, hcz10_1, hcz10_2, hfz10_0, hfz10_1, hfz10_2⟩ := pC3 BK349
         go_wp2_with (first | (go_at_call 84; (with_reducible refine (ddiref02_part.calls k2 a0_0 a0_1 a0_2 (wrap64 (x6_1 + x7_2)) t350 _ A5.out).mono ?_); rintro e w11 ⟨rfl, hb⟩; replace BK349 := (pB BK349 hb); replace HB := (pS HB hb); (try clear hb)))
         go_roundg k2
         case measure => have := HK1.out; have := HK2.out; omega
         case rel => exact ⟨(x6_1), (x7_2), (wrap64 (x6_1 + 1)), pT, pT, pT, H', ⟨by have := HK1.out; have := HK2.out; omega⟩, ⟨pM BK349⟩, ⟨pE HB⟩⟩
        ·
         rw [if_neg c9] at H
         have c9b0 := decide_eq_false c9
         clear c9
         have H' := Aside0.mk H
         clear H
         obtain ⟨hcz12_0, hcz12_1, hcz12_2, hfz12_0, hfz12_1, hfz12_2⟩ := pC3 BK349
         go_wp2_with (first | (go_at_call 84; (with_reducible refine (ddiref02_part.calls k2 a0_0 a0_1 a0_2 (wrap64 (x6_1 + x7_2)) t350 _ A5.out).mono ?_); rintro e w13 ⟨rfl, hb⟩; replace BK349 := (pB BK349 hb); replace HB := (pS HB hb); (try clear hb)))
         go_roundg k2
         case measure => have := HK1.out; have := HK2.out; omega
         case rel => exact ⟨(x4_1), (x5_1), (wrap64 (x6_1 + 1)), pT, pT, pT, H', ⟨by have := HK1.out; have := HK2.out; omega⟩, ⟨pM BK349⟩, ⟨pE HB⟩⟩
      ·
       rw [if_neg c4] at H
       have c4b0 := decide_eq_false c4
       clear c4
       by_cases c14 : x7_2 > x5_1
       ·
        rw [if_pos c14] at H
        have c14b0 := decide_eq_true c14
        clear c14
        have H' := Aside0.mk H
        clear H
        go_wp2
        go_roundg k2
        case measure => have := HK1.out; have := HK2.out; omega
        case rel => exact ⟨(x6_1), (x7_2), (wrap64 (x6_1 + 1)), pT, pT, pT, H', ⟨by have := HK1.out; have := HK2.out; omega⟩, ⟨pM BK349⟩, ⟨pE HB⟩⟩
       ·
        rw [if_neg c14] at H
        have c14b0 := decide_eq_false c14
        clear c14
        have H' := Aside0.mk H
        clear H
        go_wp2
        go_roundg k2
        case measure => have := HK1.out; have := HK2.out; omega
        case rel => exact ⟨(x4_1), (x5_1), (wrap64 (x6_1 + 1)), pT, pT, pT, H', ⟨by have := HK1.out; have := HK2.out; omega⟩, ⟨pM BK349⟩, ⟨pE HB⟩⟩
   ·
    rw [if_neg c3] at H
    have c3b0 := decide_eq_false c3
    clear c3
    simp only [Option.some.injEq, Prod.mk.injEq] at H
    obtain ⟨rfl, rfl⟩ := H
    go_wp2
    go_ret2
    exact pR (pE HB)

/-! ### ddiref02_groupText: function 83 -/
def ddiref02_groupText.l0 : Nat → Int → ByteArray → Int → Option (ByteArray)
 | 0, _, _, _ => none
 | k + 1, x0, x3, x4 => if x4 < 3 then (if x0 > 0 then ((ddiref02_hex.f (Int.tmod x0 16)).bind fun t358 => (if t358.size + x3.size ≤ 9223372036854775807 then (ddiref02_groupText.l0 k (IntKind.u64.wrap (Int.tdiv x0 16)) (t358 ++ x3) (wrap64 (x4 + 1))) else (none))) else (some x3)) else (some x3)
def ddiref02_groupText.f (k : Nat) (a0 : Int) : Option (ByteArray) := (ddiref02_hex.f (Int.tmod a0 16)).bind fun t357 => (ddiref02_groupText.l0 k (IntKind.u64.wrap (Int.tdiv a0 16)) t357 0)
theorem ddiref02_groupText.mono_l : ∀ k, (∀ y0 y1 y2, LeO (ddiref02_groupText.l0 k y0 y1 y2) (ddiref02_groupText.l0 (k + 1) y0 y1 y2))
 | 0 => fun _ _ _ r h => by simp [ddiref02_groupText.l0] at h
 | k + 1 => by
  have ih0 := ddiref02_groupText.mono_l k
  ·
   intro y0 y1 y2
   unfold ddiref02_groupText.l0
   repeat' with_reducible first | exact ih0 _ _ _ | exact LeO.refl _ | exact LeO.none _ | refine LeO.ite ?_ ?_ | refine LeO.bind ?_ (fun _ => ?_)
theorem ddiref02_groupText.mono : ∀ a0 k, LeO (ddiref02_groupText.f k a0) (ddiref02_groupText.f (k + 1) a0) := by
 intro a0 k
 have ih0 := ddiref02_groupText.mono_l k
 unfold ddiref02_groupText.f
 repeat' with_reducible first | exact ih0 _ _ _ | exact LeO.refl _ | exact LeO.none _ | refine LeO.ite ?_ ?_ | refine LeO.bind ?_ (fun _ => ?_)
set_option maxHeartbeats 40000000 in
set_option maxRecDepth 100000 in
theorem ddiref02_groupText.calls (k : Nat) (a0 : Int) (r : ByteArray) (w : World) (h : ddiref02_groupText.f k a0 = some r) :
 Calls Tryz.prog 83 #[.int .u64 a0] w fun e w' => e = .returned (.string r) ∧ Below w.heap.size w w' := by
 have HB := Aside0.mk (Below.refl w.heap.size w)
 have H : ((ddiref02_hex.f (Int.tmod a0 16)).bind fun t357 => (ddiref02_groupText.l0 k (IntKind.u64.wrap (Int.tdiv a0 16)) t357 0)) = some r := h
 clear h
 replace H := Option.bind_eq_some_iff.mp H
 obtain ⟨t357, A20, H⟩ := H
 have A2 := Aside0.mk A20
 clear A20
 have H' := Aside0.mk H
 clear H
 go_enter Tryz.func83, Tryz.ntmps83
 go_wp2_with (first | ((with_reducible refine gate_callee (f := 72) rfl ?_); refine goesA (some 7) Tryz.func72 #[.int .u64 (Int.tmod a0 16)] ?_; (with_reducible refine (ddiref02_hex.calls (Int.tmod a0 16) t357 _ A2.out).mono ?_); rintro e w3 ⟨rfl, hb⟩; refine ⟨_, rfl, ?_⟩; replace HB := (pS HB hb); (try clear hb)))
 go_loopg [0, 3, 4] k (fun kq v0 v3 v4 w' => ∃ (x0_1 : Int) (x3_1 : ByteArray) (x4_1 : Int), v0 = .int .u64 x0_1 ∧ v3 = .string x3_1 ∧ v4 = .int .i64 x4_1 ∧ Aside0 (ddiref02_groupText.l0 kq x0_1 x3_1 x4_1 = some r) ∧ Aside0 (kq ≤ k) ∧ Aside0 (Below w.heap.size w w'))
 case atStart => exact ⟨(IntKind.u64.wrap (Int.tdiv a0 16)), (t357), (0), pT, pT, pT, H', ⟨Nat.le_refl _⟩, ⟨pE HB⟩⟩
 case round =>
  clear H'
  obtain ⟨x0_1, x3_1, x4_1, rfl, rfl, rfl, HA, HK1, HB⟩ := hrel
  cases gk with
  | zero => exact absurd HA.out (by simp [ddiref02_groupText.l0])
  | succ k1 =>
   have H := HA.out
   clear HA
   simp only [ddiref02_groupText.l0] at H
   by_cases c4 : x4_1 < 3
   ·
    rw [if_pos c4] at H
    have c4b0 := decide_eq_true c4
    clear c4
    by_cases c5 : x0_1 > 0
    ·
     rw [if_pos c5] at H
     have c5b0 := decide_eq_true c5
     clear c5
     replace H := Option.bind_eq_some_iff.mp H
     obtain ⟨t358, A60, H⟩ := H
     have A6 := Aside0.mk A60
     clear A60
     by_cases c7 : t358.size + x3_1.size ≤ 9223372036854775807
     ·
      rw [if_pos c7] at H
      have c7b0 := eq_true c7
      have c7b1 := decide_eq_true c7
      try have c7b2 : (9223372036854775807 < t358.size + x3_1.size) = False := eq_false (Nat.not_lt.2 c7)
      have H' := Aside0.mk H
      clear H
      go_wp2_with (first | ((with_reducible refine gate_callee (f := 72) rfl ?_); refine goesA (some 20) Tryz.func72 #[.int .u64 (Int.tmod x0_1 16)] ?_; (with_reducible refine (ddiref02_hex.calls (Int.tmod x0_1 16) t358 _ A6.out).mono ?_); rintro e w8 ⟨rfl, hb⟩; refine ⟨_, rfl, ?_⟩; replace HB := (pS HB hb); (try clear hb)))
      go_roundg k1
      case measure => have := HK1.out; omega
      case rel => exact ⟨(IntKind.u64.wrap (Int.tdiv x0_1 16)), (t358 ++ x3_1), (wrap64 (x4_1 + 1)), pT, pT, pT, H', ⟨by have := HK1.out; omega⟩, ⟨pE HB⟩⟩
     ·
      rw [if_neg c7] at H
      exact absurd H (by simp)
    ·
     rw [if_neg c5] at H
     have c5b0 := decide_eq_false c5
     clear c5
     obtain rfl := Option.some.inj H
     go_wp2
     go_ret
     exact pR (pE HB)
   ·
    rw [if_neg c4] at H
    have c4b0 := decide_eq_false c4
    clear c4
    obtain rfl := Option.some.inj H
    go_wp2
    go_ret
    exact pR (pE HB)

/-! ### ddiref02_Print: function 59 -/
mutual
def ddiref02_Print.j0 : Nat → Int → Int → Bool → Int → Int → Option (ByteArray × Int)
 | 0, _, _, _, _, _ => none
 | k + 1, x4, x5, x360000, x360001, x360002 => ddiref02_Print.l0 k x4 x5 (⟨#[]⟩ : ByteArray) 0 x360000 x360001 x360002
def ddiref02_Print.l0 : Nat → Int → Int → ByteArray → Int → Bool → Int → Int → Option (ByteArray × Int)
 | 0, _, _, _, _, _, _, _ => none
 | k + 1, x4, x5, x6, x7, x360000, x360001, x360002 => if x7 < 8 then (if x7 = x4 then (if x6.size + 2 ≤ 9223372036854775807 then (ddiref02_Print.j2 k x4 x5 (x6 ++ (⟨#[58, 58]⟩ : ByteArray)) x7 x360000 x360001 x360002) else (none)) else (ddiref02_Print.j2 k x4 x5 x6 x7 x360000 x360001 x360002)) else (some (x6, 0))
def ddiref02_Print.j2 : Nat → Int → Int → ByteArray → Int → Bool → Int → Int → Option (ByteArray × Int)
 | 0, _, _, _, _, _, _, _ => none
 | k + 1, x4, x5, x6, x7, x360000, x360001, x360002 => if x7 ≥ x4 then (ddiref02_Print.j3 k x4 x5 x6 x7 (decide (x7 < (wrap64 (x4 + x5)))) x360000 x360001 x360002) else (ddiref02_Print.j3 k x4 x5 x6 x7 false x360000 x360001 x360002)
def ddiref02_Print.j3 : Nat → Int → Int → ByteArray → Int → Bool → Bool → Int → Int → Option (ByteArray × Int)
 | 0, _, _, _, _, _, _, _, _ => none
 | k + 1, x4, x5, x6, x7, x63, x360000, x360001, x360002 => if x63 = true then (ddiref02_Print.l0 k x4 x5 x6 (wrap64 (x7 + 1)) x360000 x360001 x360002) else (if x7 > 0 then (ddiref02_Print.j4 k x4 x5 x6 x7 (x7 != (wrap64 (x4 + x5))) x360000 x360001 x360002) else (ddiref02_Print.j4 k x4 x5 x6 x7 false x360000 x360001 x360002))
def ddiref02_Print.j4 : Nat → Int → Int → ByteArray → Int → Bool → Bool → Int → Int → Option (ByteArray × Int)
 | 0, _, _, _, _, _, _, _, _ => none
 | k + 1, x4, x5, x6, x7, x72, x360000, x360001, x360002 => if x72 = true then (if x6.size + 1 ≤ 9223372036854775807 then ((ddiref02_part.f k x360000 x360001 x360002 x7).bind fun t367 => ((ddiref02_groupText.f k t367).bind fun t368 => (if (x6 ++ (⟨#[58]⟩ : ByteArray)).size + t368.size ≤ 9223372036854775807 then (ddiref02_Print.l0 k x4 x5 ((x6 ++ (⟨#[58]⟩ : ByteArray)) ++ t368) (wrap64 (x7 + 1)) x360000 x360001 x360002) else (none)))) else (none)) else ((ddiref02_part.f k x360000 x360001 x360002 x7).bind fun t369 => ((ddiref02_groupText.f k t369).bind fun t370 => (if x6.size + t370.size ≤ 9223372036854775807 then (ddiref02_Print.l0 k x4 x5 (x6 ++ t370) (wrap64 (x7 + 1)) x360000 x360001 x360002) else (none))))
end
def ddiref02_Print.f (k : Nat) (a0_0 : Bool) (a0_1 : Int) (a0_2 : Int) : Option (ByteArray × Int) := (ddiref02_Valid.f a0_0 a0_1 a0_2).bind fun t360 => (if t360 = true then (if a0_0 = true then ((ddiref02_run.f k a0_0 a0_1 a0_2).bind fun bt365 => (if bt365.2 < 2 then (ddiref02_Print.j0 k 8 0 a0_0 a0_1 a0_2) else (ddiref02_Print.j0 k bt365.1 bt365.2 a0_0 a0_1 a0_2))) else ((ddiref02_decimal.f (IntKind.u64.wrap (Int.tdiv a0_2 16777216))).bind fun t361 => (if t361.size + 1 ≤ 9223372036854775807 then ((ddiref02_decimal.f (Int.tmod (IntKind.u64.wrap (Int.tdiv a0_2 65536)) 256)).bind fun t362 => (if (t361 ++ (⟨#[46]⟩ : ByteArray)).size + t362.size ≤ 9223372036854775807 then (if ((t361 ++ (⟨#[46]⟩ : ByteArray)) ++ t362).size + 1 ≤ 9223372036854775807 then ((ddiref02_decimal.f (Int.tmod (IntKind.u64.wrap (Int.tdiv a0_2 256)) 256)).bind fun t363 => (if (((t361 ++ (⟨#[46]⟩ : ByteArray)) ++ t362) ++ (⟨#[46]⟩ : ByteArray)).size + t363.size ≤ 9223372036854775807 then (if ((((t361 ++ (⟨#[46]⟩ : ByteArray)) ++ t362) ++ (⟨#[46]⟩ : ByteArray)) ++ t363).size + 1 ≤ 9223372036854775807 then ((ddiref02_decimal.f (Int.tmod a0_2 256)).bind fun t364 => (if (((((t361 ++ (⟨#[46]⟩ : ByteArray)) ++ t362) ++ (⟨#[46]⟩ : ByteArray)) ++ t363) ++ (⟨#[46]⟩ : ByteArray)).size + t364.size ≤ 9223372036854775807 then (some ((((((t361 ++ (⟨#[46]⟩ : ByteArray)) ++ t362) ++ (⟨#[46]⟩ : ByteArray)) ++ t363) ++ (⟨#[46]⟩ : ByteArray)) ++ t364, 0)) else (none))) else (none)) else (none))) else (none)) else (none))) else (none)))) else (some ((⟨#[]⟩ : ByteArray), 3)))
theorem ddiref02_Print.mono_l : ∀ k, (∀ y0 y1 y2 y3 y4, LeO (ddiref02_Print.j0 k y0 y1 y2 y3 y4) (ddiref02_Print.j0 (k + 1) y0 y1 y2 y3 y4)) ∧ (∀ y0 y1 y2 y3 y4 y5 y6, LeO (ddiref02_Print.l0 k y0 y1 y2 y3 y4 y5 y6) (ddiref02_Print.l0 (k + 1) y0 y1 y2 y3 y4 y5 y6)) ∧ (∀ y0 y1 y2 y3 y4 y5 y6, LeO (ddiref02_Print.j2 k y0 y1 y2 y3 y4 y5 y6) (ddiref02_Print.j2 (k + 1) y0 y1 y2 y3 y4 y5 y6)) ∧ (∀ y0 y1 y2 y3 y4 y5 y6 y7, LeO (ddiref02_Print.j3 k y0 y1 y2 y3 y4 y5 y6 y7) (ddiref02_Print.j3 (k + 1) y0 y1 y2 y3 y4 y5 y6 y7)) ∧ (∀ y0 y1 y2 y3 y4 y5 y6 y7, LeO (ddiref02_Print.j4 k y0 y1 y2 y3 y4 y5 y6 y7) (ddiref02_Print.j4 (k + 1) y0 y1 y2 y3 y4 y5 y6 y7))
 | 0 => ⟨fun _ _ _ _ _ r h => by simp [ddiref02_Print.j0] at h, fun _ _ _ _ _ _ _ r h => by simp [ddiref02_Print.l0] at h, fun _ _ _ _ _ _ _ r h => by simp [ddiref02_Print.j2] at h, fun _ _ _ _ _ _ _ _ r h => by simp [ddiref02_Print.j3] at h, fun _ _ _ _ _ _ _ _ r h => by simp [ddiref02_Print.j4] at h⟩
 | k + 1 => by
  obtain ⟨ih0, ih1, ih2, ih3, ih4⟩ := ddiref02_Print.mono_l k
  refine ⟨?_, ?_, ?_, ?_, ?_⟩
  ·
   intro y0 y1 y2 y3 y4
   unfold ddiref02_Print.j0
   repeat' with_reducible first | exact ih0 _ _ _ _ _ | exact ih1 _ _ _ _ _ _ _ | exact ih2 _ _ _ _ _ _ _ | exact ih3 _ _ _ _ _ _ _ _ | exact ih4 _ _ _ _ _ _ _ _ | exact ddiref02_groupText.mono _ _ | exact ddiref02_part.mono _ _ _ _ _ | exact ddiref02_run.mono _ _ _ _ | exact LeO.refl _ | exact LeO.none _ | refine LeO.ite ?_ ?_ | refine LeO.bind ?_ (fun _ => ?_)
  ·
   intro y0 y1 y2 y3 y4 y5 y6
   unfold ddiref02_Print.l0
   repeat' with_reducible first | exact ih0 _ _ _ _ _ | exact ih1 _ _ _ _ _ _ _ | exact ih2 _ _ _ _ _ _ _ | exact ih3 _ _ _ _ _ _ _ _ | exact ih4 _ _ _ _ _ _ _ _ | exact ddiref02_groupText.mono _ _ | exact ddiref02_part.mono _ _ _ _ _ | exact ddiref02_run.mono _ _ _ _ | exact LeO.refl _ | exact LeO.none _ | refine LeO.ite ?_ ?_ | refine LeO.bind ?_ (fun _ => ?_)
  ·
   intro y0 y1 y2 y3 y4 y5 y6
   unfold ddiref02_Print.j2
   repeat' with_reducible first | exact ih0 _ _ _ _ _ | exact ih1 _ _ _ _ _ _ _ | exact ih2 _ _ _ _ _ _ _ | exact ih3 _ _ _ _ _ _ _ _ | exact ih4 _ _ _ _ _ _ _ _ | exact ddiref02_groupText.mono _ _ | exact ddiref02_part.mono _ _ _ _ _ | exact ddiref02_run.mono _ _ _ _ | exact LeO.refl _ | exact LeO.none _ | refine LeO.ite ?_ ?_ | refine LeO.bind ?_ (fun _ => ?_)
  ·
   intro y0 y1 y2 y3 y4 y5 y6 y7
   unfold ddiref02_Print.j3
   repeat' with_reducible first | exact ih0 _ _ _ _ _ | exact ih1 _ _ _ _ _ _ _ | exact ih2 _ _ _ _ _ _ _ | exact ih3 _ _ _ _ _ _ _ _ | exact ih4 _ _ _ _ _ _ _ _ | exact ddiref02_groupText.mono _ _ | exact ddiref02_part.mono _ _ _ _ _ | exact ddiref02_run.mono _ _ _ _ | exact LeO.refl _ | exact LeO.none _ | refine LeO.ite ?_ ?_ | refine LeO.bind ?_ (fun _ => ?_)
  ·
   intro y0 y1 y2 y3 y4 y5 y6 y7
   unfold ddiref02_Print.j4
   repeat' with_reducible first | exact ih0 _ _ _ _ _ | exact ih1 _ _ _ _ _ _ _ | exact ih2 _ _ _ _ _ _ _ | exact ih3 _ _ _ _ _ _ _ _ | exact ih4 _ _ _ _ _ _ _ _ | exact ddiref02_groupText.mono _ _ | exact ddiref02_part.mono _ _ _ _ _ | exact ddiref02_run.mono _ _ _ _ | exact LeO.refl _ | exact LeO.none _ | refine LeO.ite ?_ ?_ | refine LeO.bind ?_ (fun _ => ?_)
theorem ddiref02_Print.mono : ∀ a0 a1 a2 k, LeO (ddiref02_Print.f k a0 a1 a2) (ddiref02_Print.f (k + 1) a0 a1 a2) := by
 intro a0 a1 a2 k
 obtain ⟨ih0, ih1, ih2, ih3, ih4⟩ := ddiref02_Print.mono_l k
 unfold ddiref02_Print.f
 repeat' with_reducible first | exact ih0 _ _ _ _ _ | exact ih1 _ _ _ _ _ _ _ | exact ih2 _ _ _ _ _ _ _ | exact ih3 _ _ _ _ _ _ _ _ | exact ih4 _ _ _ _ _ _ _ _ | exact ddiref02_groupText.mono _ _ | exact ddiref02_part.mono _ _ _ _ _ | exact ddiref02_run.mono _ _ _ _ | exact LeO.refl _ | exact LeO.none _ | refine LeO.ite ?_ ?_ | refine LeO.bind ?_ (fun _ => ?_)
def ddiref02_Print.T4 : Bool × List (List Nat × List Nat) := (true, [([], []), ([0], [0]), ([1], [1]), ([2], [2]), ([3], [3]), ([], []), ([5], [5]), ([6], [6]), ([7], [7]), ([8, 3], [8]), ([4, 9], [4, 9]), ([10], [10]), ([], []), ([12], [12]), ([13], [13]), ([14], [14]), ([15, 9], [15]), ([11, 16], [11, 16]), ([17], [17]), ([], []), ([19], [19]), ([20], [20]), ([21, 16], [21]), ([18, 22], [18, 22]), ([23, 22, 0, 1, 2, 3, 4, 5, 6, 7, 8, 9, 10, 11, 12, 13, 14, 15, 16, 17, 18, 19, 20, 21, 22, 23], [23]), ([24, 0, 1, 2, 3, 4, 5, 6, 7, 8, 9, 10, 11, 12, 13, 14, 15, 16, 17, 18, 19, 20, 21, 22, 23, 24], [])])
def ddiref02_Print.B4 : List Nat := [0, 1, 3, 7, 15, 0, 32, 96, 224, 495, 1023, 2047, 0, 4096, 12288, 28672, 62447, 131071, 262143, 0, 524288, 1572864, 3797999, 8388607, 16777215, 33554431]
theorem ddiref02_Print.tab4 : rtab .any (opsOf Tryz.f59 4) = ddiref02_Print.T4 := by kernel_rfl
theorem ddiref02_Print.bits4 : waitsOk ddiref02_Print.T4.2 ddiref02_Print.B4 = true := by kernel_rfl
set_option maxHeartbeats 40000000 in
set_option maxRecDepth 100000 in
theorem ddiref02_Print.calls (k : Nat) (a0_0 : Bool) (a0_1 : Int) (a0_2 : Int) (r1 : ByteArray) (r2 : Int) (w : World) (h : ddiref02_Print.f k a0_0 a0_1 a0_2 = some (r1, r2)) :
 Calls Tryz.prog 59 #[.agg #[.bool a0_0, .int .u64 a0_1, .int .u64 a0_2]] w fun e w' => e = .returned (.tuple #[.string r1, .int .i64 r2]) ∧ Below w.heap.size w w' := by
 have hu24 := Tryz.underlying24
 have HB := Aside0.mk (Below.refl w.heap.size w)
 have H : ((ddiref02_Valid.f a0_0 a0_1 a0_2).bind fun t360 => (if t360 = true then (if a0_0 = true then ((ddiref02_run.f k a0_0 a0_1 a0_2).bind fun bt365 => (if bt365.2 < 2 then (ddiref02_Print.j0 k 8 0 a0_0 a0_1 a0_2) else (ddiref02_Print.j0 k bt365.1 bt365.2 a0_0 a0_1 a0_2))) else ((ddiref02_decimal.f (IntKind.u64.wrap (Int.tdiv a0_2 16777216))).bind fun t361 => (if t361.size + 1 ≤ 9223372036854775807 then ((ddiref02_decimal.f (Int.tmod (IntKind.u64.wrap (Int.tdiv a0_2 65536)) 256)).bind fun t362 => (if (t361 ++ (⟨#[46]⟩ : ByteArray)).size + t362.size ≤ 9223372036854775807 then (if ((t361 ++ (⟨#[46]⟩ : ByteArray)) ++ t362).size + 1 ≤ 9223372036854775807 then ((ddiref02_decimal.f (Int.tmod (IntKind.u64.wrap (Int.tdiv a0_2 256)) 256)).bind fun t363 => (if (((t361 ++ (⟨#[46]⟩ : ByteArray)) ++ t362) ++ (⟨#[46]⟩ : ByteArray)).size + t363.size ≤ 9223372036854775807 then (if ((((t361 ++ (⟨#[46]⟩ : ByteArray)) ++ t362) ++ (⟨#[46]⟩ : ByteArray)) ++ t363).size + 1 ≤ 9223372036854775807 then ((ddiref02_decimal.f (Int.tmod a0_2 256)).bind fun t364 => (if (((((t361 ++ (⟨#[46]⟩ : ByteArray)) ++ t362) ++ (⟨#[46]⟩ : ByteArray)) ++ t363) ++ (⟨#[46]⟩ : ByteArray)).size + t364.size ≤ 9223372036854775807 then (some ((((((t361 ++ (⟨#[46]⟩ : ByteArray)) ++ t362) ++ (⟨#[46]⟩ : ByteArray)) ++ t363) ++ (⟨#[46]⟩ : ByteArray)) ++ t364, 0)) else (none))) else (none)) else (none))) else (none)) else (none))) else (none)))) else (some ((⟨#[]⟩ : ByteArray), 3)))) = some (r1, r2) := h
 clear h
 replace H := Option.bind_eq_some_iff.mp H
 obtain ⟨t360, A20, H⟩ := H
 have A2 := Aside0.mk A20
 clear A20
 by_cases c3 : t360 = true
 ·
  subst c3
  have H1 : (if a0_0 = true then ((ddiref02_run.f k a0_0 a0_1 a0_2).bind fun bt365 => (if bt365.2 < 2 then (ddiref02_Print.j0 k 8 0 a0_0 a0_1 a0_2) else (ddiref02_Print.j0 k bt365.1 bt365.2 a0_0 a0_1 a0_2))) else ((ddiref02_decimal.f (IntKind.u64.wrap (Int.tdiv a0_2 16777216))).bind fun t361 => (if t361.size + 1 ≤ 9223372036854775807 then ((ddiref02_decimal.f (Int.tmod (IntKind.u64.wrap (Int.tdiv a0_2 65536)) 256)).bind fun t362 => (if (t361 ++ (⟨#[46]⟩ : ByteArray)).size + t362.size ≤ 9223372036854775807 then (if ((t361 ++ (⟨#[46]⟩ : ByteArray)) ++ t362).size + 1 ≤ 9223372036854775807 then ((ddiref02_decimal.f (Int.tmod (IntKind.u64.wrap (Int.tdiv a0_2 256)) 256)).bind fun t363 => (if (((t361 ++ (⟨#[46]⟩ : ByteArray)) ++ t362) ++ (⟨#[46]⟩ : ByteArray)).size + t363.size ≤ 9223372036854775807 then (if ((((t361 ++ (⟨#[46]⟩ : ByteArray)) ++ t362) ++ (⟨#[46]⟩ : ByteArray)) ++ t363).size + 1 ≤ 9223372036854775807 then ((ddiref02_decimal.f (Int.tmod a0_2 256)).bind fun t364 => (if (((((t361 ++ (⟨#[46]⟩ : ByteArray)) ++ t362) ++ (⟨#[46]⟩ : ByteArray)) ++ t363) ++ (⟨#[46]⟩ : ByteArray)).size + t364.size ≤ 9223372036854775807 then (some ((((((t361 ++ (⟨#[46]⟩ : ByteArray)) ++ t362) ++ (⟨#[46]⟩ : ByteArray)) ++ t363) ++ (⟨#[46]⟩ : ByteArray)) ++ t364, 0)) else (none))) else (none)) else (none))) else (none)) else (none))) else (none)))) = some (r1, r2) := by rw [if_pos rfl] at H; exact H
  clear H
  have H := H1
  clear H1
  by_cases c4 : a0_0 = true
  ·
   subst c4
   have H1 : ((ddiref02_run.f k true a0_1 a0_2).bind fun bt365 => (if bt365.2 < 2 then (ddiref02_Print.j0 k 8 0 true a0_1 a0_2) else (ddiref02_Print.j0 k bt365.1 bt365.2 true a0_1 a0_2))) = some (r1, r2) := by rw [if_pos rfl] at H; exact H
   clear H
   have H := H1
   clear H1
   replace H := Option.bind_eq_some_iff.mp H
   obtain ⟨⟨t365, t366⟩, A50, H⟩ := H
   replace H : (if t366 < 2 then (ddiref02_Print.j0 k 8 0 true a0_1 a0_2) else (ddiref02_Print.j0 k t365 t366 true a0_1 a0_2)) = some (r1, r2) := H
   have A5 := Aside0.mk A50
   clear A50
   have HC6 := Aside0.mk H
   clear H
   go_enter Tryz.func59, Tryz.ntmps59
   go_upto_if 44 with (first | ((with_reducible refine gate_dst (N := 1) rfl ?_); refine boxA (N := 1) (cs := #[.bool true, .int .u64 a0_1, .int .u64 a0_2]) (t := 24) ?_; intro gb359 hg w7 hbox hb; have BK359 := Aside0.mk (hbox); have GE359 := (pZ HB hg); replace HB := (pS HB hb); clear hb hbox hg; obtain ⟨hcz8_0, hcz8_1, hcz8_2, hfz8_0, hfz8_1, hfz8_2⟩ := pC3 BK359) | ((with_reducible refine gate_callee (f := 54) rfl ?_); refine goesA (some 9) Tryz.func54 #[.agg #[.bool true, .int .u64 a0_1, .int .u64 a0_2]] ?_; (with_reducible refine (ddiref02_Valid.calls true a0_1 a0_2 true _ A2.out).mono ?_); rintro e w9 ⟨rfl, hb⟩; refine ⟨_, rfl, ?_⟩; replace BK359 := (pB BK359 hb); replace HB := (pS HB hb); (try clear hb); obtain ⟨hcz10_0, hcz10_1, hcz10_2, hfz10_0, hfz10_1, hfz10_2⟩ := pC3 BK359) | ((with_reducible refine gate_callee (f := 82) rfl ?_); refine goesA (some 40) Tryz.func82 #[.agg #[.bool true, .int .u64 a0_1, .int .u64 a0_2]] ?_; (with_reducible refine (ddiref02_run.calls k true a0_1 a0_2 t365 t366 _ A5.out).mono ?_); rintro e w11 ⟨rfl, hb⟩; refine ⟨_, rfl, ?_⟩; replace BK359 := (pB BK359 hb); replace HB := (pS HB hb); (try clear hb)))
   (try simp only [Act.put, List.setIfInBounds_toArray, List.set_cons_zero, List.set_cons_succ])
   go_cut [4, 5] (fun v4 v5 wc => ∃ (kq : Nat) (x4_5 : Int) (x5_5 : Int), v4 = .int .i64 x4_5 ∧ v5 = .int .i64 x5_5 ∧ Aside0 (ddiref02_Print.j0 kq x4_5 x5_5 true a0_1 a0_2 = some (r1, r2)) ∧ Aside0 (kq ≤ k) ∧ Aside0 (wc.heap[gb359]? = some (.cells #[.bool true, .int .u64 a0_1, .int .u64 a0_2] 24 (0, 0))) ∧ Aside0 (Below w.heap.size w wc))
   case first =>
    have H := HC6.out
    clear HC6
    by_cases c12 : t366 < 2
    ·
     rw [if_pos c12] at H
     have c12b0 := decide_eq_true c12
     clear c12
     (first | rw [c12b0] | (simp only [i64_w, i32_w]; rw [c12b0]) | skip)
     have H' := Aside0.mk H
     clear H
     go_wp2
     refine Met.intro ?_
     go_step
     (repeat apply Exists.intro)
     refine ⟨?rel, ?heq_⟩
     case heq_ => first | rfl | (rw [c12b0]) | (simp only [c12b0])
     case rel => exact ⟨_, (8), (0), pT, pT, H', ⟨by first | omega | exact Nat.le_refl _⟩, ⟨pM BK359⟩, ⟨pE HB⟩⟩
    ·
     rw [if_neg c12] at H
     have c12b0 := decide_eq_false c12
     clear c12
     (first | rw [c12b0] | (simp only [i64_w, i32_w]; rw [c12b0]) | skip)
     have H' := Aside0.mk H
     clear H
     go_wp2
     refine Met.intro ?_
     go_step
     (repeat apply Exists.intro)
     refine ⟨?rel, ?heq_⟩
     case heq_ => first | rfl | (rw [c12b0]) | (simp only [c12b0])
     case rel => exact ⟨_, (t365), (t366), pT, pT, H', ⟨by first | omega | exact Nat.le_refl _⟩, ⟨pM BK359⟩, ⟨pE HB⟩⟩
   case rest =>
    clear HC6
    try clear c3
    try clear c4
    try clear hcz10_0 hcz10_1 hcz10_2
    try clear hcz8_0 hcz8_1 hcz8_2
    try clear hfz10_0 hfz10_1 hfz10_2
    try clear hfz8_0 hfz8_1 hfz8_2
    obtain ⟨kq, x4_5, x5_5, rfl, rfl, HA, HJ5, BK359, HB⟩ := hcut
    cases kq with
    | zero => exact absurd HA.out (by simp [ddiref02_Print.j0])
    | succ kj5 =>
     have H := HA.out
     clear HA
     simp only [ddiref02_Print.j0] at H
     have H' := Aside0.mk H
     clear H
     go_wp2
     go_loopg [6, 7] kj5 (fun kq v6 v7 w' => ∃ (x6_2 : ByteArray) (x7_2 : Int), v6 = .string x6_2 ∧ v7 = .int .i64 x7_2 ∧ Aside0 (ddiref02_Print.l0 kq x4_5 x5_5 x6_2 x7_2 true a0_1 a0_2 = some (r1, r2)) ∧ Aside0 (kq ≤ kj5) ∧ Aside0 (w'.heap[gb359]? = some (.cells #[.bool true, .int .u64 a0_1, .int .u64 a0_2] 24 (0, 0))) ∧ Aside0 (Below w.heap.size w w'))
     case atStart => exact ⟨((⟨#[]⟩ : ByteArray)), (0), pT, pT, H', ⟨Nat.le_refl _⟩, ⟨pM BK359⟩, ⟨pE HB⟩⟩
     case round =>
      clear H'
      try clear c3
      try clear c4
      try clear hcz10_0 hcz10_1 hcz10_2
      try clear hcz8_0 hcz8_1 hcz8_2
      try clear hfz10_0 hfz10_1 hfz10_2
      try clear hfz8_0 hfz8_1 hfz8_2
      obtain ⟨x6_2, x7_2, rfl, rfl, HA, HK2, BK359, HB⟩ := hrel
      cases gk with
      | zero => exact absurd HA.out (by simp [ddiref02_Print.l0])
      | succ k2 =>
       have H := HA.out
       clear HA
       simp only [ddiref02_Print.l0] at H
       by_cases c13 : x7_2 < 8
       ·
        rw [if_pos c13] at H
        have c13b0 := decide_eq_true c13
        clear c13
        have HC14 := Aside0.mk H
        clear H
        go_upto_if 51 with (fail)
        go_cut [6] (fun v6 wc => ∃ (kq : Nat) (x6_13 : ByteArray), v6 = .string x6_13 ∧ Aside0 (ddiref02_Print.j2 kq x4_5 x5_5 x6_13 x7_2 true a0_1 a0_2 = some (r1, r2)) ∧ Aside0 (kq ≤ k2) ∧ Aside0 (wc.heap[gb359]? = some (.cells #[.bool true, .int .u64 a0_1, .int .u64 a0_2] 24 (0, 0))) ∧ Aside0 (Below w.heap.size w wc))
        case first =>
         have H := HC14.out
         clear HC14
         by_cases c15 : x7_2 = x4_5
         ·
          rw [if_pos c15] at H
          have c15b0 : (x7_2 == x4_5) = true := beq_iff_eq.mpr c15
          have c15b1 : (x7_2 != x4_5) = false := bne_eq_false_iff_eq.mpr c15
          clear c15
          (first | rw [c15b0] | (simp only [i64_w, i32_w]; rw [c15b0]) | skip)
          by_cases c16 : x6_2.size + 2 ≤ 9223372036854775807
          ·
           rw [if_pos c16] at H
           have c16b0 := eq_true c16
           have c16b1 := decide_eq_true c16
           try have c16b2 : (9223372036854775807 < x6_2.size + 2) = False := eq_false (Nat.not_lt.2 c16)
           have H' := Aside0.mk H
           clear H
           go_wp2
           refine Met.intro ?_
           go_step
           (repeat apply Exists.intro)
           refine ⟨?rel, ?heq_⟩
           case heq_ => first | rfl | (rw [c15b0]) | (simp only [c15b0])
           case rel => exact ⟨_, (x6_2 ++ (⟨#[58, 58]⟩ : ByteArray)), pT, H', ⟨by have := HJ5.out; have := HK2.out; first | omega | exact Nat.le_refl _⟩, ⟨pM BK359⟩, ⟨pE HB⟩⟩
          ·
           rw [if_neg c16] at H
           exact absurd H (by simp)
         ·
          rw [if_neg c15] at H
          have c15b0 : (x7_2 == x4_5) = false := beq_eq_false_iff_ne.mpr c15
          have c15b1 : (x7_2 != x4_5) = true := bne_iff_ne.mpr c15
          (first | rw [c15b0] | (simp only [i64_w, i32_w]; rw [c15b0]) | skip)
          have H' := Aside0.mk H
          clear H
          go_wp2
          refine Met.intro ?_
          go_step
          (repeat apply Exists.intro)
          refine ⟨?rel, ?heq_⟩
          case heq_ => first | rfl | (rw [c15b0]) | (simp only [c15b0])
          case rel => exact ⟨_, (x6_2), pT, H', ⟨by have := HJ5.out; have := HK2.out; first | omega | exact Nat.le_refl _⟩, ⟨pM BK359⟩, ⟨pE HB⟩⟩
        case rest =>
         clear HC14
         try clear c3
         try clear c4
         try clear c13
         try clear c13b0
         try clear hcz10_0 hcz10_1 hcz10_2
         try clear hcz8_0 hcz8_1 hcz8_2
         try clear hfz10_0 hfz10_1 hfz10_2
         try clear hfz8_0 hfz8_1 hfz8_2
         obtain ⟨kq, x6_13, rfl, HA, HJ13, BK359, HB⟩ := hcut
         cases kq with
         | zero => exact absurd HA.out (by simp [ddiref02_Print.j2])
         | succ kj13 =>
          have H := HA.out
          clear HA
          simp only [ddiref02_Print.j2] at H
          have HC17 := Aside0.mk H
          clear H
          go_upto_region 14 with (fail)
          go_cut [63] (fun v63 wc => ∃ (kq : Nat) (x63_16 : Bool), v63 = .bool x63_16 ∧ Aside0 (ddiref02_Print.j3 kq x4_5 x5_5 x6_13 x7_2 x63_16 true a0_1 a0_2 = some (r1, r2)) ∧ Aside0 (kq ≤ kj13) ∧ Aside0 (wc.heap[gb359]? = some (.cells #[.bool true, .int .u64 a0_1, .int .u64 a0_2] 24 (0, 0))) ∧ Aside0 (Below w.heap.size w wc))
          case first =>
           have H := HC17.out
           clear HC17
           by_cases c18 : x7_2 ≥ x4_5
           ·
            rw [if_pos c18] at H
            have c18b0 := decide_eq_true c18
            clear c18
            (first | rw [c18b0] | (simp only [i64_w, i32_w]; rw [c18b0]) | skip)
            have H' := Aside0.mk H
            clear H
            go_wp2
            refine Met.intro ?_
            go_step
            (repeat apply Exists.intro)
            refine ⟨?rel, ?heq_⟩
            case heq_ => first | rfl | (rw [c18b0]) | (simp only [c18b0])
            case rel => exact ⟨_, (decide (x7_2 < (wrap64 (x4_5 + x5_5)))), pT, H', ⟨by have := HJ5.out; have := HK2.out; have := HJ13.out; first | omega | exact Nat.le_refl _⟩, ⟨pM BK359⟩, ⟨pE HB⟩⟩
           ·
            rw [if_neg c18] at H
            have c18b0 := decide_eq_false c18
            clear c18
            (first | rw [c18b0] | (simp only [i64_w, i32_w]; rw [c18b0]) | skip)
            have H' := Aside0.mk H
            clear H
            go_wp2
            refine Met.intro ?_
            go_step
            (repeat apply Exists.intro)
            refine ⟨?rel, ?heq_⟩
            case heq_ => first | rfl | (rw [c18b0]) | (simp only [c18b0])
            case rel => exact ⟨_, (false), pT, H', ⟨by have := HJ5.out; have := HK2.out; have := HJ13.out; first | omega | exact Nat.le_refl _⟩, ⟨pM BK359⟩, ⟨pE HB⟩⟩
          case rest =>
           clear HC17
           try clear c3
           try clear c4
           try clear c13
           try clear c13b0
           try clear hcz10_0 hcz10_1 hcz10_2
           try clear hcz8_0 hcz8_1 hcz8_2
           try clear hfz10_0 hfz10_1 hfz10_2
           try clear hfz8_0 hfz8_1 hfz8_2
           obtain ⟨kq, x63_16, rfl, HA, HJ16, BK359, HB⟩ := hcut
           cases kq with
           | zero => exact absurd HA.out (by simp [ddiref02_Print.j3])
           | succ kj16 =>
            have H := HA.out
            clear HA
            simp only [ddiref02_Print.j3] at H
            by_cases c19 : x63_16 = true
            ·
             subst c19
             have H1 : (ddiref02_Print.l0 kj16 x4_5 x5_5 x6_13 (wrap64 (x7_2 + 1)) true a0_1 a0_2) = some (r1, r2) := by rw [if_pos rfl] at H; exact H
             clear H
             have H := H1
             clear H1
             have H' := Aside0.mk H
             clear H
             go_wp2
             go_roundg kj16
             case measure => have := HJ5.out; have := HK2.out; have := HJ13.out; have := HJ16.out; omega
             case rel => exact ⟨(x6_13), (wrap64 (x7_2 + 1)), pT, pT, H', ⟨by have := HJ5.out; have := HK2.out; have := HJ13.out; have := HJ16.out; omega⟩, ⟨pM BK359⟩, ⟨pE HB⟩⟩
            ·
             replace c19 := Bool.eq_false_iff.mpr c19
             subst c19
             rw [if_neg (show ¬ (false = true) by decide)] at H
             have HC20 := Aside0.mk H
             clear H
             go_upto_region 15 with (fail)
             go_cut [72] (fun v72 wc => ∃ (kq : Nat) (x72_19 : Bool), v72 = .bool x72_19 ∧ Aside0 (ddiref02_Print.j4 kq x4_5 x5_5 x6_13 x7_2 x72_19 true a0_1 a0_2 = some (r1, r2)) ∧ Aside0 (kq ≤ kj16) ∧ Aside0 (wc.heap[gb359]? = some (.cells #[.bool true, .int .u64 a0_1, .int .u64 a0_2] 24 (0, 0))) ∧ Aside0 (Below w.heap.size w wc))
             case first =>
              have H := HC20.out
              clear HC20
              by_cases c21 : x7_2 > 0
              ·
               rw [if_pos c21] at H
               have c21b0 := decide_eq_true c21
               clear c21
               (first | rw [c21b0] | (simp only [i64_w, i32_w]; rw [c21b0]) | skip)
               have H' := Aside0.mk H
               clear H
               go_wp2
               refine Met.intro ?_
               go_step
               (repeat apply Exists.intro)
               refine ⟨?rel, ?heq_⟩
               case heq_ => first | rfl | (rw [c21b0]) | (simp only [c21b0])
               case rel => exact ⟨_, ((x7_2 != (wrap64 (x4_5 + x5_5)))), pT, H', ⟨by have := HJ5.out; have := HK2.out; have := HJ13.out; have := HJ16.out; first | omega | exact Nat.le_refl _⟩, ⟨pM BK359⟩, ⟨pE HB⟩⟩
              ·
               rw [if_neg c21] at H
               have c21b0 := decide_eq_false c21
               clear c21
               (first | rw [c21b0] | (simp only [i64_w, i32_w]; rw [c21b0]) | skip)
               have H' := Aside0.mk H
               clear H
               go_wp2
               refine Met.intro ?_
               go_step
               (repeat apply Exists.intro)
               refine ⟨?rel, ?heq_⟩
               case heq_ => first | rfl | (rw [c21b0]) | (simp only [c21b0])
               case rel => exact ⟨_, (false), pT, H', ⟨by have := HJ5.out; have := HK2.out; have := HJ13.out; have := HJ16.out; first | omega | exact Nat.le_refl _⟩, ⟨pM BK359⟩, ⟨pE HB⟩⟩
             case rest =>
              clear HC20
              try clear c3
              try clear c4
              try clear c13
              try clear c13b0
              try clear c19
              try clear hcz10_0 hcz10_1 hcz10_2
              try clear hcz8_0 hcz8_1 hcz8_2
              try clear hfz10_0 hfz10_1 hfz10_2
              try clear hfz8_0 hfz8_1 hfz8_2
              obtain ⟨kq, x72_19, rfl, HA, HJ19, BK359, HB⟩ := hcut
              cases kq with
              | zero => exact absurd HA.out (by simp [ddiref02_Print.j4])
              | succ kj19 =>
               have H := HA.out
               clear HA
               simp only [ddiref02_Print.j4] at H
               by_cases c22 : x72_19 = true
               ·
                subst c22
                have H1 : (if x6_13.size + 1 ≤ 9223372036854775807 then ((ddiref02_part.f kj19 true a0_1 a0_2 x7_2).bind fun t367 => ((ddiref02_groupText.f kj19 t367).bind fun t368 => (if (x6_13 ++ (⟨#[58]⟩ : ByteArray)).size + t368.size ≤ 9223372036854775807 then (ddiref02_Print.l0 kj19 x4_5 x5_5 ((x6_13 ++ (⟨#[58]⟩ : ByteArray)) ++ t368) (wrap64 (x7_2 + 1)) true a0_1 a0_2) else (none)))) else (none)) = some (r1, r2) := by rw [if_pos rfl] at H; exact H
                clear H
                have H := H1
                clear H1
                by_cases c23 : x6_13.size + 1 ≤ 9223372036854775807
                ·
                 rw [if_pos c23] at H
                 have c23b0 := eq_true c23
                 have c23b1 := decide_eq_true c23
                 try have c23b2 : (9223372036854775807 < x6_13.size + 1) = False := eq_false (Nat.not_lt.2 c23)
                 replace H := Option.bind_eq_some_iff.mp H
                 obtain ⟨t367, A240, H⟩ := H
                 have A24 := Aside0.mk A240
                 clear A240
                 replace H := Option.bind_eq_some_iff.mp H
                 obtain ⟨t368, A250, H⟩ := H
                 have A25 := Aside0.mk A250
                 clear A250
                 by_cases c26 : (x6_13 ++ (⟨#[58]⟩ : ByteArray)).size + t368.size ≤ 9223372036854775807
                 ·
                  rw [if_pos c26] at H
                  have c26b0 := eq_true c26
                  have c26b1 := decide_eq_true c26
                  try have c26b2 : (9223372036854775807 < (x6_13 ++ (⟨#[58]⟩ : ByteArray)).size + t368.size) = False := eq_false (Nat.not_lt.2 c26)
                  try have c26b2z := c26b2
                  try simp only [go_sem, List.size_toArray, List.length_cons, List.length_nil, Nat.zero_add, Nat.reduceAdd] at c26b2z
                  have H' := Aside0.mk H
                  clear H
                  obtain ⟨hcz27_0, hcz27_1, hcz27_2, hfz27_0, hfz27_1, hfz27_2⟩ := pC3 BK359
                  go_wp2_with (first | ((with_reducible refine gate_callee (f := 84) rfl ?_); refine goesA (some 78) Tryz.func84 #[.agg #[.bool true, .int .u64 a0_1, .int .u64 a0_2], .int .i64 x7_2] ?_; (with_reducible refine (ddiref02_part.calls kj19 true a0_1 a0_2 x7_2 t367 _ A24.out).mono ?_); rintro e w28 ⟨rfl, hb⟩; refine ⟨_, rfl, ?_⟩; replace BK359 := (pB BK359 hb); replace HB := (pS HB hb); (try clear hb)) | ((with_reducible refine gate_callee (f := 83) rfl ?_); refine goesA (some 79) Tryz.func83 #[.int .u64 t367] ?_; (with_reducible refine (ddiref02_groupText.calls kj19 t367 t368 _ A25.out).mono ?_); rintro e w29 ⟨rfl, hb⟩; refine ⟨_, rfl, ?_⟩; replace BK359 := (pB BK359 hb); replace HB := (pS HB hb); (try clear hb)))
                  go_roundg kj19
                  case measure => have := HJ5.out; have := HK2.out; have := HJ13.out; have := HJ16.out; have := HJ19.out; omega
                  case rel => exact ⟨((x6_13 ++ (⟨#[58]⟩ : ByteArray)) ++ t368), (wrap64 (x7_2 + 1)), pT, pT, H', ⟨by have := HJ5.out; have := HK2.out; have := HJ13.out; have := HJ16.out; have := HJ19.out; omega⟩, ⟨pM BK359⟩, ⟨pE HB⟩⟩
                 ·
                  rw [if_neg c26] at H
                  exact absurd H (by simp)
                ·
                 rw [if_neg c23] at H
                 exact absurd H (by simp)
               ·
                replace c22 := Bool.eq_false_iff.mpr c22
                subst c22
                rw [if_neg (show ¬ (false = true) by decide)] at H
                replace H := Option.bind_eq_some_iff.mp H
                obtain ⟨t369, A300, H⟩ := H
                have A30 := Aside0.mk A300
                clear A300
                replace H := Option.bind_eq_some_iff.mp H
                obtain ⟨t370, A310, H⟩ := H
                have A31 := Aside0.mk A310
                clear A310
                by_cases c32 : x6_13.size + t370.size ≤ 9223372036854775807
                ·
                 rw [if_pos c32] at H
                 have c32b0 := eq_true c32
                 have c32b1 := decide_eq_true c32
                 try have c32b2 : (9223372036854775807 < x6_13.size + t370.size) = False := eq_false (Nat.not_lt.2 c32)
                 have H' := Aside0.mk H
                 clear H
                 obtain ⟨hcz33_0, hcz33_1, hcz33_2, hfz33_0, hfz33_1, hfz33_2⟩ := pC3 BK359
                 go_wp2_with (first | ((with_reducible refine gate_callee (f := 84) rfl ?_); refine goesA (some 78) Tryz.func84 #[.agg #[.bool true, .int .u64 a0_1, .int .u64 a0_2], .int .i64 x7_2] ?_; (with_reducible refine (ddiref02_part.calls kj19 true a0_1 a0_2 x7_2 t369 _ A30.out).mono ?_); rintro e w34 ⟨rfl, hb⟩; refine ⟨_, rfl, ?_⟩; replace BK359 := (pB BK359 hb); replace HB := (pS HB hb); (try clear hb)) | ((with_reducible refine gate_callee (f := 83) rfl ?_); refine goesA (some 79) Tryz.func83 #[.int .u64 t369] ?_; (with_reducible refine (ddiref02_groupText.calls kj19 t369 t370 _ A31.out).mono ?_); rintro e w35 ⟨rfl, hb⟩; refine ⟨_, rfl, ?_⟩; replace BK359 := (pB BK359 hb); replace HB := (pS HB hb); (try clear hb)))
                 go_roundg kj19
                 case measure => have := HJ5.out; have := HK2.out; have := HJ13.out; have := HJ16.out; have := HJ19.out; omega
                 case rel => exact ⟨(x6_13 ++ t370), (wrap64 (x7_2 + 1)), pT, pT, H', ⟨by have := HJ5.out; have := HK2.out; have := HJ13.out; have := HJ16.out; have := HJ19.out; omega⟩, ⟨pM BK359⟩, ⟨pE HB⟩⟩
                ·
                 rw [if_neg c32] at H
                 exact absurd H (by simp)
       ·
        rw [if_neg c13] at H
        have c13b0 := decide_eq_false c13
        clear c13
        simp only [Option.some.injEq, Prod.mk.injEq] at H
        obtain ⟨rfl, rfl⟩ := H
        go_wp2
        go_ret2
        exact pR (pE HB)
  ·
   replace c4 := Bool.eq_false_iff.mpr c4
   subst c4
   rw [if_neg (show ¬ (false = true) by decide)] at H
   replace H := Option.bind_eq_some_iff.mp H
   obtain ⟨t361, A360, H⟩ := H
   have A36 := Aside0.mk A360
   clear A360
   by_cases c37 : t361.size + 1 ≤ 9223372036854775807
   ·
    rw [if_pos c37] at H
    have c37b0 := eq_true c37
    have c37b1 := decide_eq_true c37
    try have c37b2 : (9223372036854775807 < t361.size + 1) = False := eq_false (Nat.not_lt.2 c37)
    replace H := Option.bind_eq_some_iff.mp H
    obtain ⟨t362, A380, H⟩ := H
    have A38 := Aside0.mk A380
    clear A380
    by_cases c39 : (t361 ++ (⟨#[46]⟩ : ByteArray)).size + t362.size ≤ 9223372036854775807
    ·
     rw [if_pos c39] at H
     have c39b0 := eq_true c39
     have c39b1 := decide_eq_true c39
     try have c39b2 : (9223372036854775807 < (t361 ++ (⟨#[46]⟩ : ByteArray)).size + t362.size) = False := eq_false (Nat.not_lt.2 c39)
     try have c39b2z := c39b2
     try simp only [go_sem, List.size_toArray, List.length_cons, List.length_nil, Nat.zero_add, Nat.reduceAdd] at c39b2z
     by_cases c40 : ((t361 ++ (⟨#[46]⟩ : ByteArray)) ++ t362).size + 1 ≤ 9223372036854775807
     ·
      rw [if_pos c40] at H
      have c40b0 := eq_true c40
      have c40b1 := decide_eq_true c40
      try have c40b2 : (9223372036854775807 < ((t361 ++ (⟨#[46]⟩ : ByteArray)) ++ t362).size + 1) = False := eq_false (Nat.not_lt.2 c40)
      try have c40b2z := c40b2
      try simp only [go_sem, List.size_toArray, List.length_cons, List.length_nil, Nat.zero_add, Nat.reduceAdd] at c40b2z
      replace H := Option.bind_eq_some_iff.mp H
      obtain ⟨t363, A410, H⟩ := H
      have A41 := Aside0.mk A410
      clear A410
      by_cases c42 : (((t361 ++ (⟨#[46]⟩ : ByteArray)) ++ t362) ++ (⟨#[46]⟩ : ByteArray)).size + t363.size ≤ 9223372036854775807
      ·
       rw [if_pos c42] at H
       have c42b0 := eq_true c42
       have c42b1 := decide_eq_true c42
       try have c42b2 : (9223372036854775807 < (((t361 ++ (⟨#[46]⟩ : ByteArray)) ++ t362) ++ (⟨#[46]⟩ : ByteArray)).size + t363.size) = False := eq_false (Nat.not_lt.2 c42)
       try have c42b2z := c42b2
       try simp only [go_sem, List.size_toArray, List.length_cons, List.length_nil, Nat.zero_add, Nat.reduceAdd] at c42b2z
       by_cases c43 : ((((t361 ++ (⟨#[46]⟩ : ByteArray)) ++ t362) ++ (⟨#[46]⟩ : ByteArray)) ++ t363).size + 1 ≤ 9223372036854775807
       ·
        rw [if_pos c43] at H
        have c43b0 := eq_true c43
        have c43b1 := decide_eq_true c43
        try have c43b2 : (9223372036854775807 < ((((t361 ++ (⟨#[46]⟩ : ByteArray)) ++ t362) ++ (⟨#[46]⟩ : ByteArray)) ++ t363).size + 1) = False := eq_false (Nat.not_lt.2 c43)
        try have c43b2z := c43b2
        try simp only [go_sem, List.size_toArray, List.length_cons, List.length_nil, Nat.zero_add, Nat.reduceAdd] at c43b2z
        replace H := Option.bind_eq_some_iff.mp H
        obtain ⟨t364, A440, H⟩ := H
        have A44 := Aside0.mk A440
        clear A440
        by_cases c45 : (((((t361 ++ (⟨#[46]⟩ : ByteArray)) ++ t362) ++ (⟨#[46]⟩ : ByteArray)) ++ t363) ++ (⟨#[46]⟩ : ByteArray)).size + t364.size ≤ 9223372036854775807
        ·
         rw [if_pos c45] at H
         have c45b0 := eq_true c45
         have c45b1 := decide_eq_true c45
         try have c45b2 : (9223372036854775807 < (((((t361 ++ (⟨#[46]⟩ : ByteArray)) ++ t362) ++ (⟨#[46]⟩ : ByteArray)) ++ t363) ++ (⟨#[46]⟩ : ByteArray)).size + t364.size) = False := eq_false (Nat.not_lt.2 c45)
         try have c45b2z := c45b2
         try simp only [go_sem, List.size_toArray, List.length_cons, List.length_nil, Nat.zero_add, Nat.reduceAdd] at c45b2z
         simp only [Option.some.injEq, Prod.mk.injEq] at H
         obtain ⟨rfl, rfl⟩ := H
         go_enter Tryz.func59, Tryz.ntmps59
         try go_wp2_with (first | ((with_reducible refine gate_dst (N := 1) rfl ?_); refine boxA (N := 1) (cs := #[.bool false, .int .u64 a0_1, .int .u64 a0_2]) (t := 24) ?_; intro gb359 hg w46 hbox hb; have BK359 := Aside0.mk (hbox); have GE359 := (pZ HB hg); replace HB := (pS HB hb); clear hb hbox hg; obtain ⟨hcz47_0, hcz47_1, hcz47_2, hfz47_0, hfz47_1, hfz47_2⟩ := pC3 BK359) | ((with_reducible refine gate_callee (f := 54) rfl ?_); refine goesA (some 9) Tryz.func54 #[.agg #[.bool false, .int .u64 a0_1, .int .u64 a0_2]] ?_; (with_reducible refine (ddiref02_Valid.calls false a0_1 a0_2 true _ A2.out).mono ?_); rintro e w48 ⟨rfl, hb⟩; refine ⟨_, rfl, ?_⟩; replace BK359 := (pB BK359 hb); replace HB := (pS HB hb); (try clear hb); obtain ⟨hcz49_0, hcz49_1, hcz49_2, hfz49_0, hfz49_1, hfz49_2⟩ := pC3 BK359))
         replace BK359 := Aside0.mk (blk_drew BK359.out)
         replace HB := Aside0.mk (below_drew1 HB.out)
         refine start_ (n := 26) (S := fun w' => w'.cell? ⟨gb359, 0, none⟩ = some (.bool false) ∧ w'.cell? ⟨gb359, 1, none⟩ = some (.int .u64 a0_1) ∧ w'.cell? ⟨gb359, 2, none⟩ = some (.int .u64 a0_2)) (ds := []) (tk 26 0) (by kernel_rfl) rfl rfl ⟨bC BK359 0, bC BK359 1, bC BK359 2⟩ (fun hHeld => ?_); refine with_tabW ddiref02_Print.tab4 ddiref02_Print.bits4 (fun HT_ HW_ => ?_)
         generalize w48.drew = w50 at BK359 HB hHeld ⊢
         refine pureA (i := 0) (some 14) HT_ (tk 26 1) ?_
         refine pureA (i := 5) (some 19) HT_ (tr [1, 4, 1, 20]) ?_
         refine pureA (i := 12) (some 26) HT_ (tr [1, 4, 1, 6, 1, 13]) ?_
         refine pureA (i := 19) (some 33) HT_ (tr [1, 4, 1, 6, 1, 6, 1, 6]) ?_
         refine takeA (i := 1) (some 15) HT_ HW_ (tr [2, 3, 1, 6, 1, 6, 1, 6]) hHeld ?_
         refine pureA (i := 2) (some 16) HT_ (tr [3, 2, 1, 6, 1, 6, 1, 6]) ?_
         refine takeA (i := 6) (some 20) HT_ HW_ (tr [3, 2, 2, 5, 1, 6, 1, 6]) hHeld ?_
         refine pureA (i := 7) (some 21) HT_ (tr [3, 2, 3, 4, 1, 6, 1, 6]) ?_
         refine pureA (i := 8) (some 22) HT_ (tr [3, 2, 4, 3, 1, 6, 1, 6]) ?_
         refine takeA (i := 13) (some 27) HT_ HW_ (tr [3, 2, 4, 3, 2, 5, 1, 6]) hHeld ?_
         refine pureA (i := 14) (some 28) HT_ (tr [3, 2, 4, 3, 3, 4, 1, 6]) ?_
         refine pureA (i := 15) (some 29) HT_ (tr [3, 2, 4, 3, 4, 3, 1, 6]) ?_
         refine takeA (i := 20) (some 34) HT_ HW_ (tr [3, 2, 4, 3, 4, 3, 2, 5]) hHeld ?_
         refine pureA (i := 21) (some 35) HT_ (tr [3, 2, 4, 3, 4, 3, 3, 4]) ?_
         refine one_ (i := 3) (N := some 17) (tr [4, 1, 4, 3, 4, 3, 3, 4]) rfl rfl (one_of HT_.out (by kernel_rfl)) (by decide) (fun K hK => ?_)
         refine goesR Tryz.func73 #[.int .u64 (IntKind.u64.wrap (Int.tdiv a0_2 16777216))] ?_
         with_reducible refine (ddiref02_decimal.calls (IntKind.u64.wrap (Int.tdiv a0_2 16777216)) t361 _ A36.out).mono ?_
         rintro e w51 ⟨rfl, hb⟩
         refine ⟨_, rfl, ?_⟩
         replace BK359 := (pB BK359 hb)
         replace HB := (pS HB hb)
         (try clear hb)
         refine hK.out _ _ ⟨bC BK359 0, bC BK359 1, bC BK359 2⟩ (fun hHeld => ?_)
         clear hK K
         refine normA (N := some 17) ?_
         refine pureA (i := 4) (some 18) HT_ (tr [9, 3, 4, 3, 3, 4]) ?_
         refine one_ (i := 9) (N := some 23) (tr [10, 2, 4, 3, 3, 4]) rfl rfl (one_of HT_.out (by kernel_rfl)) (by decide) (fun K hK => ?_)
         refine goesR Tryz.func73 #[.int .u64 (Int.tmod (IntKind.u64.wrap (Int.tdiv a0_2 65536)) 256)] ?_
         with_reducible refine (ddiref02_decimal.calls (Int.tmod (IntKind.u64.wrap (Int.tdiv a0_2 65536)) 256) t362 _ A38.out).mono ?_
         rintro e w52 ⟨rfl, hb⟩
         refine ⟨_, rfl, ?_⟩
         replace BK359 := (pB BK359 hb)
         replace HB := (pS HB hb)
         (try clear hb)
         refine hK.out _ _ ⟨bC BK359 0, bC BK359 1, bC BK359 2⟩ (fun hHeld => ?_)
         clear hK K
         refine normA (N := some 23) ?_
         refine pureA (i := 10) (some 24) HT_ (tr [11, 1, 4, 3, 3, 4]) ?_
         refine pureA (i := 11) (some 25) HT_ (tr [16, 3, 3, 4]) ?_
         refine one_ (i := 16) (N := some 30) (tr [17, 2, 3, 4]) rfl rfl (one_of HT_.out (by kernel_rfl)) (by decide) (fun K hK => ?_)
         refine goesR Tryz.func73 #[.int .u64 (Int.tmod (IntKind.u64.wrap (Int.tdiv a0_2 256)) 256)] ?_
         with_reducible refine (ddiref02_decimal.calls (Int.tmod (IntKind.u64.wrap (Int.tdiv a0_2 256)) 256) t363 _ A41.out).mono ?_
         rintro e w53 ⟨rfl, hb⟩
         refine ⟨_, rfl, ?_⟩
         replace BK359 := (pB BK359 hb)
         replace HB := (pS HB hb)
         (try clear hb)
         refine hK.out _ _ ⟨bC BK359 0, bC BK359 1, bC BK359 2⟩ (fun hHeld => ?_)
         clear hK K
         refine normA (N := some 30) ?_
         refine pureA (i := 17) (some 31) HT_ (tr [18, 1, 3, 4]) ?_
         refine pureA (i := 18) (some 32) HT_ (tk 26 22) ?_
         refine one_ (i := 22) (N := some 36) (tk 26 23) rfl rfl (one_of HT_.out (by kernel_rfl)) (by decide) (fun K hK => ?_)
         refine goesR Tryz.func73 #[.int .u64 (Int.tmod a0_2 256)] ?_
         with_reducible refine (ddiref02_decimal.calls (Int.tmod a0_2 256) t364 _ A44.out).mono ?_
         rintro e w54 ⟨rfl, hb⟩
         refine ⟨_, rfl, ?_⟩
         replace BK359 := (pB BK359 hb)
         replace HB := (pS HB hb)
         (try clear hb)
         refine hK.out _ _ ⟨bC BK359 0, bC BK359 1, bC BK359 2⟩ (fun hHeld => ?_)
         clear hK K
         refine normA (N := some 36) ?_
         refine pureA (i := 23) (some 37) HT_ (tk 26 24) ?_
         refine pureA (i := 24) (some 2) HT_ (tk 26 25) ?_
         refine pureA (i := 25) (some 3) HT_ (tk 26 26) ?_
         refine done_ (done_of HT_.out (by kernel_rfl)) ?_
         try go_wp2
         go_ret2
         exact pR (pE HB)
        ·
         rw [if_neg c45] at H
         exact absurd H (by simp)
       ·
        rw [if_neg c43] at H
        exact absurd H (by simp)
      ·
       rw [if_neg c42] at H
       exact absurd H (by simp)
     ·
      rw [if_neg c40] at H
      exact absurd H (by simp)
    ·
     rw [if_neg c39] at H
     exact absurd H (by simp)
   ·
    rw [if_neg c37] at H
    exact absurd H (by simp)
 ·
  replace c3 := Bool.eq_false_iff.mpr c3
  subst c3
  rw [if_neg (show ¬ (false = true) by decide)] at H
  simp only [Option.some.injEq, Prod.mk.injEq] at H
  obtain ⟨rfl, rfl⟩ := H
  go_enter Tryz.func59, Tryz.ntmps59
  go_wp2_with (first | ((with_reducible refine gate_dst (N := 1) rfl ?_); refine boxA (N := 1) (cs := #[.bool a0_0, .int .u64 a0_1, .int .u64 a0_2]) (t := 24) ?_; intro gb359 hg w55 hbox hb; have BK359 := Aside0.mk (hbox); have GE359 := (pZ HB hg); replace HB := (pS HB hb); clear hb hbox hg; obtain ⟨hcz56_0, hcz56_1, hcz56_2, hfz56_0, hfz56_1, hfz56_2⟩ := pC3 BK359) | ((with_reducible refine gate_callee (f := 54) rfl ?_); refine goesA (some 9) Tryz.func54 #[.agg #[.bool a0_0, .int .u64 a0_1, .int .u64 a0_2]] ?_; (with_reducible refine (ddiref02_Valid.calls a0_0 a0_1 a0_2 false _ A2.out).mono ?_); rintro e w57 ⟨rfl, hb⟩; refine ⟨_, rfl, ?_⟩; replace BK359 := (pB BK359 hb); replace HB := (pS HB hb); (try clear hb)))
  go_ret2
  exact pR (pE HB)
end Go.Proofs.YteflcmmandlknaaGreatDoor.PA
