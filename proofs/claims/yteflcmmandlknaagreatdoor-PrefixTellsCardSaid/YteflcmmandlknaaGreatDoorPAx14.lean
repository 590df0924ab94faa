/- The Go functions in Lean, with the proofs that the code comes to these answers: printed by this session's program (wip/px) out of the seat's translation. Conditions: each theorem's own. -/
import Derived.Test.YteflcmmandlknaaGreatDoorPAx0
import Derived.Test.YteflcmmandlknaaGreatDoorPAx2
import Derived.Test.YteflcmmandlknaaGreatDoorPAx4
import Derived.Test.YteflcmmandlknaaGreatDoorPAx8
import Derived.Test.YteflcmmandlknaaGreatDoorPAx11
import Derived.Test.YteflcmmandlknaaGreatDoorPAx12
import Derived.Test.YteflcmmandlknaaGreatDoorPAx13
namespace Go.Proofs.YteflcmmandlknaaGreatDoor.PA
open Go.RowKit Go.Proofs.YteflcmmandlknaaGreatDoorW.PrintWords Go.Proofs.YteflcmmandlknaaGreatDoorW.PrintLast Go.Proofs.YteflcmmandlknaaGreatDoorW.PrintMore
attribute [local go_sem] max2_int min2_int max_two min_two max_three min_three max_four min_four   -- for this text's walks alone
attribute [local go_sem ↓] Ext.isSome_setCell
open Press
set_option linter.unusedVariables false
set_option linter.unusedSimpArgs false
attribute [local go_sem high] eqA26
/-! ### ddiref03_Decimal: function 60 -/
def ddiref03_Decimal.l0 : Nat → Int → ByteArray → Int → Option (ByteArray)
 | 0, _, _, _ => none
 | k + 1, x0, x3, x4 => if x4 < 20 then (if x0 > 0 then ((some (([(wrap64 (48 + (Int.tmod x0 10))) % 256] : List Int) : List Int)).bind fun y374 => (if (strOfNums y374).size + x3.size ≤ 9223372036854775807 then (ddiref03_Decimal.l0 k (wrap64 (Int.tdiv x0 10)) ((strOfNums y374) ++ x3) (wrap64 (x4 + 1))) else (none))) else (some x3)) else (some x3)
def ddiref03_Decimal.f (k : Nat) (a0 : Int) : Option (ByteArray) := if a0 < 10 then (some (strOfNums (([(wrap64 (48 + a0)) % 256] : List Int)))) else (ddiref03_Decimal.l0 k a0 (⟨#[]⟩ : ByteArray) 0)
theorem ddiref03_Decimal.mono_l : ∀ k, (∀ y0 y1 y2, LeO (ddiref03_Decimal.l0 k y0 y1 y2) (ddiref03_Decimal.l0 (k + 1) y0 y1 y2))
 | 0 => fun _ _ _ r h => by simp [ddiref03_Decimal.l0] at h
 | k + 1 => by
  have ih0 := ddiref03_Decimal.mono_l k
  ·
   intro y0 y1 y2
   unfold ddiref03_Decimal.l0
   repeat' with_reducible first | exact ih0 _ _ _ | exact LeO.refl _ | exact LeO.none _ | refine LeO.ite ?_ ?_ | refine LeO.bind ?_ (fun _ => ?_)
theorem ddiref03_Decimal.mono : ∀ a0 k, LeO (ddiref03_Decimal.f k a0) (ddiref03_Decimal.f (k + 1) a0) := by
 intro a0 k
 have ih0 := ddiref03_Decimal.mono_l k
 unfold ddiref03_Decimal.f
 repeat' with_reducible first | exact ih0 _ _ _ | exact LeO.refl _ | exact LeO.none _ | refine LeO.ite ?_ ?_ | refine LeO.bind ?_ (fun _ => ?_)
set_option maxHeartbeats 40000000 in
set_option maxRecDepth 100000 in
theorem ddiref03_Decimal.calls (k : Nat) (a0 : Int) (r : ByteArray) (w : World) (h : ddiref03_Decimal.f k a0 = some r) :
 Calls Tryz.prog 60 #[.int .i64 a0] w fun e w' => e = .returned (.string r) ∧ Below w.heap.size w w' := by
 have HB := Aside0.mk (Below.refl w.heap.size w)
 have H : (if a0 < 10 then (some (strOfNums (([(wrap64 (48 + a0)) % 256] : List Int)))) else (ddiref03_Decimal.l0 k a0 (⟨#[]⟩ : ByteArray) 0)) = some r := h
 clear h
 by_cases c2 : a0 < 10
 ·
  rw [if_pos c2] at H
  have c2b0 := decide_eq_true c2
  clear c2
  obtain ⟨y371, hy371⟩ : ∃ y_ : List Int, y_ = (([(wrap64 (48 + a0)) % 256] : List Int)) := ⟨_, rfl⟩
  replace H : (some (strOfNums y371)) = some r := by first | (rw [hy371]; with_reducible exact H) | (have H2_ := (Option.bind_some _ _).symm.trans H; rw [hy371]; with_reducible exact H2_) | (have H2_ := (Option.bind_some _ _).symm.trans H; with_reducible exact H2_) | with_reducible exact H | (rw [hy371]; exact H) | exact H
  have Ny371 := Aside0.mk hy371
  clear hy371
  obtain rfl := Option.some.inj H
  go_enter Tryz.func60, Tryz.ntmps60
  go_wp2_with (first | ((with_reducible refine gate_dst (N := 10) rfl ?_); refine Kd.R_lit (Kd.int .u8) _ 5 ?hg (N := 10) ?hd (xs := ([(wrap64 (48 + a0)) % 256] : List Int)) (inner := [.int .u8 ((wrap64 (48 + a0)) % 256)]) (ok := fun _ => True) (okp := fun _ => True) ?hr ?hp (fun _ hk => hk) trivial (Below.refl _ _) (Nat.le_refl _) (by simp) ?_; (case hd => rfl); (case hg => rfl); (case hr => first | (go_simp; done) | (go_simp; rfl)); (case hp => exact (Reps.one (show Kd.M (Kd.int .u8) _ _ _ ((wrap64 (48 + a0)) % 256) [.int .u8 ((wrap64 (48 + a0)) % 256)] from rfl) (Reps.none _ _))); intro v372 w3 ho4 hb hg_ hnew_; clear hg_ hnew_; (first | rw [← Ny371.out] at ho4 | (simp only [Int.reduceToNat] at ho4; rw [← Ny371.out] at ho4)); have HO373 := Aside0.mk (Kd.R_lower ho4 (below_size (by repeat (first | (with_reducible first | exact HB.out | apply below_alloc | apply pw_below_drewN | apply below_drew1) | exact HB.out)))); replace HB := (pS HB hb); clear hb ho4; have hcv5 := own_string (P := Tryz.prog) Tryz.underlying103 Tryz.underlying5 Tryz.underlying9 (Kd.own_of_R HO373.out)))
  go_ret
  exact pR (pE HB)
 ·
  rw [if_neg c2] at H
  have c2b0 := decide_eq_false c2
  clear c2
  have H' := Aside0.mk H
  clear H
  go_enter Tryz.func60, Tryz.ntmps60
  go_wp2
  go_loopg [0, 3, 4] k (fun kq v0 v3 v4 w' => ∃ (x0_1 : Int) (x3_1 : ByteArray) (x4_1 : Int), v0 = .int .i64 x0_1 ∧ v3 = .string x3_1 ∧ v4 = .int .i64 x4_1 ∧ Aside0 (ddiref03_Decimal.l0 kq x0_1 x3_1 x4_1 = some r) ∧ Aside0 (kq ≤ k) ∧ Aside0 (Below w.heap.size w w'))
  case atStart => exact ⟨(a0), ((⟨#[]⟩ : ByteArray)), (0), pT, pT, pT, H', ⟨Nat.le_refl _⟩, ⟨pE HB⟩⟩
  case round =>
   clear H'
   try clear c2
   try clear c2b0
   obtain ⟨x0_1, x3_1, x4_1, rfl, rfl, rfl, HA, HK1, HB⟩ := hrel
   cases gk with
   | zero => exact absurd HA.out (by simp [ddiref03_Decimal.l0])
   | succ k1 =>
    have H := HA.out
    clear HA
    simp only [ddiref03_Decimal.l0] at H
    by_cases c6 : x4_1 < 20
    ·
     rw [if_pos c6] at H
     have c6b0 := decide_eq_true c6
     clear c6
     by_cases c7 : x0_1 > 0
     ·
      rw [if_pos c7] at H
      have c7b0 := decide_eq_true c7
      clear c7
      obtain ⟨y374, hy374⟩ : ∃ y_ : List Int, y_ = (([(wrap64 (48 + (Int.tmod x0_1 10))) % 256] : List Int)) := ⟨_, rfl⟩
      replace H : (if (strOfNums y374).size + x3_1.size ≤ 9223372036854775807 then (ddiref03_Decimal.l0 k1 (wrap64 (Int.tdiv x0_1 10)) ((strOfNums y374) ++ x3_1) (wrap64 (x4_1 + 1))) else (none)) = some r := by first | (rw [hy374]; with_reducible exact H) | (have H2_ := (Option.bind_some _ _).symm.trans H; rw [hy374]; with_reducible exact H2_) | (have H2_ := (Option.bind_some _ _).symm.trans H; with_reducible exact H2_) | with_reducible exact H | (rw [hy374]; exact H) | exact H
      have Ny374 := Aside0.mk hy374
      clear hy374
      by_cases c8 : (strOfNums y374).size + x3_1.size ≤ 9223372036854775807
      ·
       rw [if_pos c8] at H
       have c8b0 := eq_true c8
       have c8b1 := decide_eq_true c8
       try have c8b2 : (9223372036854775807 < (strOfNums y374).size + x3_1.size) = False := eq_false (Nat.not_lt.2 c8)
       have H' := Aside0.mk H
       clear H
       go_wp2_with (first | ((with_reducible refine gate_dst (N := 24) rfl ?_); refine Kd.R_lit (Kd.int .u8) _ 5 ?hg (N := 24) ?hd (xs := ([(wrap64 (48 + (Int.tmod x0_1 10))) % 256] : List Int)) (inner := [.int .u8 ((wrap64 (48 + (Int.tmod x0_1 10))) % 256)]) (ok := fun _ => True) (okp := fun _ => True) ?hr ?hp (fun _ hk => hk) trivial (Below.refl _ _) (Nat.le_refl _) (by simp) ?_; (case hd => rfl); (case hg => rfl); (case hr => first | (go_simp; done) | (go_simp; rfl)); (case hp => exact (Reps.one (show Kd.M (Kd.int .u8) _ _ _ ((wrap64 (48 + (Int.tmod x0_1 10))) % 256) [.int .u8 ((wrap64 (48 + (Int.tmod x0_1 10))) % 256)] from rfl) (Reps.none _ _))); intro v375 w9 ho10 hb hg_ hnew_; clear hg_ hnew_; (first | rw [← Ny374.out] at ho10 | (simp only [Int.reduceToNat] at ho10; rw [← Ny374.out] at ho10)); have HO376 := Aside0.mk (Kd.R_lower ho10 (below_size (by repeat (first | (with_reducible first | exact HB.out | apply below_alloc | apply pw_below_drewN | apply below_drew1) | exact HB.out)))); replace HB := (pS HB hb); clear hb ho10; have hcv11 := own_string (P := Tryz.prog) Tryz.underlying103 Tryz.underlying5 Tryz.underlying9 (Kd.own_of_R HO376.out)))
       go_roundg k1
       case measure => have := HK1.out; omega
       case rel => exact ⟨(wrap64 (Int.tdiv x0_1 10)), ((strOfNums y374) ++ x3_1), (wrap64 (x4_1 + 1)), pT, pT, pT, H', ⟨by have := HK1.out; omega⟩, ⟨pE HB⟩⟩
      ·
       rw [if_neg c8] at H
       exact absurd H (by simp)
     ·
      rw [if_neg c7] at H
      have c7b0 := decide_eq_false c7
      clear c7
      obtain rfl := Option.some.inj H
      go_wp2
      go_ret
      exact pR (pE HB)
    ·
     rw [if_neg c6] at H
     have c6b0 := decide_eq_false c6
     clear c6
     obtain rfl := Option.some.inj H
     go_wp2
     go_ret
     exact pR (pE HB)

/-! ### ddiref03_Print: function 23 -/
def ddiref03_Print.f (k : Nat) (a0_0 : Bool) (a0_1 : Int) (a0_2 : Int) (a0_3 : Int) : Option (ByteArray × Int) := (ddiref03_Valid.f k a0_0 a0_1 a0_2 a0_3).bind fun t378 => (if t378 = true then ((ddiref02_Print.f k a0_0 a0_1 a0_2).bind fun bt379 => (if bt379.1.size + 1 ≤ 9223372036854775807 then ((ddiref03_Decimal.f k a0_3).bind fun t381 => (if (bt379.1 ++ (⟨#[47]⟩ : ByteArray)).size + t381.size ≤ 9223372036854775807 then (some ((bt379.1 ++ (⟨#[47]⟩ : ByteArray)) ++ t381, 0)) else (none))) else (none))) else (some ((⟨#[]⟩ : ByteArray), 3)))
theorem ddiref03_Print.mono : ∀ a0 a1 a2 a3 k, LeO (ddiref03_Print.f k a0 a1 a2 a3) (ddiref03_Print.f (k + 1) a0 a1 a2 a3) := by
 intro a0 a1 a2 a3 k
 unfold ddiref03_Print.f
 repeat' with_reducible first | exact ddiref02_Print.mono _ _ _ _ | exact ddiref03_Decimal.mono _ _ | exact ddiref03_Valid.mono _ _ _ _ _ | exact LeO.refl _ | exact LeO.none _ | refine LeO.ite ?_ ?_ | refine LeO.bind ?_ (fun _ => ?_)
set_option maxHeartbeats 40000000 in
set_option maxRecDepth 100000 in
theorem ddiref03_Print.calls (k : Nat) (a0_0 : Bool) (a0_1 : Int) (a0_2 : Int) (a0_3 : Int) (r1 : ByteArray) (r2 : Int) (w : World) (h : ddiref03_Print.f k a0_0 a0_1 a0_2 a0_3 = some (r1, r2)) :
 Calls Tryz.prog 23 #[.agg #[.bool a0_0, .int .u64 a0_1, .int .u64 a0_2, .int .i64 a0_3]] w fun e w' => e = .returned (.tuple #[.string r1, .int .i64 r2]) ∧ Below w.heap.size w w' := by
 have hu26 := Tryz.underlying26
 have hu24 := Tryz.underlying24
 have HB := Aside0.mk (Below.refl w.heap.size w)
 have H : ((ddiref03_Valid.f k a0_0 a0_1 a0_2 a0_3).bind fun t378 => (if t378 = true then ((ddiref02_Print.f k a0_0 a0_1 a0_2).bind fun bt379 => (if bt379.1.size + 1 ≤ 9223372036854775807 then ((ddiref03_Decimal.f k a0_3).bind fun t381 => (if (bt379.1 ++ (⟨#[47]⟩ : ByteArray)).size + t381.size ≤ 9223372036854775807 then (some ((bt379.1 ++ (⟨#[47]⟩ : ByteArray)) ++ t381, 0)) else (none))) else (none))) else (some ((⟨#[]⟩ : ByteArray), 3)))) = some (r1, r2) := h
 clear h
 replace H := Option.bind_eq_some_iff.mp H
 obtain ⟨t378, A20, H⟩ := H
 have A2 := Aside0.mk A20
 clear A20
 by_cases c3 : t378 = true
 ·
  subst c3
  have H1 : ((ddiref02_Print.f k a0_0 a0_1 a0_2).bind fun bt379 => (if bt379.1.size + 1 ≤ 9223372036854775807 then ((ddiref03_Decimal.f k a0_3).bind fun t381 => (if (bt379.1 ++ (⟨#[47]⟩ : ByteArray)).size + t381.size ≤ 9223372036854775807 then (some ((bt379.1 ++ (⟨#[47]⟩ : ByteArray)) ++ t381, 0)) else (none))) else (none))) = some (r1, r2) := by rw [if_pos rfl] at H; exact H
  clear H
  have H := H1
  clear H1
  replace H := Option.bind_eq_some_iff.mp H
  obtain ⟨⟨t379, t380⟩, A40, H⟩ := H
  replace H : (if t379.size + 1 ≤ 9223372036854775807 then ((ddiref03_Decimal.f k a0_3).bind fun t381 => (if (t379 ++ (⟨#[47]⟩ : ByteArray)).size + t381.size ≤ 9223372036854775807 then (some ((t379 ++ (⟨#[47]⟩ : ByteArray)) ++ t381, 0)) else (none))) else (none)) = some (r1, r2) := H
  have A4 := Aside0.mk A40
  clear A40
  by_cases c5 : t379.size + 1 ≤ 9223372036854775807
  ·
   rw [if_pos c5] at H
   have c5b0 := eq_true c5
   have c5b1 := decide_eq_true c5
   try have c5b2 : (9223372036854775807 < t379.size + 1) = False := eq_false (Nat.not_lt.2 c5)
   replace H := Option.bind_eq_some_iff.mp H
   obtain ⟨t381, A60, H⟩ := H
   have A6 := Aside0.mk A60
   clear A60
   by_cases c7 : (t379 ++ (⟨#[47]⟩ : ByteArray)).size + t381.size ≤ 9223372036854775807
   ·
    rw [if_pos c7] at H
    have c7b0 := eq_true c7
    have c7b1 := decide_eq_true c7
    try have c7b2 : (9223372036854775807 < (t379 ++ (⟨#[47]⟩ : ByteArray)).size + t381.size) = False := eq_false (Nat.not_lt.2 c7)
    try have c7b2z := c7b2
    try simp only [go_sem, List.size_toArray, List.length_cons, List.length_nil, Nat.zero_add, Nat.reduceAdd] at c7b2z
    simp only [Option.some.injEq, Prod.mk.injEq] at H
    obtain ⟨rfl, rfl⟩ := H
    go_enter Tryz.func23, Tryz.ntmps23
    go_wp2_with (first | ((with_reducible refine gate_dst (N := 1) rfl ?_); refine boxA (N := 1) (cs := #[.bool a0_0, .int .u64 a0_1, .int .u64 a0_2, .int .i64 a0_3]) (t := 26) ?_; intro gb377 hg w8 hbox hb; have BK377 := Aside0.mk (hbox); have GE377 := (pZ HB hg); replace HB := (pS HB hb); clear hb hbox hg; obtain ⟨hcz9_0, hcz9_1, hcz9_2, hcz9_3, hfz9_0, hfz9_1, hfz9_2, hfz9_3⟩ := pC4 BK377) | ((with_reducible refine gate_callee (f := 27) rfl ?_); refine goesA (some 7) Tryz.func27 #[.agg #[.bool a0_0, .int .u64 a0_1, .int .u64 a0_2, .int .i64 a0_3]] ?_; (with_reducible refine (ddiref03_Valid.calls k a0_0 a0_1 a0_2 a0_3 true _ A2.out).mono ?_); rintro e w10 ⟨rfl, hb⟩; refine ⟨_, rfl, ?_⟩; replace BK377 := (pB BK377 hb); replace HB := (pS HB hb); (try clear hb); obtain ⟨hcz11_0, hcz11_1, hcz11_2, hcz11_3, hfz11_0, hfz11_1, hfz11_2, hfz11_3⟩ := pC4 BK377) | ((with_reducible refine gate_callee (f := 59) rfl ?_); refine goesA (some 12) Tryz.func59 #[.agg #[.bool a0_0, .int .u64 a0_1, .int .u64 a0_2]] ?_; (with_reducible refine (ddiref02_Print.calls k a0_0 a0_1 a0_2 t379 t380 _ A4.out).mono ?_); rintro e w12 ⟨rfl, hb⟩; refine ⟨_, rfl, ?_⟩; replace BK377 := (pB BK377 hb); replace HB := (pS HB hb); (try clear hb); obtain ⟨hcz13_0, hcz13_1, hcz13_2, hcz13_3, hfz13_0, hfz13_1, hfz13_2, hfz13_3⟩ := pC4 BK377) | ((with_reducible refine gate_callee (f := 60) rfl ?_); refine goesA (some 19) Tryz.func60 #[.int .i64 a0_3] ?_; (with_reducible refine (ddiref03_Decimal.calls k a0_3 t381 _ A6.out).mono ?_); rintro e w14 ⟨rfl, hb⟩; refine ⟨_, rfl, ?_⟩; replace BK377 := (pB BK377 hb); replace HB := (pS HB hb); (try clear hb)))
    go_ret2
    exact pR (pE HB)
   ·
    rw [if_neg c7] at H
    exact absurd H (by simp)
  ·
   rw [if_neg c5] at H
   exact absurd H (by simp)
 ·
  replace c3 := Bool.eq_false_iff.mpr c3
  subst c3
  rw [if_neg (show ¬ (false = true) by decide)] at H
  simp only [Option.some.injEq, Prod.mk.injEq] at H
  obtain ⟨rfl, rfl⟩ := H
  go_enter Tryz.func23, Tryz.ntmps23
  go_wp2_with (first | ((with_reducible refine gate_dst (N := 1) rfl ?_); refine boxA (N := 1) (cs := #[.bool a0_0, .int .u64 a0_1, .int .u64 a0_2, .int .i64 a0_3]) (t := 26) ?_; intro gb377 hg w15 hbox hb; have BK377 := Aside0.mk (hbox); have GE377 := (pZ HB hg); replace HB := (pS HB hb); clear hb hbox hg; obtain ⟨hcz16_0, hcz16_1, hcz16_2, hcz16_3, hfz16_0, hfz16_1, hfz16_2, hfz16_3⟩ := pC4 BK377) | ((with_reducible refine gate_callee (f := 27) rfl ?_); refine goesA (some 7) Tryz.func27 #[.agg #[.bool a0_0, .int .u64 a0_1, .int .u64 a0_2, .int .i64 a0_3]] ?_; (with_reducible refine (ddiref03_Valid.calls k a0_0 a0_1 a0_2 a0_3 false _ A2.out).mono ?_); rintro e w17 ⟨rfl, hb⟩; refine ⟨_, rfl, ?_⟩; replace BK377 := (pB BK377 hb); replace HB := (pS HB hb); (try clear hb)))
  go_ret2
  exact pR (pE HB)

/-! ### prefix_Of: function 24 -/
def prefix_Of.f (a0_0 : Bool) (a0_1 : Int) (a0_2 : Int) (a1 : Int) : Option (Bool × Int × Int × Int × Bool) := (addr_Valid.f a0_0 a0_1 a0_2).bind fun t384 => (if t384 = true then (if a1 < 0 then (some (false, 0, 0, 0, false)) else ((prefix_length.f a0_0 a0_1 a0_2).bind fun t385 => (if a1 > t385 then (some (false, 0, 0, 0, false)) else ((prefix_later.f a0_0 a1).bind fun bt386 => (some (a0_0, Go.bits .andNot .u64 a0_1 bt386.1, Go.bits .andNot .u64 a0_2 bt386.2, a1, true)))))) else (some (false, 0, 0, 0, false)))
set_option maxHeartbeats 40000000 in
set_option maxRecDepth 100000 in
theorem prefix_Of.calls (a0_0 : Bool) (a0_1 : Int) (a0_2 : Int) (a1 : Int) (r1 : Bool) (r2 : Int) (r3 : Int) (r4 : Int) (r5 : Bool) (w : World) (h : prefix_Of.f a0_0 a0_1 a0_2 a1 = some (r1, r2, r3, r4, r5)) :
 Calls Tryz.prog 24 #[.agg #[.bool a0_0, .int .u64 a0_1, .int .u64 a0_2], .int .i64 a1] w fun e w' => e = .returned (.tuple #[.agg #[.bool r1, .int .u64 r2, .int .u64 r3, .int .i64 r4], .bool r5]) ∧ Below w.heap.size w w' := by
 have hu24 := Tryz.underlying24
 have hu26 := Tryz.underlying26
 have HB := Aside0.mk (Below.refl w.heap.size w)
 have H : ((addr_Valid.f a0_0 a0_1 a0_2).bind fun t384 => (if t384 = true then (if a1 < 0 then (some (false, 0, 0, 0, false)) else ((prefix_length.f a0_0 a0_1 a0_2).bind fun t385 => (if a1 > t385 then (some (false, 0, 0, 0, false)) else ((prefix_later.f a0_0 a1).bind fun bt386 => (some (a0_0, Go.bits .andNot .u64 a0_1 bt386.1, Go.bits .andNot .u64 a0_2 bt386.2, a1, true)))))) else (some (false, 0, 0, 0, false)))) = some (r1, r2, r3, r4, r5) := h
 clear h
 replace H := Option.bind_eq_some_iff.mp H
 obtain ⟨t384, A30, H⟩ := H
 have A3 := Aside0.mk A30
 clear A30
 by_cases c4 : t384 = true
 ·
  subst c4
  have H1 : (if a1 < 0 then (some (false, 0, 0, 0, false)) else ((prefix_length.f a0_0 a0_1 a0_2).bind fun t385 => (if a1 > t385 then (some (false, 0, 0, 0, false)) else ((prefix_later.f a0_0 a1).bind fun bt386 => (some (a0_0, Go.bits .andNot .u64 a0_1 bt386.1, Go.bits .andNot .u64 a0_2 bt386.2, a1, true)))))) = some (r1, r2, r3, r4, r5) := by rw [if_pos rfl] at H; exact H
  clear H
  have H := H1
  clear H1
  by_cases c5 : a1 < 0
  ·
   rw [if_pos c5] at H
   have c5b0 := decide_eq_true c5
   clear c5
   simp only [Option.some.injEq, Prod.mk.injEq] at H
   obtain ⟨rfl, rfl, rfl, rfl, rfl⟩ := H
   go_enter Tryz.func24, Tryz.ntmps24
   go_wp2_with (first | ((with_reducible refine gate_dst (N := 2) rfl ?_); refine boxA (N := 2) (cs := #[.bool a0_0, .int .u64 a0_1, .int .u64 a0_2]) (t := 24) ?_; intro gb382 hg w6 hbox hb; have BK382 := Aside0.mk (hbox); have GE382 := (pZ HB hg); replace HB := (pS HB hb); clear hb hbox hg) | ((with_reducible refine gate_dst (N := 4) rfl ?_); refine boxA (N := 4) (cs := #[.bool false, .int .u64 0, .int .u64 0, .int .i64 0]) (t := 26) ?_; intro gb383 hg w7 hbox hb; have BK383 := Aside0.mk (hbox); have GE383 := (pZ HB hg); have NB382_383 := (pL BK382 hg); have NB383_382 := (pG BK382 hg); replace BK382 := (pB BK382 hb); replace HB := (pS HB hb); clear hb hbox hg; have hnb8 := NB382_383.out; have hnc8 := NB383_382.out; obtain ⟨hcz9_0, hcz9_1, hcz9_2, hfz9_0, hfz9_1, hfz9_2⟩ := pC3 BK382) | ((with_reducible refine gate_callee (f := 50) rfl ?_); refine goesA (some 9) Tryz.func50 #[.agg #[.bool a0_0, .int .u64 a0_1, .int .u64 a0_2]] ?_; (with_reducible refine (addr_Valid.calls a0_0 a0_1 a0_2 true _ A3.out).mono ?_); rintro e w10 ⟨rfl, hb⟩; refine ⟨_, rfl, ?_⟩; replace BK382 := (pB BK382 hb); replace BK383 := (pB BK383 hb); replace HB := (pS HB hb); (try clear hb); obtain ⟨hcz11_0, hcz11_1, hcz11_2, hcz11_3, hfz11_0, hfz11_1, hfz11_2, hfz11_3⟩ := pC4 BK383))
   refine bodyPost_ret (results_ct rfl _ _ gb383 26 #[.bool false, .int .u64 0, .int .u64 0, .int .i64 0] (0, 0) _ rfl (pP (pP (pP (pP (pM BK383))))) Tryz.underlying26 rfl (by kernel_rfl)) rfl ?_
   exact pR (pE HB)
  ·
   rw [if_neg c5] at H
   have c5b0 := decide_eq_false c5
   clear c5
   replace H := Option.bind_eq_some_iff.mp H
   obtain ⟨t385, A120, H⟩ := H
   have A12 := Aside0.mk A120
   clear A120
   by_cases c13 : a1 > t385
   ·
    rw [if_pos c13] at H
    have c13b0 := decide_eq_true c13
    clear c13
    simp only [Option.some.injEq, Prod.mk.injEq] at H
    obtain ⟨rfl, rfl, rfl, rfl, rfl⟩ := H
    go_enter Tryz.func24, Tryz.ntmps24
    go_wp2_with (first | ((with_reducible refine gate_dst (N := 2) rfl ?_); refine boxA (N := 2) (cs := #[.bool a0_0, .int .u64 a0_1, .int .u64 a0_2]) (t := 24) ?_; intro gb382 hg w14 hbox hb; have BK382 := Aside0.mk (hbox); have GE382 := (pZ HB hg); replace HB := (pS HB hb); clear hb hbox hg) | ((with_reducible refine gate_dst (N := 4) rfl ?_); refine boxA (N := 4) (cs := #[.bool false, .int .u64 0, .int .u64 0, .int .i64 0]) (t := 26) ?_; intro gb383 hg w15 hbox hb; have BK383 := Aside0.mk (hbox); have GE383 := (pZ HB hg); have NB382_383 := (pL BK382 hg); have NB383_382 := (pG BK382 hg); replace BK382 := (pB BK382 hb); replace HB := (pS HB hb); clear hb hbox hg; have hnb16 := NB382_383.out; have hnc16 := NB383_382.out; obtain ⟨hcz17_0, hcz17_1, hcz17_2, hfz17_0, hfz17_1, hfz17_2⟩ := pC3 BK382) | ((with_reducible refine gate_callee (f := 50) rfl ?_); refine goesA (some 9) Tryz.func50 #[.agg #[.bool a0_0, .int .u64 a0_1, .int .u64 a0_2]] ?_; (with_reducible refine (addr_Valid.calls a0_0 a0_1 a0_2 true _ A3.out).mono ?_); rintro e w18 ⟨rfl, hb⟩; refine ⟨_, rfl, ?_⟩; replace BK382 := (pB BK382 hb); replace BK383 := (pB BK383 hb); replace HB := (pS HB hb); (try clear hb); obtain ⟨hcz19_0, hcz19_1, hcz19_2, hfz19_0, hfz19_1, hfz19_2⟩ := pC3 BK382) | (go_at_call 46; (with_reducible refine (prefix_length.calls a0_0 a0_1 a0_2 t385 _ A12.out).mono ?_); rintro e w20 ⟨rfl, hb⟩; replace BK382 := (pB BK382 hb); replace BK383 := (pB BK383 hb); replace HB := (pS HB hb); (try clear hb); obtain ⟨hcz21_0, hcz21_1, hcz21_2, hcz21_3, hfz21_0, hfz21_1, hfz21_2, hfz21_3⟩ := pC4 BK383))
    refine bodyPost_ret (results_ct rfl _ _ gb383 26 #[.bool false, .int .u64 0, .int .u64 0, .int .i64 0] (0, 0) _ rfl (pP (pP (pP (pP (pM BK383))))) Tryz.underlying26 rfl (by kernel_rfl)) rfl ?_
    exact pR (pE HB)
   ·
    rw [if_neg c13] at H
    have c13b0 := decide_eq_false c13
    clear c13
    replace H := Option.bind_eq_some_iff.mp H
    obtain ⟨⟨t386, t387⟩, A220, H⟩ := H
    replace H : (some (a0_0, Go.bits .andNot .u64 a0_1 t386, Go.bits .andNot .u64 a0_2 t387, a1, true)) = some (r1, r2, r3, r4, r5) := H
    have A22 := Aside0.mk A220
    clear A220
    simp only [Option.some.injEq, Prod.mk.injEq] at H
    obtain ⟨rfl, rfl, rfl, rfl, rfl⟩ := H
    go_enter Tryz.func24, Tryz.ntmps24
    go_wp2_with (first | ((with_reducible refine gate_dst (N := 2) rfl ?_); refine boxA (N := 2) (cs := #[.bool a0_0, .int .u64 a0_1, .int .u64 a0_2]) (t := 24) ?_; intro gb382 hg w23 hbox hb; have BK382 := Aside0.mk (hbox); have GE382 := (pZ HB hg); replace HB := (pS HB hb); clear hb hbox hg) | ((with_reducible refine gate_dst (N := 4) rfl ?_); refine boxA (N := 4) (cs := #[.bool false, .int .u64 0, .int .u64 0, .int .i64 0]) (t := 26) ?_; intro gb383 hg w24 hbox hb; have BK383 := Aside0.mk (hbox); have GE383 := (pZ HB hg); have NB382_383 := (pL BK382 hg); have NB383_382 := (pG BK382 hg); replace BK382 := (pB BK382 hb); replace HB := (pS HB hb); clear hb hbox hg; have hnb25 := NB382_383.out; have hnc25 := NB383_382.out; obtain ⟨hcz26_0, hcz26_1, hcz26_2, hfz26_0, hfz26_1, hfz26_2⟩ := pC3 BK382) | ((with_reducible refine gate_callee (f := 50) rfl ?_); refine goesA (some 9) Tryz.func50 #[.agg #[.bool a0_0, .int .u64 a0_1, .int .u64 a0_2]] ?_; (with_reducible refine (addr_Valid.calls a0_0 a0_1 a0_2 true _ A3.out).mono ?_); rintro e w27 ⟨rfl, hb⟩; refine ⟨_, rfl, ?_⟩; replace BK382 := (pB BK382 hb); replace BK383 := (pB BK383 hb); replace HB := (pS HB hb); (try clear hb); obtain ⟨hcz28_0, hcz28_1, hcz28_2, hfz28_0, hfz28_1, hfz28_2⟩ := pC3 BK382) | (go_at_call 46; (with_reducible refine (prefix_length.calls a0_0 a0_1 a0_2 t385 _ A12.out).mono ?_); rintro e w29 ⟨rfl, hb⟩; replace BK382 := (pB BK382 hb); replace BK383 := (pB BK383 hb); replace HB := (pS HB hb); (try clear hb); obtain ⟨hcz30_0, hcz30_1, hcz30_2, hfz30_0, hfz30_1, hfz30_2⟩ := pC3 BK382) | ((with_reducible refine gate_callee (f := 43) rfl ?_); refine goesA (some 26) Tryz.func43 #[.bool a0_0, .int .i64 a1] ?_; (with_reducible refine (prefix_later.calls a0_0 a1 t386 t387 _ A22.out).mono ?_); rintro e w' ⟨rfl, ⟨nd, rfl⟩⟩; refine ⟨_, rfl, ?_⟩; (try (rw [drewN_self w29]; generalize hq_ : World.drewN w29 _ = w29; replace BK382 : Aside0 (w29.heap[gb382]? = some (.cells #[.bool a0_0, .int .u64 a0_1, .int .u64 a0_2] 24 (0, 0))) := ⟨by rw [← hq_]; exact (pM BK382)⟩; replace BK383 : Aside0 (w29.heap[gb383]? = some (.cells #[.bool false, .int .u64 0, .int .u64 0, .int .i64 0] 26 (0, 0))) := ⟨by rw [← hq_]; exact (pM BK383)⟩; replace HB : Aside0 (Below w.heap.size w w29) := ⟨by rw [← hq_]; exact (by repeat (first | (with_reducible first | exact HB.out | apply below_alloc | apply pw_below_drewN | apply below_drew1 | refine below_set ?_ GE382.out | refine below_set ?_ GE383.out) | exact HB.out))⟩; clear hq_)); obtain ⟨hcz31_0, hcz31_1, hcz31_2, hfz31_0, hfz31_1, hfz31_2⟩ := pC3 BK382; obtain ⟨hcz32_0, hcz32_1, hcz32_2, hcz32_3, hfz32_0, hfz32_1, hfz32_2, hfz32_3⟩ := pC4 BK383) | ((with_reducible refine gate_store (t := 26) (p := 4) rfl ?_); refine store_event (t := 26) (p := 4) (v := ?vo_w33) (w1 := ((((((w29.setCell ⟨gb382, 1, none⟩ (.int .u64 (Go.bits .andNot .u64 a0_1 t386))).setCell ⟨gb382, 2, none⟩ (.int .u64 (Go.bits .andNot .u64 a0_2 t387))).setCell ⟨gb383, 0, none⟩ (.bool a0_0)).setCell ⟨gb383, 1, none⟩ (.int .u64 (Go.bits .andNot .u64 a0_1 t386))).setCell ⟨gb383, 2, none⟩ (.int .u64 (Go.bits .andNot .u64 a0_2 t387))).setCell ⟨gb383, 3, none⟩ (.int .i64 a1))) ?hg ?ho ?hn ?hr ?_; (case ho => rfl); (case hg => rfl); (case hn => rfl); (case hr => first | (exact Ext.run_store_chain 26 _ _ rfl _ _ _ _ rfl rfl (pK NB383_382 (pK NB383_382 (pM BK383))) (by kernel_rfl) rfl rfl rfl) | (go_simp; done) | (go_simp; rfl)); intro w33 hw; replace BK382 : Aside0 (w33.heap[gb382]? = some (.cells #[.bool a0_0, .int .u64 (Go.bits .andNot .u64 a0_1 t386), .int .u64 (Go.bits .andNot .u64 a0_2 t387)] 24 (0, 0))) := (pW hw (pK NB382_383 (pK NB382_383 (pK NB382_383 (pK NB382_383 (pP (pP (pM BK382)))))))); replace BK383 : Aside0 (w33.heap[gb383]? = some (.cells #[.bool a0_0, .int .u64 (Go.bits .andNot .u64 a0_1 t386), .int .u64 (Go.bits .andNot .u64 a0_2 t387), .int .i64 a1] 26 (0, 0))) := (pW hw (pP (pP (pP (pP (pK NB383_382 (pK NB383_382 (pM BK383)))))))); replace HB : Aside0 (Below w.heap.size w w33) := ⟨(by rw [hw]; exact (by repeat (first | (with_reducible first | exact HB.out | apply below_alloc | apply pw_below_drewN | apply below_drew1 | refine below_set ?_ GE382.out | refine below_set ?_ GE383.out) | exact HB.out)))⟩; clear hw))
    refine bodyPost_ret (results_ct rfl _ _ gb383 26 #[.bool a0_0, .int .u64 (Go.bits .andNot .u64 a0_1 t386), .int .u64 (Go.bits .andNot .u64 a0_2 t387), .int .i64 a1] (0, 0) _ rfl (pM BK383) Tryz.underlying26 rfl (by kernel_rfl)) rfl ?_
    exact pR (pE HB)
 ·
  replace c4 := Bool.eq_false_iff.mpr c4
  subst c4
  rw [if_neg (show ¬ (false = true) by decide)] at H
  simp only [Option.some.injEq, Prod.mk.injEq] at H
  obtain ⟨rfl, rfl, rfl, rfl, rfl⟩ := H
  go_enter Tryz.func24, Tryz.ntmps24
  go_wp2_with (first | ((with_reducible refine gate_dst (N := 2) rfl ?_); refine boxA (N := 2) (cs := #[.bool a0_0, .int .u64 a0_1, .int .u64 a0_2]) (t := 24) ?_; intro gb382 hg w34 hbox hb; have BK382 := Aside0.mk (hbox); have GE382 := (pZ HB hg); replace HB := (pS HB hb); clear hb hbox hg) | ((with_reducible refine gate_dst (N := 4) rfl ?_); refine boxA (N := 4) (cs := #[.bool false, .int .u64 0, .int .u64 0, .int .i64 0]) (t := 26) ?_; intro gb383 hg w35 hbox hb; have BK383 := Aside0.mk (hbox); have GE383 := (pZ HB hg); have NB382_383 := (pL BK382 hg); have NB383_382 := (pG BK382 hg); replace BK382 := (pB BK382 hb); replace HB := (pS HB hb); clear hb hbox hg; have hnb36 := NB382_383.out; have hnc36 := NB383_382.out; obtain ⟨hcz37_0, hcz37_1, hcz37_2, hfz37_0, hfz37_1, hfz37_2⟩ := pC3 BK382) | ((with_reducible refine gate_callee (f := 50) rfl ?_); refine goesA (some 9) Tryz.func50 #[.agg #[.bool a0_0, .int .u64 a0_1, .int .u64 a0_2]] ?_; (with_reducible refine (addr_Valid.calls a0_0 a0_1 a0_2 false _ A3.out).mono ?_); rintro e w38 ⟨rfl, hb⟩; refine ⟨_, rfl, ?_⟩; replace BK382 := (pB BK382 hb); replace BK383 := (pB BK383 hb); replace HB := (pS HB hb); (try clear hb); obtain ⟨hcz39_0, hcz39_1, hcz39_2, hcz39_3, hfz39_0, hfz39_1, hfz39_2, hfz39_3⟩ := pC4 BK383))
  refine bodyPost_ret (results_ct rfl _ _ gb383 26 #[.bool false, .int .u64 0, .int .u64 0, .int .i64 0] (0, 0) _ rfl (pP (pP (pP (pP (pM BK383))))) Tryz.underlying26 rfl (by kernel_rfl)) rfl ?_
  exact pR (pE HB)

/-! ### ddiref03_Of: function 25 -/
def ddiref03_Of.j0 : Nat → Int → Bool → Bool → Int → Int → Option (Bool × Int × Int × Int × Bool)
 | 0, _, _, _, _, _ => none
 | k + 1, x1, x22, x389000, x389001, x389002 => if x22 = true then (some (false, 0, 0, 0, false)) else ((ddiref03_Long.f x389000).bind fun t392 => ((ddiref03_ones.f k (wrap64 (t392 - x1))).bind fun bt393 => (some (x389000, IntKind.u64.wrap (x389001 - (Go.bits .and .u64 x389001 bt393.1)), IntKind.u64.wrap (x389002 - (Go.bits .and .u64 x389002 bt393.2)), x1, true))))
def ddiref03_Of.f (k : Nat) (a0_0 : Bool) (a0_1 : Int) (a0_2 : Int) (a1 : Int) : Option (Bool × Int × Int × Int × Bool) := (ddiref02_Valid.f a0_0 a0_1 a0_2).bind fun t390 => (if t390 = true then (if a1 < 0 then (ddiref03_Of.j0 k a1 true a0_0 a0_1 a0_2) else ((ddiref03_Long.f a0_0).bind fun t391 => (ddiref03_Of.j0 k a1 (decide (a1 > t391)) a0_0 a0_1 a0_2))) else (ddiref03_Of.j0 k a1 true a0_0 a0_1 a0_2))
theorem ddiref03_Of.mono_l : ∀ k, (∀ y0 y1 y2 y3 y4, LeO (ddiref03_Of.j0 k y0 y1 y2 y3 y4) (ddiref03_Of.j0 (k + 1) y0 y1 y2 y3 y4))
 | 0 => fun _ _ _ _ _ r h => by simp [ddiref03_Of.j0] at h
 | k + 1 => by
  have ih0 := ddiref03_Of.mono_l k
  ·
   intro y0 y1 y2 y3 y4
   unfold ddiref03_Of.j0
   repeat' with_reducible first | exact ih0 _ _ _ _ _ | exact ddiref03_ones.mono _ _ | exact LeO.refl _ | exact LeO.none _ | refine LeO.ite ?_ ?_ | refine LeO.bind ?_ (fun _ => ?_)
theorem ddiref03_Of.mono : ∀ a0 a1 a2 a3 k, LeO (ddiref03_Of.f k a0 a1 a2 a3) (ddiref03_Of.f (k + 1) a0 a1 a2 a3) := by
 intro a0 a1 a2 a3 k
 have ih0 := ddiref03_Of.mono_l k
 unfold ddiref03_Of.f
 repeat' with_reducible first | exact ih0 _ _ _ _ _ | exact ddiref03_ones.mono _ _ | exact LeO.refl _ | exact LeO.none _ | refine LeO.ite ?_ ?_ | refine LeO.bind ?_ (fun _ => ?_)
set_option maxHeartbeats 40000000 in
set_option maxRecDepth 100000 in
theorem ddiref03_Of.calls (k : Nat) (a0_0 : Bool) (a0_1 : Int) (a0_2 : Int) (a1 : Int) (r1 : Bool) (r2 : Int) (r3 : Int) (r4 : Int) (r5 : Bool) (w : World) (h : ddiref03_Of.f k a0_0 a0_1 a0_2 a1 = some (r1, r2, r3, r4, r5)) :
 Calls Tryz.prog 25 #[.agg #[.bool a0_0, .int .u64 a0_1, .int .u64 a0_2], .int .i64 a1] w fun e w' => e = .returned (.tuple #[.agg #[.bool r1, .int .u64 r2, .int .u64 r3, .int .i64 r4], .bool r5]) ∧ Below w.heap.size w w' := by
 have hu24 := Tryz.underlying24
 have hu26 := Tryz.underlying26
 have HB := Aside0.mk (Below.refl w.heap.size w)
 have H : ((ddiref02_Valid.f a0_0 a0_1 a0_2).bind fun t390 => (if t390 = true then (if a1 < 0 then (ddiref03_Of.j0 k a1 true a0_0 a0_1 a0_2) else ((ddiref03_Long.f a0_0).bind fun t391 => (ddiref03_Of.j0 k a1 (decide (a1 > t391)) a0_0 a0_1 a0_2))) else (ddiref03_Of.j0 k a1 true a0_0 a0_1 a0_2))) = some (r1, r2, r3, r4, r5) := h
 clear h
 have HC3 := Aside0.mk H
 clear H
 go_enter Tryz.func25, Tryz.ntmps25
 go_upto_region 1 with (first | ((with_reducible refine gate_dst (N := 2) rfl ?_); refine boxA (N := 2) (cs := #[.bool a0_0, .int .u64 a0_1, .int .u64 a0_2]) (t := 24) ?_; intro gb388 hg w4 hbox hb; have BK388 := Aside0.mk (hbox); have GE388 := (pZ HB hg); replace HB := (pS HB hb); clear hb hbox hg) | ((with_reducible refine gate_dst (N := 4) rfl ?_); refine boxA (N := 4) (cs := #[.bool false, .int .u64 0, .int .u64 0, .int .i64 0]) (t := 26) ?_; intro gb389 hg w5 hbox hb; have BK389 := Aside0.mk (hbox); have GE389 := (pZ HB hg); have NB388_389 := (pL BK388 hg); have NB389_388 := (pG BK388 hg); replace BK388 := (pB BK388 hb); replace HB := (pS HB hb); clear hb hbox hg))
 (try simp only [Act.put, List.setIfInBounds_toArray, List.set_cons_zero, List.set_cons_succ])
 go_cut [22] (fun v22 wc => ∃ (kq : Nat) (x22_2 : Bool), v22 = .bool x22_2 ∧ Aside0 (ddiref03_Of.j0 kq a1 x22_2 a0_0 a0_1 a0_2 = some (r1, r2, r3, r4, r5)) ∧ Aside0 (kq ≤ k) ∧ Aside0 (wc.heap[gb388]? = some (.cells #[.bool a0_0, .int .u64 a0_1, .int .u64 a0_2] 24 (0, 0))) ∧ Aside0 (wc.heap[gb389]? = some (.cells #[.bool false, .int .u64 0, .int .u64 0, .int .i64 0] 26 (0, 0))) ∧ Aside0 (Below w.heap.size w wc))
 case first =>
  have H := HC3.out
  clear HC3
  replace H := Option.bind_eq_some_iff.mp H
  obtain ⟨t390, A60, H⟩ := H
  have A6 := Aside0.mk A60
  clear A60
  by_cases c7 : t390 = true
  ·
   subst c7
   have H1 : (if a1 < 0 then (ddiref03_Of.j0 k a1 true a0_0 a0_1 a0_2) else ((ddiref03_Long.f a0_0).bind fun t391 => (ddiref03_Of.j0 k a1 (decide (a1 > t391)) a0_0 a0_1 a0_2))) = some (r1, r2, r3, r4, r5) := by rw [if_pos rfl] at H; exact H
   clear H
   have H := H1
   clear H1
   by_cases c8 : a1 < 0
   ·
    rw [if_pos c8] at H
    have c8b0 := decide_eq_true c8
    clear c8
    (first | rw [c8b0] | (simp only [i64_w, i32_w]; rw [c8b0]) | skip)
    have H' := Aside0.mk H
    clear H
    have hnb9 := NB388_389.out
    have hnc9 := NB389_388.out
    obtain ⟨hcz10_0, hcz10_1, hcz10_2, hfz10_0, hfz10_1, hfz10_2⟩ := pC3 BK388
    go_wp2_with (first | ((with_reducible refine gate_callee (f := 54) rfl ?_); refine goesA (some 10) Tryz.func54 #[.agg #[.bool a0_0, .int .u64 a0_1, .int .u64 a0_2]] ?_; (with_reducible refine (ddiref02_Valid.calls a0_0 a0_1 a0_2 true _ A6.out).mono ?_); rintro e w11 ⟨rfl, hb⟩; refine ⟨_, rfl, ?_⟩; replace BK388 := (pB BK388 hb); replace BK389 := (pB BK389 hb); replace HB := (pS HB hb); (try clear hb)))
    refine Met.intro ?_
    go_step
    (repeat apply Exists.intro)
    refine ⟨?rel, ?heq_⟩
    case heq_ => first | rfl | (rw [c8b0]) | (simp only [c8b0])
    case rel => exact ⟨_, (true), pT, H', ⟨by first | omega | exact Nat.le_refl _⟩, ⟨pM BK388⟩, ⟨pM BK389⟩, ⟨pE HB⟩⟩
   ·
    rw [if_neg c8] at H
    have c8b0 := decide_eq_false c8
    clear c8
    (first | rw [c8b0] | (simp only [i64_w, i32_w]; rw [c8b0]) | skip)
    replace H := Option.bind_eq_some_iff.mp H
    obtain ⟨t391, A120, H⟩ := H
    have A12 := Aside0.mk A120
    clear A120
    have H' := Aside0.mk H
    clear H
    have hnb13 := NB388_389.out
    have hnc13 := NB389_388.out
    obtain ⟨hcz14_0, hcz14_1, hcz14_2, hfz14_0, hfz14_1, hfz14_2⟩ := pC3 BK388
    go_wp2_with (first | ((with_reducible refine gate_callee (f := 54) rfl ?_); refine goesA (some 10) Tryz.func54 #[.agg #[.bool a0_0, .int .u64 a0_1, .int .u64 a0_2]] ?_; (with_reducible refine (ddiref02_Valid.calls a0_0 a0_1 a0_2 true _ A6.out).mono ?_); rintro e w15 ⟨rfl, hb⟩; refine ⟨_, rfl, ?_⟩; replace BK388 := (pB BK388 hb); replace BK389 := (pB BK389 hb); replace HB := (pS HB hb); (try clear hb); obtain ⟨hcz16_0, hcz16_1, hcz16_2, hfz16_0, hfz16_1, hfz16_2⟩ := pC3 BK388) | (go_at_call 45; (with_reducible refine (ddiref03_Long.calls a0_0 t391 _ A12.out).mono ?_); rintro e w' ⟨rfl, ⟨nd, rfl⟩⟩))
    refine Met.intro ?_
    go_step
    (repeat apply Exists.intro)
    refine ⟨?rel, ?heq_⟩
    case heq_ => first | rfl | (rw [c8b0]) | (simp only [c8b0])
    case rel => exact ⟨_, (decide (a1 > t391)), pT, H', ⟨by first | omega | exact Nat.le_refl _⟩, ⟨pM BK388⟩, ⟨pM BK389⟩, ⟨pE HB⟩⟩
  ·
   replace c7 := Bool.eq_false_iff.mpr c7
   subst c7
   rw [if_neg (show ¬ (false = true) by decide)] at H
   have H' := Aside0.mk H
   clear H
   have hnb17 := NB388_389.out
   have hnc17 := NB389_388.out
   obtain ⟨hcz18_0, hcz18_1, hcz18_2, hfz18_0, hfz18_1, hfz18_2⟩ := pC3 BK388
   go_wp2_with (first | ((with_reducible refine gate_callee (f := 54) rfl ?_); refine goesA (some 10) Tryz.func54 #[.agg #[.bool a0_0, .int .u64 a0_1, .int .u64 a0_2]] ?_; (with_reducible refine (ddiref02_Valid.calls a0_0 a0_1 a0_2 false _ A6.out).mono ?_); rintro e w19 ⟨rfl, hb⟩; refine ⟨_, rfl, ?_⟩; replace BK388 := (pB BK388 hb); replace BK389 := (pB BK389 hb); replace HB := (pS HB hb); (try clear hb)))
   go_meet
   case rel => exact ⟨_, (true), pT, H', ⟨by first | omega | exact Nat.le_refl _⟩, ⟨pM BK388⟩, ⟨pM BK389⟩, ⟨pE HB⟩⟩
 case rest =>
  clear HC3
  obtain ⟨kq, x22_2, rfl, HA, HJ2, BK388, BK389, HB⟩ := hcut
  cases kq with
  | zero => exact absurd HA.out (by simp [ddiref03_Of.j0])
  | succ kj2 =>
   have H := HA.out
   clear HA
   simp only [ddiref03_Of.j0] at H
   by_cases c20 : x22_2 = true
   ·
    subst c20
    have H1 : (some (false, 0, 0, 0, false)) = some (r1, r2, r3, r4, r5) := by rw [if_pos rfl] at H; exact H
    clear H
    have H := H1
    clear H1
    simp only [Option.some.injEq, Prod.mk.injEq] at H
    obtain ⟨rfl, rfl, rfl, rfl, rfl⟩ := H
    have hnb21 := NB389_388.out
    have hnc21 := NB388_389.out
    obtain ⟨hcz22_0, hcz22_1, hcz22_2, hcz22_3, hfz22_0, hfz22_1, hfz22_2, hfz22_3⟩ := pC4 BK389
    go_wp2
    refine bodyPost_ret (results_ct rfl _ _ gb389 26 #[.bool false, .int .u64 0, .int .u64 0, .int .i64 0] (0, 0) _ rfl (pP (pP (pP (pP (pM BK389))))) Tryz.underlying26 rfl (by kernel_rfl)) rfl ?_
    exact pR (pE HB)
   ·
    replace c20 := Bool.eq_false_iff.mpr c20
    subst c20
    rw [if_neg (show ¬ (false = true) by decide)] at H
    replace H := Option.bind_eq_some_iff.mp H
    obtain ⟨t392, A230, H⟩ := H
    have A23 := Aside0.mk A230
    clear A230
    replace H := Option.bind_eq_some_iff.mp H
    obtain ⟨⟨t393, t394⟩, A240, H⟩ := H
    replace H : (some (a0_0, IntKind.u64.wrap (a0_1 - (Go.bits .and .u64 a0_1 t393)), IntKind.u64.wrap (a0_2 - (Go.bits .and .u64 a0_2 t394)), a1, true)) = some (r1, r2, r3, r4, r5) := H
    have A24 := Aside0.mk A240
    clear A240
    simp only [Option.some.injEq, Prod.mk.injEq] at H
    obtain ⟨rfl, rfl, rfl, rfl, rfl⟩ := H
    have hnb25 := NB388_389.out
    have hnc25 := NB389_388.out
    obtain ⟨hcz26_0, hcz26_1, hcz26_2, hfz26_0, hfz26_1, hfz26_2⟩ := pC3 BK388
    go_wp2_with (first | ((with_reducible refine gate_callee (f := 45) rfl ?_); refine goesA (some 27) Tryz.func45 #[.bool a0_0] ?_; (with_reducible refine (ddiref03_Long.calls a0_0 t392 _ A23.out).mono ?_); rintro e w' ⟨rfl, ⟨nd, rfl⟩⟩; refine ⟨_, rfl, ?_⟩; (try (rw [drewN_self wc]; generalize hq_ : World.drewN wc _ = wc; have n0_ : Aside0 (wc.heap[gb388]? = some (.cells #[.bool a0_0, .int .u64 a0_1, .int .u64 a0_2] 24 (0, 0))) := ⟨by rw [← hq_]; exact (pM BK388)⟩; have n1_ : Aside0 (wc.heap[gb389]? = some (.cells #[.bool false, .int .u64 0, .int .u64 0, .int .i64 0] 26 (0, 0))) := ⟨by rw [← hq_]; exact (pM BK389)⟩; have n2_ : Aside0 (Below w.heap.size w wc) := ⟨by rw [← hq_]; exact (by repeat (first | (with_reducible first | exact HB.out | apply below_alloc | apply pw_below_drewN | apply below_drew1 | refine below_set ?_ GE388.out | refine below_set ?_ GE389.out) | exact HB.out))⟩; clear BK388 BK389 HB hq_; have BK388 := n0_; have BK389 := n1_; have HB := n2_; clear n0_ n1_ n2_))) | ((with_reducible refine gate_callee (f := 44) rfl ?_); refine goesA (some 30) Tryz.func44 #[.int .i64 (wrap64 (t392 - a1))] ?_; (with_reducible refine (ddiref03_ones.calls kj2 (wrap64 (t392 - a1)) t393 t394 _ A24.out).mono ?_); rintro e w' ⟨rfl, ⟨nd, rfl⟩⟩; refine ⟨_, rfl, ?_⟩; (try (rw [drewN_self wc]; generalize hq_ : World.drewN wc _ = wc; replace BK388 : Aside0 (wc.heap[gb388]? = some (.cells #[.bool a0_0, .int .u64 a0_1, .int .u64 a0_2] 24 (0, 0))) := ⟨by rw [← hq_]; exact (pM BK388)⟩; replace BK389 : Aside0 (wc.heap[gb389]? = some (.cells #[.bool false, .int .u64 0, .int .u64 0, .int .i64 0] 26 (0, 0))) := ⟨by rw [← hq_]; exact (pM BK389)⟩; replace HB : Aside0 (Below w.heap.size w wc) := ⟨by rw [← hq_]; exact (by repeat (first | (with_reducible first | exact HB.out | apply below_alloc | apply pw_below_drewN | apply below_drew1 | refine below_set ?_ GE388.out | refine below_set ?_ GE389.out) | exact HB.out))⟩; clear hq_)); obtain ⟨hcz27_0, hcz27_1, hcz27_2, hfz27_0, hfz27_1, hfz27_2⟩ := pC3 BK388) | ((with_reducible refine gate_dst (N := 8) rfl ?_); refine boxA (N := 8) (cs := #[.bool false, .int .u64 0, .int .u64 0]) (t := 24) ?_; intro gb395 hg w28 hbox hb; have BK395 := Aside0.mk (hbox); have GE395 := (pZ HB hg); have NB388_395 := (pL BK388 hg); have NB395_388 := (pG BK388 hg); have NB389_395 := (pL BK389 hg); have NB395_389 := (pG BK389 hg); replace BK388 := (pB BK388 hb); replace BK389 := (pB BK389 hb); replace HB := (pS HB hb); clear hb hbox hg; have hnb29 := NB395_388.out; have hnc29 := NB388_395.out; have hnb30 := NB395_389.out; have hnc30 := NB389_395.out; obtain ⟨hcz31_0, hcz31_1, hcz31_2, hfz31_0, hfz31_1, hfz31_2⟩ := pC3 BK395; obtain ⟨hcz32_0, hcz32_1, hcz32_2, hcz32_3, hfz32_0, hfz32_1, hfz32_2, hfz32_3⟩ := pC4 BK389) | ((with_reducible refine gate_store (t := 26) (p := 4) rfl ?_); refine store_event (t := 26) (p := 4) (v := ?vo_w33) (w1 := (((((((w28.setCell ⟨gb395, 0, none⟩ (.bool a0_0)).setCell ⟨gb395, 1, none⟩ (.int .u64 (IntKind.u64.wrap (a0_1 - (Go.bits .and .u64 a0_1 t393))))).setCell ⟨gb395, 2, none⟩ (.int .u64 (IntKind.u64.wrap (a0_2 - (Go.bits .and .u64 a0_2 t394))))).setCell ⟨gb389, 0, none⟩ (.bool a0_0)).setCell ⟨gb389, 1, none⟩ (.int .u64 (IntKind.u64.wrap (a0_1 - (Go.bits .and .u64 a0_1 t393))))).setCell ⟨gb389, 2, none⟩ (.int .u64 (IntKind.u64.wrap (a0_2 - (Go.bits .and .u64 a0_2 t394))))).setCell ⟨gb389, 3, none⟩ (.int .i64 a1))) ?hg ?ho ?hn ?hr ?_; (case ho => rfl); (case hg => rfl); (case hn => rfl); (case hr => first | (exact Ext.run_store_chain 26 _ _ rfl _ _ _ _ rfl rfl (pK NB389_395 (pK NB389_395 (pK NB389_395 (pM BK389)))) (by kernel_rfl) rfl rfl rfl) | (go_simp; done) | (go_simp; rfl)); intro w33 hw; replace BK388 : Aside0 (w33.heap[gb388]? = some (.cells #[.bool a0_0, .int .u64 a0_1, .int .u64 a0_2] 24 (0, 0))) := (pW hw (pK NB388_389 (pK NB388_389 (pK NB388_389 (pK NB388_389 (pK NB388_395 (pK NB388_395 (pK NB388_395 (pM BK388))))))))); replace BK389 : Aside0 (w33.heap[gb389]? = some (.cells #[.bool a0_0, .int .u64 (IntKind.u64.wrap (a0_1 - (Go.bits .and .u64 a0_1 t393))), .int .u64 (IntKind.u64.wrap (a0_2 - (Go.bits .and .u64 a0_2 t394))), .int .i64 a1] 26 (0, 0))) := (pW hw (pP (pP (pP (pP (pK NB389_395 (pK NB389_395 (pK NB389_395 (pM BK389))))))))); replace BK395 : Aside0 (w33.heap[gb395]? = some (.cells #[.bool a0_0, .int .u64 (IntKind.u64.wrap (a0_1 - (Go.bits .and .u64 a0_1 t393))), .int .u64 (IntKind.u64.wrap (a0_2 - (Go.bits .and .u64 a0_2 t394)))] 24 (0, 0))) := (pW hw (pK NB395_389 (pK NB395_389 (pK NB395_389 (pK NB395_389 (pP (pP (pP (pM BK395))))))))); replace HB : Aside0 (Below w.heap.size w w33) := ⟨(by rw [hw]; exact (by repeat (first | (with_reducible first | exact HB.out | apply below_alloc | apply pw_below_drewN | apply below_drew1 | refine below_set ?_ GE388.out | refine below_set ?_ GE389.out | refine below_set ?_ GE395.out) | exact HB.out)))⟩; clear hw))
    refine bodyPost_ret (results_ct rfl _ _ gb389 26 #[.bool a0_0, .int .u64 (IntKind.u64.wrap (a0_1 - (Go.bits .and .u64 a0_1 t393))), .int .u64 (IntKind.u64.wrap (a0_2 - (Go.bits .and .u64 a0_2 t394))), .int .i64 a1] (0, 0) _ rfl (pM BK389) Tryz.underlying26 rfl (by kernel_rfl)) rfl ?_
    exact pR (pE HB)

/-! ### prefix_Compare: function 28 -/
def prefix_Compare.f (k : Nat) (a0_0 : Bool) (a0_1 : Int) (a0_2 : Int) (a0_3 : Int) (a1_0 : Bool) (a1_1 : Int) (a1_2 : Int) (a1_3 : Int) : Option (Int) := (addr_Compare.f k a0_0 a0_1 a0_2 a1_0 a1_1 a1_2).bind fun t398 => (if t398 = 0 then (if a0_3 < a1_3 then (some (-1)) else (if a0_3 > a1_3 then (some 1) else (some 0))) else (some t398))
theorem prefix_Compare.mono : ∀ a0 a1 a2 a3 a4 a5 a6 a7 k, LeO (prefix_Compare.f k a0 a1 a2 a3 a4 a5 a6 a7) (prefix_Compare.f (k + 1) a0 a1 a2 a3 a4 a5 a6 a7) := by
 intro a0 a1 a2 a3 a4 a5 a6 a7 k
 unfold prefix_Compare.f
 repeat' with_reducible first | exact addr_Compare.mono _ _ _ _ _ _ _ | exact LeO.refl _ | exact LeO.none _ | refine LeO.ite ?_ ?_ | refine LeO.bind ?_ (fun _ => ?_)
set_option maxHeartbeats 40000000 in
set_option maxRecDepth 100000 in
theorem prefix_Compare.calls (k : Nat) (a0_0 : Bool) (a0_1 : Int) (a0_2 : Int) (a0_3 : Int) (a1_0 : Bool) (a1_1 : Int) (a1_2 : Int) (a1_3 : Int) (r : Int) (w : World) (h : prefix_Compare.f k a0_0 a0_1 a0_2 a0_3 a1_0 a1_1 a1_2 a1_3 = some r) :
 Calls Tryz.prog 28 #[.agg #[.bool a0_0, .int .u64 a0_1, .int .u64 a0_2, .int .i64 a0_3], .agg #[.bool a1_0, .int .u64 a1_1, .int .u64 a1_2, .int .i64 a1_3]] w fun e w' => e = .returned (.int .i64 r) ∧ Below w.heap.size w w' := by
 have hu26 := Tryz.underlying26
 have hu24 := Tryz.underlying24
 have HB := Aside0.mk (Below.refl w.heap.size w)
 have H : ((addr_Compare.f k a0_0 a0_1 a0_2 a1_0 a1_1 a1_2).bind fun t398 => (if t398 = 0 then (if a0_3 < a1_3 then (some (-1)) else (if a0_3 > a1_3 then (some 1) else (some 0))) else (some t398))) = some r := h
 clear h
 replace H := Option.bind_eq_some_iff.mp H
 obtain ⟨t398, A30, H⟩ := H
 have A3 := Aside0.mk A30
 clear A30
 by_cases c4 : t398 = 0
 ·
  rw [if_pos c4] at H
  have c4b0 : (t398 == 0) = true := beq_iff_eq.mpr c4
  have c4b1 : (t398 != 0) = false := bne_eq_false_iff_eq.mpr c4
  clear c4
  by_cases c5 : a0_3 < a1_3
  ·
   rw [if_pos c5] at H
   have c5b0 := decide_eq_true c5
   clear c5
   obtain rfl := Option.some.inj H
   go_enter Tryz.func28, Tryz.ntmps28
   go_wp2_with (first | ((with_reducible refine gate_dst (N := 2) rfl ?_); refine boxA (N := 2) (cs := #[.bool a0_0, .int .u64 a0_1, .int .u64 a0_2, .int .i64 a0_3]) (t := 26) ?_; intro gb396 hg w6 hbox hb; have BK396 := Aside0.mk (hbox); have GE396 := (pZ HB hg); replace HB := (pS HB hb); clear hb hbox hg) | ((with_reducible refine gate_dst (N := 3) rfl ?_); refine boxA (N := 3) (cs := #[.bool a1_0, .int .u64 a1_1, .int .u64 a1_2, .int .i64 a1_3]) (t := 26) ?_; intro gb397 hg w7 hbox hb; have BK397 := Aside0.mk (hbox); have GE397 := (pZ HB hg); have NB396_397 := (pL BK396 hg); have NB397_396 := (pG BK396 hg); replace BK396 := (pB BK396 hb); replace HB := (pS HB hb); clear hb hbox hg; have hnb8 := NB396_397.out; have hnc8 := NB397_396.out; obtain ⟨hcz9_0, hcz9_1, hcz9_2, hcz9_3, hfz9_0, hfz9_1, hfz9_2, hfz9_3⟩ := pC4 BK396; obtain ⟨hcz10_0, hcz10_1, hcz10_2, hcz10_3, hfz10_0, hfz10_1, hfz10_2, hfz10_3⟩ := pC4 BK397) | ((with_reducible refine gate_callee (f := 51) rfl ?_); refine goesA (some 10) Tryz.func51 #[.agg #[.bool a0_0, .int .u64 a0_1, .int .u64 a0_2], .agg #[.bool a1_0, .int .u64 a1_1, .int .u64 a1_2]] ?_; (with_reducible refine (addr_Compare.calls k a0_0 a0_1 a0_2 a1_0 a1_1 a1_2 t398 _ A3.out).mono ?_); rintro e w11 ⟨rfl, hb⟩; refine ⟨_, rfl, ?_⟩; replace BK396 := (pB BK396 hb); replace BK397 := (pB BK397 hb); replace HB := (pS HB hb); (try clear hb); obtain ⟨hcz12_0, hcz12_1, hcz12_2, hcz12_3, hfz12_0, hfz12_1, hfz12_2, hfz12_3⟩ := pC4 BK396; obtain ⟨hcz13_0, hcz13_1, hcz13_2, hcz13_3, hfz13_0, hfz13_1, hfz13_2, hfz13_3⟩ := pC4 BK397))
   go_ret
   exact pR (pE HB)
  ·
   rw [if_neg c5] at H
   have c5b0 := decide_eq_false c5
   clear c5
   by_cases c14 : a0_3 > a1_3
   ·
    rw [if_pos c14] at H
    have c14b0 := decide_eq_true c14
    clear c14
    obtain rfl := Option.some.inj H
    go_enter Tryz.func28, Tryz.ntmps28
    go_wp2_with (first | ((with_reducible refine gate_dst (N := 2) rfl ?_); refine boxA (N := 2) (cs := #[.bool a0_0, .int .u64 a0_1, .int .u64 a0_2, .int .i64 a0_3]) (t := 26) ?_; intro gb396 hg w15 hbox hb; have BK396 := Aside0.mk (hbox); have GE396 := (pZ HB hg); replace HB := (pS HB hb); clear hb hbox hg) | ((with_reducible refine gate_dst (N := 3) rfl ?_); refine boxA (N := 3) (cs := #[.bool a1_0, .int .u64 a1_1, .int .u64 a1_2, .int .i64 a1_3]) (t := 26) ?_; intro gb397 hg w16 hbox hb; have BK397 := Aside0.mk (hbox); have GE397 := (pZ HB hg); have NB396_397 := (pL BK396 hg); have NB397_396 := (pG BK396 hg); replace BK396 := (pB BK396 hb); replace HB := (pS HB hb); clear hb hbox hg; have hnb17 := NB396_397.out; have hnc17 := NB397_396.out; obtain ⟨hcz18_0, hcz18_1, hcz18_2, hcz18_3, hfz18_0, hfz18_1, hfz18_2, hfz18_3⟩ := pC4 BK396; obtain ⟨hcz19_0, hcz19_1, hcz19_2, hcz19_3, hfz19_0, hfz19_1, hfz19_2, hfz19_3⟩ := pC4 BK397) | ((with_reducible refine gate_callee (f := 51) rfl ?_); refine goesA (some 10) Tryz.func51 #[.agg #[.bool a0_0, .int .u64 a0_1, .int .u64 a0_2], .agg #[.bool a1_0, .int .u64 a1_1, .int .u64 a1_2]] ?_; (with_reducible refine (addr_Compare.calls k a0_0 a0_1 a0_2 a1_0 a1_1 a1_2 t398 _ A3.out).mono ?_); rintro e w20 ⟨rfl, hb⟩; refine ⟨_, rfl, ?_⟩; replace BK396 := (pB BK396 hb); replace BK397 := (pB BK397 hb); replace HB := (pS HB hb); (try clear hb); obtain ⟨hcz21_0, hcz21_1, hcz21_2, hcz21_3, hfz21_0, hfz21_1, hfz21_2, hfz21_3⟩ := pC4 BK396; obtain ⟨hcz22_0, hcz22_1, hcz22_2, hcz22_3, hfz22_0, hfz22_1, hfz22_2, hfz22_3⟩ := pC4 BK397))
    go_ret
    exact pR (pE HB)
   ·
    rw [if_neg c14] at H
    have c14b0 := decide_eq_false c14
    clear c14
    obtain rfl := Option.some.inj H
    go_enter Tryz.func28, Tryz.ntmps28
    go_wp2_with (first | ((with_reducible refine gate_dst (N := 2) rfl ?_); refine boxA (N := 2) (cs := #[.bool a0_0, .int .u64 a0_1, .int .u64 a0_2, .int .i64 a0_3]) (t := 26) ?_; intro gb396 hg w23 hbox hb; have BK396 := Aside0.mk (hbox); have GE396 := (pZ HB hg); replace HB := (pS HB hb); clear hb hbox hg) | ((with_reducible refine gate_dst (N := 3) rfl ?_); refine boxA (N := 3) (cs := #[.bool a1_0, .int .u64 a1_1, .int .u64 a1_2, .int .i64 a1_3]) (t := 26) ?_; intro gb397 hg w24 hbox hb; have BK397 := Aside0.mk (hbox); have GE397 := (pZ HB hg); have NB396_397 := (pL BK396 hg); have NB397_396 := (pG BK396 hg); replace BK396 := (pB BK396 hb); replace HB := (pS HB hb); clear hb hbox hg; have hnb25 := NB396_397.out; have hnc25 := NB397_396.out; obtain ⟨hcz26_0, hcz26_1, hcz26_2, hcz26_3, hfz26_0, hfz26_1, hfz26_2, hfz26_3⟩ := pC4 BK396; obtain ⟨hcz27_0, hcz27_1, hcz27_2, hcz27_3, hfz27_0, hfz27_1, hfz27_2, hfz27_3⟩ := pC4 BK397) | ((with_reducible refine gate_callee (f := 51) rfl ?_); refine goesA (some 10) Tryz.func51 #[.agg #[.bool a0_0, .int .u64 a0_1, .int .u64 a0_2], .agg #[.bool a1_0, .int .u64 a1_1, .int .u64 a1_2]] ?_; (with_reducible refine (addr_Compare.calls k a0_0 a0_1 a0_2 a1_0 a1_1 a1_2 t398 _ A3.out).mono ?_); rintro e w28 ⟨rfl, hb⟩; refine ⟨_, rfl, ?_⟩; replace BK396 := (pB BK396 hb); replace BK397 := (pB BK397 hb); replace HB := (pS HB hb); (try clear hb); obtain ⟨hcz29_0, hcz29_1, hcz29_2, hcz29_3, hfz29_0, hfz29_1, hfz29_2, hfz29_3⟩ := pC4 BK396; obtain ⟨hcz30_0, hcz30_1, hcz30_2, hcz30_3, hfz30_0, hfz30_1, hfz30_2, hfz30_3⟩ := pC4 BK397))
    go_ret
    exact pR (pE HB)
 ·
  rw [if_neg c4] at H
  have c4b0 : (t398 == 0) = false := beq_eq_false_iff_ne.mpr c4
  have c4b1 : (t398 != 0) = true := bne_iff_ne.mpr c4
  obtain rfl := Option.some.inj H
  go_enter Tryz.func28, Tryz.ntmps28
  go_wp2_with (first | ((with_reducible refine gate_dst (N := 2) rfl ?_); refine boxA (N := 2) (cs := #[.bool a0_0, .int .u64 a0_1, .int .u64 a0_2, .int .i64 a0_3]) (t := 26) ?_; intro gb396 hg w31 hbox hb; have BK396 := Aside0.mk (hbox); have GE396 := (pZ HB hg); replace HB := (pS HB hb); clear hb hbox hg) | ((with_reducible refine gate_dst (N := 3) rfl ?_); refine boxA (N := 3) (cs := #[.bool a1_0, .int .u64 a1_1, .int .u64 a1_2, .int .i64 a1_3]) (t := 26) ?_; intro gb397 hg w32 hbox hb; have BK397 := Aside0.mk (hbox); have GE397 := (pZ HB hg); have NB396_397 := (pL BK396 hg); have NB397_396 := (pG BK396 hg); replace BK396 := (pB BK396 hb); replace HB := (pS HB hb); clear hb hbox hg; have hnb33 := NB396_397.out; have hnc33 := NB397_396.out; obtain ⟨hcz34_0, hcz34_1, hcz34_2, hcz34_3, hfz34_0, hfz34_1, hfz34_2, hfz34_3⟩ := pC4 BK396; obtain ⟨hcz35_0, hcz35_1, hcz35_2, hcz35_3, hfz35_0, hfz35_1, hfz35_2, hfz35_3⟩ := pC4 BK397) | ((with_reducible refine gate_callee (f := 51) rfl ?_); refine goesA (some 10) Tryz.func51 #[.agg #[.bool a0_0, .int .u64 a0_1, .int .u64 a0_2], .agg #[.bool a1_0, .int .u64 a1_1, .int .u64 a1_2]] ?_; (with_reducible refine (addr_Compare.calls k a0_0 a0_1 a0_2 a1_0 a1_1 a1_2 t398 _ A3.out).mono ?_); rintro e w36 ⟨rfl, hb⟩; refine ⟨_, rfl, ?_⟩; replace BK396 := (pB BK396 hb); replace BK397 := (pB BK397 hb); replace HB := (pS HB hb); (try clear hb)))
  go_ret
  exact pR (pE HB)

/-! ### ddiref02_Compare: function 55 -/
def ddiref02_Compare.f (a0_0 : Bool) (a0_1 : Int) (a0_2 : Int) (a1_0 : Bool) (a1_1 : Int) (a1_2 : Int) : Option (Int) := if (a0_0 != a1_0) = true then (if a1_0 = true then (some (-1)) else (some 1)) else (if a0_1 = a1_1 then (if a0_2 < a1_2 then (some (-1)) else (if a0_2 > a1_2 then (some 1) else (some 0))) else (if a0_1 < a1_1 then (some (-1)) else (some 1)))
set_option maxHeartbeats 40000000 in
set_option maxRecDepth 100000 in
theorem ddiref02_Compare.calls (a0_0 : Bool) (a0_1 : Int) (a0_2 : Int) (a1_0 : Bool) (a1_1 : Int) (a1_2 : Int) (r : Int) (w : World) (h : ddiref02_Compare.f a0_0 a0_1 a0_2 a1_0 a1_1 a1_2 = some r) :
 Calls Tryz.prog 55 #[.agg #[.bool a0_0, .int .u64 a0_1, .int .u64 a0_2], .agg #[.bool a1_0, .int .u64 a1_1, .int .u64 a1_2]] w fun e w' => e = .returned (.int .i64 r) ∧ Below w.heap.size w w' := by
 have hu24 := Tryz.underlying24
 have HB := Aside0.mk (Below.refl w.heap.size w)
 have H : (if (a0_0 != a1_0) = true then (if a1_0 = true then (some (-1)) else (some 1)) else (if a0_1 = a1_1 then (if a0_2 < a1_2 then (some (-1)) else (if a0_2 > a1_2 then (some 1) else (some 0))) else (if a0_1 < a1_1 then (some (-1)) else (some 1)))) = some r := h
 clear h
 by_cases c3 : (a0_0 != a1_0) = true
 ·
  rw [if_pos c3] at H
  have c3b0 : (a0_0 != a1_0) = true := c3
  (try (have c3b1 : decide (a0_0 = a1_0) = false := by simpa using c3))
  (try (have c3b2 : (a0_0 == a1_0) = false := by simpa using c3))
  (try (have c3b3 : ¬ (a0_0 = a1_0) := by simpa using c3))
  clear c3
  by_cases c4 : a1_0 = true
  ·
   subst c4
   rw [if_pos rfl] at H
   obtain rfl := Option.some.inj H
   go_enter Tryz.func55, Tryz.ntmps55
   go_wp2_with (first | ((with_reducible refine gate_dst (N := 2) rfl ?_); refine boxA (N := 2) (cs := #[.bool a0_0, .int .u64 a0_1, .int .u64 a0_2]) (t := 24) ?_; intro gb399 hg w5 hbox hb; have BK399 := Aside0.mk (hbox); have GE399 := (pZ HB hg); replace HB := (pS HB hb); clear hb hbox hg) | ((with_reducible refine gate_dst (N := 3) rfl ?_); refine boxA (N := 3) (cs := #[.bool true, .int .u64 a1_1, .int .u64 a1_2]) (t := 24) ?_; intro gb400 hg w6 hbox hb; have BK400 := Aside0.mk (hbox); have GE400 := (pZ HB hg); have NB399_400 := (pL BK399 hg); have NB400_399 := (pG BK399 hg); replace BK399 := (pB BK399 hb); replace HB := (pS HB hb); clear hb hbox hg; have hnb7 := NB399_400.out; have hnc7 := NB400_399.out; obtain ⟨hcz8_0, hcz8_1, hcz8_2, hfz8_0, hfz8_1, hfz8_2⟩ := pC3 BK399; obtain ⟨hcz9_0, hcz9_1, hcz9_2, hfz9_0, hfz9_1, hfz9_2⟩ := pC3 BK400))
   go_ret
   exact pR (pE HB)
  ·
   replace c4 := Bool.eq_false_iff.mpr c4
   subst c4
   rw [if_neg (show ¬ (false = true) by decide)] at H
   obtain rfl := Option.some.inj H
   go_enter Tryz.func55, Tryz.ntmps55
   go_wp2_with (first | ((with_reducible refine gate_dst (N := 2) rfl ?_); refine boxA (N := 2) (cs := #[.bool a0_0, .int .u64 a0_1, .int .u64 a0_2]) (t := 24) ?_; intro gb399 hg w10 hbox hb; have BK399 := Aside0.mk (hbox); have GE399 := (pZ HB hg); replace HB := (pS HB hb); clear hb hbox hg) | ((with_reducible refine gate_dst (N := 3) rfl ?_); refine boxA (N := 3) (cs := #[.bool false, .int .u64 a1_1, .int .u64 a1_2]) (t := 24) ?_; intro gb400 hg w11 hbox hb; have BK400 := Aside0.mk (hbox); have GE400 := (pZ HB hg); have NB399_400 := (pL BK399 hg); have NB400_399 := (pG BK399 hg); replace BK399 := (pB BK399 hb); replace HB := (pS HB hb); clear hb hbox hg; have hnb12 := NB399_400.out; have hnc12 := NB400_399.out; obtain ⟨hcz13_0, hcz13_1, hcz13_2, hfz13_0, hfz13_1, hfz13_2⟩ := pC3 BK399; obtain ⟨hcz14_0, hcz14_1, hcz14_2, hfz14_0, hfz14_1, hfz14_2⟩ := pC3 BK400))
   go_ret
   exact pR (pE HB)
 ·
  rw [if_neg c3] at H
  have c3b0 : (a0_0 != a1_0) = false := by simpa using c3
  (try (have c3b1 : decide (a0_0 = a1_0) = true := by simpa using c3))
  (try (have c3b2 : (a0_0 == a1_0) = true := by simpa using c3))
  clear c3
  by_cases c15 : a0_1 = a1_1
  ·
   rw [if_pos c15] at H
   have c15b0 : (a0_1 == a1_1) = true := beq_iff_eq.mpr c15
   have c15b1 : (a0_1 != a1_1) = false := bne_eq_false_iff_eq.mpr c15
   clear c15
   by_cases c16 : a0_2 < a1_2
   ·
    rw [if_pos c16] at H
    have c16b0 := decide_eq_true c16
    clear c16
    obtain rfl := Option.some.inj H
    go_enter Tryz.func55, Tryz.ntmps55
    go_wp2_with (first | ((with_reducible refine gate_dst (N := 2) rfl ?_); refine boxA (N := 2) (cs := #[.bool a0_0, .int .u64 a0_1, .int .u64 a0_2]) (t := 24) ?_; intro gb399 hg w17 hbox hb; have BK399 := Aside0.mk (hbox); have GE399 := (pZ HB hg); replace HB := (pS HB hb); clear hb hbox hg) | ((with_reducible refine gate_dst (N := 3) rfl ?_); refine boxA (N := 3) (cs := #[.bool a1_0, .int .u64 a1_1, .int .u64 a1_2]) (t := 24) ?_; intro gb400 hg w18 hbox hb; have BK400 := Aside0.mk (hbox); have GE400 := (pZ HB hg); have NB399_400 := (pL BK399 hg); have NB400_399 := (pG BK399 hg); replace BK399 := (pB BK399 hb); replace HB := (pS HB hb); clear hb hbox hg; have hnb19 := NB399_400.out; have hnc19 := NB400_399.out; obtain ⟨hcz20_0, hcz20_1, hcz20_2, hfz20_0, hfz20_1, hfz20_2⟩ := pC3 BK399; obtain ⟨hcz21_0, hcz21_1, hcz21_2, hfz21_0, hfz21_1, hfz21_2⟩ := pC3 BK400))
    go_ret
    exact pR (pE HB)
   ·
    rw [if_neg c16] at H
    have c16b0 := decide_eq_false c16
    clear c16
    by_cases c22 : a0_2 > a1_2
    ·
     rw [if_pos c22] at H
     have c22b0 := decide_eq_true c22
     clear c22
     obtain rfl := Option.some.inj H
     go_enter Tryz.func55, Tryz.ntmps55
     go_wp2_with (first | ((with_reducible refine gate_dst (N := 2) rfl ?_); refine boxA (N := 2) (cs := #[.bool a0_0, .int .u64 a0_1, .int .u64 a0_2]) (t := 24) ?_; intro gb399 hg w23 hbox hb; have BK399 := Aside0.mk (hbox); have GE399 := (pZ HB hg); replace HB := (pS HB hb); clear hb hbox hg) | ((with_reducible refine gate_dst (N := 3) rfl ?_); refine boxA (N := 3) (cs := #[.bool a1_0, .int .u64 a1_1, .int .u64 a1_2]) (t := 24) ?_; intro gb400 hg w24 hbox hb; have BK400 := Aside0.mk (hbox); have GE400 := (pZ HB hg); have NB399_400 := (pL BK399 hg); have NB400_399 := (pG BK399 hg); replace BK399 := (pB BK399 hb); replace HB := (pS HB hb); clear hb hbox hg; have hnb25 := NB399_400.out; have hnc25 := NB400_399.out; obtain ⟨hcz26_0, hcz26_1, hcz26_2, hfz26_0, hfz26_1, hfz26_2⟩ := pC3 BK399; obtain ⟨hcz27_0, hcz27_1, hcz27_2, hfz27_0, hfz27_1, hfz27_2⟩ := pC3 BK400))
     go_ret
     exact pR (pE HB)
    ·
     rw [if_neg c22] at H
     have c22b0 := decide_eq_false c22
     clear c22
     obtain rfl := Option.some.inj H
     go_enter Tryz.func55, Tryz.ntmps55
     go_wp2_with (first | ((with_reducible refine gate_dst (N := 2) rfl ?_); refine boxA (N := 2) (cs := #[.bool a0_0, .int .u64 a0_1, .int .u64 a0_2]) (t := 24) ?_; intro gb399 hg w28 hbox hb; have BK399 := Aside0.mk (hbox); have GE399 := (pZ HB hg); replace HB := (pS HB hb); clear hb hbox hg) | ((with_reducible refine gate_dst (N := 3) rfl ?_); refine boxA (N := 3) (cs := #[.bool a1_0, .int .u64 a1_1, .int .u64 a1_2]) (t := 24) ?_; intro gb400 hg w29 hbox hb; have BK400 := Aside0.mk (hbox); have GE400 := (pZ HB hg); have NB399_400 := (pL BK399 hg); have NB400_399 := (pG BK399 hg); replace BK399 := (pB BK399 hb); replace HB := (pS HB hb); clear hb hbox hg; have hnb30 := NB399_400.out; have hnc30 := NB400_399.out; obtain ⟨hcz31_0, hcz31_1, hcz31_2, hfz31_0, hfz31_1, hfz31_2⟩ := pC3 BK399; obtain ⟨hcz32_0, hcz32_1, hcz32_2, hfz32_0, hfz32_1, hfz32_2⟩ := pC3 BK400))
     go_ret
     exact pR (pE HB)
  ·
   rw [if_neg c15] at H
   have c15b0 : (a0_1 == a1_1) = false := beq_eq_false_iff_ne.mpr c15
   have c15b1 : (a0_1 != a1_1) = true := bne_iff_ne.mpr c15
   by_cases c33 : a0_1 < a1_1
   ·
    rw [if_pos c33] at H
    have c33b0 := decide_eq_true c33
    clear c33
    obtain rfl := Option.some.inj H
    go_enter Tryz.func55, Tryz.ntmps55
    go_wp2_with (first | ((with_reducible refine gate_dst (N := 2) rfl ?_); refine boxA (N := 2) (cs := #[.bool a0_0, .int .u64 a0_1, .int .u64 a0_2]) (t := 24) ?_; intro gb399 hg w34 hbox hb; have BK399 := Aside0.mk (hbox); have GE399 := (pZ HB hg); replace HB := (pS HB hb); clear hb hbox hg) | ((with_reducible refine gate_dst (N := 3) rfl ?_); refine boxA (N := 3) (cs := #[.bool a1_0, .int .u64 a1_1, .int .u64 a1_2]) (t := 24) ?_; intro gb400 hg w35 hbox hb; have BK400 := Aside0.mk (hbox); have GE400 := (pZ HB hg); have NB399_400 := (pL BK399 hg); have NB400_399 := (pG BK399 hg); replace BK399 := (pB BK399 hb); replace HB := (pS HB hb); clear hb hbox hg; have hnb36 := NB399_400.out; have hnc36 := NB400_399.out; obtain ⟨hcz37_0, hcz37_1, hcz37_2, hfz37_0, hfz37_1, hfz37_2⟩ := pC3 BK399; obtain ⟨hcz38_0, hcz38_1, hcz38_2, hfz38_0, hfz38_1, hfz38_2⟩ := pC3 BK400))
    go_ret
    exact pR (pE HB)
   ·
    rw [if_neg c33] at H
    have c33b0 := decide_eq_false c33
    clear c33
    obtain rfl := Option.some.inj H
    go_enter Tryz.func55, Tryz.ntmps55
    go_wp2_with (first | ((with_reducible refine gate_dst (N := 2) rfl ?_); refine boxA (N := 2) (cs := #[.bool a0_0, .int .u64 a0_1, .int .u64 a0_2]) (t := 24) ?_; intro gb399 hg w39 hbox hb; have BK399 := Aside0.mk (hbox); have GE399 := (pZ HB hg); replace HB := (pS HB hb); clear hb hbox hg) | ((with_reducible refine gate_dst (N := 3) rfl ?_); refine boxA (N := 3) (cs := #[.bool a1_0, .int .u64 a1_1, .int .u64 a1_2]) (t := 24) ?_; intro gb400 hg w40 hbox hb; have BK400 := Aside0.mk (hbox); have GE400 := (pZ HB hg); have NB399_400 := (pL BK399 hg); have NB400_399 := (pG BK399 hg); replace BK399 := (pB BK399 hb); replace HB := (pS HB hb); clear hb hbox hg; have hnb41 := NB399_400.out; have hnc41 := NB400_399.out; obtain ⟨hcz42_0, hcz42_1, hcz42_2, hfz42_0, hfz42_1, hfz42_2⟩ := pC3 BK399; obtain ⟨hcz43_0, hcz43_1, hcz43_2, hfz43_0, hfz43_1, hfz43_2⟩ := pC3 BK400))
    go_ret
    exact pR (pE HB)

/-! ### ddiref03_Compare: function 29 -/
def ddiref03_Compare.f (a0_0 : Bool) (a0_1 : Int) (a0_2 : Int) (a0_3 : Int) (a1_0 : Bool) (a1_1 : Int) (a1_2 : Int) (a1_3 : Int) : Option (Int) := (ddiref02_Compare.f a0_0 a0_1 a0_2 a1_0 a1_1 a1_2).bind fun t403 => (if t403 = 0 then (if a0_3 < a1_3 then (some (-1)) else (if a0_3 > a1_3 then (some 1) else (some 0))) else (some t403))
set_option maxHeartbeats 40000000 in
set_option maxRecDepth 100000 in
theorem ddiref03_Compare.calls (a0_0 : Bool) (a0_1 : Int) (a0_2 : Int) (a0_3 : Int) (a1_0 : Bool) (a1_1 : Int) (a1_2 : Int) (a1_3 : Int) (r : Int) (w : World) (h : ddiref03_Compare.f a0_0 a0_1 a0_2 a0_3 a1_0 a1_1 a1_2 a1_3 = some r) :
 Calls Tryz.prog 29 #[.agg #[.bool a0_0, .int .u64 a0_1, .int .u64 a0_2, .int .i64 a0_3], .agg #[.bool a1_0, .int .u64 a1_1, .int .u64 a1_2, .int .i64 a1_3]] w fun e w' => e = .returned (.int .i64 r) ∧ Below w.heap.size w w' := by
 have hu26 := Tryz.underlying26
 have hu24 := Tryz.underlying24
 have HB := Aside0.mk (Below.refl w.heap.size w)
 have H : ((ddiref02_Compare.f a0_0 a0_1 a0_2 a1_0 a1_1 a1_2).bind fun t403 => (if t403 = 0 then (if a0_3 < a1_3 then (some (-1)) else (if a0_3 > a1_3 then (some 1) else (some 0))) else (some t403))) = some r := h
 clear h
 replace H := Option.bind_eq_some_iff.mp H
 obtain ⟨t403, A30, H⟩ := H
 have A3 := Aside0.mk A30
 clear A30
 by_cases c4 : t403 = 0
 ·
  rw [if_pos c4] at H
  have c4b0 : (t403 == 0) = true := beq_iff_eq.mpr c4
  have c4b1 : (t403 != 0) = false := bne_eq_false_iff_eq.mpr c4
  clear c4
  by_cases c5 : a0_3 < a1_3
  ·
   rw [if_pos c5] at H
   have c5b0 := decide_eq_true c5
   clear c5
   obtain rfl := Option.some.inj H
   go_enter Tryz.func29, Tryz.ntmps29
   go_wp2_with (first | ((with_reducible refine gate_dst (N := 2) rfl ?_); refine boxA (N := 2) (cs := #[.bool a0_0, .int .u64 a0_1, .int .u64 a0_2, .int .i64 a0_3]) (t := 26) ?_; intro gb401 hg w6 hbox hb; have BK401 := Aside0.mk (hbox); have GE401 := (pZ HB hg); replace HB := (pS HB hb); clear hb hbox hg) | ((with_reducible refine gate_dst (N := 3) rfl ?_); refine boxA (N := 3) (cs := #[.bool a1_0, .int .u64 a1_1, .int .u64 a1_2, .int .i64 a1_3]) (t := 26) ?_; intro gb402 hg w7 hbox hb; have BK402 := Aside0.mk (hbox); have GE402 := (pZ HB hg); have NB401_402 := (pL BK401 hg); have NB402_401 := (pG BK401 hg); replace BK401 := (pB BK401 hb); replace HB := (pS HB hb); clear hb hbox hg; have hnb8 := NB401_402.out; have hnc8 := NB402_401.out; obtain ⟨hcz9_0, hcz9_1, hcz9_2, hcz9_3, hfz9_0, hfz9_1, hfz9_2, hfz9_3⟩ := pC4 BK401; obtain ⟨hcz10_0, hcz10_1, hcz10_2, hcz10_3, hfz10_0, hfz10_1, hfz10_2, hfz10_3⟩ := pC4 BK402) | ((with_reducible refine gate_callee (f := 55) rfl ?_); refine goesA (some 10) Tryz.func55 #[.agg #[.bool a0_0, .int .u64 a0_1, .int .u64 a0_2], .agg #[.bool a1_0, .int .u64 a1_1, .int .u64 a1_2]] ?_; (with_reducible refine (ddiref02_Compare.calls a0_0 a0_1 a0_2 a1_0 a1_1 a1_2 t403 _ A3.out).mono ?_); rintro e w11 ⟨rfl, hb⟩; refine ⟨_, rfl, ?_⟩; replace BK401 := (pB BK401 hb); replace BK402 := (pB BK402 hb); replace HB := (pS HB hb); (try clear hb); obtain ⟨hcz12_0, hcz12_1, hcz12_2, hcz12_3, hfz12_0, hfz12_1, hfz12_2, hfz12_3⟩ := pC4 BK401; obtain ⟨hcz13_0, hcz13_1, hcz13_2, hcz13_3, hfz13_0, hfz13_1, hfz13_2, hfz13_3⟩ := pC4 BK402))
   go_ret
   exact pR (pE HB)
  ·
   rw [if_neg c5] at H
   have c5b0 := decide_eq_false c5
   clear c5
   by_cases c14 : a0_3 > a1_3
   ·
    rw [if_pos c14] at H
    have c14b0 := decide_eq_true c14
    clear c14
    obtain rfl := Option.some.inj H
    go_enter Tryz.func29, Tryz.ntmps29
    go_wp2_with (first | ((with_reducible refine gate_dst (N := 2) rfl ?_); refine boxA (N := 2) (cs := #[.bool a0_0, .int .u64 a0_1, .int .u64 a0_2, .int .i64 a0_3]) (t := 26) ?_; intro gb401 hg w15 hbox hb; have BK401 := Aside0.mk (hbox); have GE401 := (pZ HB hg); replace HB := (pS HB hb); clear hb hbox hg) | ((with_reducible refine gate_dst (N := 3) rfl ?_); refine boxA (N := 3) (cs := #[.bool a1_0, .int .u64 a1_1, .int .u64 a1_2, .int .i64 a1_3]) (t := 26) ?_; intro gb402 hg w16 hbox hb; have BK402 := Aside0.mk (hbox); have GE402 := (pZ HB hg); have NB401_402 := (pL BK401 hg); have NB402_401 := (pG BK401 hg); replace BK401 := (pB BK401 hb); replace HB := (pS HB hb); clear hb hbox hg; have hnb17 := NB401_402.out; have hnc17 := NB402_401.out; obtain ⟨hcz18_0, hcz18_1, hcz18_2, hcz18_3, hfz18_0, hfz18_1, hfz18_2, hfz18_3⟩ := pC4 BK401; obtain ⟨hcz19_0, hcz19_1, hcz19_2, hcz19_3, hfz19_0, hfz19_1, hfz19_2, hfz19_3⟩ := pC4 BK402) | ((with_reducible refine gate_callee (f := 55) rfl ?_); refine goesA (some 10) Tryz.func55 #[.agg #[.bool a0_0, .int .u64 a0_1, .int .u64 a0_2], .agg #[.bool a1_0, .int .u64 a1_1, .int .u64 a1_2]] ?_; (with_reducible refine (ddiref02_Compare.calls a0_0 a0_1 a0_2 a1_0 a1_1 a1_2 t403 _ A3.out).mono ?_); rintro e w20 ⟨rfl, hb⟩; refine ⟨_, rfl, ?_⟩; replace BK401 := (pB BK401 hb); replace BK402 := (pB BK402 hb); replace HB := (pS HB hb); (try clear hb); obtain ⟨hcz21_0, hcz21_1, hcz21_2, hcz21_3, hfz21_0, hfz21_1, hfz21_2, hfz21_3⟩ := pC4 BK401; obtain ⟨hcz22_0, hcz22_1, hcz22_2, hcz22_3, hfz22_0, hfz22_1, hfz22_2, hfz22_3⟩ := pC4 BK402))
    go_ret
    exact pR (pE HB)
   ·
    rw [if_neg c14] at H
    have c14b0 := decide_eq_false c14
    clear c14
    obtain rfl := Option.some.inj H
    go_enter Tryz.func29, Tryz.ntmps29
    go_wp2_with (first | ((with_reducible refine gate_dst (N := 2) rfl ?_); refine boxA (N := 2) (cs := #[.bool a0_0, .int .u64 a0_1, .int .u64 a0_2, .int .i64 a0_3]) (t := 26) ?_; intro gb401 hg w23 hbox hb; have BK401 := Aside0.mk (hbox); have GE401 := (pZ HB hg); replace HB := (pS HB hb); clear hb hbox hg) | ((with_reducible refine gate_dst (N := 3) rfl ?_); refine boxA (N := 3) (cs := #[.bool a1_0, .int .u64 a1_1, .int .u64 a1_2, .int .i64 a1_3]) (t := 26) ?_; intro gb402 hg w24 hbox hb; have BK402 := Aside0.mk (hbox); have GE402 := (pZ HB hg); have NB401_402 := (pL BK401 hg); have NB402_401 := (pG BK401 hg); replace BK401 := (pB BK401 hb); replace HB := (pS HB hb); clear hb hbox hg; have hnb25 := NB401_402.out; have hnc25 := NB402_401.out; obtain ⟨hcz26_0, hcz26_1, hcz26_2, hcz26_3, hfz26_0, hfz26_1, hfz26_2, hfz26_3⟩ := pC4 BK401; obtain ⟨hcz27_0, hcz27_1, hcz27_2, hcz27_3, hfz27_0, hfz27_1, hfz27_2, hfz27_3⟩ := pC4 BK402) | ((with_reducible refine gate_callee (f := 55) rfl ?_); refine goesA (some 10) Tryz.func55 #[.agg #[.bool a0_0, .int .u64 a0_1, .int .u64 a0_2], .agg #[.bool a1_0, .int .u64 a1_1, .int .u64 a1_2]] ?_; (with_reducible refine (ddiref02_Compare.calls a0_0 a0_1 a0_2 a1_0 a1_1 a1_2 t403 _ A3.out).mono ?_); rintro e w28 ⟨rfl, hb⟩; refine ⟨_, rfl, ?_⟩; replace BK401 := (pB BK401 hb); replace BK402 := (pB BK402 hb); replace HB := (pS HB hb); (try clear hb); obtain ⟨hcz29_0, hcz29_1, hcz29_2, hcz29_3, hfz29_0, hfz29_1, hfz29_2, hfz29_3⟩ := pC4 BK401; obtain ⟨hcz30_0, hcz30_1, hcz30_2, hcz30_3, hfz30_0, hfz30_1, hfz30_2, hfz30_3⟩ := pC4 BK402))
    go_ret
    exact pR (pE HB)
 ·
  rw [if_neg c4] at H
  have c4b0 : (t403 == 0) = false := beq_eq_false_iff_ne.mpr c4
  have c4b1 : (t403 != 0) = true := bne_iff_ne.mpr c4
  obtain rfl := Option.some.inj H
  go_enter Tryz.func29, Tryz.ntmps29
  go_wp2_with (first | ((with_reducible refine gate_dst (N := 2) rfl ?_); refine boxA (N := 2) (cs := #[.bool a0_0, .int .u64 a0_1, .int .u64 a0_2, .int .i64 a0_3]) (t := 26) ?_; intro gb401 hg w31 hbox hb; have BK401 := Aside0.mk (hbox); have GE401 := (pZ HB hg); replace HB := (pS HB hb); clear hb hbox hg) | ((with_reducible refine gate_dst (N := 3) rfl ?_); refine boxA (N := 3) (cs := #[.bool a1_0, .int .u64 a1_1, .int .u64 a1_2, .int .i64 a1_3]) (t := 26) ?_; intro gb402 hg w32 hbox hb; have BK402 := Aside0.mk (hbox); have GE402 := (pZ HB hg); have NB401_402 := (pL BK401 hg); have NB402_401 := (pG BK401 hg); replace BK401 := (pB BK401 hb); replace HB := (pS HB hb); clear hb hbox hg; have hnb33 := NB401_402.out; have hnc33 := NB402_401.out; obtain ⟨hcz34_0, hcz34_1, hcz34_2, hcz34_3, hfz34_0, hfz34_1, hfz34_2, hfz34_3⟩ := pC4 BK401; obtain ⟨hcz35_0, hcz35_1, hcz35_2, hcz35_3, hfz35_0, hfz35_1, hfz35_2, hfz35_3⟩ := pC4 BK402) | ((with_reducible refine gate_callee (f := 55) rfl ?_); refine goesA (some 10) Tryz.func55 #[.agg #[.bool a0_0, .int .u64 a0_1, .int .u64 a0_2], .agg #[.bool a1_0, .int .u64 a1_1, .int .u64 a1_2]] ?_; (with_reducible refine (ddiref02_Compare.calls a0_0 a0_1 a0_2 a1_0 a1_1 a1_2 t403 _ A3.out).mono ?_); rintro e w36 ⟨rfl, hb⟩; refine ⟨_, rfl, ?_⟩; replace BK401 := (pB BK401 hb); replace BK402 := (pB BK402 hb); replace HB := (pS HB hb); (try clear hb)))
  go_ret
  exact pR (pE HB)

/-! ### prefix_Contains: function 30 -/
def prefix_Contains.f (a0_0 : Bool) (a0_1 : Int) (a0_2 : Int) (a0_3 : Int) (a1_0 : Bool) (a1_1 : Int) (a1_2 : Int) : Option (Bool) := (prefix_Valid.f a0_0 a0_1 a0_2 a0_3).bind fun t406 => (if t406 = true then (if (a0_0 != a1_0) = true then (some false) else ((prefix_Of.f a1_0 a1_1 a1_2 a0_3).bind fun bt407 => (if bt407.2.2.2.2 = true then (some ((bt407.1 == a0_0 && (bt407.2.1 == a0_1 && (bt407.2.2.1 == a0_2))) && (bt407.2.2.2.1 == a0_3))) else (some false)))) else (some false))
set_option maxHeartbeats 40000000 in
set_option maxRecDepth 100000 in
theorem prefix_Contains.calls (a0_0 : Bool) (a0_1 : Int) (a0_2 : Int) (a0_3 : Int) (a1_0 : Bool) (a1_1 : Int) (a1_2 : Int) (r : Bool) (w : World) (h : prefix_Contains.f a0_0 a0_1 a0_2 a0_3 a1_0 a1_1 a1_2 = some r) :
 Calls Tryz.prog 30 #[.agg #[.bool a0_0, .int .u64 a0_1, .int .u64 a0_2, .int .i64 a0_3], .agg #[.bool a1_0, .int .u64 a1_1, .int .u64 a1_2]] w fun e w' => e = .returned (.bool r) ∧ Below w.heap.size w w' := by
 have hu26 := Tryz.underlying26
 have hu24 := Tryz.underlying24
 have HB := Aside0.mk (Below.refl w.heap.size w)
 have H : ((prefix_Valid.f a0_0 a0_1 a0_2 a0_3).bind fun t406 => (if t406 = true then (if (a0_0 != a1_0) = true then (some false) else ((prefix_Of.f a1_0 a1_1 a1_2 a0_3).bind fun bt407 => (if bt407.2.2.2.2 = true then (some ((bt407.1 == a0_0 && (bt407.2.1 == a0_1 && (bt407.2.2.1 == a0_2))) && (bt407.2.2.2.1 == a0_3))) else (some false)))) else (some false))) = some r := h
 clear h
 replace H := Option.bind_eq_some_iff.mp H
 obtain ⟨t406, A30, H⟩ := H
 have A3 := Aside0.mk A30
 clear A30
 by_cases c4 : t406 = true
 ·
  subst c4
  rw [if_pos rfl] at H
  by_cases c5 : (a0_0 != a1_0) = true
  ·
   rw [if_pos c5] at H
   have c5b0 : (a0_0 != a1_0) = true := c5
   (try (have c5b1 : decide (a0_0 = a1_0) = false := by simpa using c5))
   (try (have c5b2 : (a0_0 == a1_0) = false := by simpa using c5))
   (try (have c5b3 : ¬ (a0_0 = a1_0) := by simpa using c5))
   clear c5
   obtain rfl := Option.some.inj H
   go_enter Tryz.func30, Tryz.ntmps30
   go_wp2_with (first | ((with_reducible refine gate_dst (N := 2) rfl ?_); refine boxA (N := 2) (cs := #[.bool a0_0, .int .u64 a0_1, .int .u64 a0_2, .int .i64 a0_3]) (t := 26) ?_; intro gb404 hg w6 hbox hb; have BK404 := Aside0.mk (hbox); have GE404 := (pZ HB hg); replace HB := (pS HB hb); clear hb hbox hg) | ((with_reducible refine gate_dst (N := 3) rfl ?_); refine boxA (N := 3) (cs := #[.bool a1_0, .int .u64 a1_1, .int .u64 a1_2]) (t := 24) ?_; intro gb405 hg w7 hbox hb; have BK405 := Aside0.mk (hbox); have GE405 := (pZ HB hg); have NB404_405 := (pL BK404 hg); have NB405_404 := (pG BK404 hg); replace BK404 := (pB BK404 hb); replace HB := (pS HB hb); clear hb hbox hg; have hnb8 := NB404_405.out; have hnc8 := NB405_404.out; obtain ⟨hcz9_0, hcz9_1, hcz9_2, hcz9_3, hfz9_0, hfz9_1, hfz9_2, hfz9_3⟩ := pC4 BK404) | ((with_reducible refine gate_callee (f := 26) rfl ?_); refine goesA (some 8) Tryz.func26 #[.agg #[.bool a0_0, .int .u64 a0_1, .int .u64 a0_2, .int .i64 a0_3]] ?_; (with_reducible refine (prefix_Valid.calls a0_0 a0_1 a0_2 a0_3 true _ A3.out).mono ?_); rintro e w10 ⟨rfl, hb⟩; refine ⟨_, rfl, ?_⟩; replace BK404 := (pB BK404 hb); replace BK405 := (pB BK405 hb); replace HB := (pS HB hb); (try clear hb); obtain ⟨hcz11_0, hcz11_1, hcz11_2, hcz11_3, hfz11_0, hfz11_1, hfz11_2, hfz11_3⟩ := pC4 BK404; obtain ⟨hcz12_0, hcz12_1, hcz12_2, hfz12_0, hfz12_1, hfz12_2⟩ := pC3 BK405))
   go_ret
   exact pR (pE HB)
  ·
   rw [if_neg c5] at H
   have c5b0 : (a0_0 != a1_0) = false := by simpa using c5
   (try (have c5b1 : decide (a0_0 = a1_0) = true := by simpa using c5))
   (try (have c5b2 : (a0_0 == a1_0) = true := by simpa using c5))
   clear c5
   replace H := Option.bind_eq_some_iff.mp H
   obtain ⟨⟨t407, t408, t409, t410, t411⟩, A130, H⟩ := H
   replace H : (if t411 = true then (some ((t407 == a0_0 && (t408 == a0_1 && (t409 == a0_2))) && (t410 == a0_3))) else (some false)) = some r := H
   have A13 := Aside0.mk A130
   clear A130
   by_cases c14 : t411 = true
   ·
    subst c14
    rw [if_pos rfl] at H
    obtain rfl := Option.some.inj H
    go_enter Tryz.func30, Tryz.ntmps30
    go_wp2_with (first | ((with_reducible refine gate_dst (N := 2) rfl ?_); refine boxA (N := 2) (cs := #[.bool a0_0, .int .u64 a0_1, .int .u64 a0_2, .int .i64 a0_3]) (t := 26) ?_; intro gb404 hg w15 hbox hb; have BK404 := Aside0.mk (hbox); have GE404 := (pZ HB hg); replace HB := (pS HB hb); clear hb hbox hg) | ((with_reducible refine gate_dst (N := 3) rfl ?_); refine boxA (N := 3) (cs := #[.bool a1_0, .int .u64 a1_1, .int .u64 a1_2]) (t := 24) ?_; intro gb405 hg w16 hbox hb; have BK405 := Aside0.mk (hbox); have GE405 := (pZ HB hg); have NB404_405 := (pL BK404 hg); have NB405_404 := (pG BK404 hg); replace BK404 := (pB BK404 hb); replace HB := (pS HB hb); clear hb hbox hg; have hnb17 := NB404_405.out; have hnc17 := NB405_404.out; obtain ⟨hcz18_0, hcz18_1, hcz18_2, hcz18_3, hfz18_0, hfz18_1, hfz18_2, hfz18_3⟩ := pC4 BK404) | ((with_reducible refine gate_callee (f := 26) rfl ?_); refine goesA (some 8) Tryz.func26 #[.agg #[.bool a0_0, .int .u64 a0_1, .int .u64 a0_2, .int .i64 a0_3]] ?_; (with_reducible refine (prefix_Valid.calls a0_0 a0_1 a0_2 a0_3 true _ A3.out).mono ?_); rintro e w19 ⟨rfl, hb⟩; refine ⟨_, rfl, ?_⟩; replace BK404 := (pB BK404 hb); replace BK405 := (pB BK405 hb); replace HB := (pS HB hb); (try clear hb); obtain ⟨hcz20_0, hcz20_1, hcz20_2, hcz20_3, hfz20_0, hfz20_1, hfz20_2, hfz20_3⟩ := pC4 BK404; obtain ⟨hcz21_0, hcz21_1, hcz21_2, hfz21_0, hfz21_1, hfz21_2⟩ := pC3 BK405) | ((with_reducible refine gate_callee (f := 24) rfl ?_); refine goesA (some 22) Tryz.func24 #[.agg #[.bool a1_0, .int .u64 a1_1, .int .u64 a1_2], .int .i64 a0_3] ?_; (with_reducible refine (prefix_Of.calls a1_0 a1_1 a1_2 a0_3 t407 t408 t409 t410 true _ A13.out).mono ?_); rintro e w22 ⟨rfl, hb⟩; refine ⟨_, rfl, ?_⟩; replace BK404 := (pB BK404 hb); replace BK405 := (pB BK405 hb); replace HB := (pS HB hb); (try clear hb)) | ((with_reducible refine gate_dst (N := 5) rfl ?_); refine boxA (N := 5) (cs := #[.bool false, .int .u64 0, .int .u64 0, .int .i64 0]) (t := 26) ?_; intro gb412 hg w23 hbox hb; have BK412 := Aside0.mk (hbox); have GE412 := (pZ HB hg); have NB404_412 := (pL BK404 hg); have NB412_404 := (pG BK404 hg); have NB405_412 := (pL BK405 hg); have NB412_405 := (pG BK405 hg); replace BK404 := (pB BK404 hb); replace BK405 := (pB BK405 hb); replace HB := (pS HB hb); clear hb hbox hg; have hnb24 := NB412_404.out; have hnc24 := NB404_412.out; have hnb25 := NB412_405.out; have hnc25 := NB405_412.out; obtain ⟨hcz26_0, hcz26_1, hcz26_2, hcz26_3, hfz26_0, hfz26_1, hfz26_2, hfz26_3⟩ := pC4 BK412; obtain ⟨hcz27_0, hcz27_1, hcz27_2, hcz27_3, hfz27_0, hfz27_1, hfz27_2, hfz27_3⟩ := pC4 BK404))
    go_ret
    exact pR (pE HB)
   ·
    replace c14 := Bool.eq_false_iff.mpr c14
    subst c14
    rw [if_neg (show ¬ (false = true) by decide)] at H
    obtain rfl := Option.some.inj H
    go_enter Tryz.func30, Tryz.ntmps30
    go_wp2_with (first | ((with_reducible refine gate_dst (N := 2) rfl ?_); refine boxA (N := 2) (cs := #[.bool a0_0, .int .u64 a0_1, .int .u64 a0_2, .int .i64 a0_3]) (t := 26) ?_; intro gb404 hg w28 hbox hb; have BK404 := Aside0.mk (hbox); have GE404 := (pZ HB hg); replace HB := (pS HB hb); clear hb hbox hg) | ((with_reducible refine gate_dst (N := 3) rfl ?_); refine boxA (N := 3) (cs := #[.bool a1_0, .int .u64 a1_1, .int .u64 a1_2]) (t := 24) ?_; intro gb405 hg w29 hbox hb; have BK405 := Aside0.mk (hbox); have GE405 := (pZ HB hg); have NB404_405 := (pL BK404 hg); have NB405_404 := (pG BK404 hg); replace BK404 := (pB BK404 hb); replace HB := (pS HB hb); clear hb hbox hg; have hnb30 := NB404_405.out; have hnc30 := NB405_404.out; obtain ⟨hcz31_0, hcz31_1, hcz31_2, hcz31_3, hfz31_0, hfz31_1, hfz31_2, hfz31_3⟩ := pC4 BK404) | ((with_reducible refine gate_callee (f := 26) rfl ?_); refine goesA (some 8) Tryz.func26 #[.agg #[.bool a0_0, .int .u64 a0_1, .int .u64 a0_2, .int .i64 a0_3]] ?_; (with_reducible refine (prefix_Valid.calls a0_0 a0_1 a0_2 a0_3 true _ A3.out).mono ?_); rintro e w32 ⟨rfl, hb⟩; refine ⟨_, rfl, ?_⟩; replace BK404 := (pB BK404 hb); replace BK405 := (pB BK405 hb); replace HB := (pS HB hb); (try clear hb); obtain ⟨hcz33_0, hcz33_1, hcz33_2, hcz33_3, hfz33_0, hfz33_1, hfz33_2, hfz33_3⟩ := pC4 BK404; obtain ⟨hcz34_0, hcz34_1, hcz34_2, hfz34_0, hfz34_1, hfz34_2⟩ := pC3 BK405) | ((with_reducible refine gate_callee (f := 24) rfl ?_); refine goesA (some 22) Tryz.func24 #[.agg #[.bool a1_0, .int .u64 a1_1, .int .u64 a1_2], .int .i64 a0_3] ?_; (with_reducible refine (prefix_Of.calls a1_0 a1_1 a1_2 a0_3 t407 t408 t409 t410 false _ A13.out).mono ?_); rintro e w35 ⟨rfl, hb⟩; refine ⟨_, rfl, ?_⟩; replace BK404 := (pB BK404 hb); replace BK405 := (pB BK405 hb); replace HB := (pS HB hb); (try clear hb)) | ((with_reducible refine gate_dst (N := 5) rfl ?_); refine boxA (N := 5) (cs := #[.bool false, .int .u64 0, .int .u64 0, .int .i64 0]) (t := 26) ?_; intro gb412 hg w36 hbox hb; have BK412 := Aside0.mk (hbox); have GE412 := (pZ HB hg); have NB404_412 := (pL BK404 hg); have NB412_404 := (pG BK404 hg); have NB405_412 := (pL BK405 hg); have NB412_405 := (pG BK405 hg); replace BK404 := (pB BK404 hb); replace BK405 := (pB BK405 hb); replace HB := (pS HB hb); clear hb hbox hg; have hnb37 := NB412_404.out; have hnc37 := NB404_412.out; have hnb38 := NB412_405.out; have hnc38 := NB405_412.out; obtain ⟨hcz39_0, hcz39_1, hcz39_2, hcz39_3, hfz39_0, hfz39_1, hfz39_2, hfz39_3⟩ := pC4 BK412))
    go_ret
    exact pR (pE HB)
 ·
  replace c4 := Bool.eq_false_iff.mpr c4
  subst c4
  rw [if_neg (show ¬ (false = true) by decide)] at H
  obtain rfl := Option.some.inj H
  go_enter Tryz.func30, Tryz.ntmps30
  go_wp2_with (first | ((with_reducible refine gate_dst (N := 2) rfl ?_); refine boxA (N := 2) (cs := #[.bool a0_0, .int .u64 a0_1, .int .u64 a0_2, .int .i64 a0_3]) (t := 26) ?_; intro gb404 hg w40 hbox hb; have BK404 := Aside0.mk (hbox); have GE404 := (pZ HB hg); replace HB := (pS HB hb); clear hb hbox hg) | ((with_reducible refine gate_dst (N := 3) rfl ?_); refine boxA (N := 3) (cs := #[.bool a1_0, .int .u64 a1_1, .int .u64 a1_2]) (t := 24) ?_; intro gb405 hg w41 hbox hb; have BK405 := Aside0.mk (hbox); have GE405 := (pZ HB hg); have NB404_405 := (pL BK404 hg); have NB405_404 := (pG BK404 hg); replace BK404 := (pB BK404 hb); replace HB := (pS HB hb); clear hb hbox hg; have hnb42 := NB404_405.out; have hnc42 := NB405_404.out; obtain ⟨hcz43_0, hcz43_1, hcz43_2, hcz43_3, hfz43_0, hfz43_1, hfz43_2, hfz43_3⟩ := pC4 BK404) | ((with_reducible refine gate_callee (f := 26) rfl ?_); refine goesA (some 8) Tryz.func26 #[.agg #[.bool a0_0, .int .u64 a0_1, .int .u64 a0_2, .int .i64 a0_3]] ?_; (with_reducible refine (prefix_Valid.calls a0_0 a0_1 a0_2 a0_3 false _ A3.out).mono ?_); rintro e w44 ⟨rfl, hb⟩; refine ⟨_, rfl, ?_⟩; replace BK404 := (pB BK404 hb); replace BK405 := (pB BK405 hb); replace HB := (pS HB hb); (try clear hb)))
  go_ret
  exact pR (pE HB)
end Go.Proofs.YteflcmmandlknaaGreatDoor.PA
