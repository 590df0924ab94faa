/- The Go functions in Lean, with the proofs that the code comes to these answers: printed by this session's program (wip/px) out of the seat's translation. Conditions: each theorem's own. -/
import Derived.Test.YteflcmmandlknaaGreatDoorPAx0
import Derived.Test.YteflcmmandlknaaGreatDoorPAx4
import Derived.Test.YteflcmmandlknaaGreatDoorPAx8
namespace Go.Proofs.YteflcmmandlknaaGreatDoor.PA
open Go.RowKit Go.Proofs.YteflcmmandlknaaGreatDoorW.PrintWords Go.Proofs.YteflcmmandlknaaGreatDoorW.PrintLast Go.Proofs.YteflcmmandlknaaGreatDoorW.PrintMore
attribute [local go_sem] max2_int min2_int max_two min_two max_three min_three max_four min_four   -- for this text's walks alone
attribute [local go_sem ↓] Ext.isSome_setCell
open Press
set_option linter.unusedVariables false
set_option linter.unusedSimpArgs false
/-! ### prefix_Zone: function 18 -/
mutual
def prefix_Zone.j0 : Nat → Int → Bool → Int → Int → Int → Option (ByteArray × Bool)
 | 0, _, _, _, _, _ => none
 | k + 1, x4, x228000, x228001, x228002, x228003 => (prefix_Valid.f x228000 x228001 x228002 x228003).bind fun t228 => (if t228 = true then (if x4 = 0 then (none) else (prefix_Zone.j1 k x4 ((Int.tmod x228003 x4) != 0) x228000 x228001 x228002 x228003)) else (prefix_Zone.j1 k x4 true x228000 x228001 x228002 x228003))
def prefix_Zone.j1 : Nat → Int → Bool → Bool → Int → Int → Int → Option (ByteArray × Bool)
 | 0, _, _, _, _, _, _ => none
 | k + 1, x4, x20, x228000, x228001, x228002, x228003 => if x20 = true then (some ((⟨#[]⟩ : ByteArray), false)) else ((addr_Reverse.f k x228000 x228001 x228002).bind fun bt229 => (if bt229.2 = 0 then (prefix_Zone.l0 k x4 bt229.1 x228003 x228000 x228001 x228002 x228003) else (some ((⟨#[]⟩ : ByteArray), false))))
def prefix_Zone.l0 : Nat → Int → ByteArray → Int → Bool → Int → Int → Int → Option (ByteArray × Bool)
 | 0, _, _, _, _, _, _, _ => none
 | k + 1, x4, x5, x7, x228000, x228001, x228002, x228003 => (prefix_length.f x228000 x228001 x228002).bind fun t231 => (if x7 < t231 then ((strings_Cut.f x5 (⟨#[46]⟩ : ByteArray)).bind fun bt232 => (prefix_Zone.l0 k x4 bt232.2.1 (wrap64 (x7 + x4)) x228000 x228001 x228002 x228003)) else (some (x5, true)))
end
def prefix_Zone.f (k : Nat) (a0_0 : Bool) (a0_1 : Int) (a0_2 : Int) (a0_3 : Int) : Option (ByteArray × Bool) := if a0_0 = true then (prefix_Zone.j0 k 4 a0_0 a0_1 a0_2 a0_3) else (prefix_Zone.j0 k 8 a0_0 a0_1 a0_2 a0_3)
theorem prefix_Zone.mono_l : ∀ k, (∀ y0 y1 y2 y3 y4, LeO (prefix_Zone.j0 k y0 y1 y2 y3 y4) (prefix_Zone.j0 (k + 1) y0 y1 y2 y3 y4)) ∧ (∀ y0 y1 y2 y3 y4 y5, LeO (prefix_Zone.j1 k y0 y1 y2 y3 y4 y5) (prefix_Zone.j1 (k + 1) y0 y1 y2 y3 y4 y5)) ∧ (∀ y0 y1 y2 y3 y4 y5 y6, LeO (prefix_Zone.l0 k y0 y1 y2 y3 y4 y5 y6) (prefix_Zone.l0 (k + 1) y0 y1 y2 y3 y4 y5 y6))
 | 0 => ⟨fun _ _ _ _ _ r h => by simp [prefix_Zone.j0] at h, fun _ _ _ _ _ _ r h => by simp [prefix_Zone.j1] at h, fun _ _ _ _ _ _ _ r h => by simp [prefix_Zone.l0] at h⟩
 | k + 1 => by
  obtain ⟨ih0, ih1, ih2⟩ := prefix_Zone.mono_l k
  refine ⟨?_, ?_, ?_⟩
  ·
   intro y0 y1 y2 y3 y4
   unfold prefix_Zone.j0
   repeat' with_reducible first | exact ih0 _ _ _ _ _ | exact ih1 _ _ _ _ _ _ | exact ih2 _ _ _ _ _ _ _ | exact addr_Reverse.mono _ _ _ _ | exact LeO.refl _ | exact LeO.none _ | refine LeO.ite ?_ ?_ | refine LeO.bind ?_ (fun _ => ?_)
  ·
   intro y0 y1 y2 y3 y4 y5
   unfold prefix_Zone.j1
   repeat' with_reducible first | exact ih0 _ _ _ _ _ | exact ih1 _ _ _ _ _ _ | exact ih2 _ _ _ _ _ _ _ | exact addr_Reverse.mono _ _ _ _ | exact LeO.refl _ | exact LeO.none _ | refine LeO.ite ?_ ?_ | refine LeO.bind ?_ (fun _ => ?_)
  ·
   intro y0 y1 y2 y3 y4 y5 y6
   unfold prefix_Zone.l0
   repeat' with_reducible first | exact ih0 _ _ _ _ _ | exact ih1 _ _ _ _ _ _ | exact ih2 _ _ _ _ _ _ _ | exact addr_Reverse.mono _ _ _ _ | exact LeO.refl _ | exact LeO.none _ | refine LeO.ite ?_ ?_ | refine LeO.bind ?_ (fun _ => ?_)
theorem prefix_Zone.mono : ∀ a0 a1 a2 a3 k, LeO (prefix_Zone.f k a0 a1 a2 a3) (prefix_Zone.f (k + 1) a0 a1 a2 a3) := by
 intro a0 a1 a2 a3 k
 obtain ⟨ih0, ih1, ih2⟩ := prefix_Zone.mono_l k
 unfold prefix_Zone.f
 repeat' with_reducible first | exact ih0 _ _ _ _ _ | exact ih1 _ _ _ _ _ _ | exact ih2 _ _ _ _ _ _ _ | exact addr_Reverse.mono _ _ _ _ | exact LeO.refl _ | exact LeO.none _ | refine LeO.ite ?_ ?_ | refine LeO.bind ?_ (fun _ => ?_)
set_option maxHeartbeats 40000000 in
set_option maxRecDepth 100000 in
theorem prefix_Zone.calls (k : Nat) (a0_0 : Bool) (a0_1 : Int) (a0_2 : Int) (a0_3 : Int) (r1 : ByteArray) (r2 : Bool) (w : World) (hLD : Laid w) (h : prefix_Zone.f k a0_0 a0_1 a0_2 a0_3 = some (r1, r2)) :
 Calls Tryz.prog 18 #[.agg #[.bool a0_0, .int .u64 a0_1, .int .u64 a0_2, .int .i64 a0_3]] w fun e w' => e = .returned (.tuple #[.string r1, .bool r2]) ∧ Below w.heap.size w w' := by
 have hu26 := Tryz.underlying26
 have hu24 := Tryz.underlying24
 have HLD := Aside0.mk hLD
 clear hLD
 have HB := Aside0.mk (Below.refl w.heap.size w)
 have H : (if a0_0 = true then (prefix_Zone.j0 k 4 a0_0 a0_1 a0_2 a0_3) else (prefix_Zone.j0 k 8 a0_0 a0_1 a0_2 a0_3)) = some (r1, r2) := h
 clear h
 have HC2 := Aside0.mk H
 clear H
 go_enter Tryz.func18, Tryz.ntmps18
 go_upto_if 10 with (first | ((with_reducible refine gate_dst (N := 1) rfl ?_); refine boxA (N := 1) (cs := #[.bool a0_0, .int .u64 a0_1, .int .u64 a0_2, .int .i64 a0_3]) (t := 26) ?_; intro gb227 hg w3 hbox hb; have BK227 := Aside0.mk (hbox); have GE227 := (pZ HB hg); replace HB := (pS HB hb); clear hb hbox hg; obtain ⟨hcz4_0, hcz4_1, hcz4_2, hcz4_3, hfz4_0, hfz4_1, hfz4_2, hfz4_3⟩ := pC4 BK227))
 (try simp only [Act.put, List.setIfInBounds_toArray, List.set_cons_zero, List.set_cons_succ])
 go_cut [4] (fun v4 wc => ∃ (kq : Nat) (x4_1 : Int), v4 = .int .i64 x4_1 ∧ Aside0 (prefix_Zone.j0 kq x4_1 a0_0 a0_1 a0_2 a0_3 = some (r1, r2)) ∧ Aside0 (kq ≤ k) ∧ Aside0 (wc.heap[gb227]? = some (.cells #[.bool a0_0, .int .u64 a0_1, .int .u64 a0_2, .int .i64 a0_3] 26 (0, 0))) ∧ Aside0 (Below w.heap.size w wc))
 case first =>
  have H := HC2.out
  clear HC2
  by_cases c5 : a0_0 = true
  ·
   subst c5
   have H1 : (prefix_Zone.j0 k 4 true a0_1 a0_2 a0_3) = some (r1, r2) := by rw [if_pos rfl] at H; exact H
   clear H
   have H := H1
   clear H1
   have H' := Aside0.mk H
   clear H
   go_wp2
   go_meet
   case rel => exact ⟨_, (4), pT, H', ⟨by first | omega | exact Nat.le_refl _⟩, ⟨pM BK227⟩, ⟨pE HB⟩⟩
  ·
   replace c5 := Bool.eq_false_iff.mpr c5
   subst c5
   rw [if_neg (show ¬ (false = true) by decide)] at H
   have H' := Aside0.mk H
   clear H
   go_wp2
   go_meet
   case rel => exact ⟨_, (8), pT, H', ⟨by first | omega | exact Nat.le_refl _⟩, ⟨pM BK227⟩, ⟨pE HB⟩⟩
 case rest =>
  clear HC2
  try clear hcz4_0 hcz4_1 hcz4_2 hcz4_3
  try clear hfz4_0 hfz4_1 hfz4_2 hfz4_3
  obtain ⟨kq, x4_1, rfl, HA, HJ1, BK227, HB⟩ := hcut
  cases kq with
  | zero => exact absurd HA.out (by simp [prefix_Zone.j0])
  | succ kj1 =>
   have H := HA.out
   clear HA
   simp only [prefix_Zone.j0] at H
   have HC6 := Aside0.mk H
   clear H
   go_upto_region 4 with (fail)
   go_cut [20] (fun v20 wc => ∃ (kq : Nat) (x20_5 : Bool), v20 = .bool x20_5 ∧ Aside0 (prefix_Zone.j1 kq x4_1 x20_5 a0_0 a0_1 a0_2 a0_3 = some (r1, r2)) ∧ Aside0 (kq ≤ kj1) ∧ Aside0 (wc.heap[gb227]? = some (.cells #[.bool a0_0, .int .u64 a0_1, .int .u64 a0_2, .int .i64 a0_3] 26 (0, 0))) ∧ Aside0 (Below w.heap.size w wc))
   case first =>
    have H := HC6.out
    clear HC6
    replace H := Option.bind_eq_some_iff.mp H
    obtain ⟨t228, A70, H⟩ := H
    have A7 := Aside0.mk A70
    clear A70
    by_cases c8 : t228 = true
    ·
     subst c8
     have H1 : (if x4_1 = 0 then (none) else (prefix_Zone.j1 kj1 x4_1 ((Int.tmod a0_3 x4_1) != 0) a0_0 a0_1 a0_2 a0_3)) = some (r1, r2) := by rw [if_pos rfl] at H; exact H
     clear H
     have H := H1
     clear H1
     by_cases c9 : x4_1 = 0
     ·
      rw [if_pos c9] at H
      exact absurd H (by simp)
     ·
      rw [if_neg c9] at H
      have c9b0 : (x4_1 == 0) = false := beq_eq_false_iff_ne.mpr c9
      have c9b1 : (x4_1 != 0) = true := bne_iff_ne.mpr c9
      (first | rw [c9b0] | (simp only [i64_w, i32_w]; rw [c9b0]) | skip)
      have H' := Aside0.mk H
      clear H
      obtain ⟨hcz10_0, hcz10_1, hcz10_2, hcz10_3, hfz10_0, hfz10_1, hfz10_2, hfz10_3⟩ := pC4 BK227
      go_wp2_with (first | ((with_reducible refine gate_callee (f := 26) rfl ?_); refine goesA (some 12) Tryz.func26 #[.agg #[.bool a0_0, .int .u64 a0_1, .int .u64 a0_2, .int .i64 a0_3]] ?_; (with_reducible refine (prefix_Valid.calls a0_0 a0_1 a0_2 a0_3 true _ A7.out).mono ?_); rintro e w11 ⟨rfl, hb⟩; refine ⟨_, rfl, ?_⟩; replace BK227 := (pB BK227 hb); replace HB := (pS HB hb); (try clear hb); obtain ⟨hcz12_0, hcz12_1, hcz12_2, hcz12_3, hfz12_0, hfz12_1, hfz12_2, hfz12_3⟩ := pC4 BK227))
      refine Met.intro ?_
      go_step
      (repeat apply Exists.intro)
      refine ⟨?rel, ?heq_⟩
      case heq_ => first | rfl | (rw [c9b0]) | (simp only [c9b0])
      case rel => exact ⟨_, (((Int.tmod a0_3 x4_1) != 0)), pT, H', ⟨by have := HJ1.out; first | omega | exact Nat.le_refl _⟩, ⟨pM BK227⟩, ⟨pE HB⟩⟩
    ·
     replace c8 := Bool.eq_false_iff.mpr c8
     subst c8
     rw [if_neg (show ¬ (false = true) by decide)] at H
     have H' := Aside0.mk H
     clear H
     obtain ⟨hcz13_0, hcz13_1, hcz13_2, hcz13_3, hfz13_0, hfz13_1, hfz13_2, hfz13_3⟩ := pC4 BK227
     go_wp2_with (first | ((with_reducible refine gate_callee (f := 26) rfl ?_); refine goesA (some 12) Tryz.func26 #[.agg #[.bool a0_0, .int .u64 a0_1, .int .u64 a0_2, .int .i64 a0_3]] ?_; (with_reducible refine (prefix_Valid.calls a0_0 a0_1 a0_2 a0_3 false _ A7.out).mono ?_); rintro e w14 ⟨rfl, hb⟩; refine ⟨_, rfl, ?_⟩; replace BK227 := (pB BK227 hb); replace HB := (pS HB hb); (try clear hb)))
     go_meet
     case rel => exact ⟨_, (true), pT, H', ⟨by have := HJ1.out; first | omega | exact Nat.le_refl _⟩, ⟨pM BK227⟩, ⟨pE HB⟩⟩
   case rest =>
    clear HC6
    try clear hcz4_0 hcz4_1 hcz4_2 hcz4_3
    try clear hfz4_0 hfz4_1 hfz4_2 hfz4_3
    obtain ⟨kq, x20_5, rfl, HA, HJ5, BK227, HB⟩ := hcut
    cases kq with
    | zero => exact absurd HA.out (by simp [prefix_Zone.j1])
    | succ kj5 =>
     have H := HA.out
     clear HA
     simp only [prefix_Zone.j1] at H
     by_cases c15 : x20_5 = true
     ·
      subst c15
      have H1 : (some ((⟨#[]⟩ : ByteArray), false)) = some (r1, r2) := by rw [if_pos rfl] at H; exact H
      clear H
      have H := H1
      clear H1
      simp only [Option.some.injEq, Prod.mk.injEq] at H
      obtain ⟨rfl, rfl⟩ := H
      go_wp2
      go_ret2
      exact pR (pE HB)
     ·
      replace c15 := Bool.eq_false_iff.mpr c15
      subst c15
      rw [if_neg (show ¬ (false = true) by decide)] at H
      replace H := Option.bind_eq_some_iff.mp H
      obtain ⟨⟨t229, t230⟩, A160, H⟩ := H
      replace H : (if t230 = 0 then (prefix_Zone.l0 kj5 x4_1 t229 a0_3 a0_0 a0_1 a0_2 a0_3) else (some ((⟨#[]⟩ : ByteArray), false))) = some (r1, r2) := H
      have A16 := Aside0.mk A160
      clear A160
      by_cases c17 : t230 = 0
      ·
       rw [if_pos c17] at H
       have c17b0 : (t230 == 0) = true := beq_iff_eq.mpr c17
       have c17b1 : (t230 != 0) = false := bne_eq_false_iff_eq.mpr c17
       clear c17
       have H' := Aside0.mk H
       clear H
       obtain ⟨hcz18_0, hcz18_1, hcz18_2, hcz18_3, hfz18_0, hfz18_1, hfz18_2, hfz18_3⟩ := pC4 BK227
       go_wp2_with (first | ((with_reducible refine gate_callee (f := 47) rfl ?_); refine goesA (some 24) Tryz.func47 #[.agg #[.bool a0_0, .int .u64 a0_1, .int .u64 a0_2]] ?_; (with_reducible refine (addr_Reverse.calls kj5 a0_0 a0_1 a0_2 t229 t230 _ ?side1 A16.out).mono ?_); (case side1 => exact Laid.below HLD.out (pE HB)); rintro e w19 ⟨rfl, hb⟩; refine ⟨_, rfl, ?_⟩; replace BK227 := (pB BK227 hb); replace HB := (pS HB hb); (try clear hb); obtain ⟨hcz20_0, hcz20_1, hcz20_2, hcz20_3, hfz20_0, hfz20_1, hfz20_2, hfz20_3⟩ := pC4 BK227))
       go_loopg [5, 7] kj5 (fun kq v5 v7 w' => ∃ (x5_3 : ByteArray) (x7_3 : Int), v5 = .string x5_3 ∧ v7 = .int .i64 x7_3 ∧ Aside0 (prefix_Zone.l0 kq x4_1 x5_3 x7_3 a0_0 a0_1 a0_2 a0_3 = some (r1, r2)) ∧ Aside0 (kq ≤ kj5) ∧ Aside0 (w'.heap[gb227]? = some (.cells #[.bool a0_0, .int .u64 a0_1, .int .u64 a0_2, .int .i64 a0_3] 26 (0, 0))) ∧ Aside0 (Below w.heap.size w w'))
       case atStart => exact ⟨(t229), (a0_3), pT, pT, H', ⟨Nat.le_refl _⟩, ⟨pM BK227⟩, ⟨pE HB⟩⟩
       case round =>
        clear H'
        try clear c15
        try clear c17
        try clear c17b0
        try clear c17b1
        try clear hcz18_0 hcz18_1 hcz18_2 hcz18_3
        try clear hcz20_0 hcz20_1 hcz20_2 hcz20_3
        try clear hcz4_0 hcz4_1 hcz4_2 hcz4_3
        try clear hfz18_0 hfz18_1 hfz18_2 hfz18_3
        try clear hfz20_0 hfz20_1 hfz20_2 hfz20_3
        try clear hfz4_0 hfz4_1 hfz4_2 hfz4_3
        obtain ⟨x5_3, x7_3, rfl, rfl, HA, HK3, BK227, HB⟩ := hrel
        cases gk with
        | zero => exact absurd HA.out (by simp [prefix_Zone.l0])
        | succ k3 =>
         have H := HA.out
         clear HA
         simp only [prefix_Zone.l0] at H
         replace H := Option.bind_eq_some_iff.mp H
         obtain ⟨t231, A210, H⟩ := H
         have A21 := Aside0.mk A210
         clear A210
         by_cases c22 : x7_3 < t231
         ·
          rw [if_pos c22] at H
          have c22b0 := decide_eq_true c22
          clear c22
          replace H := Option.bind_eq_some_iff.mp H
          obtain ⟨⟨t232, t233, t234⟩, A230, H⟩ := H
          replace H : (prefix_Zone.l0 k3 x4_1 t233 (wrap64 (x7_3 + x4_1)) a0_0 a0_1 a0_2 a0_3) = some (r1, r2) := H
          have A23 := Aside0.mk A230
          clear A230
          have H' := Aside0.mk H
          clear H
          obtain ⟨hcz24_0, hcz24_1, hcz24_2, hcz24_3, hfz24_0, hfz24_1, hfz24_2, hfz24_3⟩ := pC4 BK227
          go_wp2_with (first | ((with_reducible refine gate_callee (f := 46) rfl ?_); refine goesA (some 34) Tryz.func46 #[.agg #[.bool a0_0, .int .u64 a0_1, .int .u64 a0_2]] ?_; (with_reducible refine (prefix_length.calls a0_0 a0_1 a0_2 t231 _ A21.out).mono ?_); rintro e w25 ⟨rfl, hb⟩; refine ⟨_, rfl, ?_⟩; replace BK227 := (pB BK227 hb); replace HB := (pS HB hb); (try clear hb)) | ((with_reducible refine gate_callee (f := 36) rfl ?_); refine goesA (some 41) Tryz.func36 #[.string x5_3, .string (⟨#[46]⟩ : ByteArray)] ?_; (with_reducible refine (strings_Cut.calls x5_3 (⟨#[46]⟩ : ByteArray) t232 t233 t234 _ ?side1 A23.out).mono ?_); (case side1 => exact Laid.below HLD.out (pE HB)); rintro e w' ⟨rfl, ⟨nd, rfl⟩⟩; refine ⟨_, rfl, ?_⟩))
          go_roundg k3
          case measure => have := HJ1.out; have := HJ5.out; have := HK3.out; omega
          case rel => exact ⟨(t233), (wrap64 (x7_3 + x4_1)), pT, pT, H', ⟨by have := HJ1.out; have := HJ5.out; have := HK3.out; omega⟩, ⟨pM BK227⟩, ⟨pE HB⟩⟩
         ·
          rw [if_neg c22] at H
          have c22b0 := decide_eq_false c22
          clear c22
          simp only [Option.some.injEq, Prod.mk.injEq] at H
          obtain ⟨rfl, rfl⟩ := H
          obtain ⟨hcz26_0, hcz26_1, hcz26_2, hcz26_3, hfz26_0, hfz26_1, hfz26_2, hfz26_3⟩ := pC4 BK227
          go_wp2_with (first | ((with_reducible refine gate_callee (f := 46) rfl ?_); refine goesA (some 34) Tryz.func46 #[.agg #[.bool a0_0, .int .u64 a0_1, .int .u64 a0_2]] ?_; (with_reducible refine (prefix_length.calls a0_0 a0_1 a0_2 t231 _ A21.out).mono ?_); rintro e w27 ⟨rfl, hb⟩; refine ⟨_, rfl, ?_⟩; replace BK227 := (pB BK227 hb); replace HB := (pS HB hb); (try clear hb)))
          go_ret2
          exact pR (pE HB)
      ·
       rw [if_neg c17] at H
       have c17b0 : (t230 == 0) = false := beq_eq_false_iff_ne.mpr c17
       have c17b1 : (t230 != 0) = true := bne_iff_ne.mpr c17
       simp only [Option.some.injEq, Prod.mk.injEq] at H
       obtain ⟨rfl, rfl⟩ := H
       obtain ⟨hcz28_0, hcz28_1, hcz28_2, hcz28_3, hfz28_0, hfz28_1, hfz28_2, hfz28_3⟩ := pC4 BK227
       go_wp2_with (first | ((with_reducible refine gate_callee (f := 47) rfl ?_); refine goesA (some 24) Tryz.func47 #[.agg #[.bool a0_0, .int .u64 a0_1, .int .u64 a0_2]] ?_; (with_reducible refine (addr_Reverse.calls kj5 a0_0 a0_1 a0_2 t229 t230 _ ?side1 A16.out).mono ?_); (case side1 => exact Laid.below HLD.out (pE HB)); rintro e w29 ⟨rfl, hb⟩; refine ⟨_, rfl, ?_⟩; replace BK227 := (pB BK227 hb); replace HB := (pS HB hb); (try clear hb)))
       go_ret2
       exact pR (pE HB)

/-! ### prefix_Bounds: function 10 -/
def prefix_Bounds.f (a0_0 : Bool) (a0_1 : Int) (a0_2 : Int) (a0_3 : Int) : Option (Bool × Int × Int × Bool × Int × Int × Bool) := (prefix_Valid.f a0_0 a0_1 a0_2 a0_3).bind fun t237 => (if t237 = true then ((prefix_later.f a0_0 a0_3).bind fun bt238 => (some (a0_0, a0_1, a0_2, a0_0, Go.bits .or .u64 a0_1 bt238.1, Go.bits .or .u64 a0_2 bt238.2, true))) else (some (false, 0, 0, false, 0, 0, false)))
set_option maxHeartbeats 40000000 in
set_option maxRecDepth 100000 in
theorem prefix_Bounds.calls (a0_0 : Bool) (a0_1 : Int) (a0_2 : Int) (a0_3 : Int) (r1 : Bool) (r2 : Int) (r3 : Int) (r4 : Bool) (r5 : Int) (r6 : Int) (r7 : Bool) (w : World) (h : prefix_Bounds.f a0_0 a0_1 a0_2 a0_3 = some (r1, r2, r3, r4, r5, r6, r7)) :
 Calls Tryz.prog 10 #[.agg #[.bool a0_0, .int .u64 a0_1, .int .u64 a0_2, .int .i64 a0_3]] w fun e w' => e = .returned (.tuple #[.agg #[.bool r1, .int .u64 r2, .int .u64 r3, .bool r4, .int .u64 r5, .int .u64 r6], .bool r7]) ∧ Below w.heap.size w w' := by
 have hbl10 : Tryz.prog.built 33 [] = some #[(.bool false), (.int .u64 0), (.int .u64 0), (.bool false), (.int .u64 0), (.int .u64 0)] := by kernel_rfl
 have hbl35 : ∀ (x1_ : Bool) (x2_ : Int) (x3_ : Int) (x4_ : Bool) (x5_ : Int) (x6_ : Int), Tryz.prog.built 33 [(0, (.agg #[(.bool x1_), (.int .u64 x2_), (.int .u64 x3_)])), (1, (.agg #[(.bool x4_), (.int .u64 x5_), (.int .u64 x6_)]))] = some #[(.bool x1_), (.int .u64 x2_), (.int .u64 x3_), (.bool x4_), (.int .u64 x5_), (.int .u64 x6_)] := by intros; kernel_rfl
 have hu26 := Tryz.underlying26
 have hu33 := Tryz.underlying33
 have hu24 := Tryz.underlying24
 have HB := Aside0.mk (Below.refl w.heap.size w)
 have H : ((prefix_Valid.f a0_0 a0_1 a0_2 a0_3).bind fun t237 => (if t237 = true then ((prefix_later.f a0_0 a0_3).bind fun bt238 => (some (a0_0, a0_1, a0_2, a0_0, Go.bits .or .u64 a0_1 bt238.1, Go.bits .or .u64 a0_2 bt238.2, true))) else (some (false, 0, 0, false, 0, 0, false)))) = some (r1, r2, r3, r4, r5, r6, r7) := h
 clear h
 replace H := Option.bind_eq_some_iff.mp H
 obtain ⟨t237, A20, H⟩ := H
 have A2 := Aside0.mk A20
 clear A20
 by_cases c3 : t237 = true
 ·
  subst c3
  have H1 : ((prefix_later.f a0_0 a0_3).bind fun bt238 => (some (a0_0, a0_1, a0_2, a0_0, Go.bits .or .u64 a0_1 bt238.1, Go.bits .or .u64 a0_2 bt238.2, true))) = some (r1, r2, r3, r4, r5, r6, r7) := by rw [if_pos rfl] at H; exact H
  clear H
  have H := H1
  clear H1
  replace H := Option.bind_eq_some_iff.mp H
  obtain ⟨⟨t238, t239⟩, A40, H⟩ := H
  replace H : (some (a0_0, a0_1, a0_2, a0_0, Go.bits .or .u64 a0_1 t238, Go.bits .or .u64 a0_2 t239, true)) = some (r1, r2, r3, r4, r5, r6, r7) := H
  have A4 := Aside0.mk A40
  clear A40
  simp only [Option.some.injEq, Prod.mk.injEq] at H
  obtain ⟨rfl, rfl, rfl, rfl, rfl, rfl, rfl⟩ := H
  go_enter Tryz.func10, Tryz.ntmps10
  go_wp2_with (first | ((with_reducible refine gate_dst (N := 10) rfl ?_); refine Ext.wpList_buildC ?hgd 33 _ ?ho ?hb ?_; (case hgd => rfl); (case ho => rfl); (case hb => ((try go_simp); exact hbl10))) | ((with_reducible refine gate_dst (N := 35) rfl ?_); refine Ext.wpList_buildC ?hgd 33 _ ?ho ?hb ?_; (case hgd => rfl); (case ho => rfl); (case hb => ((try go_simp); exact hbl35 _ _ _ _ _ _))) | ((with_reducible refine gate_dst (N := 1) rfl ?_); refine boxA (N := 1) (cs := #[.bool a0_0, .int .u64 a0_1, .int .u64 a0_2, .int .i64 a0_3]) (t := 26) ?_; intro gb235 hg w5 hbox hb; have BK235 := Aside0.mk (hbox); have GW235 := (pZ HB hg); have GE235 := (pZ HB hg); replace HB := (pS HB hb); clear hb hbox hg) | ((with_reducible refine gate_dst (N := 2) rfl ?_); refine boxA (N := 2) (cs := #[.bool false, .int .u64 0, .int .u64 0, .bool false, .int .u64 0, .int .u64 0]) (t := 33) ?_; intro gb236 hg w6 hbox hb; have BK236 := Aside0.mk (hbox); have GW236 := (pZ HB hg); have GE236 := (pZ HB hg); have NB235_236 := (pL BK235 hg); have NB236_235 := (pG BK235 hg); replace BK235 := (pB BK235 hb); replace HB := (pS HB hb); clear hb hbox hg; have hnb7 := NB235_236.out; have hnc7 := NB236_235.out; obtain ⟨hcz8_0, hcz8_1, hcz8_2, hcz8_3, hfz8_0, hfz8_1, hfz8_2, hfz8_3⟩ := pC4 BK235) | ((with_reducible refine gate_callee (f := 26) rfl ?_); refine goesA (some 8) Tryz.func26 #[.agg #[.bool a0_0, .int .u64 a0_1, .int .u64 a0_2, .int .i64 a0_3]] ?_; (with_reducible refine (prefix_Valid.calls a0_0 a0_1 a0_2 a0_3 true _ A2.out).mono ?_); rintro e w9 ⟨rfl, hb⟩; refine ⟨_, rfl, ?_⟩; replace BK235 := (pB BK235 hb); replace BK236 := (pB BK236 hb); replace HB := (pS HB hb); (try clear hb); obtain ⟨hcz10_0, hcz10_1, hcz10_2, hcz10_3, hfz10_0, hfz10_1, hfz10_2, hfz10_3⟩ := pC4 BK235) | ((with_reducible refine gate_callee (f := 43) rfl ?_); refine goesA (some 17) Tryz.func43 #[.bool a0_0, .int .i64 a0_3] ?_; (with_reducible refine (prefix_later.calls a0_0 a0_3 t238 t239 _ A4.out).mono ?_); rintro e w' ⟨rfl, ⟨nd, rfl⟩⟩; refine ⟨_, rfl, ?_⟩; (try (rw [drewN_self w9]; generalize hq_ : World.drewN w9 _ = w9; replace BK235 : Aside0 (w9.heap[gb235]? = some (.cells #[.bool a0_0, .int .u64 a0_1, .int .u64 a0_2, .int .i64 a0_3] 26 (0, 0))) := ⟨by rw [← hq_]; exact (pM BK235)⟩; replace BK236 : Aside0 (w9.heap[gb236]? = some (.cells #[.bool false, .int .u64 0, .int .u64 0, .bool false, .int .u64 0, .int .u64 0] 33 (0, 0))) := ⟨by rw [← hq_]; exact (pM BK236)⟩; replace HB : Aside0 (Below w.heap.size w w9) := ⟨by rw [← hq_]; exact (by repeat (first | (with_reducible first | exact HB.out | apply below_alloc | apply pw_below_drewN | apply below_drew1 | refine below_set ?_ GE235.out | refine below_set ?_ GE236.out) | exact HB.out))⟩; clear hq_)); obtain ⟨hcz11_0, hcz11_1, hcz11_2, hcz11_3, hfz11_0, hfz11_1, hfz11_2, hfz11_3⟩ := pC4 BK235) | ((with_reducible refine gate_dst (N := 6) rfl ?_); refine boxA (N := 6) (cs := #[.bool false, .int .u64 0, .int .u64 0]) (t := 24) ?_; intro gb240 hg w12 hbox hb; have BK240 := Aside0.mk (hbox); have GE240 := (pZ HB hg); have NB235_240 := (pL BK235 hg); have NB240_235 := (pG BK235 hg); have NB236_240 := (pL BK236 hg); have NB240_236 := (pG BK236 hg); replace BK235 := (pB BK235 hb); replace BK236 := (pB BK236 hb); replace HB := (pS HB hb); clear hb hbox hg; have hnb13 := NB240_235.out; have hnc13 := NB235_240.out; have hnb14 := NB240_236.out; have hnc14 := NB236_240.out; obtain ⟨hcz15_0, hcz15_1, hcz15_2, hfz15_0, hfz15_1, hfz15_2⟩ := pC3 BK240; obtain ⟨hcz16_0, hcz16_1, hcz16_2, hcz16_3, hfz16_0, hfz16_1, hfz16_2, hfz16_3⟩ := pC4 BK235; obtain ⟨hcz17_0, hcz17_1, hcz17_2, hcz17_3, hcz17_4, hcz17_5, hfz17_0, hfz17_1, hfz17_2, hfz17_3, hfz17_4, hfz17_5⟩ := pC6 BK236) | ((with_reducible refine gate_store (t := 33) (p := 2) rfl ?_); refine store_event (t := 33) (p := 2) (v := ?vo_w18) (w1 := (((((((((((w12.setCell ⟨gb240, 0, none⟩ (.bool a0_0)).setCell ⟨gb240, 1, none⟩ (.int .u64 a0_1)).setCell ⟨gb240, 2, none⟩ (.int .u64 a0_2)).setCell ⟨gb240, 1, none⟩ (.int .u64 (Go.bits .or .u64 a0_1 t238))).setCell ⟨gb240, 2, none⟩ (.int .u64 (Go.bits .or .u64 a0_2 t239))).setCell ⟨gb236, 0, none⟩ (.bool a0_0)).setCell ⟨gb236, 1, none⟩ (.int .u64 a0_1)).setCell ⟨gb236, 2, none⟩ (.int .u64 a0_2)).setCell ⟨gb236, 3, none⟩ (.bool a0_0)).setCell ⟨gb236, 4, none⟩ (.int .u64 (Go.bits .or .u64 a0_1 t238))).setCell ⟨gb236, 5, none⟩ (.int .u64 (Go.bits .or .u64 a0_2 t239)))) ?hg ?ho ?hn ?hr ?_; (case ho => rfl); (case hg => rfl); (case hn => rfl); (case hr => first | (exact Ext.run_store_chain 33 _ _ rfl _ _ _ _ rfl rfl (pK NB236_240 (pK NB236_240 (pK NB236_240 (pK NB236_240 (pK NB236_240 (pM BK236)))))) (by kernel_rfl) rfl rfl rfl) | (go_simp; done) | (go_simp; rfl)); intro w18 hw; replace BK235 : Aside0 (w18.heap[gb235]? = some (.cells #[.bool a0_0, .int .u64 a0_1, .int .u64 a0_2, .int .i64 a0_3] 26 (0, 0))) := (pW hw (pK NB235_236 (pK NB235_236 (pK NB235_236 (pK NB235_236 (pK NB235_236 (pK NB235_236 (pK NB235_240 (pK NB235_240 (pK NB235_240 (pK NB235_240 (pK NB235_240 (pM BK235))))))))))))); replace BK236 : Aside0 (w18.heap[gb236]? = some (.cells #[.bool a0_0, .int .u64 a0_1, .int .u64 a0_2, .bool a0_0, .int .u64 (Go.bits .or .u64 a0_1 t238), .int .u64 (Go.bits .or .u64 a0_2 t239)] 33 (0, 0))) := (pW hw (pP (pP (pP (pP (pP (pP (pK NB236_240 (pK NB236_240 (pK NB236_240 (pK NB236_240 (pK NB236_240 (pM BK236))))))))))))); replace BK240 : Aside0 (w18.heap[gb240]? = some (.cells #[.bool a0_0, .int .u64 (Go.bits .or .u64 a0_1 t238), .int .u64 (Go.bits .or .u64 a0_2 t239)] 24 (0, 0))) := (pW hw (pK NB240_236 (pK NB240_236 (pK NB240_236 (pK NB240_236 (pK NB240_236 (pK NB240_236 (pP (pP (pP (pP (pP (pM BK240))))))))))))); replace HB : Aside0 (Below w.heap.size w w18) := ⟨(by rw [hw]; exact (by repeat (first | (with_reducible first | exact HB.out | apply below_alloc | apply pw_below_drewN | apply below_drew1 | refine below_set ?_ GE235.out | refine below_set ?_ GE236.out | refine below_set ?_ GE240.out) | exact HB.out)))⟩; clear hw))
  refine bodyPost_ret (results_ct rfl _ _ gb236 33 #[.bool a0_0, .int .u64 a0_1, .int .u64 a0_2, .bool a0_0, .int .u64 (Go.bits .or .u64 a0_1 t238), .int .u64 (Go.bits .or .u64 a0_2 t239)] (0, 0) _ rfl (pM BK236) Tryz.underlying33 rfl (by kernel_rfl)) rfl ?_
  exact pR (pE HB)
 ·
  replace c3 := Bool.eq_false_iff.mpr c3
  subst c3
  rw [if_neg (show ¬ (false = true) by decide)] at H
  simp only [Option.some.injEq, Prod.mk.injEq] at H
  obtain ⟨rfl, rfl, rfl, rfl, rfl, rfl, rfl⟩ := H
  go_enter Tryz.func10, Tryz.ntmps10
  go_wp2_with (first | ((with_reducible refine gate_dst (N := 10) rfl ?_); refine Ext.wpList_buildC ?hgd 33 _ ?ho ?hb ?_; (case hgd => rfl); (case ho => rfl); (case hb => ((try go_simp); exact hbl10))) | ((with_reducible refine gate_dst (N := 35) rfl ?_); refine Ext.wpList_buildC ?hgd 33 _ ?ho ?hb ?_; (case hgd => rfl); (case ho => rfl); (case hb => ((try go_simp); exact hbl35 _ _ _ _ _ _))) | ((with_reducible refine gate_dst (N := 1) rfl ?_); refine boxA (N := 1) (cs := #[.bool a0_0, .int .u64 a0_1, .int .u64 a0_2, .int .i64 a0_3]) (t := 26) ?_; intro gb235 hg w19 hbox hb; have BK235 := Aside0.mk (hbox); have GW235 := (pZ HB hg); have GE235 := (pZ HB hg); replace HB := (pS HB hb); clear hb hbox hg) | ((with_reducible refine gate_dst (N := 2) rfl ?_); refine boxA (N := 2) (cs := #[.bool false, .int .u64 0, .int .u64 0, .bool false, .int .u64 0, .int .u64 0]) (t := 33) ?_; intro gb236 hg w20 hbox hb; have BK236 := Aside0.mk (hbox); have GW236 := (pZ HB hg); have GE236 := (pZ HB hg); have NB235_236 := (pL BK235 hg); have NB236_235 := (pG BK235 hg); replace BK235 := (pB BK235 hb); replace HB := (pS HB hb); clear hb hbox hg; have hnb21 := NB235_236.out; have hnc21 := NB236_235.out; obtain ⟨hcz22_0, hcz22_1, hcz22_2, hcz22_3, hfz22_0, hfz22_1, hfz22_2, hfz22_3⟩ := pC4 BK235) | ((with_reducible refine gate_callee (f := 26) rfl ?_); refine goesA (some 8) Tryz.func26 #[.agg #[.bool a0_0, .int .u64 a0_1, .int .u64 a0_2, .int .i64 a0_3]] ?_; (with_reducible refine (prefix_Valid.calls a0_0 a0_1 a0_2 a0_3 false _ A2.out).mono ?_); rintro e w23 ⟨rfl, hb⟩; refine ⟨_, rfl, ?_⟩; replace BK235 := (pB BK235 hb); replace BK236 := (pB BK236 hb); replace HB := (pS HB hb); (try clear hb); obtain ⟨hcz24_0, hcz24_1, hcz24_2, hcz24_3, hcz24_4, hcz24_5, hfz24_0, hfz24_1, hfz24_2, hfz24_3, hfz24_4, hfz24_5⟩ := pC6 BK236) | ((with_reducible refine gate_store (t := 33) (p := 2) rfl ?_); refine store_event (t := 33) (p := 2) (v := ?vo_w25) (w1 := ((((((w23.setCell ⟨gb236, 0, none⟩ (.bool false)).setCell ⟨gb236, 1, none⟩ (.int .u64 0)).setCell ⟨gb236, 2, none⟩ (.int .u64 0)).setCell ⟨gb236, 3, none⟩ (.bool false)).setCell ⟨gb236, 4, none⟩ (.int .u64 0)).setCell ⟨gb236, 5, none⟩ (.int .u64 0))) ?hg ?ho ?hn ?hr ?_; (case ho => rfl); (case hg => rfl); (case hn => rfl); (case hr => first | (exact Ext.run_store_chain 33 _ _ rfl _ _ _ _ rfl rfl (pM BK236) (by kernel_rfl) rfl rfl rfl) | (go_simp; done) | (go_simp; rfl)); intro w25 hw; replace BK235 : Aside0 (w25.heap[gb235]? = some (.cells #[.bool a0_0, .int .u64 a0_1, .int .u64 a0_2, .int .i64 a0_3] 26 (0, 0))) := (pW hw (pK NB235_236 (pK NB235_236 (pK NB235_236 (pK NB235_236 (pK NB235_236 (pK NB235_236 (pM BK235)))))))); replace BK236 : Aside0 (w25.heap[gb236]? = some (.cells #[.bool false, .int .u64 0, .int .u64 0, .bool false, .int .u64 0, .int .u64 0] 33 (0, 0))) := (pW hw (pP (pP (pP (pP (pP (pP (pM BK236)))))))); replace HB : Aside0 (Below w.heap.size w w25) := ⟨(by rw [hw]; exact (by repeat (first | (with_reducible first | exact HB.out | apply below_alloc | apply pw_below_drewN | apply below_drew1 | refine below_set ?_ GE235.out | refine below_set ?_ GE236.out) | exact HB.out)))⟩; clear hw))
  refine bodyPost_ret (results_ct rfl _ _ gb236 33 #[.bool false, .int .u64 0, .int .u64 0, .bool false, .int .u64 0, .int .u64 0] (0, 0) _ rfl (pM BK236) Tryz.underlying33 rfl (by kernel_rfl)) rfl ?_
  exact pR (pE HB)

/-! ### addr_number: function 74 -/
def addr_number.f (a0 : Int) (a1 : Int) : Option (Int) := if a0 < a1 then (some (-1)) else (if a0 > a1 then (some 1) else (some 0))
set_option maxHeartbeats 40000000 in
set_option maxRecDepth 100000 in
theorem addr_number.calls (a0 : Int) (a1 : Int) (r : Int) (w : World) (h : addr_number.f a0 a1 = some r) :
 Calls Tryz.prog 74 #[.int .u64 a0, .int .u64 a1] w fun e w' => e = .returned (.int .i64 r) ∧ Drawn0 w w' := by
 have H : (if a0 < a1 then (some (-1)) else (if a0 > a1 then (some 1) else (some 0))) = some r := h
 clear h
 by_cases c3 : a0 < a1
 ·
  rw [if_pos c3] at H
  have c3b0 := decide_eq_true c3
  clear c3
  obtain rfl := Option.some.inj H
  go_enter Tryz.func74, Tryz.ntmps74
  go_wp2
  go_ret
  exact ⟨by first | rfl | (simp; done) | (simp [*]; done) | ((try simp only [Bool.not_not]); (generalize ByteArray.toList _ = l_); cases l_ <;> rfl) | (simp; (generalize ByteArray.toList _ = l_); cases l_ <;> rfl), by repeat (first | exact Drawn0.refl _ | apply Drawn0.step)⟩
 ·
  rw [if_neg c3] at H
  have c3b0 := decide_eq_false c3
  clear c3
  by_cases c4 : a0 > a1
  ·
   rw [if_pos c4] at H
   have c4b0 := decide_eq_true c4
   clear c4
   obtain rfl := Option.some.inj H
   go_enter Tryz.func74, Tryz.ntmps74
   go_wp2
   go_ret
   exact ⟨by first | rfl | (simp; done) | (simp [*]; done) | ((try simp only [Bool.not_not]); (generalize ByteArray.toList _ = l_); cases l_ <;> rfl) | (simp; (generalize ByteArray.toList _ = l_); cases l_ <;> rfl), by repeat (first | exact Drawn0.refl _ | apply Drawn0.step)⟩
  ·
   rw [if_neg c4] at H
   have c4b0 := decide_eq_false c4
   clear c4
   obtain rfl := Option.some.inj H
   go_enter Tryz.func74, Tryz.ntmps74
   go_wp2
   go_ret
   exact ⟨by first | rfl | (simp; done) | (simp [*]; done) | ((try simp only [Bool.not_not]); (generalize ByteArray.toList _ = l_); cases l_ <;> rfl) | (simp; (generalize ByteArray.toList _ = l_); cases l_ <;> rfl), by repeat (first | exact Drawn0.refl _ | apply Drawn0.step)⟩

/-! ### addr_Compare: function 51 -/
def addr_Compare.j0 : Nat → Bool → Bool → Int → Int → Bool → Int → Int → Option (Int)
 | 0, _, _, _, _, _, _, _ => none
 | k + 1, x5, x242000, x242001, x242002, x243000, x243001, x243002 => if x5 = true then (some (-1)) else (if (x242000 != x243000) = true then (some 1) else (if x242001 = x243001 then ((addr_number.f x242002 x243002).bind fun t243 => (some t243)) else ((addr_number.f x242001 x243001).bind fun t244 => (some t244))))
def addr_Compare.f (k : Nat) (a0_0 : Bool) (a0_1 : Int) (a0_2 : Int) (a1_0 : Bool) (a1_1 : Int) (a1_2 : Int) : Option (Int) := if (a0_0 != a1_0) = true then (addr_Compare.j0 k a1_0 a0_0 a0_1 a0_2 a1_0 a1_1 a1_2) else (addr_Compare.j0 k false a0_0 a0_1 a0_2 a1_0 a1_1 a1_2)
theorem addr_Compare.mono_l : ∀ k, (∀ y0 y1 y2 y3 y4 y5 y6, LeO (addr_Compare.j0 k y0 y1 y2 y3 y4 y5 y6) (addr_Compare.j0 (k + 1) y0 y1 y2 y3 y4 y5 y6))
 | 0 => fun _ _ _ _ _ _ _ r h => by simp [addr_Compare.j0] at h
 | k + 1 => by
  have ih0 := addr_Compare.mono_l k
  ·
   intro y0 y1 y2 y3 y4 y5 y6
   unfold addr_Compare.j0
   repeat' with_reducible first | exact ih0 _ _ _ _ _ _ _ | exact LeO.refl _ | exact LeO.none _ | refine LeO.ite ?_ ?_ | refine LeO.bind ?_ (fun _ => ?_)
theorem addr_Compare.mono : ∀ a0 a1 a2 a3 a4 a5 k, LeO (addr_Compare.f k a0 a1 a2 a3 a4 a5) (addr_Compare.f (k + 1) a0 a1 a2 a3 a4 a5) := by
 intro a0 a1 a2 a3 a4 a5 k
 have ih0 := addr_Compare.mono_l k
 unfold addr_Compare.f
 repeat' with_reducible first | exact ih0 _ _ _ _ _ _ _ | exact LeO.refl _ | exact LeO.none _ | refine LeO.ite ?_ ?_ | refine LeO.bind ?_ (fun _ => ?_)
set_option maxHeartbeats 40000000 in
set_option maxRecDepth 100000 in
theorem addr_Compare.calls (k : Nat) (a0_0 : Bool) (a0_1 : Int) (a0_2 : Int) (a1_0 : Bool) (a1_1 : Int) (a1_2 : Int) (r : Int) (w : World) (h : addr_Compare.f k a0_0 a0_1 a0_2 a1_0 a1_1 a1_2 = some r) :
 Calls Tryz.prog 51 #[.agg #[.bool a0_0, .int .u64 a0_1, .int .u64 a0_2], .agg #[.bool a1_0, .int .u64 a1_1, .int .u64 a1_2]] w fun e w' => e = .returned (.int .i64 r) ∧ Below w.heap.size w w' := by
 have hu24 := Tryz.underlying24
 have HB := Aside0.mk (Below.refl w.heap.size w)
 have H : (if (a0_0 != a1_0) = true then (addr_Compare.j0 k a1_0 a0_0 a0_1 a0_2 a1_0 a1_1 a1_2) else (addr_Compare.j0 k false a0_0 a0_1 a0_2 a1_0 a1_1 a1_2)) = some r := h
 clear h
 have HC3 := Aside0.mk H
 clear H
 go_enter Tryz.func51, Tryz.ntmps51
 go_upto_region 1 with (first | ((with_reducible refine gate_dst (N := 2) rfl ?_); refine boxA (N := 2) (cs := #[.bool a0_0, .int .u64 a0_1, .int .u64 a0_2]) (t := 24) ?_; intro gb241 hg w4 hbox hb; have BK241 := Aside0.mk (hbox); have GE241 := (pZ HB hg); replace HB := (pS HB hb); clear hb hbox hg) | ((with_reducible refine gate_dst (N := 3) rfl ?_); refine boxA (N := 3) (cs := #[.bool a1_0, .int .u64 a1_1, .int .u64 a1_2]) (t := 24) ?_; intro gb242 hg w5 hbox hb; have BK242 := Aside0.mk (hbox); have GE242 := (pZ HB hg); have NB241_242 := (pL BK241 hg); have NB242_241 := (pG BK241 hg); replace BK241 := (pB BK241 hb); replace HB := (pS HB hb); clear hb hbox hg))
 (try simp only [Act.put, List.setIfInBounds_toArray, List.set_cons_zero, List.set_cons_succ])
 go_cut [5] (fun v5 wc => ∃ (kq : Nat) (x5_2 : Bool), v5 = .bool x5_2 ∧ Aside0 (addr_Compare.j0 kq x5_2 a0_0 a0_1 a0_2 a1_0 a1_1 a1_2 = some r) ∧ Aside0 (kq ≤ k) ∧ Aside0 (wc.heap[gb241]? = some (.cells #[.bool a0_0, .int .u64 a0_1, .int .u64 a0_2] 24 (0, 0))) ∧ Aside0 (wc.heap[gb242]? = some (.cells #[.bool a1_0, .int .u64 a1_1, .int .u64 a1_2] 24 (0, 0))) ∧ Aside0 (Below w.heap.size w wc))
 case first =>
  have H := HC3.out
  clear HC3
  by_cases c6 : (a0_0 != a1_0) = true
  ·
   rw [if_pos c6] at H
   have c6b0 : (a0_0 != a1_0) = true := c6
   (try (have c6b1 : decide (a0_0 = a1_0) = false := by simpa using c6))
   (try (have c6b2 : (a0_0 == a1_0) = false := by simpa using c6))
   (try (have c6b3 : ¬ (a0_0 = a1_0) := by simpa using c6))
   clear c6
   (first | rw [c6b0] | (simp only [i64_w, i32_w]; rw [c6b0]) | skip)
   have H' := Aside0.mk H
   clear H
   have hnb7 := NB241_242.out
   have hnc7 := NB242_241.out
   obtain ⟨hcz8_0, hcz8_1, hcz8_2, hfz8_0, hfz8_1, hfz8_2⟩ := pC3 BK241
   obtain ⟨hcz9_0, hcz9_1, hcz9_2, hfz9_0, hfz9_1, hfz9_2⟩ := pC3 BK242
   go_wp2
   refine Met.intro ?_
   go_step
   (repeat apply Exists.intro)
   refine ⟨?rel, ?heq_⟩
   case heq_ => first | rfl | (rw [c6b0]) | (simp only [c6b0])
   case rel => exact ⟨_, (a1_0), pT, H', ⟨by first | omega | exact Nat.le_refl _⟩, ⟨pM BK241⟩, ⟨pM BK242⟩, ⟨pE HB⟩⟩
  ·
   rw [if_neg c6] at H
   have c6b0 : (a0_0 != a1_0) = false := by simpa using c6
   (try (have c6b1 : decide (a0_0 = a1_0) = true := by simpa using c6))
   (try (have c6b2 : (a0_0 == a1_0) = true := by simpa using c6))
   clear c6
   (first | rw [c6b0] | (simp only [i64_w, i32_w]; rw [c6b0]) | skip)
   have H' := Aside0.mk H
   clear H
   have hnb10 := NB241_242.out
   have hnc10 := NB242_241.out
   obtain ⟨hcz11_0, hcz11_1, hcz11_2, hfz11_0, hfz11_1, hfz11_2⟩ := pC3 BK241
   obtain ⟨hcz12_0, hcz12_1, hcz12_2, hfz12_0, hfz12_1, hfz12_2⟩ := pC3 BK242
   go_wp2
   refine Met.intro ?_
   go_step
   (repeat apply Exists.intro)
   refine ⟨?rel, ?heq_⟩
   case heq_ => first | rfl | (rw [c6b0]) | (simp only [c6b0])
   case rel => exact ⟨_, (false), pT, H', ⟨by first | omega | exact Nat.le_refl _⟩, ⟨pM BK241⟩, ⟨pM BK242⟩, ⟨pE HB⟩⟩
 case rest =>
  clear HC3
  obtain ⟨kq, x5_2, rfl, HA, HJ2, BK241, BK242, HB⟩ := hcut
  cases kq with
  | zero => exact absurd HA.out (by simp [addr_Compare.j0])
  | succ kj2 =>
   have H := HA.out
   clear HA
   simp only [addr_Compare.j0] at H
   by_cases c13 : x5_2 = true
   ·
    subst c13
    rw [if_pos rfl] at H
    obtain rfl := Option.some.inj H
    go_wp2
    go_ret
    exact pR (pE HB)
   ·
    replace c13 := Bool.eq_false_iff.mpr c13
    subst c13
    rw [if_neg (show ¬ (false = true) by decide)] at H
    by_cases c14 : (a0_0 != a1_0) = true
    ·
     rw [if_pos c14] at H
     have c14b0 : (a0_0 != a1_0) = true := c14
     (try (have c14b1 : decide (a0_0 = a1_0) = false := by simpa using c14))
     (try (have c14b2 : (a0_0 == a1_0) = false := by simpa using c14))
     (try (have c14b3 : ¬ (a0_0 = a1_0) := by simpa using c14))
     clear c14
     obtain rfl := Option.some.inj H
     have hnb15 := NB241_242.out
     have hnc15 := NB242_241.out
     obtain ⟨hcz16_0, hcz16_1, hcz16_2, hfz16_0, hfz16_1, hfz16_2⟩ := pC3 BK241
     obtain ⟨hcz17_0, hcz17_1, hcz17_2, hfz17_0, hfz17_1, hfz17_2⟩ := pC3 BK242
     go_wp2
     go_ret
     exact pR (pE HB)
    ·
     rw [if_neg c14] at H
     have c14b0 : (a0_0 != a1_0) = false := by simpa using c14
     (try (have c14b1 : decide (a0_0 = a1_0) = true := by simpa using c14))
     (try (have c14b2 : (a0_0 == a1_0) = true := by simpa using c14))
     clear c14
     by_cases c18 : a0_1 = a1_1
     ·
      rw [if_pos c18] at H
      have c18b0 : (a0_1 == a1_1) = true := beq_iff_eq.mpr c18
      have c18b1 : (a0_1 != a1_1) = false := bne_eq_false_iff_eq.mpr c18
      clear c18
      replace H := Option.bind_eq_some_iff.mp H
      obtain ⟨t243, A190, H⟩ := H
      have A19 := Aside0.mk A190
      clear A190
      obtain rfl := Option.some.inj H
      have hnb20 := NB241_242.out
      have hnc20 := NB242_241.out
      obtain ⟨hcz21_0, hcz21_1, hcz21_2, hfz21_0, hfz21_1, hfz21_2⟩ := pC3 BK241
      obtain ⟨hcz22_0, hcz22_1, hcz22_2, hfz22_0, hfz22_1, hfz22_2⟩ := pC3 BK242
      go_wp2_with (first | ((with_reducible refine gate_callee (f := 74) rfl ?_); refine goesA (some 36) Tryz.func74 #[.int .u64 a0_2, .int .u64 a1_2] ?_; (with_reducible refine (addr_number.calls a0_2 a1_2 t243 _ A19.out).mono ?_); rintro e w' ⟨rfl, ⟨nd, rfl⟩⟩; refine ⟨_, rfl, ?_⟩))
      go_ret
      exact pR (pE HB)
     ·
      rw [if_neg c18] at H
      have c18b0 : (a0_1 == a1_1) = false := beq_eq_false_iff_ne.mpr c18
      have c18b1 : (a0_1 != a1_1) = true := bne_iff_ne.mpr c18
      replace H := Option.bind_eq_some_iff.mp H
      obtain ⟨t244, A230, H⟩ := H
      have A23 := Aside0.mk A230
      clear A230
      obtain rfl := Option.some.inj H
      have hnb24 := NB241_242.out
      have hnc24 := NB242_241.out
      obtain ⟨hcz25_0, hcz25_1, hcz25_2, hfz25_0, hfz25_1, hfz25_2⟩ := pC3 BK241
      obtain ⟨hcz26_0, hcz26_1, hcz26_2, hfz26_0, hfz26_1, hfz26_2⟩ := pC3 BK242
      go_wp2_with (first | ((with_reducible refine gate_callee (f := 74) rfl ?_); refine goesA (some 31) Tryz.func74 #[.int .u64 a0_1, .int .u64 a1_1] ?_; (with_reducible refine (addr_number.calls a0_1 a1_1 t244 _ A23.out).mono ?_); rintro e w' ⟨rfl, ⟨nd, rfl⟩⟩; refine ⟨_, rfl, ?_⟩))
      go_ret
      exact pR (pE HB)

/-! ### prefix_value: function 75 -/
def prefix_value.f (a0_0 : Bool) (a0_1 : Int) (a0_2 : Int) : Option (Int × Int) := some (a0_1, a0_2)
set_option maxHeartbeats 40000000 in
set_option maxRecDepth 100000 in
theorem prefix_value.calls (a0_0 : Bool) (a0_1 : Int) (a0_2 : Int) (r1 : Int) (r2 : Int) (w : World) (h : prefix_value.f a0_0 a0_1 a0_2 = some (r1, r2)) :
 Calls Tryz.prog 75 #[.agg #[.bool a0_0, .int .u64 a0_1, .int .u64 a0_2]] w fun e w' => e = .returned (.tuple #[.int .u64 r1, .int .u64 r2]) ∧ Below w.heap.size w w' := by
 have hu24 := Tryz.underlying24
 have HB := Aside0.mk (Below.refl w.heap.size w)
 have H : (some (a0_1, a0_2)) = some (r1, r2) := h
 clear h
 simp only [Option.some.injEq, Prod.mk.injEq] at H
 obtain ⟨rfl, rfl⟩ := H
 go_enter Tryz.func75, Tryz.ntmps75
 go_wp2_with (first | ((with_reducible refine gate_dst (N := 1) rfl ?_); refine boxA (N := 1) (cs := #[.bool a0_0, .int .u64 a0_1, .int .u64 a0_2]) (t := 24) ?_; intro gb245 hg w2 hbox hb; have BK245 := Aside0.mk (hbox); have GW245 := (pZ HB hg); have GE245 := (pZ HB hg); replace HB := (pS HB hb); clear hb hbox hg; obtain ⟨hcz3_0, hcz3_1, hcz3_2, hfz3_0, hfz3_1, hfz3_2⟩ := pC3 BK245))
 repeat (go_quiet (first | ((with_reducible refine gate_dst (N := 1) rfl ?_); refine boxA (N := 1) (cs := #[.bool a0_0, .int .u64 a0_1, .int .u64 a0_2]) (t := 24) ?_; intro gb245 hg w2 hbox hb; have BK245 := Aside0.mk (hbox); have GW245 := (pZ HB hg); have GE245 := (pZ HB hg); replace HB := (pS HB hb); clear hb hbox hg; obtain ⟨hcz3_0, hcz3_1, hcz3_2, hfz3_0, hfz3_1, hfz3_2⟩ := pC3 BK245)); try go_wp2_with (first | ((with_reducible refine gate_dst (N := 1) rfl ?_); refine boxA (N := 1) (cs := #[.bool a0_0, .int .u64 a0_1, .int .u64 a0_2]) (t := 24) ?_; intro gb245 hg w2 hbox hb; have BK245 := Aside0.mk (hbox); have GW245 := (pZ HB hg); have GE245 := (pZ HB hg); replace HB := (pS HB hb); clear hb hbox hg; obtain ⟨hcz3_0, hcz3_1, hcz3_2, hfz3_0, hfz3_1, hfz3_2⟩ := pC3 BK245)))
 go_ret2
 exact pR (pE HB)

/-! ### bits_TrailingZeros64: function 76 (given) -/
def bits_TrailingZeros64.f (a0 : Int) : Option Int := if 0 ≤ a0 ∧ a0 < 18446744073709551616 then some ((Lib.ctz 64 a0.toNat : Nat) : Int) else none
theorem tzg_and (a b : Nat) (ha : a < 18446744073709551616) (hb : b < 18446744073709551616) : bits .and .u64 (a : Int) (b : Int) = ((a &&& b : Nat) : Int) := bits_and_u64_nat a b ha hb
theorem tzg_key (x a : Nat) (hx : x < 18446744073709551616) (hx0 : x ≠ 0) (hlow : x &&& (18446744073709551616 - x) = a) :
    IntKind.u64.wrap (bits BinOp.and IntKind.u64 (x : Int) (IntKind.u64.wrap (-(x : Int))) * 285870213051353865) / 288230376151711744 = ((a * 285870213051353865 % 18446744073709551616 / 288230376151711744 : Nat) : Int) := by
  have e1 : IntKind.u64.wrap (-(x : Int)) = ((18446744073709551616 - x : Nat) : Int) := by rw [IntKind.wrap_u64]; omega
  rw [e1, tzg_and x _ hx (by omega), hlow, IntKind.wrap_u64]
  omega
theorem tzg_core (x k idx : Nat) (w : World) (hx0 : ((x : Int) == 0) = false)
    (key : IntKind.u64.wrap (bits BinOp.and IntKind.u64 (x : Int) (IntKind.u64.wrap (-(x : Int))) * 285870213051353865) / 288230376151711744 = (idx : Int))
    (hi : idx < 64) (hk : k < 64) (hcell : w.cell? ⟨0, idx, none⟩ = some (.int .u8 k)) :
    Calls Tryz.prog 76 #[.int .u64 x] w fun e w' => e = .returned (.int .i64 k) ∧ w' = w := by
  go_enter Tryz.func76, Tryz.ntmps76
  go_wp2_with (simp only [key])
  go_ret
  exact ⟨rfl, rfl⟩
theorem tzg_zero (w : World) : Calls Tryz.prog 76 #[.int .u64 0] w fun e w' => e = .returned (.int .i64 64) ∧ w' = w := by
  go_enter Tryz.func76, Tryz.ntmps76
  go_wp2
  go_ret
  exact ⟨rfl, rfl⟩
theorem bits_TrailingZeros64.calls (a0 : Int) (r : Int) (w : World) (hLD : Laid w) (h : bits_TrailingZeros64.f a0 = some r) :
    Calls Tryz.prog 76 #[.int .u64 a0] w fun e w' => e = .returned (.int .i64 r) ∧ Below w.heap.size w w' := by
  unfold bits_TrailingZeros64.f at h
  by_cases hb : 0 ≤ a0 ∧ a0 < 18446744073709551616
  · rw [if_pos hb] at h
    obtain rfl := Option.some.inj h
    obtain ⟨x, rfl⟩ : ∃ x : Nat, a0 = x := ⟨a0.toNat, by omega⟩
    rw [Int.toNat_natCast]
    have hx : x < 18446744073709551616 := by omega
    by_cases h0 : x = 0
    · subst h0
      refine (tzg_zero w).mono ?_
      rintro e w' ⟨rfl, rfl⟩
      exact ⟨rfl, Below.refl _ _⟩
    · obtain ⟨hlow, hk⟩ := Lib.lowest_bit 64 x h0 hx
      obtain ⟨hi, htab⟩ := Lib.deBruijn64_at _ hk
      have hcell : w.cell? ⟨0, 2 ^ Lib.ctz 64 x * 285870213051353865 % 18446744073709551616 / 288230376151711744, none⟩ = some (.int .u8 ((Lib.ctz 64 x : Nat) : Int)) := by
        rw [hLD.bruijn.cell (show Tryz.prog.globalNamed "math/bits.deBruijn64tab" = some 0 by kernel_rfl) _ (by rw [List.length_map]; exact hi)]
        have e : (Lib.deBruijn64tab.map fun n : Nat => (n : Int)).getD (2 ^ Lib.ctz 64 x * 285870213051353865 % 18446744073709551616 / 288230376151711744) 0 = ((Lib.deBruijn64tab.getD (2 ^ Lib.ctz 64 x * 285870213051353865 % 18446744073709551616 / 288230376151711744) 0 : Nat) : Int) := by
          rw [List.getD_eq_getElem?_getD, List.getD_eq_getElem?_getD, List.getElem?_map]
          cases Lib.deBruijn64tab[2 ^ Lib.ctz 64 x * 285870213051353865 % 18446744073709551616 / 288230376151711744]? <;> rfl
        rw [e, htab]
      refine (tzg_core x _ _ w (by simp; omega) (tzg_key x _ hx h0 hlow) hi hk hcell).mono ?_
      rintro e w' ⟨rfl, rfl⟩
      exact ⟨rfl, Below.refl _ _⟩
  · rw [if_neg hb] at h; cases h

/-! ### prefix_zeros: function 52 -/
def prefix_zeros.f (a0_0 : Bool) (a0_1 : Int) (a0_2 : Int) : Option (Int) := (prefix_value.f a0_0 a0_1 a0_2).bind fun bt247 => ((bits_TrailingZeros64.f bt247.2).bind fun t249 => (if t249 = 64 then ((bits_TrailingZeros64.f bt247.1).bind fun t250 => ((prefix_length.f a0_0 a0_1 a0_2).bind fun t251 => (some (mn (wrap64 (t249 + t250)) t251)))) else ((prefix_length.f a0_0 a0_1 a0_2).bind fun t252 => (some (mn t249 t252)))))
set_option maxHeartbeats 40000000 in
set_option maxRecDepth 100000 in
theorem prefix_zeros.calls (a0_0 : Bool) (a0_1 : Int) (a0_2 : Int) (r : Int) (w : World) (hLD : Laid w) (h : prefix_zeros.f a0_0 a0_1 a0_2 = some r) :
 Calls Tryz.prog 52 #[.agg #[.bool a0_0, .int .u64 a0_1, .int .u64 a0_2]] w fun e w' => e = .returned (.int .i64 r) ∧ Below w.heap.size w w' := by
 have hu24 := Tryz.underlying24
 have HLD := Aside0.mk hLD
 clear hLD
 have HB := Aside0.mk (Below.refl w.heap.size w)
 have H : ((prefix_value.f a0_0 a0_1 a0_2).bind fun bt247 => ((bits_TrailingZeros64.f bt247.2).bind fun t249 => (if t249 = 64 then ((bits_TrailingZeros64.f bt247.1).bind fun t250 => ((prefix_length.f a0_0 a0_1 a0_2).bind fun t251 => (some (mn (wrap64 (t249 + t250)) t251)))) else ((prefix_length.f a0_0 a0_1 a0_2).bind fun t252 => (some (mn t249 t252)))))) = some r := h
 clear h
 replace H := Option.bind_eq_some_iff.mp H
 obtain ⟨⟨t247, t248⟩, A20, H⟩ := H
 replace H : ((bits_TrailingZeros64.f t248).bind fun t249 => (if t249 = 64 then ((bits_TrailingZeros64.f t247).bind fun t250 => ((prefix_length.f a0_0 a0_1 a0_2).bind fun t251 => (some (mn (wrap64 (t249 + t250)) t251)))) else ((prefix_length.f a0_0 a0_1 a0_2).bind fun t252 => (some (mn t249 t252))))) = some r := H
 have A2 := Aside0.mk A20
 clear A20
 replace H := Option.bind_eq_some_iff.mp H
 obtain ⟨t249, A30, H⟩ := H
 have A3 := Aside0.mk A30
 clear A30
 by_cases c4 : t249 = 64
 ·
  rw [if_pos c4] at H
  have c4b0 : (t249 == 64) = true := beq_iff_eq.mpr c4
  have c4b1 : (t249 != 64) = false := bne_eq_false_iff_eq.mpr c4
  clear c4
  replace H := Option.bind_eq_some_iff.mp H
  obtain ⟨t250, A50, H⟩ := H
  have A5 := Aside0.mk A50
  clear A50
  replace H := Option.bind_eq_some_iff.mp H
  obtain ⟨t251, A60, H⟩ := H
  have A6 := Aside0.mk A60
  clear A60
  obtain ⟨ji7, hji7⟩ : ∃ j_ : Int, (mn (wrap64 (t249 + t250)) t251) = j_ := ⟨_, rfl⟩
  replace H : (some ji7) = some r := by first | (rw [hji7] at H; exact H) | (simp only [hji7] at H ⊢; exact H)
  (try rw [hji7] at A2)
  (try rw [hji7] at A3)
  (try rw [hji7] at A5)
  (try rw [hji7] at A6)
  have hji7_ : (if t251 < (wrap64 (t249 + t250)) then t251 else (wrap64 (t249 + t250))) = ji7 := hji7
  obtain rfl := Option.some.inj H
  go_enter Tryz.func52, Tryz.ntmps52
  go_wp2_with (first | ((with_reducible refine gate_dst (N := 1) rfl ?_); refine boxA (N := 1) (cs := #[.bool a0_0, .int .u64 a0_1, .int .u64 a0_2]) (t := 24) ?_; intro gb246 hg w8 hbox hb; have BK246 := Aside0.mk (hbox); have GW246 := (pZ HB hg); have GE246 := (pZ HB hg); replace HB := (pS HB hb); clear hb hbox hg; obtain ⟨hcz9_0, hcz9_1, hcz9_2, hfz9_0, hfz9_1, hfz9_2⟩ := pC3 BK246) | ((with_reducible refine gate_callee (f := 75) rfl ?_); refine goesA (some 8) Tryz.func75 #[.agg #[.bool a0_0, .int .u64 a0_1, .int .u64 a0_2]] ?_; (with_reducible refine (prefix_value.calls a0_0 a0_1 a0_2 t247 t248 _ A2.out).mono ?_); rintro e w10 ⟨rfl, hb⟩; refine ⟨_, rfl, ?_⟩; replace BK246 := (pB BK246 hb); replace HB := (pS HB hb); (try clear hb)) | ((with_reducible refine gate_callee (f := 76) rfl ?_); refine goesA (some 12) Tryz.func76 #[.int .u64 t248] ?_; (with_reducible refine (bits_TrailingZeros64.calls t248 t249 _ ?side1 A3.out).mono ?_); (case side1 => exact Laid.below HLD.out (pE HB)); rintro e w11 ⟨rfl, hb⟩; refine ⟨_, rfl, ?_⟩; replace BK246 := (pB BK246 hb); replace HB := (pS HB hb); (try clear hb)) | ((with_reducible refine gate_callee (f := 76) rfl ?_); refine goesA (some 17) Tryz.func76 #[.int .u64 t247] ?_; (with_reducible refine (bits_TrailingZeros64.calls t247 t250 _ ?side1 A5.out).mono ?_); (case side1 => exact Laid.below HLD.out (pE HB)); rintro e w12 ⟨rfl, hb⟩; refine ⟨_, rfl, ?_⟩; replace BK246 := (pB BK246 hb); replace HB := (pS HB hb); (try clear hb); obtain ⟨hcz13_0, hcz13_1, hcz13_2, hfz13_0, hfz13_1, hfz13_2⟩ := pC3 BK246) | ((with_reducible refine gate_callee (f := 46) rfl ?_); refine goesA (some 21) Tryz.func46 #[.agg #[.bool a0_0, .int .u64 a0_1, .int .u64 a0_2]] ?_; (with_reducible refine (prefix_length.calls a0_0 a0_1 a0_2 t251 _ A6.out).mono ?_); rintro e w14 ⟨rfl, hb⟩; refine ⟨_, rfl, ?_⟩; replace BK246 := (pB BK246 hb); replace HB := (pS HB hb); (try clear hb)))
  go_ret
  exact ⟨by first | rfl | (simp [errW_none, errW_some] <;> rfl) | (simp only [← hji7]; first | rfl | (simp [errW_none, errW_some] <;> rfl)) | (simp [*, errW_none, errW_some] <;> rfl), by repeat (first | (with_reducible first | exact HB.out | apply below_alloc | apply pw_below_drewN | apply below_drew1 | refine below_set ?_ GE246.out) | exact HB.out)⟩
 ·
  rw [if_neg c4] at H
  have c4b0 : (t249 == 64) = false := beq_eq_false_iff_ne.mpr c4
  have c4b1 : (t249 != 64) = true := bne_iff_ne.mpr c4
  replace H := Option.bind_eq_some_iff.mp H
  obtain ⟨t252, A150, H⟩ := H
  have A15 := Aside0.mk A150
  clear A150
  obtain ⟨ji16, hji16⟩ : ∃ j_ : Int, (mn t249 t252) = j_ := ⟨_, rfl⟩
  replace H : (some ji16) = some r := by first | (rw [hji16] at H; exact H) | (simp only [hji16] at H ⊢; exact H)
  (try rw [hji16] at A2)
  (try rw [hji16] at A3)
  (try rw [hji16] at A15)
  have hji16_ : (if t252 < t249 then t252 else t249) = ji16 := hji16
  obtain rfl := Option.some.inj H
  go_enter Tryz.func52, Tryz.ntmps52
  go_wp2_with (first | ((with_reducible refine gate_dst (N := 1) rfl ?_); refine boxA (N := 1) (cs := #[.bool a0_0, .int .u64 a0_1, .int .u64 a0_2]) (t := 24) ?_; intro gb246 hg w17 hbox hb; have BK246 := Aside0.mk (hbox); have GW246 := (pZ HB hg); have GE246 := (pZ HB hg); replace HB := (pS HB hb); clear hb hbox hg; obtain ⟨hcz18_0, hcz18_1, hcz18_2, hfz18_0, hfz18_1, hfz18_2⟩ := pC3 BK246) | ((with_reducible refine gate_callee (f := 75) rfl ?_); refine goesA (some 8) Tryz.func75 #[.agg #[.bool a0_0, .int .u64 a0_1, .int .u64 a0_2]] ?_; (with_reducible refine (prefix_value.calls a0_0 a0_1 a0_2 t247 t248 _ A2.out).mono ?_); rintro e w19 ⟨rfl, hb⟩; refine ⟨_, rfl, ?_⟩; replace BK246 := (pB BK246 hb); replace HB := (pS HB hb); (try clear hb)) | ((with_reducible refine gate_callee (f := 76) rfl ?_); refine goesA (some 12) Tryz.func76 #[.int .u64 t248] ?_; (with_reducible refine (bits_TrailingZeros64.calls t248 t249 _ ?side1 A3.out).mono ?_); (case side1 => exact Laid.below HLD.out (pE HB)); rintro e w20 ⟨rfl, hb⟩; refine ⟨_, rfl, ?_⟩; replace BK246 := (pB BK246 hb); replace HB := (pS HB hb); (try clear hb); obtain ⟨hcz21_0, hcz21_1, hcz21_2, hfz21_0, hfz21_1, hfz21_2⟩ := pC3 BK246) | ((with_reducible refine gate_callee (f := 46) rfl ?_); refine goesA (some 21) Tryz.func46 #[.agg #[.bool a0_0, .int .u64 a0_1, .int .u64 a0_2]] ?_; (with_reducible refine (prefix_length.calls a0_0 a0_1 a0_2 t252 _ A15.out).mono ?_); rintro e w22 ⟨rfl, hb⟩; refine ⟨_, rfl, ?_⟩; replace BK246 := (pB BK246 hb); replace HB := (pS HB hb); (try clear hb)))
  go_ret
  exact ⟨by first | rfl | (simp [errW_none, errW_some] <;> rfl) | (simp only [← hji16]; first | rfl | (simp [errW_none, errW_some] <;> rfl)) | (simp [*, errW_none, errW_some] <;> rfl), by repeat (first | (with_reducible first | exact HB.out | apply below_alloc | apply pw_below_drewN | apply below_drew1 | refine below_set ?_ GE246.out) | exact HB.out)⟩

-- NOT PRINTED: function 77 (bits_Add64)

/-! ### addr_Add: function 53 -/
def addr_Add.f (a0_0 : Bool) (a0_1 : Int) (a0_2 : Int) (a1 : Int) : Option (Bool × Int × Int × Bool) := (addr_Valid.f a0_0 a0_1 a0_2).bind fun t255 => (if t255 = true then (if (Ext.add64c a0_2 a1 0) ≤ 1 then (if (Ext.add64c a0_1 0 (Ext.add64c a0_2 a1 0)) = 0 then ((addr_Valid.f a0_0 (Ext.add64s a0_1 0 (Ext.add64c a0_2 a1 0)) (Ext.add64s a0_2 a1 0)).bind fun t257 => (if t257 = true then (some (a0_0, Ext.add64s a0_1 0 (Ext.add64c a0_2 a1 0), Ext.add64s a0_2 a1 0, true)) else (some (false, 0, 0, false)))) else (some (false, 0, 0, false))) else (none)) else (some (false, 0, 0, false)))
set_option maxHeartbeats 40000000 in
set_option maxRecDepth 100000 in
theorem addr_Add.calls (a0_0 : Bool) (a0_1 : Int) (a0_2 : Int) (a1 : Int) (r1 : Bool) (r2 : Int) (r3 : Int) (r4 : Bool) (w : World) (h : addr_Add.f a0_0 a0_1 a0_2 a1 = some (r1, r2, r3, r4)) :
 Calls Tryz.prog 53 #[.agg #[.bool a0_0, .int .u64 a0_1, .int .u64 a0_2], .int .u64 a1] w fun e w' => e = .returned (.tuple #[.agg #[.bool r1, .int .u64 r2, .int .u64 r3], .bool r4]) ∧ Below w.heap.size w w' := by
 have hu24 := Tryz.underlying24
 have hext77 := Ext.run_add64 (P := Tryz.prog) Tryz.func77 (by kernel_rfl) (by kernel_rfl) (by kernel_rfl) (by kernel_rfl)
 have HB := Aside0.mk (Below.refl w.heap.size w)
 have H : ((addr_Valid.f a0_0 a0_1 a0_2).bind fun t255 => (if t255 = true then (if (Ext.add64c a0_2 a1 0) ≤ 1 then (if (Ext.add64c a0_1 0 (Ext.add64c a0_2 a1 0)) = 0 then ((addr_Valid.f a0_0 (Ext.add64s a0_1 0 (Ext.add64c a0_2 a1 0)) (Ext.add64s a0_2 a1 0)).bind fun t257 => (if t257 = true then (some (a0_0, Ext.add64s a0_1 0 (Ext.add64c a0_2 a1 0), Ext.add64s a0_2 a1 0, true)) else (some (false, 0, 0, false)))) else (some (false, 0, 0, false))) else (none)) else (some (false, 0, 0, false)))) = some (r1, r2, r3, r4) := h
 clear h
 replace H := Option.bind_eq_some_iff.mp H
 obtain ⟨t255, A30, H⟩ := H
 have A3 := Aside0.mk A30
 clear A30
 by_cases c4 : t255 = true
 ·
  subst c4
  have H1 : (if (Ext.add64c a0_2 a1 0) ≤ 1 then (if (Ext.add64c a0_1 0 (Ext.add64c a0_2 a1 0)) = 0 then ((addr_Valid.f a0_0 (Ext.add64s a0_1 0 (Ext.add64c a0_2 a1 0)) (Ext.add64s a0_2 a1 0)).bind fun t257 => (if t257 = true then (some (a0_0, Ext.add64s a0_1 0 (Ext.add64c a0_2 a1 0), Ext.add64s a0_2 a1 0, true)) else (some (false, 0, 0, false)))) else (some (false, 0, 0, false))) else (none)) = some (r1, r2, r3, r4) := by rw [if_pos rfl] at H; exact H
  clear H
  have H := H1
  clear H1
  by_cases c5 : (Ext.add64c a0_2 a1 0) ≤ 1
  ·
   rw [if_pos c5] at H
   have c5b0 := eq_true c5
   have c5b1 := decide_eq_true c5
   clear c5
   by_cases c6 : (Ext.add64c a0_1 0 (Ext.add64c a0_2 a1 0)) = 0
   ·
    rw [if_pos c6] at H
    have c6b0 : ((Ext.add64c a0_1 0 (Ext.add64c a0_2 a1 0)) == 0) = true := beq_iff_eq.mpr c6
    have c6b1 : ((Ext.add64c a0_1 0 (Ext.add64c a0_2 a1 0)) != 0) = false := bne_eq_false_iff_eq.mpr c6
    clear c6
    replace H := Option.bind_eq_some_iff.mp H
    obtain ⟨t257, A70, H⟩ := H
    have A7 := Aside0.mk A70
    clear A70
    by_cases c8 : t257 = true
    ·
     subst c8
     have H1 : (some (a0_0, Ext.add64s a0_1 0 (Ext.add64c a0_2 a1 0), Ext.add64s a0_2 a1 0, true)) = some (r1, r2, r3, r4) := by rw [if_pos rfl] at H; exact H
     clear H
     have H := H1
     clear H1
     simp only [Option.some.injEq, Prod.mk.injEq] at H
     obtain ⟨rfl, rfl, rfl, rfl⟩ := H
     go_enter Tryz.func53, Tryz.ntmps53
     go_wp2_with (first | ((with_reducible refine gate_dst (N := 2) rfl ?_); refine boxA (N := 2) (cs := #[.bool a0_0, .int .u64 a0_1, .int .u64 a0_2]) (t := 24) ?_; intro gb253 hg w9 hbox hb; have BK253 := Aside0.mk (hbox); have GW253 := (pZ HB hg); have GE253 := (pZ HB hg); replace HB := (pS HB hb); clear hb hbox hg) | ((with_reducible refine gate_dst (N := 4) rfl ?_); refine boxA (N := 4) (cs := #[.bool false, .int .u64 0, .int .u64 0]) (t := 24) ?_; intro gb254 hg w10 hbox hb; have BK254 := Aside0.mk (hbox); have GW254 := (pZ HB hg); have GE254 := (pZ HB hg); have NB253_254 := (pL BK253 hg); have NB254_253 := (pG BK253 hg); replace BK253 := (pB BK253 hb); replace HB := (pS HB hb); clear hb hbox hg; have hnb11 := NB253_254.out; have hnc11 := NB254_253.out; obtain ⟨hcz12_0, hcz12_1, hcz12_2, hfz12_0, hfz12_1, hfz12_2⟩ := pC3 BK253) | ((with_reducible refine gate_callee (f := 50) rfl ?_); refine goesA (some 12) Tryz.func50 #[.agg #[.bool a0_0, .int .u64 a0_1, .int .u64 a0_2]] ?_; (with_reducible refine (addr_Valid.calls a0_0 a0_1 a0_2 true _ A3.out).mono ?_); rintro e w13 ⟨rfl, hb⟩; refine ⟨_, rfl, ?_⟩; replace BK253 := (pB BK253 hb); replace BK254 := (pB BK254 hb); replace HB := (pS HB hb); (try clear hb); obtain ⟨hcz14_0, hcz14_1, hcz14_2, hfz14_0, hfz14_1, hfz14_2⟩ := pC3 BK253) | ((with_reducible refine gate_dst (N := 10) rfl ?_); refine boxA (N := 10) (cs := #[.bool false, .int .u64 0, .int .u64 0]) (t := 24) ?_; intro gb256 hg w15 hbox hb; have BK256 := Aside0.mk (hbox); have GW256 := (pZ HB hg); have GE256 := (pZ HB hg); have NB253_256 := (pL BK253 hg); have NB256_253 := (pG BK253 hg); have NB254_256 := (pL BK254 hg); have NB256_254 := (pG BK254 hg); replace BK253 := (pB BK253 hb); replace BK254 := (pB BK254 hb); replace HB := (pS HB hb); clear hb hbox hg; have hnb16 := NB256_253.out; have hnc16 := NB253_256.out; have hnb17 := NB256_254.out; have hnc17 := NB254_256.out; obtain ⟨hcz18_0, hcz18_1, hcz18_2, hfz18_0, hfz18_1, hfz18_2⟩ := pC3 BK256) | (go_at_call 50; (with_reducible refine (addr_Valid.calls a0_0 (Ext.add64s a0_1 0 (Ext.add64c a0_2 a1 0)) (Ext.add64s a0_2 a1 0) true _ A7.out).mono ?_); rintro e w19 ⟨rfl, hb⟩; replace BK253 := (pD hb (pK NB253_256 (pK NB253_256 (pK NB253_256 (pM BK253))))); replace BK254 := (pD hb (pK NB254_256 (pK NB254_256 (pK NB254_256 (pM BK254))))); replace BK256 := (pD hb (pP (pP (pP (pM BK256))))); replace HB := (pS HB hb); (try clear hb); obtain ⟨hcz20_0, hcz20_1, hcz20_2, hfz20_0, hfz20_1, hfz20_2⟩ := pC3 BK256; obtain ⟨hcz21_0, hcz21_1, hcz21_2, hfz21_0, hfz21_1, hfz21_2⟩ := pC3 BK254))
     refine bodyPost_ret (results_ct rfl _ _ gb254 24 #[.bool a0_0, .int .u64 (Ext.add64s a0_1 0 (Ext.add64c a0_2 a1 0)), .int .u64 (Ext.add64s a0_2 a1 0)] (0, 0) _ rfl (pP (pP (pP (pM BK254)))) Tryz.underlying24 rfl (by kernel_rfl)) rfl ?_
     exact pR (pE HB)
    ·
     replace c8 := Bool.eq_false_iff.mpr c8
     subst c8
     rw [if_neg (show ¬ (false = true) by decide)] at H
     simp only [Option.some.injEq, Prod.mk.injEq] at H
     obtain ⟨rfl, rfl, rfl, rfl⟩ := H
     go_enter Tryz.func53, Tryz.ntmps53
     go_wp2_with (first | ((with_reducible refine gate_dst (N := 2) rfl ?_); refine boxA (N := 2) (cs := #[.bool a0_0, .int .u64 a0_1, .int .u64 a0_2]) (t := 24) ?_; intro gb253 hg w22 hbox hb; have BK253 := Aside0.mk (hbox); have GW253 := (pZ HB hg); have GE253 := (pZ HB hg); replace HB := (pS HB hb); clear hb hbox hg) | ((with_reducible refine gate_dst (N := 4) rfl ?_); refine boxA (N := 4) (cs := #[.bool false, .int .u64 0, .int .u64 0]) (t := 24) ?_; intro gb254 hg w23 hbox hb; have BK254 := Aside0.mk (hbox); have GW254 := (pZ HB hg); have GE254 := (pZ HB hg); have NB253_254 := (pL BK253 hg); have NB254_253 := (pG BK253 hg); replace BK253 := (pB BK253 hb); replace HB := (pS HB hb); clear hb hbox hg; have hnb24 := NB253_254.out; have hnc24 := NB254_253.out; obtain ⟨hcz25_0, hcz25_1, hcz25_2, hfz25_0, hfz25_1, hfz25_2⟩ := pC3 BK253) | ((with_reducible refine gate_callee (f := 50) rfl ?_); refine goesA (some 12) Tryz.func50 #[.agg #[.bool a0_0, .int .u64 a0_1, .int .u64 a0_2]] ?_; (with_reducible refine (addr_Valid.calls a0_0 a0_1 a0_2 true _ A3.out).mono ?_); rintro e w26 ⟨rfl, hb⟩; refine ⟨_, rfl, ?_⟩; replace BK253 := (pB BK253 hb); replace BK254 := (pB BK254 hb); replace HB := (pS HB hb); (try clear hb); obtain ⟨hcz27_0, hcz27_1, hcz27_2, hfz27_0, hfz27_1, hfz27_2⟩ := pC3 BK253) | ((with_reducible refine gate_dst (N := 10) rfl ?_); refine boxA (N := 10) (cs := #[.bool false, .int .u64 0, .int .u64 0]) (t := 24) ?_; intro gb256 hg w28 hbox hb; have BK256 := Aside0.mk (hbox); have GW256 := (pZ HB hg); have GE256 := (pZ HB hg); have NB253_256 := (pL BK253 hg); have NB256_253 := (pG BK253 hg); have NB254_256 := (pL BK254 hg); have NB256_254 := (pG BK254 hg); replace BK253 := (pB BK253 hb); replace BK254 := (pB BK254 hb); replace HB := (pS HB hb); clear hb hbox hg; have hnb29 := NB256_253.out; have hnc29 := NB253_256.out; have hnb30 := NB256_254.out; have hnc30 := NB254_256.out; obtain ⟨hcz31_0, hcz31_1, hcz31_2, hfz31_0, hfz31_1, hfz31_2⟩ := pC3 BK256) | (go_at_call 50; (with_reducible refine (addr_Valid.calls a0_0 (Ext.add64s a0_1 0 (Ext.add64c a0_2 a1 0)) (Ext.add64s a0_2 a1 0) false _ A7.out).mono ?_); rintro e w32 ⟨rfl, hb⟩; replace BK253 := (pD hb (pK NB253_256 (pK NB253_256 (pK NB253_256 (pM BK253))))); replace BK254 := (pD hb (pK NB254_256 (pK NB254_256 (pK NB254_256 (pM BK254))))); replace BK256 := (pD hb (pP (pP (pP (pM BK256))))); replace HB := (pS HB hb); (try clear hb); obtain ⟨hcz33_0, hcz33_1, hcz33_2, hfz33_0, hfz33_1, hfz33_2⟩ := pC3 BK254))
     refine bodyPost_ret (results_ct rfl _ _ gb254 24 #[.bool false, .int .u64 0, .int .u64 0] (0, 0) _ rfl (pP (pP (pP (pM BK254)))) Tryz.underlying24 rfl (by kernel_rfl)) rfl ?_
     exact pR (pE HB)
   ·
    rw [if_neg c6] at H
    have c6b0 : ((Ext.add64c a0_1 0 (Ext.add64c a0_2 a1 0)) == 0) = false := beq_eq_false_iff_ne.mpr c6
    have c6b1 : ((Ext.add64c a0_1 0 (Ext.add64c a0_2 a1 0)) != 0) = true := bne_iff_ne.mpr c6
    simp only [Option.some.injEq, Prod.mk.injEq] at H
    obtain ⟨rfl, rfl, rfl, rfl⟩ := H
    go_enter Tryz.func53, Tryz.ntmps53
    go_wp2_with (first | ((with_reducible refine gate_dst (N := 2) rfl ?_); refine boxA (N := 2) (cs := #[.bool a0_0, .int .u64 a0_1, .int .u64 a0_2]) (t := 24) ?_; intro gb253 hg w34 hbox hb; have BK253 := Aside0.mk (hbox); have GW253 := (pZ HB hg); have GE253 := (pZ HB hg); replace HB := (pS HB hb); clear hb hbox hg) | ((with_reducible refine gate_dst (N := 4) rfl ?_); refine boxA (N := 4) (cs := #[.bool false, .int .u64 0, .int .u64 0]) (t := 24) ?_; intro gb254 hg w35 hbox hb; have BK254 := Aside0.mk (hbox); have GW254 := (pZ HB hg); have GE254 := (pZ HB hg); have NB253_254 := (pL BK253 hg); have NB254_253 := (pG BK253 hg); replace BK253 := (pB BK253 hb); replace HB := (pS HB hb); clear hb hbox hg; have hnb36 := NB253_254.out; have hnc36 := NB254_253.out; obtain ⟨hcz37_0, hcz37_1, hcz37_2, hfz37_0, hfz37_1, hfz37_2⟩ := pC3 BK253) | ((with_reducible refine gate_callee (f := 50) rfl ?_); refine goesA (some 12) Tryz.func50 #[.agg #[.bool a0_0, .int .u64 a0_1, .int .u64 a0_2]] ?_; (with_reducible refine (addr_Valid.calls a0_0 a0_1 a0_2 true _ A3.out).mono ?_); rintro e w38 ⟨rfl, hb⟩; refine ⟨_, rfl, ?_⟩; replace BK253 := (pB BK253 hb); replace BK254 := (pB BK254 hb); replace HB := (pS HB hb); (try clear hb); obtain ⟨hcz39_0, hcz39_1, hcz39_2, hfz39_0, hfz39_1, hfz39_2⟩ := pC3 BK253) | ((with_reducible refine gate_dst (N := 10) rfl ?_); refine boxA (N := 10) (cs := #[.bool false, .int .u64 0, .int .u64 0]) (t := 24) ?_; intro gb256 hg w40 hbox hb; have BK256 := Aside0.mk (hbox); have GW256 := (pZ HB hg); have GE256 := (pZ HB hg); have NB253_256 := (pL BK253 hg); have NB256_253 := (pG BK253 hg); have NB254_256 := (pL BK254 hg); have NB256_254 := (pG BK254 hg); replace BK253 := (pB BK253 hb); replace BK254 := (pB BK254 hb); replace HB := (pS HB hb); clear hb hbox hg; have hnb41 := NB256_253.out; have hnc41 := NB253_256.out; have hnb42 := NB256_254.out; have hnc42 := NB254_256.out; obtain ⟨hcz43_0, hcz43_1, hcz43_2, hfz43_0, hfz43_1, hfz43_2⟩ := pC3 BK256; obtain ⟨hcz44_0, hcz44_1, hcz44_2, hfz44_0, hfz44_1, hfz44_2⟩ := pC3 BK254) | ((with_reducible refine gate_store (t := 24) (p := 4) rfl ?_); refine store_event (t := 24) (p := 4) (v := ?vo_w45) (w1 := ((((((w40.setCell ⟨gb256, 0, none⟩ (.bool a0_0)).setCell ⟨gb256, 1, none⟩ (.int .u64 (Ext.add64s a0_1 0 (Ext.add64c a0_2 a1 0)))).setCell ⟨gb256, 2, none⟩ (.int .u64 (Ext.add64s a0_2 a1 0))).setCell ⟨gb254, 0, none⟩ (.bool false)).setCell ⟨gb254, 1, none⟩ (.int .u64 0)).setCell ⟨gb254, 2, none⟩ (.int .u64 0))) ?hg ?ho ?hn ?hr ?_; (case ho => rfl); (case hg => rfl); (case hn => rfl); (case hr => first | (exact Ext.run_store_chain 24 _ _ rfl _ _ _ _ rfl rfl (pK NB254_256 (pK NB254_256 (pK NB254_256 (pM BK254)))) (by kernel_rfl) rfl rfl rfl) | (go_simp; done) | (go_simp; rfl)); intro w45 hw; replace BK253 : Aside0 (w45.heap[gb253]? = some (.cells #[.bool a0_0, .int .u64 a0_1, .int .u64 a0_2] 24 (0, 0))) := (pW hw (pK NB253_254 (pK NB253_254 (pK NB253_254 (pK NB253_256 (pK NB253_256 (pK NB253_256 (pM BK253)))))))); replace BK254 : Aside0 (w45.heap[gb254]? = some (.cells #[.bool false, .int .u64 0, .int .u64 0] 24 (0, 0))) := (pW hw (pP (pP (pP (pK NB254_256 (pK NB254_256 (pK NB254_256 (pM BK254)))))))); replace BK256 : Aside0 (w45.heap[gb256]? = some (.cells #[.bool a0_0, .int .u64 (Ext.add64s a0_1 0 (Ext.add64c a0_2 a1 0)), .int .u64 (Ext.add64s a0_2 a1 0)] 24 (0, 0))) := (pW hw (pK NB256_254 (pK NB256_254 (pK NB256_254 (pP (pP (pP (pM BK256)))))))); replace HB : Aside0 (Below w.heap.size w w45) := ⟨(by rw [hw]; exact (by repeat (first | (with_reducible first | exact HB.out | apply below_alloc | apply pw_below_drewN | apply below_drew1 | refine below_set ?_ GE253.out | refine below_set ?_ GE254.out | refine below_set ?_ GE256.out) | exact HB.out)))⟩; clear hw))
    refine bodyPost_ret (results_ct rfl _ _ gb254 24 #[.bool false, .int .u64 0, .int .u64 0] (0, 0) _ rfl (pM BK254) Tryz.underlying24 rfl (by kernel_rfl)) rfl ?_
    exact pR (pE HB)
  ·
   rw [if_neg c5] at H
   exact absurd H (by simp)
 ·
  replace c4 := Bool.eq_false_iff.mpr c4
  subst c4
  rw [if_neg (show ¬ (false = true) by decide)] at H
  simp only [Option.some.injEq, Prod.mk.injEq] at H
  obtain ⟨rfl, rfl, rfl, rfl⟩ := H
  go_enter Tryz.func53, Tryz.ntmps53
  go_wp2_with (first | ((with_reducible refine gate_dst (N := 2) rfl ?_); refine boxA (N := 2) (cs := #[.bool a0_0, .int .u64 a0_1, .int .u64 a0_2]) (t := 24) ?_; intro gb253 hg w46 hbox hb; have BK253 := Aside0.mk (hbox); have GW253 := (pZ HB hg); have GE253 := (pZ HB hg); replace HB := (pS HB hb); clear hb hbox hg) | ((with_reducible refine gate_dst (N := 4) rfl ?_); refine boxA (N := 4) (cs := #[.bool false, .int .u64 0, .int .u64 0]) (t := 24) ?_; intro gb254 hg w47 hbox hb; have BK254 := Aside0.mk (hbox); have GW254 := (pZ HB hg); have GE254 := (pZ HB hg); have NB253_254 := (pL BK253 hg); have NB254_253 := (pG BK253 hg); replace BK253 := (pB BK253 hb); replace HB := (pS HB hb); clear hb hbox hg; have hnb48 := NB253_254.out; have hnc48 := NB254_253.out; obtain ⟨hcz49_0, hcz49_1, hcz49_2, hfz49_0, hfz49_1, hfz49_2⟩ := pC3 BK253) | ((with_reducible refine gate_callee (f := 50) rfl ?_); refine goesA (some 12) Tryz.func50 #[.agg #[.bool a0_0, .int .u64 a0_1, .int .u64 a0_2]] ?_; (with_reducible refine (addr_Valid.calls a0_0 a0_1 a0_2 false _ A3.out).mono ?_); rintro e w50 ⟨rfl, hb⟩; refine ⟨_, rfl, ?_⟩; replace BK253 := (pB BK253 hb); replace BK254 := (pB BK254 hb); replace HB := (pS HB hb); (try clear hb); obtain ⟨hcz51_0, hcz51_1, hcz51_2, hfz51_0, hfz51_1, hfz51_2⟩ := pC3 BK254))
  refine bodyPost_ret (results_ct rfl _ _ gb254 24 #[.bool false, .int .u64 0, .int .u64 0] (0, 0) _ rfl (pP (pP (pP (pM BK254)))) Tryz.underlying24 rfl (by kernel_rfl)) rfl ?_
  exact pR (pE HB)
end Go.Proofs.YteflcmmandlknaaGreatDoor.PA
