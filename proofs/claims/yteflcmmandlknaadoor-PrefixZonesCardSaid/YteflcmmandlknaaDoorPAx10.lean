/- The Go functions in Lean, with the proofs that the code comes to these answers: printed by this session's program (wip/px) out of the seat's translation. Conditions: each theorem's own. -/
import Derived.Test.YteflcmmandlknaaDoorPAx0
import Derived.Test.YteflcmmandlknaaDoorPAx3
import Derived.Test.YteflcmmandlknaaDoorPAx5
import Derived.Test.YteflcmmandlknaaDoorPAx9
namespace Go.Proofs.YteflcmmandlknaaDoor.PA
open Go.RowKit Go.Proofs.YteflcmmandlknaaDoorW.PrintWords Go.Proofs.YteflcmmandlknaaDoorW.PrintLast Go.Proofs.YteflcmmandlknaaDoorW.PrintMore
attribute [local go_sem] max2_int min2_int max_two min_two max_three min_three max_four min_four   -- for this text's walks alone
attribute [local go_sem ↓] Ext.isSome_setCell
open Press
set_option linter.unusedVariables false
set_option linter.unusedSimpArgs false

/-! ### prefix_Zone: function 16 -/
mutual
def prefix_Zone.j0 : Nat → Int → Bool → Int → Int → Int → Option (ByteArray × Bool)
 | 0, _, _, _, _, _ => none
 | k + 1, x4, x188000, x188001, x188002, x188003 => (prefix_Valid.f x188000 x188001 x188002 x188003).bind fun t188 => (if t188 = true then (if x4 = 0 then (none) else (prefix_Zone.j1 k x4 ((Int.tmod x188003 x4) != 0) x188000 x188001 x188002 x188003)) else (prefix_Zone.j1 k x4 true x188000 x188001 x188002 x188003))
def prefix_Zone.j1 : Nat → Int → Bool → Bool → Int → Int → Int → Option (ByteArray × Bool)
 | 0, _, _, _, _, _, _ => none
 | k + 1, x4, x20, x188000, x188001, x188002, x188003 => if x20 = true then (some ((⟨#[]⟩ : ByteArray), false)) else ((addr_Reverse.f k x188000 x188001 x188002).bind fun bt189 => (if bt189.2 = 0 then (prefix_Zone.l0 k x4 bt189.1 x188003 x188000 x188001 x188002 x188003) else (some ((⟨#[]⟩ : ByteArray), false))))
def prefix_Zone.l0 : Nat → Int → ByteArray → Int → Bool → Int → Int → Int → Option (ByteArray × Bool)
 | 0, _, _, _, _, _, _, _ => none
 | k + 1, x4, x5, x7, x188000, x188001, x188002, x188003 => (prefix_length.f x188000 x188001 x188002).bind fun t191 => (if x7 < t191 then ((strings_Cut.f x5 (⟨#[46]⟩ : ByteArray)).bind fun bt192 => (prefix_Zone.l0 k x4 bt192.2.1 (wrap64 (x7 + x4)) x188000 x188001 x188002 x188003)) else (some (x5, true)))
end
def prefix_Zone.f (k : Nat) (a0_0 : Bool) (a0_1 : Int) (a0_2 : Int) (a0_3 : Int) : Option (ByteArray × Bool) := if a0_0 = true then (prefix_Zone.j0 k 4 a0_0 a0_1 a0_2 a0_3) else (prefix_Zone.j0 k 8 a0_0 a0_1 a0_2 a0_3)
theorem prefix_Zone.mono_l : ∀ k, (∀ y0 y1 y2 y3 y4, LeO (prefix_Zone.j0 k y0 y1 y2 y3 y4) (prefix_Zone.j0 (k + 1) y0 y1 y2 y3 y4)) ∧ (∀ y0 y1 y2 y3 y4 y5, LeO (prefix_Zone.j1 k y0 y1 y2 y3 y4 y5) (prefix_Zone.j1 (k + 1) y0 y1 y2 y3 y4 y5)) ∧ (∀ y0 y1 y2 y3 y4 y5 y6, LeO (prefix_Zone.l0 k y0 y1 y2 y3 y4 y5 y6) (prefix_Zone.l0 (k + 1) y0 y1 y2 y3 y4 y5 y6))
 | 0 => ⟨fun _ _ _ _ _ r h => by simp [prefix_Zone.j0] at h, fun _ _ _ _ _ _ r h => by simp [prefix_Zone.j1] at h, fun _ _ _ _ _ _ _ r h => by simp [prefix_Zone.l0] at h⟩
 | k + 1 => by
  obtain ⟨ih0, ih1, ih2⟩ := prefix_Zone.mono_l k
  refine ⟨?_, ?_, ?_⟩
  ·
   intro y0 y1 y2 y3 y4
   unfold prefix_Zone.j0
   repeat' first
   | (with_reducible exact ih0 _ _ _ _ _)
   | (with_reducible exact ih1 _ _ _ _ _ _)
   | (with_reducible exact ih2 _ _ _ _ _ _ _)
   | (with_reducible exact addr_Reverse.mono _ _ _ _)
   | (with_reducible exact LeO.refl _)
   | (with_reducible exact LeO.none _)
   | (with_reducible refine LeO.ite ?_ ?_)
   | (with_reducible refine LeO.bind ?_ (fun _ => ?_))
   | exact ih0 _ _ _ _ _
   | exact ih1 _ _ _ _ _ _
   | exact ih2 _ _ _ _ _ _ _
   | exact addr_Reverse.mono _ _ _ _
   | exact LeO.none _
   | refine LeO.ite ?_ ?_
   | refine LeO.bind ?_ (fun _ => ?_)
  ·
   intro y0 y1 y2 y3 y4 y5
   unfold prefix_Zone.j1
   repeat' first
   | (with_reducible exact ih0 _ _ _ _ _)
   | (with_reducible exact ih1 _ _ _ _ _ _)
   | (with_reducible exact ih2 _ _ _ _ _ _ _)
   | (with_reducible exact addr_Reverse.mono _ _ _ _)
   | (with_reducible exact LeO.refl _)
   | (with_reducible exact LeO.none _)
   | (with_reducible refine LeO.ite ?_ ?_)
   | (with_reducible refine LeO.bind ?_ (fun _ => ?_))
   | exact ih0 _ _ _ _ _
   | exact ih1 _ _ _ _ _ _
   | exact ih2 _ _ _ _ _ _ _
   | exact addr_Reverse.mono _ _ _ _
   | exact LeO.none _
   | refine LeO.ite ?_ ?_
   | refine LeO.bind ?_ (fun _ => ?_)
  ·
   intro y0 y1 y2 y3 y4 y5 y6
   unfold prefix_Zone.l0
   repeat' first
   | (with_reducible exact ih0 _ _ _ _ _)
   | (with_reducible exact ih1 _ _ _ _ _ _)
   | (with_reducible exact ih2 _ _ _ _ _ _ _)
   | (with_reducible exact addr_Reverse.mono _ _ _ _)
   | (with_reducible exact LeO.refl _)
   | (with_reducible exact LeO.none _)
   | (with_reducible refine LeO.ite ?_ ?_)
   | (with_reducible refine LeO.bind ?_ (fun _ => ?_))
   | exact ih0 _ _ _ _ _
   | exact ih1 _ _ _ _ _ _
   | exact ih2 _ _ _ _ _ _ _
   | exact addr_Reverse.mono _ _ _ _
   | exact LeO.none _
   | refine LeO.ite ?_ ?_
   | refine LeO.bind ?_ (fun _ => ?_)
theorem prefix_Zone.mono : ∀ a0 a1 a2 a3 k, LeO (prefix_Zone.f k a0 a1 a2 a3) (prefix_Zone.f (k + 1) a0 a1 a2 a3) := by
 intro a0 a1 a2 a3 k
 obtain ⟨ih0, ih1, ih2⟩ := prefix_Zone.mono_l k
 unfold prefix_Zone.f
 repeat' first
  | (with_reducible exact ih0 _ _ _ _ _)
  | (with_reducible exact ih1 _ _ _ _ _ _)
  | (with_reducible exact ih2 _ _ _ _ _ _ _)
  | (with_reducible exact addr_Reverse.mono _ _ _ _)
  | (with_reducible exact LeO.refl _)
  | (with_reducible exact LeO.none _)
  | (with_reducible refine LeO.ite ?_ ?_)
  | (with_reducible refine LeO.bind ?_ (fun _ => ?_))
  | exact ih0 _ _ _ _ _
  | exact ih1 _ _ _ _ _ _
  | exact ih2 _ _ _ _ _ _ _
  | exact addr_Reverse.mono _ _ _ _
  | exact LeO.none _
  | refine LeO.ite ?_ ?_
  | refine LeO.bind ?_ (fun _ => ?_)
set_option maxHeartbeats 40000000 in
set_option maxRecDepth 100000 in
theorem prefix_Zone.calls (k : Nat) (a0_0 : Bool) (a0_1 : Int) (a0_2 : Int) (a0_3 : Int) (r1 : ByteArray) (r2 : Bool) (w : World) (hLD : Laid w) (h : prefix_Zone.f k a0_0 a0_1 a0_2 a0_3 = some (r1, r2)) :
 Calls Tryd.prog 16 #[.agg #[.bool a0_0, .int .u64 a0_1, .int .u64 a0_2, .int .i64 a0_3]] w fun e w' => e = .returned (.tuple #[.string r1, .bool r2]) ∧ Below w.heap.size w w' := by
 have hu26 := Tryd.underlying26
 have hu24 := Tryd.underlying24
 have HLD := Aside0.mk hLD
 clear hLD
 have HB := Aside0.mk (Below.refl w.heap.size w)
 have H : (if a0_0 = true then (prefix_Zone.j0 k 4 a0_0 a0_1 a0_2 a0_3) else (prefix_Zone.j0 k 8 a0_0 a0_1 a0_2 a0_3)) = some (r1, r2) := h
 clear h
 have HC2 := Aside0.mk H
 clear H
 go_enter Tryd.func16, Tryd.ntmps16
 go_upto_if 10 with (first | ((with_reducible refine gate_dst (N := 1) rfl ?_); refine boxA (N := 1) (cs := #[.bool a0_0, .int .u64 a0_1, .int .u64 a0_2, .int .i64 a0_3]) (t := 26) ?_; intro gb187 hg w3 hbox hb; have BK187 := Aside0.mk (hbox); have GW187 := (pZ HB hg); have GE187 := (pZ HB hg); replace HB := (pS HB hb); clear hb hbox hg; obtain ⟨hcz4_0, hcz4_1, hcz4_2, hcz4_3, hfz4_0, hfz4_1, hfz4_2, hfz4_3⟩ := pC4 BK187))
 (try simp only [Act.put, List.setIfInBounds_toArray, List.set_cons_zero, List.set_cons_succ])
 go_cut [4] (fun v4 wc => ∃ (kq : Nat) (x4_1 : Int), v4 = .int .i64 x4_1 ∧ Aside0 (prefix_Zone.j0 kq x4_1 a0_0 a0_1 a0_2 a0_3 = some (r1, r2)) ∧ Aside0 (kq ≤ k) ∧ Aside0 (wc.heap[gb187]? = some (.cells #[.bool a0_0, .int .u64 a0_1, .int .u64 a0_2, .int .i64 a0_3] 26 (0, 0))) ∧ Aside0 (Below w.heap.size w wc))
 case first =>
  have H := HC2.out
  clear HC2
  by_cases c5 : a0_0 = true
  ·
   subst c5
   have H1 : (prefix_Zone.j0 k 4 true a0_1 a0_2 a0_3) = some (r1, r2) := by rw [if_pos rfl] at H; exact H
   clear H
   have H := H1
   clear H1
   have H' := Aside0.mk H
   clear H
   go_wp2
   go_meet
   case rel => exact ⟨_, (4), pT, H', ⟨by first | omega | exact Nat.le_refl _⟩, ⟨pM BK187⟩, ⟨pE HB⟩⟩
  ·
   replace c5 := Bool.eq_false_iff.mpr c5
   subst c5
   have H1 : (prefix_Zone.j0 k 8 false a0_1 a0_2 a0_3) = some (r1, r2) := by rw [if_neg (show ¬ (false = true) by decide)] at H; exact H
   clear H
   have H := H1
   clear H1
   have H' := Aside0.mk H
   clear H
   go_wp2
   go_meet
   case rel => exact ⟨_, (8), pT, H', ⟨by first | omega | exact Nat.le_refl _⟩, ⟨pM BK187⟩, ⟨pE HB⟩⟩
 case rest =>
  clear HC2
  try clear c1
  try clear p2
  try clear c5
  try clear hcz4_0 hcz4_1 hcz4_2 hcz4_3
  try clear hfz4_0 hfz4_1 hfz4_2 hfz4_3
  obtain ⟨kq, x4_1, rfl, HA, HJ1, BK187, HB⟩ := hcut
  cases kq with
  | zero => exact absurd HA.out (by simp [prefix_Zone.j0])
  | succ kj1 =>
   have H := HA.out
   clear HA
   simp only [prefix_Zone.j0] at H
   have HC6 := Aside0.mk H
   clear H
   go_upto_region 4 with (fail)
   go_cut [20] (fun v20 wc => ∃ (kq : Nat) (x20_5 : Bool), v20 = .bool x20_5 ∧ Aside0 (prefix_Zone.j1 kq x4_1 x20_5 a0_0 a0_1 a0_2 a0_3 = some (r1, r2)) ∧ Aside0 (kq ≤ kj1) ∧ Aside0 (wc.heap[gb187]? = some (.cells #[.bool a0_0, .int .u64 a0_1, .int .u64 a0_2, .int .i64 a0_3] 26 (0, 0))) ∧ Aside0 (Below w.heap.size w wc))
   case first =>
    have H := HC6.out
    clear HC6
    replace H := Option.bind_eq_some_iff.mp H
    obtain ⟨t188, A70, H⟩ := H
    replace H : (if t188 = true then (if x4_1 = 0 then (none) else (prefix_Zone.j1 kj1 x4_1 ((Int.tmod a0_3 x4_1) != 0) a0_0 a0_1 a0_2 a0_3)) else (prefix_Zone.j1 kj1 x4_1 true a0_0 a0_1 a0_2 a0_3)) = some (r1, r2) := H
    have A7 := Aside0.mk A70
    clear A70
    by_cases c8 : t188 = true
    ·
     subst c8
     have H1 : (if x4_1 = 0 then (none) else (prefix_Zone.j1 kj1 x4_1 ((Int.tmod a0_3 x4_1) != 0) a0_0 a0_1 a0_2 a0_3)) = some (r1, r2) := by rw [if_pos rfl] at H; exact H
     clear H
     have H := H1
     clear H1
     by_cases c9 : x4_1 = 0
     ·
      rw [if_pos c9] at H
      exact absurd H (by simp)
     ·
      rw [if_neg c9] at H
      have c9b0 : (x4_1 == 0) = false := beq_eq_false_iff_ne.mpr c9
      have c9b1 : (x4_1 != 0) = true := bne_iff_ne.mpr c9
      (first | rw [c9b0] | (simp only [i64_w, i32_w]; rw [c9b0]) | skip)
      have H' := Aside0.mk H
      clear H
      obtain ⟨hcz10_0, hcz10_1, hcz10_2, hcz10_3, hfz10_0, hfz10_1, hfz10_2, hfz10_3⟩ := pC4 BK187
      go_wp2_with (first | ((with_reducible refine gate_callee (f := 9) rfl ?_); refine goesA (some 12) Tryd.func9 #[.agg #[.bool a0_0, .int .u64 a0_1, .int .u64 a0_2, .int .i64 a0_3]] ?_; (with_reducible refine (prefix_Valid.calls a0_0 a0_1 a0_2 a0_3 true _ A7.out).mono ?_); rintro e w11 ⟨rfl, hb⟩; refine ⟨_, rfl, ?_⟩; replace BK187 := (pB BK187 hb); replace HB := (pS HB hb); (try clear hb); obtain ⟨hcz12_0, hcz12_1, hcz12_2, hcz12_3, hfz12_0, hfz12_1, hfz12_2, hfz12_3⟩ := pC4 BK187))
      refine Met.intro ?_
      go_step
      (repeat apply Exists.intro)
      refine ⟨?rel, ?heq_⟩
      case heq_ => first | rfl | (rw [c9b0]) | (simp only [c9b0])
      case rel => exact ⟨_, (((Int.tmod a0_3 x4_1) != 0)), pT, H', ⟨by have := HJ1.out; first | omega | exact Nat.le_refl _⟩, ⟨pM BK187⟩, ⟨pE HB⟩⟩
    ·
     replace c8 := Bool.eq_false_iff.mpr c8
     subst c8
     have H1 : (prefix_Zone.j1 kj1 x4_1 true a0_0 a0_1 a0_2 a0_3) = some (r1, r2) := by rw [if_neg (show ¬ (false = true) by decide)] at H; exact H
     clear H
     have H := H1
     clear H1
     have H' := Aside0.mk H
     clear H
     obtain ⟨hcz13_0, hcz13_1, hcz13_2, hcz13_3, hfz13_0, hfz13_1, hfz13_2, hfz13_3⟩ := pC4 BK187
     go_wp2_with (first | ((with_reducible refine gate_callee (f := 9) rfl ?_); refine goesA (some 12) Tryd.func9 #[.agg #[.bool a0_0, .int .u64 a0_1, .int .u64 a0_2, .int .i64 a0_3]] ?_; (with_reducible refine (prefix_Valid.calls a0_0 a0_1 a0_2 a0_3 false _ A7.out).mono ?_); rintro e w14 ⟨rfl, hb⟩; refine ⟨_, rfl, ?_⟩; replace BK187 := (pB BK187 hb); replace HB := (pS HB hb); (try clear hb)))
     go_meet
     case rel => exact ⟨_, (true), pT, H', ⟨by have := HJ1.out; first | omega | exact Nat.le_refl _⟩, ⟨pM BK187⟩, ⟨pE HB⟩⟩
   case rest =>
    clear HC6
    try clear c1
    try clear p2
    try clear c5
    try clear c8
    try clear c9
    try clear c9b0
    try clear c9b1
    try clear hcz10_0 hcz10_1 hcz10_2 hcz10_3
    try clear hcz12_0 hcz12_1 hcz12_2 hcz12_3
    try clear hcz13_0 hcz13_1 hcz13_2 hcz13_3
    try clear hcz4_0 hcz4_1 hcz4_2 hcz4_3
    try clear hfz10_0 hfz10_1 hfz10_2 hfz10_3
    try clear hfz12_0 hfz12_1 hfz12_2 hfz12_3
    try clear hfz13_0 hfz13_1 hfz13_2 hfz13_3
    try clear hfz4_0 hfz4_1 hfz4_2 hfz4_3
    try clear p2
    obtain ⟨kq, x20_5, rfl, HA, HJ5, BK187, HB⟩ := hcut
    cases kq with
    | zero => exact absurd HA.out (by simp [prefix_Zone.j1])
    | succ kj5 =>
     have H := HA.out
     clear HA
     simp only [prefix_Zone.j1] at H
     by_cases c15 : x20_5 = true
     ·
      subst c15
      have H1 : (some ((⟨#[]⟩ : ByteArray), false)) = some (r1, r2) := by rw [if_pos rfl] at H; exact H
      clear H
      have H := H1
      clear H1
      simp only [Option.some.injEq, Prod.mk.injEq] at H
      obtain ⟨rfl, rfl⟩ := H
      go_wp2
      go_ret2
      exact pR (pE HB)
     ·
      replace c15 := Bool.eq_false_iff.mpr c15
      subst c15
      have H1 : ((addr_Reverse.f kj5 a0_0 a0_1 a0_2).bind fun bt189 => (if bt189.2 = 0 then (prefix_Zone.l0 kj5 x4_1 bt189.1 a0_3 a0_0 a0_1 a0_2 a0_3) else (some ((⟨#[]⟩ : ByteArray), false)))) = some (r1, r2) := by rw [if_neg (show ¬ (false = true) by decide)] at H; exact H
      clear H
      have H := H1
      clear H1
      replace H := Option.bind_eq_some_iff.mp H
      obtain ⟨⟨t189, t190⟩, A160, H⟩ := H
      replace H : (if t190 = 0 then (prefix_Zone.l0 kj5 x4_1 t189 a0_3 a0_0 a0_1 a0_2 a0_3) else (some ((⟨#[]⟩ : ByteArray), false))) = some (r1, r2) := H
      have A16 := Aside0.mk A160
      clear A160
      by_cases c17 : t190 = 0
      ·
       rw [if_pos c17] at H
       have c17b0 : (t190 == 0) = true := beq_iff_eq.mpr c17
       have c17b1 : (t190 != 0) = false := bne_eq_false_iff_eq.mpr c17
       clear c17
       have H' := Aside0.mk H
       clear H
       obtain ⟨hcz18_0, hcz18_1, hcz18_2, hcz18_3, hfz18_0, hfz18_1, hfz18_2, hfz18_3⟩ := pC4 BK187
       go_wp2_with (first | ((with_reducible refine gate_callee (f := 17) rfl ?_); refine goesA (some 24) Tryd.func17 #[.agg #[.bool a0_0, .int .u64 a0_1, .int .u64 a0_2]] ?_; (with_reducible refine (addr_Reverse.calls kj5 a0_0 a0_1 a0_2 t189 t190 _ ?side1 A16.out).mono ?_); (case side1 => exact Laid.below HLD.out (pE HB)); rintro e w19 ⟨rfl, hb⟩; refine ⟨_, rfl, ?_⟩; replace BK187 := (pB BK187 hb); replace HB := (pS HB hb); (try clear hb); obtain ⟨hcz20_0, hcz20_1, hcz20_2, hcz20_3, hfz20_0, hfz20_1, hfz20_2, hfz20_3⟩ := pC4 BK187))
       go_loopg [5, 7] kj5 (fun kq v5 v7 w' => ∃ (x5_3 : ByteArray) (x7_3 : Int), v5 = .string x5_3 ∧ v7 = .int .i64 x7_3 ∧ Aside0 (prefix_Zone.l0 kq x4_1 x5_3 x7_3 a0_0 a0_1 a0_2 a0_3 = some (r1, r2)) ∧ Aside0 (kq ≤ kj5) ∧ Aside0 (w'.heap[gb187]? = some (.cells #[.bool a0_0, .int .u64 a0_1, .int .u64 a0_2, .int .i64 a0_3] 26 (0, 0))) ∧ Aside0 (Below w.heap.size w w'))
       case atStart => exact ⟨(t189), (a0_3), pT, pT, H', ⟨Nat.le_refl _⟩, ⟨pM BK187⟩, ⟨pE HB⟩⟩
       case round =>
        clear H'
        try clear c1
        try clear p2
        try clear c5
        try clear c8
        try clear c9
        try clear c9b0
        try clear c9b1
        try clear c15
        try clear c16
        try clear c17
        try clear c17b0
        try clear c17b1
        try clear hcz10_0 hcz10_1 hcz10_2 hcz10_3
        try clear hcz12_0 hcz12_1 hcz12_2 hcz12_3
        try clear hcz13_0 hcz13_1 hcz13_2 hcz13_3
        try clear hcz18_0 hcz18_1 hcz18_2 hcz18_3
        try clear hcz20_0 hcz20_1 hcz20_2 hcz20_3
        try clear hcz4_0 hcz4_1 hcz4_2 hcz4_3
        try clear hfz10_0 hfz10_1 hfz10_2 hfz10_3
        try clear hfz12_0 hfz12_1 hfz12_2 hfz12_3
        try clear hfz13_0 hfz13_1 hfz13_2 hfz13_3
        try clear hfz18_0 hfz18_1 hfz18_2 hfz18_3
        try clear hfz20_0 hfz20_1 hfz20_2 hfz20_3
        try clear hfz4_0 hfz4_1 hfz4_2 hfz4_3
        try clear p2
        obtain ⟨x5_3, x7_3, rfl, rfl, HA, HK3, BK187, HB⟩ := hrel
        cases gk with
        | zero => exact absurd HA.out (by simp [prefix_Zone.l0])
        | succ k3 =>
         have H := HA.out
         clear HA
         simp only [prefix_Zone.l0] at H
         replace H := Option.bind_eq_some_iff.mp H
         obtain ⟨t191, A210, H⟩ := H
         replace H : (if x7_3 < t191 then ((strings_Cut.f x5_3 (⟨#[46]⟩ : ByteArray)).bind fun bt192 => (prefix_Zone.l0 k3 x4_1 bt192.2.1 (wrap64 (x7_3 + x4_1)) a0_0 a0_1 a0_2 a0_3)) else (some (x5_3, true))) = some (r1, r2) := H
         have A21 := Aside0.mk A210
         clear A210
         by_cases c22 : x7_3 < t191
         ·
          rw [if_pos c22] at H
          have c22b0 : decide (x7_3 < t191) = true := decide_eq_true c22
          clear c22
          replace H := Option.bind_eq_some_iff.mp H
          obtain ⟨⟨t192, t193, t194⟩, A230, H⟩ := H
          replace H : (prefix_Zone.l0 k3 x4_1 t193 (wrap64 (x7_3 + x4_1)) a0_0 a0_1 a0_2 a0_3) = some (r1, r2) := H
          have A23 := Aside0.mk A230
          clear A230
          have H' := Aside0.mk H
          clear H
          obtain ⟨hcz24_0, hcz24_1, hcz24_2, hcz24_3, hfz24_0, hfz24_1, hfz24_2, hfz24_3⟩ := pC4 BK187
          go_wp2_with (first | ((with_reducible refine gate_callee (f := 29) rfl ?_); refine goesA (some 34) Tryd.func29 #[.agg #[.bool a0_0, .int .u64 a0_1, .int .u64 a0_2]] ?_; (with_reducible refine (prefix_length.calls a0_0 a0_1 a0_2 t191 _ A21.out).mono ?_); rintro e w25 ⟨rfl, hb⟩; refine ⟨_, rfl, ?_⟩; replace BK187 := (pB BK187 hb); replace HB := (pS HB hb); (try clear hb)) | ((with_reducible refine gate_callee (f := 32) rfl ?_); refine goesA (some 41) Tryd.func32 #[.string x5_3, .string (⟨#[46]⟩ : ByteArray)] ?_; (with_reducible refine (strings_Cut.calls x5_3 (⟨#[46]⟩ : ByteArray) t192 t193 t194 _ ?side1 A23.out).mono ?_); (case side1 => exact Laid.below HLD.out (pE HB)); rintro e w' ⟨rfl, ⟨nd, rfl⟩⟩; refine ⟨_, rfl, ?_⟩))
          go_roundg k3
          case measure => have := HJ1.out; have := HJ5.out; have := HK3.out; omega
          case rel => exact ⟨(t193), (wrap64 (x7_3 + x4_1)), pT, pT, H', ⟨by have := HJ1.out; have := HJ5.out; have := HK3.out; omega⟩, ⟨pM BK187⟩, ⟨pE HB⟩⟩
         ·
          rw [if_neg c22] at H
          have c22b0 : decide (x7_3 < t191) = false := decide_eq_false c22
          clear c22
          simp only [Option.some.injEq, Prod.mk.injEq] at H
          obtain ⟨rfl, rfl⟩ := H
          obtain ⟨hcz26_0, hcz26_1, hcz26_2, hcz26_3, hfz26_0, hfz26_1, hfz26_2, hfz26_3⟩ := pC4 BK187
          go_wp2_with (first | ((with_reducible refine gate_callee (f := 29) rfl ?_); refine goesA (some 34) Tryd.func29 #[.agg #[.bool a0_0, .int .u64 a0_1, .int .u64 a0_2]] ?_; (with_reducible refine (prefix_length.calls a0_0 a0_1 a0_2 t191 _ A21.out).mono ?_); rintro e w27 ⟨rfl, hb⟩; refine ⟨_, rfl, ?_⟩; replace BK187 := (pB BK187 hb); replace HB := (pS HB hb); (try clear hb)))
          go_ret2
          exact pR (pE HB)
      ·
       rw [if_neg c17] at H
       have c17b0 : (t190 == 0) = false := beq_eq_false_iff_ne.mpr c17
       have c17b1 : (t190 != 0) = true := bne_iff_ne.mpr c17
       simp only [Option.some.injEq, Prod.mk.injEq] at H
       obtain ⟨rfl, rfl⟩ := H
       obtain ⟨hcz28_0, hcz28_1, hcz28_2, hcz28_3, hfz28_0, hfz28_1, hfz28_2, hfz28_3⟩ := pC4 BK187
       go_wp2_with (first | ((with_reducible refine gate_callee (f := 17) rfl ?_); refine goesA (some 24) Tryd.func17 #[.agg #[.bool a0_0, .int .u64 a0_1, .int .u64 a0_2]] ?_; (with_reducible refine (addr_Reverse.calls kj5 a0_0 a0_1 a0_2 t189 t190 _ ?side1 A16.out).mono ?_); (case side1 => exact Laid.below HLD.out (pE HB)); rintro e w29 ⟨rfl, hb⟩; refine ⟨_, rfl, ?_⟩; replace BK187 := (pB BK187 hb); replace HB := (pS HB hb); (try clear hb)))
       go_ret2
       exact pR (pE HB)

/-! ### prefix_Part: function 24 -/
mutual
def prefix_Part.j0 : Nat → Int → Int → Bool → Bool → Int → Int → Int → Option (Bool × Int × Int × Int × Bool)
 | 0, _, _, _, _, _, _, _ => none
 | k + 1, x1, x2, x28, x196000, x196001, x196002, x196003 => if x28 = true then (some (false, 0, 0, 0, false)) else (if (wrap64 (x1 - x196003)) < 64 then (if 0 ≤ (IntKind.u64.wrap (wrap64 (x1 - x196003))) then (prefix_Part.j1 k x1 x2 ((shr .u64 x2 (IntKind.u64.wrap (wrap64 (x1 - x196003)))) != 0) x196000 x196001 x196002 x196003) else (none)) else (prefix_Part.j1 k x1 x2 false x196000 x196001 x196002 x196003))
def prefix_Part.j1 : Nat → Int → Int → Bool → Bool → Int → Int → Int → Option (Bool × Int × Int × Int × Bool)
 | 0, _, _, _, _, _, _, _ => none
 | k + 1, x1, x2, x42, x196000, x196001, x196002, x196003 => if x42 = true then (some (false, 0, 0, 0, false)) else ((prefix_length.f x196000 x196001 x196002).bind fun t199 => (if (IntKind.u64.wrap (wrap64 (t199 - x1))) ≥ 64 then (if 0 ≤ (IntKind.u64.wrap ((IntKind.u64.wrap (wrap64 (t199 - x1))) - 64)) then (some (x196000, Go.bits .or .u64 x196001 (shl .u64 x2 (IntKind.u64.wrap ((IntKind.u64.wrap (wrap64 (t199 - x1))) - 64))), Go.bits .or .u64 x196002 0, x1, true)) else (none)) else (if (IntKind.u64.wrap (wrap64 (t199 - x1))) > 0 then (if 0 ≤ (IntKind.u64.wrap (64 - (IntKind.u64.wrap (wrap64 (t199 - x1))))) then (if 0 ≤ (IntKind.u64.wrap (wrap64 (t199 - x1))) then (some (x196000, Go.bits .or .u64 x196001 (shr .u64 x2 (IntKind.u64.wrap (64 - (IntKind.u64.wrap (wrap64 (t199 - x1)))))), Go.bits .or .u64 x196002 (shl .u64 x2 (IntKind.u64.wrap (wrap64 (t199 - x1)))), x1, true)) else (none)) else (none)) else (some (x196000, Go.bits .or .u64 x196001 0, Go.bits .or .u64 x196002 x2, x1, true)))))
end
def prefix_Part.f (k : Nat) (a0_0 : Bool) (a0_1 : Int) (a0_2 : Int) (a0_3 : Int) (a1 : Int) (a2 : Int) : Option (Bool × Int × Int × Int × Bool) := (prefix_Valid.f a0_0 a0_1 a0_2 a0_3).bind fun t197 => (if t197 = true then (if a1 < a0_3 then (prefix_Part.j0 k a1 a2 true a0_0 a0_1 a0_2 a0_3) else ((prefix_length.f a0_0 a0_1 a0_2).bind fun t198 => (prefix_Part.j0 k a1 a2 (decide (a1 > t198)) a0_0 a0_1 a0_2 a0_3))) else (prefix_Part.j0 k a1 a2 true a0_0 a0_1 a0_2 a0_3))
theorem prefix_Part.mono_l : ∀ k, (∀ y0 y1 y2 y3 y4 y5 y6, LeO (prefix_Part.j0 k y0 y1 y2 y3 y4 y5 y6) (prefix_Part.j0 (k + 1) y0 y1 y2 y3 y4 y5 y6)) ∧ (∀ y0 y1 y2 y3 y4 y5 y6, LeO (prefix_Part.j1 k y0 y1 y2 y3 y4 y5 y6) (prefix_Part.j1 (k + 1) y0 y1 y2 y3 y4 y5 y6))
 | 0 => ⟨fun _ _ _ _ _ _ _ r h => by simp [prefix_Part.j0] at h, fun _ _ _ _ _ _ _ r h => by simp [prefix_Part.j1] at h⟩
 | k + 1 => by
  obtain ⟨ih0, ih1⟩ := prefix_Part.mono_l k
  refine ⟨?_, ?_⟩
  ·
   intro y0 y1 y2 y3 y4 y5 y6
   unfold prefix_Part.j0
   repeat' first
   | (with_reducible exact ih0 _ _ _ _ _ _ _)
   | (with_reducible exact ih1 _ _ _ _ _ _ _)
   | (with_reducible exact LeO.refl _)
   | (with_reducible exact LeO.none _)
   | (with_reducible refine LeO.ite ?_ ?_)
   | (with_reducible refine LeO.bind ?_ (fun _ => ?_))
   | exact ih0 _ _ _ _ _ _ _
   | exact ih1 _ _ _ _ _ _ _
   | exact LeO.none _
   | refine LeO.ite ?_ ?_
   | refine LeO.bind ?_ (fun _ => ?_)
  ·
   intro y0 y1 y2 y3 y4 y5 y6
   unfold prefix_Part.j1
   repeat' first
   | (with_reducible exact ih0 _ _ _ _ _ _ _)
   | (with_reducible exact ih1 _ _ _ _ _ _ _)
   | (with_reducible exact LeO.refl _)
   | (with_reducible exact LeO.none _)
   | (with_reducible refine LeO.ite ?_ ?_)
   | (with_reducible refine LeO.bind ?_ (fun _ => ?_))
   | exact ih0 _ _ _ _ _ _ _
   | exact ih1 _ _ _ _ _ _ _
   | exact LeO.none _
   | refine LeO.ite ?_ ?_
   | refine LeO.bind ?_ (fun _ => ?_)
theorem prefix_Part.mono : ∀ a0 a1 a2 a3 a4 a5 k, LeO (prefix_Part.f k a0 a1 a2 a3 a4 a5) (prefix_Part.f (k + 1) a0 a1 a2 a3 a4 a5) := by
 intro a0 a1 a2 a3 a4 a5 k
 obtain ⟨ih0, ih1⟩ := prefix_Part.mono_l k
 unfold prefix_Part.f
 repeat' first
  | (with_reducible exact ih0 _ _ _ _ _ _ _)
  | (with_reducible exact ih1 _ _ _ _ _ _ _)
  | (with_reducible exact LeO.refl _)
  | (with_reducible exact LeO.none _)
  | (with_reducible refine LeO.ite ?_ ?_)
  | (with_reducible refine LeO.bind ?_ (fun _ => ?_))
  | exact ih0 _ _ _ _ _ _ _
  | exact ih1 _ _ _ _ _ _ _
  | exact LeO.none _
  | refine LeO.ite ?_ ?_
  | refine LeO.bind ?_ (fun _ => ?_)
set_option maxHeartbeats 40000000 in
set_option maxRecDepth 100000 in
theorem prefix_Part.calls (k : Nat) (a0_0 : Bool) (a0_1 : Int) (a0_2 : Int) (a0_3 : Int) (a1 : Int) (a2 : Int) (r1 : Bool) (r2 : Int) (r3 : Int) (r4 : Int) (r5 : Bool) (w : World) (h : prefix_Part.f k a0_0 a0_1 a0_2 a0_3 a1 a2 = some (r1, r2, r3, r4, r5)) :
 Calls Tryd.prog 24 #[.agg #[.bool a0_0, .int .u64 a0_1, .int .u64 a0_2, .int .i64 a0_3], .int .i64 a1, .int .u64 a2] w fun e w' => e = .returned (.tuple #[.agg #[.bool r1, .int .u64 r2, .int .u64 r3, .int .i64 r4], .bool r5]) ∧ Below w.heap.size w w' := by
 have hu26 := Tryd.underlying26
 have hu24 := Tryd.underlying24
 have HB := Aside0.mk (Below.refl w.heap.size w)
 have H : ((prefix_Valid.f a0_0 a0_1 a0_2 a0_3).bind fun t197 => (if t197 = true then (if a1 < a0_3 then (prefix_Part.j0 k a1 a2 true a0_0 a0_1 a0_2 a0_3) else ((prefix_length.f a0_0 a0_1 a0_2).bind fun t198 => (prefix_Part.j0 k a1 a2 (decide (a1 > t198)) a0_0 a0_1 a0_2 a0_3))) else (prefix_Part.j0 k a1 a2 true a0_0 a0_1 a0_2 a0_3))) = some (r1, r2, r3, r4, r5) := h
 clear h
 have HC4 := Aside0.mk H
 clear H
 go_enter Tryd.func24, Tryd.ntmps24
 go_upto_region 1 with (first | ((with_reducible refine gate_dst (N := 3) rfl ?_); refine boxA (N := 3) (cs := #[.bool a0_0, .int .u64 a0_1, .int .u64 a0_2, .int .i64 a0_3]) (t := 26) ?_; intro gb195 hg w5 hbox hb; have BK195 := Aside0.mk (hbox); have GW195 := (pZ HB hg); have GE195 := (pZ HB hg); replace HB := (pS HB hb); clear hb hbox hg) | ((with_reducible refine gate_dst (N := 6) rfl ?_); refine boxA (N := 6) (cs := #[.bool false, .int .u64 0, .int .u64 0, .int .i64 0]) (t := 26) ?_; intro gb196 hg w6 hbox hb; have BK196 := Aside0.mk (hbox); have GW196 := (pZ HB hg); have GE196 := (pZ HB hg); have NB195_196 := (pL BK195 hg); have NB196_195 := (pG BK195 hg); replace BK195 := (pB BK195 hb); replace HB := (pS HB hb); clear hb hbox hg))
 (try simp only [Act.put, List.setIfInBounds_toArray, List.set_cons_zero, List.set_cons_succ])
 go_cut [28] (fun v28 wc => ∃ (kq : Nat) (x28_3 : Bool), v28 = .bool x28_3 ∧ Aside0 (prefix_Part.j0 kq a1 a2 x28_3 a0_0 a0_1 a0_2 a0_3 = some (r1, r2, r3, r4, r5)) ∧ Aside0 (kq ≤ k) ∧ Aside0 (wc.heap[gb195]? = some (.cells #[.bool a0_0, .int .u64 a0_1, .int .u64 a0_2, .int .i64 a0_3] 26 (0, 0))) ∧ Aside0 (wc.heap[gb196]? = some (.cells #[.bool false, .int .u64 0, .int .u64 0, .int .i64 0] 26 (0, 0))) ∧ Aside0 (Below w.heap.size w wc))
 case first =>
  have H := HC4.out
  clear HC4
  replace H := Option.bind_eq_some_iff.mp H
  obtain ⟨t197, A70, H⟩ := H
  replace H : (if t197 = true then (if a1 < a0_3 then (prefix_Part.j0 k a1 a2 true a0_0 a0_1 a0_2 a0_3) else ((prefix_length.f a0_0 a0_1 a0_2).bind fun t198 => (prefix_Part.j0 k a1 a2 (decide (a1 > t198)) a0_0 a0_1 a0_2 a0_3))) else (prefix_Part.j0 k a1 a2 true a0_0 a0_1 a0_2 a0_3)) = some (r1, r2, r3, r4, r5) := H
  have A7 := Aside0.mk A70
  clear A70
  by_cases c8 : t197 = true
  ·
   subst c8
   have H1 : (if a1 < a0_3 then (prefix_Part.j0 k a1 a2 true a0_0 a0_1 a0_2 a0_3) else ((prefix_length.f a0_0 a0_1 a0_2).bind fun t198 => (prefix_Part.j0 k a1 a2 (decide (a1 > t198)) a0_0 a0_1 a0_2 a0_3))) = some (r1, r2, r3, r4, r5) := by rw [if_pos rfl] at H; exact H
   clear H
   have H := H1
   clear H1
   by_cases c9 : a1 < a0_3
   ·
    rw [if_pos c9] at H
    have c9b0 : decide (a1 < a0_3) = true := decide_eq_true c9
    clear c9
    (first | rw [c9b0] | (simp only [i64_w, i32_w]; rw [c9b0]) | skip)
    have H' := Aside0.mk H
    clear H
    have hnb10 := NB195_196.out
    have hnc10 := NB196_195.out
    obtain ⟨hcz11_0, hcz11_1, hcz11_2, hcz11_3, hfz11_0, hfz11_1, hfz11_2, hfz11_3⟩ := pC4 BK195
    go_wp2_with (first | ((with_reducible refine gate_callee (f := 9) rfl ?_); refine goesA (some 14) Tryd.func9 #[.agg #[.bool a0_0, .int .u64 a0_1, .int .u64 a0_2, .int .i64 a0_3]] ?_; (with_reducible refine (prefix_Valid.calls a0_0 a0_1 a0_2 a0_3 true _ A7.out).mono ?_); rintro e w12 ⟨rfl, hb⟩; refine ⟨_, rfl, ?_⟩; replace BK195 := (pB BK195 hb); replace BK196 := (pB BK196 hb); replace HB := (pS HB hb); (try clear hb); obtain ⟨hcz13_0, hcz13_1, hcz13_2, hcz13_3, hfz13_0, hfz13_1, hfz13_2, hfz13_3⟩ := pC4 BK195))
    refine Met.intro ?_
    go_step
    (repeat apply Exists.intro)
    refine ⟨?rel, ?heq_⟩
    case heq_ => first | rfl | (rw [c9b0]) | (simp only [c9b0])
    case rel => exact ⟨_, (true), pT, H', ⟨by first | omega | exact Nat.le_refl _⟩, ⟨pM BK195⟩, ⟨pM BK196⟩, ⟨pE HB⟩⟩
   ·
    rw [if_neg c9] at H
    have c9b0 : decide (a1 < a0_3) = false := decide_eq_false c9
    clear c9
    (first | rw [c9b0] | (simp only [i64_w, i32_w]; rw [c9b0]) | skip)
    replace H := Option.bind_eq_some_iff.mp H
    obtain ⟨t198, A140, H⟩ := H
    replace H : (prefix_Part.j0 k a1 a2 (decide (a1 > t198)) a0_0 a0_1 a0_2 a0_3) = some (r1, r2, r3, r4, r5) := H
    have A14 := Aside0.mk A140
    clear A140
    have H' := Aside0.mk H
    clear H
    have hnb15 := NB195_196.out
    have hnc15 := NB196_195.out
    obtain ⟨hcz16_0, hcz16_1, hcz16_2, hcz16_3, hfz16_0, hfz16_1, hfz16_2, hfz16_3⟩ := pC4 BK195
    go_wp2_with (first | ((with_reducible refine gate_callee (f := 9) rfl ?_); refine goesA (some 14) Tryd.func9 #[.agg #[.bool a0_0, .int .u64 a0_1, .int .u64 a0_2, .int .i64 a0_3]] ?_; (with_reducible refine (prefix_Valid.calls a0_0 a0_1 a0_2 a0_3 true _ A7.out).mono ?_); rintro e w17 ⟨rfl, hb⟩; refine ⟨_, rfl, ?_⟩; replace BK195 := (pB BK195 hb); replace BK196 := (pB BK196 hb); replace HB := (pS HB hb); (try clear hb); obtain ⟨hcz18_0, hcz18_1, hcz18_2, hcz18_3, hfz18_0, hfz18_1, hfz18_2, hfz18_3⟩ := pC4 BK195) | (go_at_call 29; (with_reducible refine (prefix_length.calls a0_0 a0_1 a0_2 t198 _ A14.out).mono ?_); rintro e w19 ⟨rfl, hb⟩; replace BK195 := (pB BK195 hb); replace BK196 := (pB BK196 hb); replace HB := (pS HB hb); (try clear hb)))
    refine Met.intro ?_
    go_step
    (repeat apply Exists.intro)
    refine ⟨?rel, ?heq_⟩
    case heq_ => first | rfl | (rw [c9b0]) | (simp only [c9b0])
    case rel => exact ⟨_, (decide (a1 > t198)), pT, H', ⟨by first | omega | exact Nat.le_refl _⟩, ⟨pM BK195⟩, ⟨pM BK196⟩, ⟨pE HB⟩⟩
  ·
   replace c8 := Bool.eq_false_iff.mpr c8
   subst c8
   have H1 : (prefix_Part.j0 k a1 a2 true a0_0 a0_1 a0_2 a0_3) = some (r1, r2, r3, r4, r5) := by rw [if_neg (show ¬ (false = true) by decide)] at H; exact H
   clear H
   have H := H1
   clear H1
   have H' := Aside0.mk H
   clear H
   have hnb20 := NB195_196.out
   have hnc20 := NB196_195.out
   obtain ⟨hcz21_0, hcz21_1, hcz21_2, hcz21_3, hfz21_0, hfz21_1, hfz21_2, hfz21_3⟩ := pC4 BK195
   go_wp2_with (first | ((with_reducible refine gate_callee (f := 9) rfl ?_); refine goesA (some 14) Tryd.func9 #[.agg #[.bool a0_0, .int .u64 a0_1, .int .u64 a0_2, .int .i64 a0_3]] ?_; (with_reducible refine (prefix_Valid.calls a0_0 a0_1 a0_2 a0_3 false _ A7.out).mono ?_); rintro e w22 ⟨rfl, hb⟩; refine ⟨_, rfl, ?_⟩; replace BK195 := (pB BK195 hb); replace BK196 := (pB BK196 hb); replace HB := (pS HB hb); (try clear hb)))
   go_meet
   case rel => exact ⟨_, (true), pT, H', ⟨by first | omega | exact Nat.le_refl _⟩, ⟨pM BK195⟩, ⟨pM BK196⟩, ⟨pE HB⟩⟩
 case rest =>
  clear HC4
  try clear c1
  try clear c2
  try clear p2
  try clear c8
  try clear c9
  try clear c9b0
  try clear c10
  try clear c15
  try clear c20
  try clear hcz11_0 hcz11_1 hcz11_2 hcz11_3
  try clear hcz13_0 hcz13_1 hcz13_2 hcz13_3
  try clear hcz16_0 hcz16_1 hcz16_2 hcz16_3
  try clear hcz18_0 hcz18_1 hcz18_2 hcz18_3
  try clear hcz21_0 hcz21_1 hcz21_2 hcz21_3
  try clear hfz11_0 hfz11_1 hfz11_2 hfz11_3
  try clear hfz13_0 hfz13_1 hfz13_2 hfz13_3
  try clear hfz16_0 hfz16_1 hfz16_2 hfz16_3
  try clear hfz18_0 hfz18_1 hfz18_2 hfz18_3
  try clear hfz21_0 hfz21_1 hfz21_2 hfz21_3
  obtain ⟨kq, x28_3, rfl, HA, HJ3, BK195, BK196, HB⟩ := hcut
  cases kq with
  | zero => exact absurd HA.out (by simp [prefix_Part.j0])
  | succ kj3 =>
   have H := HA.out
   clear HA
   simp only [prefix_Part.j0] at H
   by_cases c23 : x28_3 = true
   ·
    subst c23
    have H1 : (some (false, 0, 0, 0, false)) = some (r1, r2, r3, r4, r5) := by rw [if_pos rfl] at H; exact H
    clear H
    have H := H1
    clear H1
    simp only [Option.some.injEq, Prod.mk.injEq] at H
    obtain ⟨rfl, rfl, rfl, rfl, rfl⟩ := H
    have hnb24 := NB196_195.out
    have hnc24 := NB195_196.out
    obtain ⟨hcz25_0, hcz25_1, hcz25_2, hcz25_3, hfz25_0, hfz25_1, hfz25_2, hfz25_3⟩ := pC4 BK196
    go_wp2
    refine bodyPost_ret (results_ct rfl _ _ gb196 26 #[.bool false, .int .u64 0, .int .u64 0, .int .i64 0] (0, 0) _ rfl (pP (pP (pP (pP (pM BK196))))) Tryd.underlying26 rfl (by kernel_rfl)) rfl ?_
    exact pR (pE HB)
   ·
    replace c23 := Bool.eq_false_iff.mpr c23
    subst c23
    have H1 : (if (wrap64 (a1 - a0_3)) < 64 then (if 0 ≤ (IntKind.u64.wrap (wrap64 (a1 - a0_3))) then (prefix_Part.j1 kj3 a1 a2 ((shr .u64 a2 (IntKind.u64.wrap (wrap64 (a1 - a0_3)))) != 0) a0_0 a0_1 a0_2 a0_3) else (none)) else (prefix_Part.j1 kj3 a1 a2 false a0_0 a0_1 a0_2 a0_3)) = some (r1, r2, r3, r4, r5) := by rw [if_neg (show ¬ (false = true) by decide)] at H; exact H
    clear H
    have H := H1
    clear H1
    have HC26 := Aside0.mk H
    clear H
    have hnb27 := NB195_196.out
    have hnc27 := NB196_195.out
    obtain ⟨hcz28_0, hcz28_1, hcz28_2, hcz28_3, hfz28_0, hfz28_1, hfz28_2, hfz28_3⟩ := pC4 BK195
    go_upto_region 4 with (fail)
    go_cut [42] (fun v42 wc => ∃ (kq : Nat) (x42_25 : Bool), v42 = .bool x42_25 ∧ Aside0 (prefix_Part.j1 kq a1 a2 x42_25 a0_0 a0_1 a0_2 a0_3 = some (r1, r2, r3, r4, r5)) ∧ Aside0 (kq ≤ kj3) ∧ Aside0 (wc.heap[gb195]? = some (.cells #[.bool a0_0, .int .u64 a0_1, .int .u64 a0_2, .int .i64 a0_3] 26 (0, 0))) ∧ Aside0 (wc.heap[gb196]? = some (.cells #[.bool false, .int .u64 0, .int .u64 0, .int .i64 0] 26 (0, 0))) ∧ Aside0 (Below w.heap.size w wc))
    case first =>
     have H := HC26.out
     clear HC26
     by_cases c29 : (wrap64 (a1 - a0_3)) < 64
     ·
      rw [if_pos c29] at H
      have c29b0 : decide ((wrap64 (a1 - a0_3)) < 64) = true := decide_eq_true c29
      clear c29
      (first | rw [c29b0] | (simp only [i64_w, i32_w]; rw [c29b0]) | skip)
      obtain ⟨ji30, hji30⟩ : ∃ j_ : Int, (IntKind.u64.wrap (wrap64 (a1 - a0_3))) = j_ := ⟨_, rfl⟩
      replace H : (if 0 ≤ (ji30) then (prefix_Part.j1 kj3 a1 a2 ((shr .u64 a2 (ji30)) != 0) a0_0 a0_1 a0_2 a0_3) else (none)) = some (r1, r2, r3, r4, r5) := by first | (rw [hji30] at H; exact H) | (simp only [hji30] at H ⊢; exact H)
      by_cases c31 : 0 ≤ (ji30)
      ·
       rw [if_pos c31] at H
       have c31b0 := eq_true c31
       have c31b1 : decide (0 ≤ (ji30)) = true := decide_eq_true c31
       clear c31
       obtain ⟨ji32, hji32⟩ : ∃ j_ : Int, (shr .u64 a2 (ji30)) = j_ := ⟨_, rfl⟩
       (try rw [hji32] at hji30)
       replace H : (prefix_Part.j1 kj3 a1 a2 ((ji32) != 0) a0_0 a0_1 a0_2 a0_3) = some (r1, r2, r3, r4, r5) := by first | (rw [hji32] at H; exact H) | (simp only [hji32] at H ⊢; exact H)
       have hji32_ : (a2 / 2 ^ min (ji30).toNat 64) = ji32 := hji32
       have hji32z : (ji30) ≤ 64 → (a2 / 2 ^ (ji30).toNat) = ji32 := shr_small hji32
       have H' := Aside0.mk H
       clear H
       go_wp2
       refine Met.intro ?_
       go_step
       (repeat apply Exists.intro)
       refine ⟨?rel, ?heq_⟩
       case heq_ => first | rfl | (rw [c29b0]) | (simp only [c29b0])
       case rel => exact ⟨_, (((ji32) != 0)), (by first | rfl | (simp; done) | (simp only [← hji32] <;> (first | rfl | simp)) | (simp [*]; done) | ((try simp only [Bool.not_not]); (generalize ByteArray.toList _ = l_); cases l_ <;> rfl) | (simp; (generalize ByteArray.toList _ = l_); cases l_ <;> rfl)), (by first | exact H' | (simp only [hji30, hji32]; exact H') | (simp only [hji30, hji32] at H' ⊢; exact H')), ⟨by have := HJ3.out; first | omega | exact Nat.le_refl _⟩, ⟨pM BK195⟩, ⟨pM BK196⟩, ⟨pE HB⟩⟩
      ·
       rw [if_neg c31] at H
       exact absurd H (by simp)
     ·
      rw [if_neg c29] at H
      have c29b0 : decide ((wrap64 (a1 - a0_3)) < 64) = false := decide_eq_false c29
      clear c29
      (first | rw [c29b0] | (simp only [i64_w, i32_w]; rw [c29b0]) | skip)
      have H' := Aside0.mk H
      clear H
      go_wp2
      refine Met.intro ?_
      go_step
      (repeat apply Exists.intro)
      refine ⟨?rel, ?heq_⟩
      case heq_ => first | rfl | (rw [c29b0]) | (simp only [c29b0])
      case rel => exact ⟨_, (false), pT, H', ⟨by have := HJ3.out; first | omega | exact Nat.le_refl _⟩, ⟨pM BK195⟩, ⟨pM BK196⟩, ⟨pE HB⟩⟩
    case rest =>
     clear HC26
     try clear c1
     try clear c2
     try clear p2
     try clear c3
     try clear p6
     try clear c8
     try clear c9
     try clear c9b0
     try clear c10
     try clear c15
     try clear c20
     try clear c23
     try clear c24
     try clear c27
     try clear c29
     try clear c29b0
     try clear c31
     try clear c31b0
     try clear c31b1
     try clear hcz11_0 hcz11_1 hcz11_2 hcz11_3
     try clear hcz13_0 hcz13_1 hcz13_2 hcz13_3
     try clear hcz16_0 hcz16_1 hcz16_2 hcz16_3
     try clear hcz18_0 hcz18_1 hcz18_2 hcz18_3
     try clear hcz21_0 hcz21_1 hcz21_2 hcz21_3
     try clear hcz25_0 hcz25_1 hcz25_2 hcz25_3
     try clear hcz28_0 hcz28_1 hcz28_2 hcz28_3
     try clear hfz11_0 hfz11_1 hfz11_2 hfz11_3
     try clear hfz13_0 hfz13_1 hfz13_2 hfz13_3
     try clear hfz16_0 hfz16_1 hfz16_2 hfz16_3
     try clear hfz18_0 hfz18_1 hfz18_2 hfz18_3
     try clear hfz21_0 hfz21_1 hfz21_2 hfz21_3
     try clear hfz25_0 hfz25_1 hfz25_2 hfz25_3
     try clear hfz28_0 hfz28_1 hfz28_2 hfz28_3
     try clear p2
     obtain ⟨kq, x42_25, rfl, HA, HJ25, BK195, BK196, HB⟩ := hcut
     cases kq with
     | zero => exact absurd HA.out (by simp [prefix_Part.j1])
     | succ kj25 =>
      have H := HA.out
      clear HA
      simp only [prefix_Part.j1] at H
      by_cases c33 : x42_25 = true
      ·
       subst c33
       have H1 : (some (false, 0, 0, 0, false)) = some (r1, r2, r3, r4, r5) := by rw [if_pos rfl] at H; exact H
       clear H
       have H := H1
       clear H1
       simp only [Option.some.injEq, Prod.mk.injEq] at H
       obtain ⟨rfl, rfl, rfl, rfl, rfl⟩ := H
       have hnb34 := NB196_195.out
       have hnc34 := NB195_196.out
       obtain ⟨hcz35_0, hcz35_1, hcz35_2, hcz35_3, hfz35_0, hfz35_1, hfz35_2, hfz35_3⟩ := pC4 BK196
       go_wp2
       refine bodyPost_ret (results_ct rfl _ _ gb196 26 #[.bool false, .int .u64 0, .int .u64 0, .int .i64 0] (0, 0) _ rfl (pP (pP (pP (pP (pM BK196))))) Tryd.underlying26 rfl (by kernel_rfl)) rfl ?_
       exact pR (pE HB)
      ·
       replace c33 := Bool.eq_false_iff.mpr c33
       subst c33
       have H1 : ((prefix_length.f a0_0 a0_1 a0_2).bind fun t199 => (if (IntKind.u64.wrap (wrap64 (t199 - a1))) ≥ 64 then (if 0 ≤ (IntKind.u64.wrap ((IntKind.u64.wrap (wrap64 (t199 - a1))) - 64)) then (some (a0_0, Go.bits .or .u64 a0_1 (shl .u64 a2 (IntKind.u64.wrap ((IntKind.u64.wrap (wrap64 (t199 - a1))) - 64))), Go.bits .or .u64 a0_2 0, a1, true)) else (none)) else (if (IntKind.u64.wrap (wrap64 (t199 - a1))) > 0 then (if 0 ≤ (IntKind.u64.wrap (64 - (IntKind.u64.wrap (wrap64 (t199 - a1))))) then (if 0 ≤ (IntKind.u64.wrap (wrap64 (t199 - a1))) then (some (a0_0, Go.bits .or .u64 a0_1 (shr .u64 a2 (IntKind.u64.wrap (64 - (IntKind.u64.wrap (wrap64 (t199 - a1)))))), Go.bits .or .u64 a0_2 (shl .u64 a2 (IntKind.u64.wrap (wrap64 (t199 - a1)))), a1, true)) else (none)) else (none)) else (some (a0_0, Go.bits .or .u64 a0_1 0, Go.bits .or .u64 a0_2 a2, a1, true))))) = some (r1, r2, r3, r4, r5) := by rw [if_neg (show ¬ (false = true) by decide)] at H; exact H
       clear H
       have H := H1
       clear H1
       replace H := Option.bind_eq_some_iff.mp H
       obtain ⟨t199, A360, H⟩ := H
       replace H : (if (IntKind.u64.wrap (wrap64 (t199 - a1))) ≥ 64 then (if 0 ≤ (IntKind.u64.wrap ((IntKind.u64.wrap (wrap64 (t199 - a1))) - 64)) then (some (a0_0, Go.bits .or .u64 a0_1 (shl .u64 a2 (IntKind.u64.wrap ((IntKind.u64.wrap (wrap64 (t199 - a1))) - 64))), Go.bits .or .u64 a0_2 0, a1, true)) else (none)) else (if (IntKind.u64.wrap (wrap64 (t199 - a1))) > 0 then (if 0 ≤ (IntKind.u64.wrap (64 - (IntKind.u64.wrap (wrap64 (t199 - a1))))) then (if 0 ≤ (IntKind.u64.wrap (wrap64 (t199 - a1))) then (some (a0_0, Go.bits .or .u64 a0_1 (shr .u64 a2 (IntKind.u64.wrap (64 - (IntKind.u64.wrap (wrap64 (t199 - a1)))))), Go.bits .or .u64 a0_2 (shl .u64 a2 (IntKind.u64.wrap (wrap64 (t199 - a1)))), a1, true)) else (none)) else (none)) else (some (a0_0, Go.bits .or .u64 a0_1 0, Go.bits .or .u64 a0_2 a2, a1, true)))) = some (r1, r2, r3, r4, r5) := H
       have A36 := Aside0.mk A360
       clear A360
       by_cases c37 : (IntKind.u64.wrap (wrap64 (t199 - a1))) ≥ 64
       ·
        rw [if_pos c37] at H
        have c37b0 : decide (64 ≤ (IntKind.u64.wrap (wrap64 (t199 - a1)))) = true := decide_eq_true c37
        clear c37
        obtain ⟨ji38, hji38⟩ : ∃ j_ : Int, (IntKind.u64.wrap ((IntKind.u64.wrap (wrap64 (t199 - a1))) - 64)) = j_ := ⟨_, rfl⟩
        replace H : (if 0 ≤ (ji38) then (some (a0_0, Go.bits .or .u64 a0_1 (shl .u64 a2 (ji38)), Go.bits .or .u64 a0_2 0, a1, true)) else (none)) = some (r1, r2, r3, r4, r5) := by first | (rw [hji38] at H; exact H) | (simp only [hji38] at H ⊢; exact H)
        (try rw [hji38] at A36)
        by_cases c39 : 0 ≤ (ji38)
        ·
         rw [if_pos c39] at H
         have c39b0 := eq_true c39
         have c39b1 : decide (0 ≤ (ji38)) = true := decide_eq_true c39
         clear c39
         obtain ⟨ji40, hji40⟩ : ∃ j_ : Int, (shl .u64 a2 (ji38)) = j_ := ⟨_, rfl⟩
         (try rw [hji40] at hji38)
         replace H : (some (a0_0, Go.bits .or .u64 a0_1 (ji40), Go.bits .or .u64 a0_2 0, a1, true)) = some (r1, r2, r3, r4, r5) := by first | (rw [hji40] at H; exact H) | (simp only [hji40] at H ⊢; exact H)
         (try rw [hji40] at A36)
         have hji40_ : (IntKind.u64.wrap (a2 * 2 ^ min (ji38).toNat 64)) = ji40 := hji40
         have hji40z : (ji38) ≤ 64 → (IntKind.u64.wrap (a2 * 2 ^ (ji38).toNat)) = ji40 := shl_small hji40
         simp only [Option.some.injEq, Prod.mk.injEq] at H
         obtain ⟨rfl, rfl, rfl, rfl, rfl⟩ := H
         have hnb41 := NB195_196.out
         have hnc41 := NB196_195.out
         obtain ⟨hcz42_0, hcz42_1, hcz42_2, hcz42_3, hfz42_0, hfz42_1, hfz42_2, hfz42_3⟩ := pC4 BK195
         go_wp2_with (first | ((with_reducible refine gate_callee (f := 29) rfl ?_); refine goesA (some 46) Tryd.func29 #[.agg #[.bool a0_0, .int .u64 a0_1, .int .u64 a0_2]] ?_; (with_reducible refine (prefix_length.calls a0_0 a0_1 a0_2 t199 _ A36.out).mono ?_); rintro e w43 ⟨rfl, hb⟩; refine ⟨_, rfl, ?_⟩; replace BK195 := (pB BK195 hb); replace BK196 := (pB BK196 hb); replace HB := (pS HB hb); (try clear hb); obtain ⟨hcz44_0, hcz44_1, hcz44_2, hcz44_3, hfz44_0, hfz44_1, hfz44_2, hfz44_3⟩ := pC4 BK195) | ((with_reducible refine gate_dst (N := 12) rfl ?_); refine boxA (N := 12) (cs := #[.bool false, .int .u64 0, .int .u64 0]) (t := 24) ?_; intro gb200 hg w45 hbox hb; have BK200 := Aside0.mk (hbox); have GW200 := (pZ HB hg); have GE200 := (pZ HB hg); have NB195_200 := (pL BK195 hg); have NB200_195 := (pG BK195 hg); have NB196_200 := (pL BK196 hg); have NB200_196 := (pG BK196 hg); replace BK195 := (pB BK195 hb); replace BK196 := (pB BK196 hb); replace HB := (pS HB hb); clear hb hbox hg; have hnb46 := NB200_195.out; have hnc46 := NB195_200.out; have hnb47 := NB200_196.out; have hnc47 := NB196_200.out; obtain ⟨hcz48_0, hcz48_1, hcz48_2, hfz48_0, hfz48_1, hfz48_2⟩ := pC3 BK200; obtain ⟨hcz49_0, hcz49_1, hcz49_2, hcz49_3, hfz49_0, hfz49_1, hfz49_2, hfz49_3⟩ := pC4 BK196) | ((with_reducible refine gate_store (t := 26) (p := 6) rfl ?_); refine store_event (t := 26) (p := 6) (v := ?vo_w50) (w1 := (((((((((w45.setCell ⟨gb200, 0, none⟩ (.bool a0_0)).setCell ⟨gb200, 1, none⟩ (.int .u64 a0_1)).setCell ⟨gb200, 2, none⟩ (.int .u64 a0_2)).setCell ⟨gb200, 1, none⟩ (.int .u64 (Go.bits .or .u64 a0_1 (ji40)))).setCell ⟨gb200, 2, none⟩ (.int .u64 (Go.bits .or .u64 a0_2 0))).setCell ⟨gb196, 0, none⟩ (.bool a0_0)).setCell ⟨gb196, 1, none⟩ (.int .u64 (Go.bits .or .u64 a0_1 (ji40)))).setCell ⟨gb196, 2, none⟩ (.int .u64 (Go.bits .or .u64 a0_2 0))).setCell ⟨gb196, 3, none⟩ (.int .i64 a1))) ?hg ?ho ?hn ?hr ?_; (case ho => rfl); (case hg => rfl); (case hn => rfl); (case hr => first | (exact Ext.run_store_chain 26 _ _ rfl _ _ _ _ rfl rfl (pK NB196_200 (pK NB196_200 (pK NB196_200 (pK NB196_200 (pK NB196_200 (pM BK196)))))) (by kernel_rfl) rfl rfl rfl) | (go_simp; done) | (go_simp; rfl)); intro w50 hw; replace BK195 : Aside0 (w50.heap[gb195]? = some (.cells #[.bool a0_0, .int .u64 a0_1, .int .u64 a0_2, .int .i64 a0_3] 26 (0, 0))) := (pW hw (pK NB195_196 (pK NB195_196 (pK NB195_196 (pK NB195_196 (pK NB195_200 (pK NB195_200 (pK NB195_200 (pK NB195_200 (pK NB195_200 (pM BK195))))))))))); replace BK196 : Aside0 (w50.heap[gb196]? = some (.cells #[.bool a0_0, .int .u64 (Go.bits .or .u64 a0_1 (ji40)), .int .u64 (Go.bits .or .u64 a0_2 0), .int .i64 a1] 26 (0, 0))) := (pW hw (pP (pP (pP (pP (pK NB196_200 (pK NB196_200 (pK NB196_200 (pK NB196_200 (pK NB196_200 (pM BK196))))))))))); replace BK200 : Aside0 (w50.heap[gb200]? = some (.cells #[.bool a0_0, .int .u64 (Go.bits .or .u64 a0_1 (ji40)), .int .u64 (Go.bits .or .u64 a0_2 0)] 24 (0, 0))) := (pW hw (pK NB200_196 (pK NB200_196 (pK NB200_196 (pK NB200_196 (pP (pP (pP (pP (pP (pM BK200))))))))))); replace HB : Aside0 (Below w.heap.size w w50) := ⟨(by rw [hw]; exact (by repeat (first | (with_reducible first | exact HB.out | apply below_alloc | apply pw_below_drewN | apply below_drew1 | refine below_set ?_ GE195.out | refine below_set ?_ GE196.out | refine below_set ?_ GE200.out) | exact HB.out)))⟩; clear hw))
         refine bodyPost_ret (results_ct rfl _ _ gb196 26 #[.bool a0_0, .int .u64 (Go.bits .or .u64 a0_1 (ji40)), .int .u64 (Go.bits .or .u64 a0_2 0), .int .i64 a1] (0, 0) _ rfl (pM BK196) Tryd.underlying26 rfl (by kernel_rfl)) rfl ?_
         exact ⟨by first | rfl | (simp [errW_none, errW_some] <;> rfl) | (simp only [← hji38, ← hji40]; first | rfl | (simp [errW_none, errW_some] <;> rfl)) | (simp [*, errW_none, errW_some] <;> rfl), by repeat (first | (with_reducible first | exact HB.out | apply below_alloc | apply pw_below_drewN | apply below_drew1 | refine below_set ?_ GE195.out | refine below_set ?_ GE196.out | refine below_set ?_ GE200.out) | exact HB.out)⟩
        ·
         rw [if_neg c39] at H
         exact absurd H (by simp)
       ·
        rw [if_neg c37] at H
        have c37b0 : decide (64 ≤ (IntKind.u64.wrap (wrap64 (t199 - a1)))) = false := decide_eq_false c37
        clear c37
        by_cases c51 : (IntKind.u64.wrap (wrap64 (t199 - a1))) > 0
        ·
         rw [if_pos c51] at H
         have c51b0 : decide (0 < (IntKind.u64.wrap (wrap64 (t199 - a1)))) = true := decide_eq_true c51
         clear c51
         obtain ⟨ji52, hji52⟩ : ∃ j_ : Int, (IntKind.u64.wrap (64 - (IntKind.u64.wrap (wrap64 (t199 - a1))))) = j_ := ⟨_, rfl⟩
         replace H : (if 0 ≤ (ji52) then (if 0 ≤ (IntKind.u64.wrap (wrap64 (t199 - a1))) then (some (a0_0, Go.bits .or .u64 a0_1 (shr .u64 a2 (ji52)), Go.bits .or .u64 a0_2 (shl .u64 a2 (IntKind.u64.wrap (wrap64 (t199 - a1)))), a1, true)) else (none)) else (none)) = some (r1, r2, r3, r4, r5) := by first | (rw [hji52] at H; exact H) | (simp only [hji52] at H ⊢; exact H)
         (try rw [hji52] at A36)
         by_cases c53 : 0 ≤ (ji52)
         ·
          rw [if_pos c53] at H
          have c53b0 := eq_true c53
          have c53b1 : decide (0 ≤ (ji52)) = true := decide_eq_true c53
          clear c53
          obtain ⟨ji54, hji54⟩ : ∃ j_ : Int, (shr .u64 a2 (ji52)) = j_ := ⟨_, rfl⟩
          (try rw [hji54] at hji52)
          replace H : (if 0 ≤ (IntKind.u64.wrap (wrap64 (t199 - a1))) then (some (a0_0, Go.bits .or .u64 a0_1 (ji54), Go.bits .or .u64 a0_2 (shl .u64 a2 (IntKind.u64.wrap (wrap64 (t199 - a1)))), a1, true)) else (none)) = some (r1, r2, r3, r4, r5) := by first | (rw [hji54] at H; exact H) | (simp only [hji54] at H ⊢; exact H)
          (try rw [hji54] at A36)
          have hji54_ : (a2 / 2 ^ min (ji52).toNat 64) = ji54 := hji54
          have hji54z : (ji52) ≤ 64 → (a2 / 2 ^ (ji52).toNat) = ji54 := shr_small hji54
          obtain ⟨ji55, hji55⟩ : ∃ j_ : Int, (IntKind.u64.wrap (wrap64 (t199 - a1))) = j_ := ⟨_, rfl⟩
          (try rw [hji55] at hji52)
          (try rw [hji55] at hji54)
          replace H : (if 0 ≤ (ji55) then (some (a0_0, Go.bits .or .u64 a0_1 (ji54), Go.bits .or .u64 a0_2 (shl .u64 a2 (ji55)), a1, true)) else (none)) = some (r1, r2, r3, r4, r5) := by first | (rw [hji55] at H; exact H) | (simp only [hji55] at H ⊢; exact H)
          (try rw [hji55] at c37b0)
          (try rw [hji55] at c51b0)
          (try rw [hji55] at A36)
          by_cases c56 : 0 ≤ (ji55)
          ·
           rw [if_pos c56] at H
           have c56b0 := eq_true c56
           have c56b1 : decide (0 ≤ (ji55)) = true := decide_eq_true c56
           clear c56
           obtain ⟨ji57, hji57⟩ : ∃ j_ : Int, (shl .u64 a2 (ji55)) = j_ := ⟨_, rfl⟩
           (try rw [hji57] at hji52)
           (try rw [hji57] at hji54)
           (try rw [hji57] at hji55)
           replace H : (some (a0_0, Go.bits .or .u64 a0_1 (ji54), Go.bits .or .u64 a0_2 (ji57), a1, true)) = some (r1, r2, r3, r4, r5) := by first | (rw [hji57] at H; exact H) | (simp only [hji57] at H ⊢; exact H)
           (try rw [hji57] at A36)
           have hji57_ : (IntKind.u64.wrap (a2 * 2 ^ min (ji55).toNat 64)) = ji57 := hji57
           have hji57z : (ji55) ≤ 64 → (IntKind.u64.wrap (a2 * 2 ^ (ji55).toNat)) = ji57 := shl_small hji57
           simp only [Option.some.injEq, Prod.mk.injEq] at H
           obtain ⟨rfl, rfl, rfl, rfl, rfl⟩ := H
           have hnb58 := NB195_196.out
           have hnc58 := NB196_195.out
           obtain ⟨hcz59_0, hcz59_1, hcz59_2, hcz59_3, hfz59_0, hfz59_1, hfz59_2, hfz59_3⟩ := pC4 BK195
           go_wp2_with (first | ((with_reducible refine gate_callee (f := 29) rfl ?_); refine goesA (some 46) Tryd.func29 #[.agg #[.bool a0_0, .int .u64 a0_1, .int .u64 a0_2]] ?_; (with_reducible refine (prefix_length.calls a0_0 a0_1 a0_2 t199 _ A36.out).mono ?_); rintro e w60 ⟨rfl, hb⟩; refine ⟨_, rfl, ?_⟩; replace BK195 := (pB BK195 hb); replace BK196 := (pB BK196 hb); replace HB := (pS HB hb); (try clear hb); obtain ⟨hcz61_0, hcz61_1, hcz61_2, hcz61_3, hfz61_0, hfz61_1, hfz61_2, hfz61_3⟩ := pC4 BK195) | ((with_reducible refine gate_dst (N := 12) rfl ?_); refine boxA (N := 12) (cs := #[.bool false, .int .u64 0, .int .u64 0]) (t := 24) ?_; intro gb201 hg w62 hbox hb; have BK201 := Aside0.mk (hbox); have GW201 := (pZ HB hg); have GE201 := (pZ HB hg); have NB195_201 := (pL BK195 hg); have NB201_195 := (pG BK195 hg); have NB196_201 := (pL BK196 hg); have NB201_196 := (pG BK196 hg); replace BK195 := (pB BK195 hb); replace BK196 := (pB BK196 hb); replace HB := (pS HB hb); clear hb hbox hg; have hnb63 := NB201_195.out; have hnc63 := NB195_201.out; have hnb64 := NB201_196.out; have hnc64 := NB196_201.out; obtain ⟨hcz65_0, hcz65_1, hcz65_2, hfz65_0, hfz65_1, hfz65_2⟩ := pC3 BK201; obtain ⟨hcz66_0, hcz66_1, hcz66_2, hcz66_3, hfz66_0, hfz66_1, hfz66_2, hfz66_3⟩ := pC4 BK196) | ((with_reducible refine gate_store (t := 26) (p := 6) rfl ?_); refine store_event (t := 26) (p := 6) (v := ?vo_w67) (w1 := (((((((((w62.setCell ⟨gb201, 0, none⟩ (.bool a0_0)).setCell ⟨gb201, 1, none⟩ (.int .u64 a0_1)).setCell ⟨gb201, 2, none⟩ (.int .u64 a0_2)).setCell ⟨gb201, 1, none⟩ (.int .u64 (Go.bits .or .u64 a0_1 (ji54)))).setCell ⟨gb201, 2, none⟩ (.int .u64 (Go.bits .or .u64 a0_2 (ji57)))).setCell ⟨gb196, 0, none⟩ (.bool a0_0)).setCell ⟨gb196, 1, none⟩ (.int .u64 (Go.bits .or .u64 a0_1 (ji54)))).setCell ⟨gb196, 2, none⟩ (.int .u64 (Go.bits .or .u64 a0_2 (ji57)))).setCell ⟨gb196, 3, none⟩ (.int .i64 a1))) ?hg ?ho ?hn ?hr ?_; (case ho => rfl); (case hg => rfl); (case hn => rfl); (case hr => first | (exact Ext.run_store_chain 26 _ _ rfl _ _ _ _ rfl rfl (pK NB196_201 (pK NB196_201 (pK NB196_201 (pK NB196_201 (pK NB196_201 (pM BK196)))))) (by kernel_rfl) rfl rfl rfl) | (go_simp; done) | (go_simp; rfl)); intro w67 hw; replace BK195 : Aside0 (w67.heap[gb195]? = some (.cells #[.bool a0_0, .int .u64 a0_1, .int .u64 a0_2, .int .i64 a0_3] 26 (0, 0))) := (pW hw (pK NB195_196 (pK NB195_196 (pK NB195_196 (pK NB195_196 (pK NB195_201 (pK NB195_201 (pK NB195_201 (pK NB195_201 (pK NB195_201 (pM BK195))))))))))); replace BK196 : Aside0 (w67.heap[gb196]? = some (.cells #[.bool a0_0, .int .u64 (Go.bits .or .u64 a0_1 (ji54)), .int .u64 (Go.bits .or .u64 a0_2 (ji57)), .int .i64 a1] 26 (0, 0))) := (pW hw (pP (pP (pP (pP (pK NB196_201 (pK NB196_201 (pK NB196_201 (pK NB196_201 (pK NB196_201 (pM BK196))))))))))); replace BK201 : Aside0 (w67.heap[gb201]? = some (.cells #[.bool a0_0, .int .u64 (Go.bits .or .u64 a0_1 (ji54)), .int .u64 (Go.bits .or .u64 a0_2 (ji57))] 24 (0, 0))) := (pW hw (pK NB201_196 (pK NB201_196 (pK NB201_196 (pK NB201_196 (pP (pP (pP (pP (pP (pM BK201))))))))))); replace HB : Aside0 (Below w.heap.size w w67) := ⟨(by rw [hw]; exact (by repeat (first | (with_reducible first | exact HB.out | apply below_alloc | apply pw_below_drewN | apply below_drew1 | refine below_set ?_ GE195.out | refine below_set ?_ GE196.out | refine below_set ?_ GE201.out) | exact HB.out)))⟩; clear hw))
           refine bodyPost_ret (results_ct rfl _ _ gb196 26 #[.bool a0_0, .int .u64 (Go.bits .or .u64 a0_1 (ji54)), .int .u64 (Go.bits .or .u64 a0_2 (ji57)), .int .i64 a1] (0, 0) _ rfl (pM BK196) Tryd.underlying26 rfl (by kernel_rfl)) rfl ?_
           exact ⟨by first | rfl | (simp [errW_none, errW_some] <;> rfl) | (simp only [← hji52, ← hji54, ← hji55, ← hji57]; first | rfl | (simp [errW_none, errW_some] <;> rfl)) | (simp [*, errW_none, errW_some] <;> rfl), by repeat (first | (with_reducible first | exact HB.out | apply below_alloc | apply pw_below_drewN | apply below_drew1 | refine below_set ?_ GE195.out | refine below_set ?_ GE196.out | refine below_set ?_ GE201.out) | exact HB.out)⟩
          ·
           rw [if_neg c56] at H
           exact absurd H (by simp)
         ·
          rw [if_neg c53] at H
          exact absurd H (by simp)
        ·
         rw [if_neg c51] at H
         have c51b0 : decide (0 < (IntKind.u64.wrap (wrap64 (t199 - a1)))) = false := decide_eq_false c51
         clear c51
         simp only [Option.some.injEq, Prod.mk.injEq] at H
         obtain ⟨rfl, rfl, rfl, rfl, rfl⟩ := H
         have hnb68 := NB195_196.out
         have hnc68 := NB196_195.out
         obtain ⟨hcz69_0, hcz69_1, hcz69_2, hcz69_3, hfz69_0, hfz69_1, hfz69_2, hfz69_3⟩ := pC4 BK195
         go_wp2_with (first | ((with_reducible refine gate_callee (f := 29) rfl ?_); refine goesA (some 46) Tryd.func29 #[.agg #[.bool a0_0, .int .u64 a0_1, .int .u64 a0_2]] ?_; (with_reducible refine (prefix_length.calls a0_0 a0_1 a0_2 t199 _ A36.out).mono ?_); rintro e w70 ⟨rfl, hb⟩; refine ⟨_, rfl, ?_⟩; replace BK195 := (pB BK195 hb); replace BK196 := (pB BK196 hb); replace HB := (pS HB hb); (try clear hb); obtain ⟨hcz71_0, hcz71_1, hcz71_2, hcz71_3, hfz71_0, hfz71_1, hfz71_2, hfz71_3⟩ := pC4 BK195) | ((with_reducible refine gate_dst (N := 12) rfl ?_); refine boxA (N := 12) (cs := #[.bool false, .int .u64 0, .int .u64 0]) (t := 24) ?_; intro gb202 hg w72 hbox hb; have BK202 := Aside0.mk (hbox); have GW202 := (pZ HB hg); have GE202 := (pZ HB hg); have NB195_202 := (pL BK195 hg); have NB202_195 := (pG BK195 hg); have NB196_202 := (pL BK196 hg); have NB202_196 := (pG BK196 hg); replace BK195 := (pB BK195 hb); replace BK196 := (pB BK196 hb); replace HB := (pS HB hb); clear hb hbox hg; have hnb73 := NB202_195.out; have hnc73 := NB195_202.out; have hnb74 := NB202_196.out; have hnc74 := NB196_202.out; obtain ⟨hcz75_0, hcz75_1, hcz75_2, hfz75_0, hfz75_1, hfz75_2⟩ := pC3 BK202; obtain ⟨hcz76_0, hcz76_1, hcz76_2, hcz76_3, hfz76_0, hfz76_1, hfz76_2, hfz76_3⟩ := pC4 BK196) | ((with_reducible refine gate_store (t := 26) (p := 6) rfl ?_); refine store_event (t := 26) (p := 6) (v := ?vo_w77) (w1 := (((((((((w72.setCell ⟨gb202, 0, none⟩ (.bool a0_0)).setCell ⟨gb202, 1, none⟩ (.int .u64 a0_1)).setCell ⟨gb202, 2, none⟩ (.int .u64 a0_2)).setCell ⟨gb202, 1, none⟩ (.int .u64 (Go.bits .or .u64 a0_1 0))).setCell ⟨gb202, 2, none⟩ (.int .u64 (Go.bits .or .u64 a0_2 a2))).setCell ⟨gb196, 0, none⟩ (.bool a0_0)).setCell ⟨gb196, 1, none⟩ (.int .u64 (Go.bits .or .u64 a0_1 0))).setCell ⟨gb196, 2, none⟩ (.int .u64 (Go.bits .or .u64 a0_2 a2))).setCell ⟨gb196, 3, none⟩ (.int .i64 a1))) ?hg ?ho ?hn ?hr ?_; (case ho => rfl); (case hg => rfl); (case hn => rfl); (case hr => first | (exact Ext.run_store_chain 26 _ _ rfl _ _ _ _ rfl rfl (pK NB196_202 (pK NB196_202 (pK NB196_202 (pK NB196_202 (pK NB196_202 (pM BK196)))))) (by kernel_rfl) rfl rfl rfl) | (go_simp; done) | (go_simp; rfl)); intro w77 hw; replace BK195 : Aside0 (w77.heap[gb195]? = some (.cells #[.bool a0_0, .int .u64 a0_1, .int .u64 a0_2, .int .i64 a0_3] 26 (0, 0))) := (pW hw (pK NB195_196 (pK NB195_196 (pK NB195_196 (pK NB195_196 (pK NB195_202 (pK NB195_202 (pK NB195_202 (pK NB195_202 (pK NB195_202 (pM BK195))))))))))); replace BK196 : Aside0 (w77.heap[gb196]? = some (.cells #[.bool a0_0, .int .u64 (Go.bits .or .u64 a0_1 0), .int .u64 (Go.bits .or .u64 a0_2 a2), .int .i64 a1] 26 (0, 0))) := (pW hw (pP (pP (pP (pP (pK NB196_202 (pK NB196_202 (pK NB196_202 (pK NB196_202 (pK NB196_202 (pM BK196))))))))))); replace BK202 : Aside0 (w77.heap[gb202]? = some (.cells #[.bool a0_0, .int .u64 (Go.bits .or .u64 a0_1 0), .int .u64 (Go.bits .or .u64 a0_2 a2)] 24 (0, 0))) := (pW hw (pK NB202_196 (pK NB202_196 (pK NB202_196 (pK NB202_196 (pP (pP (pP (pP (pP (pM BK202))))))))))); replace HB : Aside0 (Below w.heap.size w w77) := ⟨(by rw [hw]; exact (by repeat (first | (with_reducible first | exact HB.out | apply below_alloc | apply pw_below_drewN | apply below_drew1 | refine below_set ?_ GE195.out | refine below_set ?_ GE196.out | refine below_set ?_ GE202.out) | exact HB.out)))⟩; clear hw))
         refine bodyPost_ret (results_ct rfl _ _ gb196 26 #[.bool a0_0, .int .u64 (Go.bits .or .u64 a0_1 0), .int .u64 (Go.bits .or .u64 a0_2 a2), .int .i64 a1] (0, 0) _ rfl (pM BK196) Tryd.underlying26 rfl (by kernel_rfl)) rfl ?_
         exact pR (pE HB)

end Go.Proofs.YteflcmmandlknaaDoor.PA
