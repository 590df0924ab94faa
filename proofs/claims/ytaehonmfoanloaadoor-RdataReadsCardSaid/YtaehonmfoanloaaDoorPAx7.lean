/- The Go functions in Lean, with the proofs that the code comes to these answers: printed by this session's program (wip/px) out of the seat's translation. Conditions: each theorem's own. -/
import Derived.Test.YtaehonmfoanloaaDoorPAx0
import Derived.Test.YtaehonmfoanloaaDoorPAx4
import Derived.Test.YtaehonmfoanloaaDoorPAx6
namespace Go.Proofs.YtaehonmfoanloaaDoor.PA
open Go.RowKit Go.Proofs.YtaehonmfoanloaaDoorW.PrintWords Go.Proofs.YtaehonmfoanloaaDoorW.PrintLast Go.Proofs.YtaehonmfoanloaaDoorW.PrintMore
attribute [local go_sem] max2_int min2_int max_two min_two max_three min_three max_four min_four   -- for this text's walks alone
attribute [local go_sem ↓] Ext.isSome_setCell
open Press
set_option linter.unusedVariables false
set_option linter.unusedSimpArgs false

/-! ### ddiref02_Wire: function 44 -/
def ddiref02_Wire.f (k : Nat) (a0_0 : Bool) (a0_1 : Int) (a0_2 : Int) : Option (ByteArray × Int) := (ddiref02_Valid.f a0_0 a0_1 a0_2).bind fun t200 => (if t200 = true then (if a0_0 = true then ((ddiref02_octets.f k a0_1 8).bind fun t201 => ((ddiref02_octets.f k a0_2 8).bind fun t202 => (if t201.size + t202.size ≤ 9223372036854775807 then (some (t201 ++ t202, 0)) else (none)))) else ((ddiref02_octets.f k a0_2 4).bind fun t203 => (some (t203, 0)))) else (some ((⟨#[]⟩ : ByteArray), 3)))
theorem ddiref02_Wire.mono : ∀ a0 a1 a2 k, LeO (ddiref02_Wire.f k a0 a1 a2) (ddiref02_Wire.f (k + 1) a0 a1 a2) := by
 intro a0 a1 a2 k
 unfold ddiref02_Wire.f
 repeat' with_reducible first | exact ddiref02_octets.mono _ _ _ | exact LeO.refl _ | exact LeO.none _ | refine LeO.ite ?_ ?_ | refine LeO.bind ?_ (fun _ => ?_)
def ddiref02_Wire.T4 : Bool × List (List Nat × List Nat) := (true, [([], []), ([0], [0]), ([1], [1]), ([], []), ([3], [3]), ([4, 2], [4]), ([2, 5], [2, 5]), ([6, 5, 0, 1, 2, 3, 4, 5, 6], [6]), ([7, 0, 1, 2, 3, 4, 5, 6, 7], [])])
def ddiref02_Wire.B4 : List Nat := [0, 1, 3, 0, 8, 31, 63, 127, 255]
theorem ddiref02_Wire.tab4 : rtab .any (opsOf Tryd.f44 4) = ddiref02_Wire.T4 := by kernel_rfl
theorem ddiref02_Wire.bits4 : waitsOk ddiref02_Wire.T4.2 ddiref02_Wire.B4 = true := by kernel_rfl
set_option maxHeartbeats 40000000 in
set_option maxRecDepth 100000 in
theorem ddiref02_Wire.calls (k : Nat) (a0_0 : Bool) (a0_1 : Int) (a0_2 : Int) (r1 : ByteArray) (r2 : Int) (w : World) (h : ddiref02_Wire.f k a0_0 a0_1 a0_2 = some (r1, r2)) :
 Calls Tryd.prog 44 #[.agg #[.bool a0_0, .int .u64 a0_1, .int .u64 a0_2]] w fun e w' => e = .returned (.tuple #[.string r1, .int .i64 r2]) ∧ Below w.heap.size w w' := by
 have hu24 := Tryd.underlying24
 have HB := Aside0.mk (Below.refl w.heap.size w)
 have H : ((ddiref02_Valid.f a0_0 a0_1 a0_2).bind fun t200 => (if t200 = true then (if a0_0 = true then ((ddiref02_octets.f k a0_1 8).bind fun t201 => ((ddiref02_octets.f k a0_2 8).bind fun t202 => (if t201.size + t202.size ≤ 9223372036854775807 then (some (t201 ++ t202, 0)) else (none)))) else ((ddiref02_octets.f k a0_2 4).bind fun t203 => (some (t203, 0)))) else (some ((⟨#[]⟩ : ByteArray), 3)))) = some (r1, r2) := h
 clear h
 replace H := Option.bind_eq_some_iff.mp H
 obtain ⟨t200, A20, H⟩ := H
 have A2 := Aside0.mk A20
 clear A20
 by_cases c3 : t200 = true
 ·
  subst c3
  have H1 : (if a0_0 = true then ((ddiref02_octets.f k a0_1 8).bind fun t201 => ((ddiref02_octets.f k a0_2 8).bind fun t202 => (if t201.size + t202.size ≤ 9223372036854775807 then (some (t201 ++ t202, 0)) else (none)))) else ((ddiref02_octets.f k a0_2 4).bind fun t203 => (some (t203, 0)))) = some (r1, r2) := by rw [if_pos rfl] at H; exact H
  clear H
  have H := H1
  clear H1
  by_cases c4 : a0_0 = true
  ·
   subst c4
   have H1 : ((ddiref02_octets.f k a0_1 8).bind fun t201 => ((ddiref02_octets.f k a0_2 8).bind fun t202 => (if t201.size + t202.size ≤ 9223372036854775807 then (some (t201 ++ t202, 0)) else (none)))) = some (r1, r2) := by rw [if_pos rfl] at H; exact H
   clear H
   have H := H1
   clear H1
   replace H := Option.bind_eq_some_iff.mp H
   obtain ⟨t201, A50, H⟩ := H
   have A5 := Aside0.mk A50
   clear A50
   replace H := Option.bind_eq_some_iff.mp H
   obtain ⟨t202, A60, H⟩ := H
   have A6 := Aside0.mk A60
   clear A60
   by_cases c7 : t201.size + t202.size ≤ 9223372036854775807
   ·
    rw [if_pos c7] at H
    have c7b0 := eq_true c7
    have c7b1 := decide_eq_true c7
    try have c7b2 : (9223372036854775807 < t201.size + t202.size) = False := eq_false (Nat.not_lt.2 c7)
    simp only [Option.some.injEq, Prod.mk.injEq] at H
    obtain ⟨rfl, rfl⟩ := H
    go_enter Tryd.func44, Tryd.ntmps44
    try go_wp2_with (first | ((with_reducible refine gate_dst (N := 1) rfl ?_); refine boxA (N := 1) (cs := #[.bool true, .int .u64 a0_1, .int .u64 a0_2]) (t := 24) ?_; intro gb199 hg w8 hbox hb; have BK199 := Aside0.mk (hbox); have GE199 := (pZ HB hg); replace HB := (pS HB hb); clear hb hbox hg; obtain ⟨hcz9_0, hcz9_1, hcz9_2, hfz9_0, hfz9_1, hfz9_2⟩ := pC3 BK199) | ((with_reducible refine gate_callee (f := 31) rfl ?_); refine goesA (some 5) Tryd.func31 #[.agg #[.bool true, .int .u64 a0_1, .int .u64 a0_2]] ?_; (with_reducible refine (ddiref02_Valid.calls true a0_1 a0_2 true _ A2.out).mono ?_); rintro e w10 ⟨rfl, hb⟩; refine ⟨_, rfl, ?_⟩; replace BK199 := (pB BK199 hb); replace HB := (pS HB hb); (try clear hb); obtain ⟨hcz11_0, hcz11_1, hcz11_2, hfz11_0, hfz11_1, hfz11_2⟩ := pC3 BK199))
    replace BK199 := Aside0.mk (blk_drew BK199.out)
    replace HB := Aside0.mk (below_drew1 HB.out)
    refine start_ (n := 9) (S := fun w' => w'.cell? ⟨gb199, 0, none⟩ = some (.bool true) ∧ w'.cell? ⟨gb199, 1, none⟩ = some (.int .u64 a0_1) ∧ w'.cell? ⟨gb199, 2, none⟩ = some (.int .u64 a0_2)) (ds := []) (tk 9 0) (by kernel_rfl) rfl rfl ⟨bC BK199 0, bC BK199 1, bC BK199 2⟩ (fun hHeld => ?_); refine with_tabW ddiref02_Wire.tab4 ddiref02_Wire.bits4 (fun HT_ HW_ => ?_)
    generalize w10.drew = w12 at BK199 HB hHeld ⊢
    refine pureA (i := 0) (some 9) HT_ (tk 9 1) ?_
    refine pureA (i := 3) (some 12) HT_ (tr [1, 2, 1, 5]) ?_
    refine takeA (i := 1) (some 10) HT_ HW_ (tr [2, 1, 1, 5]) hHeld ?_
    refine takeA (i := 4) (some 13) HT_ HW_ (tr [2, 1, 2, 4]) hHeld ?_
    refine one_ (i := 2) (N := some 11) (tk 9 5) rfl rfl (one_of HT_.out (by kernel_rfl)) (by decide) (fun K hK => ?_)
    refine goesR Tryd.func62 #[.int .u64 a0_1, .int .i64 8] ?_
    with_reducible refine (ddiref02_octets.calls k a0_1 8 t201 _ A5.out).mono ?_
    rintro e w13 ⟨rfl, hb⟩
    refine ⟨_, rfl, ?_⟩
    replace BK199 := (pB BK199 hb)
    replace HB := (pS HB hb)
    (try clear hb)
    refine hK.out _ _ ⟨bC BK199 0, bC BK199 1, bC BK199 2⟩ (fun hHeld => ?_)
    clear hK K
    refine normA (N := some 11) ?_
    refine one_ (i := 5) (N := some 14) (tk 9 6) rfl rfl (one_of HT_.out (by kernel_rfl)) (by decide) (fun K hK => ?_)
    refine goesR Tryd.func62 #[.int .u64 a0_2, .int .i64 8] ?_
    with_reducible refine (ddiref02_octets.calls k a0_2 8 t202 _ A6.out).mono ?_
    rintro e w14 ⟨rfl, hb⟩
    refine ⟨_, rfl, ?_⟩
    replace BK199 := (pB BK199 hb)
    replace HB := (pS HB hb)
    (try clear hb)
    refine hK.out _ _ ⟨bC BK199 0, bC BK199 1, bC BK199 2⟩ (fun hHeld => ?_)
    clear hK K
    refine normA (N := some 14) ?_
    refine pureA (i := 6) (some 15) HT_ (tk 9 7) ?_
    refine pureA (i := 7) (some 2) HT_ (tk 9 8) ?_
    refine pureA (i := 8) (some 3) HT_ (tk 9 9) ?_
    refine done_ (done_of HT_.out (by kernel_rfl)) ?_
    try go_wp2
    go_ret2
    exact pR (pE HB)
   ·
    rw [if_neg c7] at H
    exact absurd H (by simp)
  ·
   replace c4 := Bool.eq_false_iff.mpr c4
   subst c4
   rw [if_neg (show ¬ (false = true) by decide)] at H
   replace H := Option.bind_eq_some_iff.mp H
   obtain ⟨t203, A150, H⟩ := H
   have A15 := Aside0.mk A150
   clear A150
   simp only [Option.some.injEq, Prod.mk.injEq] at H
   obtain ⟨rfl, rfl⟩ := H
   go_enter Tryd.func44, Tryd.ntmps44
   go_wp2_with (first | ((with_reducible refine gate_dst (N := 1) rfl ?_); refine boxA (N := 1) (cs := #[.bool false, .int .u64 a0_1, .int .u64 a0_2]) (t := 24) ?_; intro gb199 hg w16 hbox hb; have BK199 := Aside0.mk (hbox); have GE199 := (pZ HB hg); replace HB := (pS HB hb); clear hb hbox hg; obtain ⟨hcz17_0, hcz17_1, hcz17_2, hfz17_0, hfz17_1, hfz17_2⟩ := pC3 BK199) | ((with_reducible refine gate_callee (f := 31) rfl ?_); refine goesA (some 5) Tryd.func31 #[.agg #[.bool false, .int .u64 a0_1, .int .u64 a0_2]] ?_; (with_reducible refine (ddiref02_Valid.calls false a0_1 a0_2 true _ A2.out).mono ?_); rintro e w18 ⟨rfl, hb⟩; refine ⟨_, rfl, ?_⟩; replace BK199 := (pB BK199 hb); replace HB := (pS HB hb); (try clear hb); obtain ⟨hcz19_0, hcz19_1, hcz19_2, hfz19_0, hfz19_1, hfz19_2⟩ := pC3 BK199) | ((with_reducible refine gate_callee (f := 62) rfl ?_); refine goesA (some 18) Tryd.func62 #[.int .u64 a0_2, .int .i64 4] ?_; (with_reducible refine (ddiref02_octets.calls k a0_2 4 t203 _ A15.out).mono ?_); rintro e w20 ⟨rfl, hb⟩; refine ⟨_, rfl, ?_⟩; replace BK199 := (pB BK199 hb); replace HB := (pS HB hb); (try clear hb)))
   go_ret2
   exact pR (pE HB)
 ·
  replace c3 := Bool.eq_false_iff.mpr c3
  subst c3
  rw [if_neg (show ¬ (false = true) by decide)] at H
  simp only [Option.some.injEq, Prod.mk.injEq] at H
  obtain ⟨rfl, rfl⟩ := H
  go_enter Tryd.func44, Tryd.ntmps44
  go_wp2_with (first | ((with_reducible refine gate_dst (N := 1) rfl ?_); refine boxA (N := 1) (cs := #[.bool a0_0, .int .u64 a0_1, .int .u64 a0_2]) (t := 24) ?_; intro gb199 hg w21 hbox hb; have BK199 := Aside0.mk (hbox); have GE199 := (pZ HB hg); replace HB := (pS HB hb); clear hb hbox hg; obtain ⟨hcz22_0, hcz22_1, hcz22_2, hfz22_0, hfz22_1, hfz22_2⟩ := pC3 BK199) | ((with_reducible refine gate_callee (f := 31) rfl ?_); refine goesA (some 5) Tryd.func31 #[.agg #[.bool a0_0, .int .u64 a0_1, .int .u64 a0_2]] ?_; (with_reducible refine (ddiref02_Valid.calls a0_0 a0_1 a0_2 false _ A2.out).mono ?_); rintro e w23 ⟨rfl, hb⟩; refine ⟨_, rfl, ?_⟩; replace BK199 := (pB BK199 hb); replace HB := (pS HB hb); (try clear hb)))
  go_ret2
  exact pR (pE HB)

/-! ### ddiref05_Number: function 46 -/
mutual
def ddiref05_Number.l0 : Nat → Int → List Int → Int → Option (ByteArray)
 | 0, _, _, _ => none
 | k + 1, x0, x5, x6 => if x6 ≥ 0 then (ddiref05_Number.l1 k x0 x5 x6 x0 0) else (some (strOfNums x5))
def ddiref05_Number.l1 : Nat → Int → List Int → Int → Int → Int → Option (ByteArray)
 | 0, _, _, _, _, _ => none
 | k + 1, x0, x5, x6, x7, x8 => if x8 < x6 then (ddiref05_Number.l1 k x0 x5 x6 (wrap64 (Int.tdiv x7 256)) (wrap64 (x8 + 1))) else (if x5.length < 140737488355328 then (ddiref05_Number.l0 k x0 (x5 ++ [(Int.tmod x7 256) % 256]) (wrap64 (x6 - 1))) else (none))
end
def ddiref05_Number.f (k : Nat) (a0 : Int) (a1 : Int) : Option (ByteArray) := ddiref05_Number.l0 k a0 ([] : List Int) (wrap64 (a1 - 1))
theorem ddiref05_Number.mono_l : ∀ k, (∀ y0 y1 y2, LeO (ddiref05_Number.l0 k y0 y1 y2) (ddiref05_Number.l0 (k + 1) y0 y1 y2)) ∧ (∀ y0 y1 y2 y3 y4, LeO (ddiref05_Number.l1 k y0 y1 y2 y3 y4) (ddiref05_Number.l1 (k + 1) y0 y1 y2 y3 y4))
 | 0 => ⟨fun _ _ _ r h => by simp [ddiref05_Number.l0] at h, fun _ _ _ _ _ r h => by simp [ddiref05_Number.l1] at h⟩
 | k + 1 => by
  obtain ⟨ih0, ih1⟩ := ddiref05_Number.mono_l k
  refine ⟨?_, ?_⟩
  ·
   intro y0 y1 y2
   unfold ddiref05_Number.l0
   repeat' with_reducible first | exact ih0 _ _ _ | exact ih1 _ _ _ _ _ | exact LeO.refl _ | exact LeO.none _ | refine LeO.ite ?_ ?_ | refine LeO.bind ?_ (fun _ => ?_)
  ·
   intro y0 y1 y2 y3 y4
   unfold ddiref05_Number.l1
   repeat' with_reducible first | exact ih0 _ _ _ | exact ih1 _ _ _ _ _ | exact LeO.refl _ | exact LeO.none _ | refine LeO.ite ?_ ?_ | refine LeO.bind ?_ (fun _ => ?_)
theorem ddiref05_Number.mono : ∀ a0 a1 k, LeO (ddiref05_Number.f k a0 a1) (ddiref05_Number.f (k + 1) a0 a1) := by
 intro a0 a1 k
 obtain ⟨ih0, ih1⟩ := ddiref05_Number.mono_l k
 unfold ddiref05_Number.f
 repeat' with_reducible first | exact ih0 _ _ _ | exact ih1 _ _ _ _ _ | exact LeO.refl _ | exact LeO.none _ | refine LeO.ite ?_ ?_ | refine LeO.bind ?_ (fun _ => ?_)
set_option maxHeartbeats 40000000 in
set_option maxRecDepth 100000 in
theorem ddiref05_Number.calls (k : Nat) (a0 : Int) (a1 : Int) (r : ByteArray) (w : World) (h : ddiref05_Number.f k a0 a1 = some r) :
 Calls Tryd.prog 46 #[.int .i64 a0, .int .i64 a1] w fun e w' => e = .returned (.string r) ∧ Below w.heap.size w w' := by
 have HB := Aside0.mk (Below.refl w.heap.size w)
 have H : (ddiref05_Number.l0 k a0 ([] : List Int) (wrap64 (a1 - 1))) = some r := h
 clear h
 have H' := Aside0.mk H
 clear H
 go_enter Tryd.func46, Tryd.ntmps46
 go_wp2
 go_loopg [5, 6] k (fun kq v5 v6 w' => ∃ (x5_1 : List Int) (x6_1 : Int), v6 = .int .i64 x6_1 ∧ Aside0 (ddiref05_Number.l0 kq a0 x5_1 x6_1 = some r) ∧ Aside0 (kq ≤ k) ∧ Aside0 (Kd.R (Kd.int .u8) 5 w' w.heap.size (fun _ => True) v5 x5_1) ∧ Aside0 (Below w.heap.size w w'))
 case atStart => exact ⟨(([] : List Int)), (wrap64 (a1 - 1)), pT, H', ⟨Nat.le_refl _⟩, ⟨by first | exact Kd.R_nil _ _ _ _ _ | exact Kd.N_nil _ _ _ _ _ | exact Kd.V_nil _ _ _ _ _ | exact Kd.Q_nil _ _ _ _ _ | exact Kd.S_nil _ _ _ _ _⟩, ⟨pE HB⟩⟩
 case round =>
  clear H'
  obtain ⟨x5_1, x6_1, rfl, HA, HK1, HO_5, HB⟩ := hrel
  cases gk with
  | zero => exact absurd HA.out (by simp [ddiref05_Number.l0])
  | succ k1 =>
   have H := HA.out
   clear HA
   simp only [ddiref05_Number.l0] at H
   by_cases c3 : x6_1 ≥ 0
   ·
    rw [if_pos c3] at H
    have c3b0 := decide_eq_true c3
    clear c3
    have H' := Aside0.mk H
    clear H
    go_wp2
    go_loopg [7, 8] k1 (fun kq v7 v8 w' => ∃ (x7_2 : Int) (x8_2 : Int), v7 = .int .i64 x7_2 ∧ v8 = .int .i64 x8_2 ∧ Aside0 (ddiref05_Number.l1 kq a0 x5_1 x6_1 x7_2 x8_2 = some r) ∧ Aside0 (kq ≤ k1) ∧ Aside0 (Kd.R (Kd.int .u8) 5 w' w.heap.size (fun _ => True) u5 x5_1) ∧ Aside0 (Below w.heap.size w w'))
    case atStart => exact ⟨(a0), (0), pT, pT, H', ⟨Nat.le_refl _⟩, ⟨by (with_reducible repeat (first | apply Kd.R_alloc | apply Kd.R_drewN | apply Kd.R_drew)); exact HO_5.out⟩, ⟨pE HB⟩⟩
    case round =>
     clear H'
     try clear c3
     try clear c3b0
     obtain ⟨x7_2, x8_2, rfl, rfl, HA, HK2, HO_5, HB⟩ := hrel
     cases gk with
     | zero => exact absurd HA.out (by simp [ddiref05_Number.l1])
     | succ k2 =>
      have H := HA.out
      clear HA
      simp only [ddiref05_Number.l1] at H
      by_cases c4 : x8_2 < x6_1
      ·
       rw [if_pos c4] at H
       have c4b0 := decide_eq_true c4
       clear c4
       have H' := Aside0.mk H
       clear H
       go_wp2
       go_roundg k2
       case measure => have := HK1.out; have := HK2.out; omega
       case rel => exact ⟨(wrap64 (Int.tdiv x7_2 256)), (wrap64 (x8_2 + 1)), pT, pT, H', ⟨by have := HK1.out; have := HK2.out; omega⟩, ⟨by (with_reducible repeat (first | apply Kd.R_alloc | apply Kd.R_drewN | apply Kd.R_drew)); exact HO_5.out⟩, ⟨pE HB⟩⟩
      ·
       rw [if_neg c4] at H
       have c4b0 := decide_eq_false c4
       clear c4
       by_cases c5 : x5_1.length < 140737488355328
       ·
        rw [if_pos c5] at H
        have LMc5 := Aside0.mk c5
        clear c5
        obtain ⟨y204, hy204⟩ : ∃ y_ : List Int, y_ = (x5_1 ++ [(Int.tmod x7_2 256) % 256]) := ⟨_, rfl⟩
        replace H : (ddiref05_Number.l0 k2 a0 y204 (wrap64 (x6_1 - 1))) = some r := by first | (rw [hy204]; with_reducible exact H) | (have H2_ := (Option.bind_some _ _).symm.trans H; rw [hy204]; with_reducible exact H2_) | (have H2_ := (Option.bind_some _ _).symm.trans H; with_reducible exact H2_) | with_reducible exact H | (rw [hy204]; exact H) | exact H
        have Ny204 := Aside0.mk hy204
        clear hy204
        have H' := Aside0.mk H
        clear H
        go_wp2_with (first | ((with_reducible refine gate_builtin (b := .append) (xs := #[.tmp 23, .tmp 27]) rfl ?_); at_builtin; refine Kd.R_append (Kd.int .u8) (w0 := w) w.heap.size rfl (.tmp 23) (.tmp 27) 55 5 (.int .u8 0) 1 rfl Tryd.underlying55 info5 rfl (by decide) (by omega) u5 x5_1 ((Int.tmod x7_2 256) % 256) [.int .u8 ((Int.tmod x7_2 256) % 256)] (fun _ => True) (fun _ => False) rfl rfl ?aP (fun _ hk => hk.elim) ?aF ?aO ?aB ?aS ?aL ?_; (case aP => exact rfl); (case aB => exact (by repeat (first | (with_reducible first | exact HB.out | apply below_alloc | apply pw_below_drewN | apply below_drew1) | exact HB.out))); (case aF => exact (fun _ _ => trivial)); (case aO => exact (by (with_reducible repeat (first | apply Kd.R_alloc | apply Kd.R_drewN | apply Kd.R_drew)); exact HO_5.out)); (case aS => exact (below_size (by repeat (first | (with_reducible first | exact HB.out | apply below_alloc | apply pw_below_drewN | apply below_drew1) | exact HB.out)))); (case aL => have := LMc5.out; omega); intro v205 w6 ho hb hg hat; rw [← Ny204.out] at ho; have HO206 := Aside0.mk (ho); replace HB := Aside0.mk (hb); clear HO_5; clear ho hb hg hat))
        go_roundg k2
        case measure => have := HK1.out; have := HK2.out; omega
        case rel => exact ⟨(y204), (wrap64 (x6_1 - 1)), pT, H', ⟨by have := HK1.out; have := HK2.out; omega⟩, ⟨by (with_reducible repeat (first | apply Kd.R_alloc | apply Kd.R_drewN | apply Kd.R_drew)); exact HO206.out⟩, ⟨pE HB⟩⟩
       ·
        rw [if_neg c5] at H
        exact absurd H (by simp)
   ·
    rw [if_neg c3] at H
    have c3b0 := decide_eq_false c3
    clear c3
    obtain rfl := Option.some.inj H
    have hcv7 := own_string (P := Tryd.prog) Tryd.underlying55 Tryd.underlying5 Tryd.underlying9 (Kd.own_of_R HO_5.out)
    go_wp2
    go_ret
    exact pR (pE HB)

/-! ### ddiref01_Labels: function 63 -/
def ddiref01_Labels.f (k : Nat) (a0 : ByteArray) : Option (List ByteArray) := (ddiref01_split.f k a0).bind fun bt207 => (some bt207.1)
theorem ddiref01_Labels.mono : ∀ a0 k, LeO (ddiref01_Labels.f k a0) (ddiref01_Labels.f (k + 1) a0) := by
 intro a0 k
 unfold ddiref01_Labels.f
 repeat' with_reducible first | exact ddiref01_split.mono _ _ | exact LeO.refl _ | exact LeO.none _ | refine LeO.ite ?_ ?_ | refine LeO.bind ?_ (fun _ => ?_)
set_option maxHeartbeats 40000000 in
set_option maxRecDepth 100000 in
theorem ddiref01_Labels.calls (k : Nat) (a0 : ByteArray) (r : List ByteArray) (w : World) (h : ddiref01_Labels.f k a0 = some r) :
 Calls Tryd.prog 63 #[.string a0] w fun e w' => ∃ v0_ : Value, e = .returned (v0_) ∧ Kd.R Kd.string 9 w' w.heap.size (fun _ => True) v0_ r ∧ Below w.heap.size w w' := by
 have HB := Aside0.mk (Below.refl w.heap.size w)
 have H : ((ddiref01_split.f k a0).bind fun bt207 => (some bt207.1)) = some r := h
 clear h
 replace H := Option.bind_eq_some_iff.mp H
 obtain ⟨⟨t207, t208⟩, A20, H⟩ := H
 replace H : (some t207) = some r := H
 have A2 := Aside0.mk A20
 clear A20
 obtain rfl := Option.some.inj H
 go_enter Tryd.func63, Tryd.ntmps63
 go_wp2_with (first | ((with_reducible refine gate_callee (f := 58) rfl ?_); refine goesA (some 7) Tryd.func58 #[.string a0] ?_; (with_reducible refine (ddiref01_split.calls k a0 t207 t208 _ A2.out).mono ?_); rintro e w3 ⟨v209, rfl, ho0, hb⟩; refine ⟨_, rfl, ?_⟩; have HO210 := Aside0.mk (Kd.R_lower ho0 (below_size (by repeat (first | (with_reducible first | exact HB.out | apply below_alloc | apply pw_below_drewN | apply below_drew1) | exact HB.out)))); replace HB := (pS HB hb); (try clear hb); (try clear ho0)))
 go_ret
 exact ⟨_, by first | rfl | (simp [errW_none, errW_some] <;> rfl) | (simp [*, errW_none, errW_some] <;> rfl), by (with_reducible repeat (first | apply Kd.R_alloc | apply Kd.R_drewN | apply Kd.R_drew)); exact HO210.out, by repeat (first | (with_reducible first | exact HB.out | apply below_alloc | apply pw_below_drewN | apply below_drew1) | exact HB.out)⟩

/-! ### ddiref05_WireName: function 45 -/
def ddiref05_WireName.l0 : Nat → ByteArray → List ByteArray → Int → Option (ByteArray)
 | 0, _, _, _ => none
 | k + 1, x3, x4, x5 => if x5 < (x4.length : Int) then (if 0 ≤ x5 then ((ddiref05_Number.f k ((rdOf ByteArray.empty x4 x5).size : Int) 1).bind fun t215 => (if t215.size + (rdOf ByteArray.empty x4 x5).size ≤ 9223372036854775807 then (if x3.size + (t215 ++ (rdOf ByteArray.empty x4 x5)).size ≤ 9223372036854775807 then (ddiref05_WireName.l0 k (x3 ++ (t215 ++ (rdOf ByteArray.empty x4 x5))) x4 (wrap64 (x5 + 1))) else (none)) else (none))) else (none)) else ((ddiref05_Number.f k 0 1).bind fun t217 => (if x3.size + t217.size ≤ 9223372036854775807 then (some (x3 ++ t217)) else (none)))
def ddiref05_WireName.f (k : Nat) (a0 : ByteArray) : Option (ByteArray) := (ddiref01_Labels.f k a0).bind fun t211 => (ddiref05_WireName.l0 k (⟨#[]⟩ : ByteArray) t211 0)
theorem ddiref05_WireName.mono_l : ∀ k, (∀ y0 y1 y2, LeO (ddiref05_WireName.l0 k y0 y1 y2) (ddiref05_WireName.l0 (k + 1) y0 y1 y2))
 | 0 => fun _ _ _ r h => by simp [ddiref05_WireName.l0] at h
 | k + 1 => by
  have ih0 := ddiref05_WireName.mono_l k
  ·
   intro y0 y1 y2
   unfold ddiref05_WireName.l0
   repeat' with_reducible first | exact ih0 _ _ _ | exact ddiref01_Labels.mono _ _ | exact ddiref05_Number.mono _ _ _ | exact LeO.refl _ | exact LeO.none _ | refine LeO.ite ?_ ?_ | refine LeO.bind ?_ (fun _ => ?_)
theorem ddiref05_WireName.mono : ∀ a0 k, LeO (ddiref05_WireName.f k a0) (ddiref05_WireName.f (k + 1) a0) := by
 intro a0 k
 have ih0 := ddiref05_WireName.mono_l k
 unfold ddiref05_WireName.f
 repeat' with_reducible first | exact ih0 _ _ _ | exact ddiref01_Labels.mono _ _ | exact ddiref05_Number.mono _ _ _ | exact LeO.refl _ | exact LeO.none _ | refine LeO.ite ?_ ?_ | refine LeO.bind ?_ (fun _ => ?_)
def ddiref05_WireName.T6 : Bool × List (List Nat × List Nat) := (true, [([], []), ([], []), ([], []), ([1, 2], [1, 2]), ([3], [3]), ([4], [4]), ([5], [5]), ([], []), ([], []), ([7, 8], [7, 8]), ([9], [9]), ([6, 10], [6, 10]), ([0, 11], [0, 11]), ([12, 6, 0, 1, 2, 3, 4, 5, 6, 7, 8, 9, 10, 11, 12], [0, 12])])
def ddiref05_WireName.B6 : List Nat := [0, 0, 0, 6, 14, 30, 62, 0, 0, 384, 896, 2046, 4095, 8191]
theorem ddiref05_WireName.tab6 : rtab .any (opsOf Tryd.f45 6) = ddiref05_WireName.T6 := by kernel_rfl
theorem ddiref05_WireName.bits6 : waitsOk ddiref05_WireName.T6.2 ddiref05_WireName.B6 = true := by kernel_rfl
set_option maxHeartbeats 40000000 in
set_option maxRecDepth 100000 in
theorem ddiref05_WireName.calls (k : Nat) (a0 : ByteArray) (r : ByteArray) (w : World) (h : ddiref05_WireName.f k a0 = some r) :
 Calls Tryd.prog 45 #[.string a0] w fun e w' => e = .returned (.string r) ∧ Below w.heap.size w w' := by
 have HB := Aside0.mk (Below.refl w.heap.size w)
 have H : ((ddiref01_Labels.f k a0).bind fun t211 => (ddiref05_WireName.l0 k (⟨#[]⟩ : ByteArray) t211 0)) = some r := h
 clear h
 replace H := Option.bind_eq_some_iff.mp H
 obtain ⟨t211, A20, H⟩ := H
 have A2 := Aside0.mk A20
 clear A20
 have H' := Aside0.mk H
 clear H
 go_enter Tryd.func45, Tryd.ntmps45
 go_wp2_with (first | ((with_reducible refine gate_callee (f := 63) rfl ?_); refine goesA (some 7) Tryd.func63 #[.string a0] ?_; (with_reducible refine (ddiref01_Labels.calls k a0 t211 _ A2.out).mono ?_); rintro e w3 ⟨v212, rfl, ho0, hb⟩; refine ⟨_, rfl, ?_⟩; have HO213 := Aside0.mk (Kd.R_lower ho0 (below_size (by repeat (first | (with_reducible first | exact HB.out | apply below_alloc | apply pw_below_drewN | apply below_drew1) | exact HB.out)))); replace HB := (pS HB hb); (try clear hb); (try clear ho0)))
 go_loopg [3, 5] k (fun kq v3 v5 w' => ∃ (x3_1 : ByteArray) (x5_1 : Int), v3 = .string x3_1 ∧ v5 = .int .i64 x5_1 ∧ Aside0 (ddiref05_WireName.l0 kq x3_1 t211 x5_1 = some r) ∧ Aside0 (kq ≤ k) ∧ Aside0 (Kd.R Kd.string 9 w' w.heap.size (fun _ => True) v212 t211) ∧ Aside0 (Below w.heap.size w w'))
 case atStart => exact ⟨((⟨#[]⟩ : ByteArray)), (0), pT, pT, H', ⟨Nat.le_refl _⟩, ⟨by (with_reducible repeat (first | apply Kd.R_alloc | apply Kd.R_drewN | apply Kd.R_drew)); exact HO213.out⟩, ⟨pE HB⟩⟩
 case round =>
  clear H'
  obtain ⟨x3_1, x5_1, rfl, rfl, HA, HK1, HO_4, HB⟩ := hrel
  cases gk with
  | zero => exact absurd HA.out (by simp [ddiref05_WireName.l0])
  | succ k1 =>
   have H := HA.out
   clear HA
   simp only [ddiref05_WireName.l0] at H
   by_cases c4 : x5_1 < (t211.length : Int)
   ·
    rw [if_pos c4] at H
    have c4b0 := decide_eq_true c4
    clear c4
    by_cases c5 : 0 ≤ x5_1
    ·
     rw [if_pos c5] at H
     have c5b0 := decide_eq_true c5
     clear c5
     replace H := Option.bind_eq_some_iff.mp H
     obtain ⟨t215, A60, H⟩ := H
     have A6 := Aside0.mk A60
     clear A60
     by_cases c7 : t215.size + (rdOf ByteArray.empty t211 x5_1).size ≤ 9223372036854775807
     ·
      rw [if_pos c7] at H
      have c7b0 := eq_true c7
      have c7b1 := decide_eq_true c7
      try have c7b2 : (9223372036854775807 < t215.size + (rdOf ByteArray.empty t211 x5_1).size) = False := eq_false (Nat.not_lt.2 c7)
      by_cases c8 : x3_1.size + (t215 ++ (rdOf ByteArray.empty t211 x5_1)).size ≤ 9223372036854775807
      ·
       rw [if_pos c8] at H
       have c8b0 := eq_true c8
       have c8b1 := decide_eq_true c8
       try have c8b2 : (9223372036854775807 < x3_1.size + (t215 ++ (rdOf ByteArray.empty t211 x5_1)).size) = False := eq_false (Nat.not_lt.2 c8)
       try have c8b2z := c8b2
       try simp only [go_sem, List.size_toArray, List.length_cons, List.length_nil, Nat.zero_add, Nat.reduceAdd] at c8b2z
       have H' := Aside0.mk H
       clear H
       obtain ⟨Ao9, co9, eo9⟩ := Kd.R_slice HO_4.out
       subst eo9
       try go_wp2
       replace HO_4 := Aside0.mk (Kd.R_drew HO_4.out)
       replace HB := Aside0.mk (below_drew1 HB.out)
       have p214 : 0 ≤ (x5_1 : Int) := oD
       have q214 : x5_1 < (t211.length : Int) := oD
       obtain ⟨ad214, e214, hx214_0⟩ := Kd.at_string (Kd.R_reads' HO_4.out).2.2 x5_1 p214 q214
       cases e214
       replace p214 := eq_true p214
       replace q214 := eq_true q214
       have p216 : 0 ≤ (x5_1 : Int) := oD
       have q216 : x5_1 < (t211.length : Int) := oD
       obtain ⟨ad216, e216, hx216_0⟩ := Kd.at_string (Kd.R_reads' HO_4.out).2.2 x5_1 p216 q216
       obtain rfl : ad214 = ad216 := (by injection e216)
       replace p216 := eq_true p216
       replace q216 := eq_true q216
       refine start_ (n := 14) (S := fun w' => w'.cell? (ad214.add (x5_1).toNat) = some (.string (rdOf ByteArray.empty t211 x5_1)) ∧ w'.cell? (ad214.add (x5_1).toNat) = some (.string (rdOf ByteArray.empty t211 x5_1))) (ds := []) (tk 14 0) (by kernel_rfl) rfl rfl ⟨hx214_0, hx216_0⟩ (fun hHeld => ?_); refine with_tabW ddiref05_WireName.tab6 ddiref05_WireName.bits6 (fun HT_ HW_ => ?_)
       generalize wr.drew = w10 at HO_4 HB hx214_0 hx216_0 hHeld ⊢
       refine pureA (i := 0) (some 14) HT_ (tk 14 1) ?_
       refine pureA (i := 1) (some 15) HT_ (tk 14 2) ?_
       refine pureA (i := 2) (some 16) HT_ (tk 14 3) ?_
       refine pureA (i := 3) (some 17) HT_ (tk 14 4) ?_
       refine pureA (i := 7) (some 21) HT_ (tr [4, 3, 1, 6]) ?_
       refine pureA (i := 8) (some 22) HT_ (tr [4, 3, 2, 5]) ?_
       refine pureA (i := 9) (some 23) HT_ (tr [4, 3, 3, 4]) ?_
       refine takeA (i := 4) (some 18) HT_ HW_ (tr [5, 2, 3, 4]) hHeld ?_
       refine pureA (i := 5) (some 19) HT_ (tr [6, 1, 3, 4]) ?_
       refine takeA (i := 10) (some 24) HT_ HW_ (tr [6, 1, 4, 3]) hHeld ?_
       refine one_ (i := 6) (N := some 20) (tk 14 11) rfl rfl (one_of HT_.out (by kernel_rfl)) (by decide) (fun K hK => ?_)
       refine goesR Tryd.func46 #[.int .i64 ((rdOf ByteArray.empty t211 x5_1).size : Int), .int .i64 1] ?_
       with_reducible refine (ddiref05_Number.calls k1 ((rdOf ByteArray.empty t211 x5_1).size : Int) 1 t215 _ A6.out).mono ?_
       rintro e w11 ⟨rfl, hb⟩
       have hHe_ := pH hb hHeld
       refine ⟨_, rfl, ?_⟩
       replace HO_4 := Aside0.mk (Kd.R_below (by (with_reducible repeat (first | apply Kd.R_alloc | apply Kd.R_drewN | apply Kd.R_drew)); exact HO_4.out) hb)
       replace HB := (pS HB hb)
       (try clear hb)
       refine hK.out _ _ ⟨hHe_.1, hHe_.2⟩ (fun hHeld => ?_)
       clear hK K
       refine normA (N := some 20) ?_
       refine pureA (i := 11) (some 25) HT_ (tk 14 12) ?_
       refine pureA (i := 12) (some 26) HT_ (tk 14 13) ?_
       refine pureA (i := 13) (some 3) HT_ (tk 14 14) ?_
       refine done_ (done_of HT_.out (by kernel_rfl)) ?_
       try go_wp2
       go_roundg k1
       case measure => have := HK1.out; omega
       case rel => exact ⟨(x3_1 ++ (t215 ++ (rdOf ByteArray.empty t211 x5_1))), (wrap64 (x5_1 + 1)), pT, pT, H', ⟨by have := HK1.out; omega⟩, ⟨by (with_reducible repeat (first | apply Kd.R_alloc | apply Kd.R_drewN | apply Kd.R_drew)); exact HO_4.out⟩, ⟨pE HB⟩⟩
      ·
       rw [if_neg c8] at H
       exact absurd H (by simp)
     ·
      rw [if_neg c7] at H
      exact absurd H (by simp)
    ·
     rw [if_neg c5] at H
     exact absurd H (by simp)
   ·
    rw [if_neg c4] at H
    have c4b0 := decide_eq_false c4
    clear c4
    replace H := Option.bind_eq_some_iff.mp H
    obtain ⟨t217, A120, H⟩ := H
    have A12 := Aside0.mk A120
    clear A120
    by_cases c13 : x3_1.size + t217.size ≤ 9223372036854775807
    ·
     rw [if_pos c13] at H
     have c13b0 := eq_true c13
     have c13b1 := decide_eq_true c13
     try have c13b2 : (9223372036854775807 < x3_1.size + t217.size) = False := eq_false (Nat.not_lt.2 c13)
     obtain rfl := Option.some.inj H
     obtain ⟨Ao14, co14, eo14⟩ := Kd.R_slice HO_4.out
     subst eo14
     go_wp2_with (first | ((with_reducible refine gate_callee (f := 46) rfl ?_); refine goesA (some 28) Tryd.func46 #[.int .i64 0, .int .i64 1] ?_; (with_reducible refine (ddiref05_Number.calls k1 0 1 t217 _ A12.out).mono ?_); rintro e w15 ⟨rfl, hb⟩; refine ⟨_, rfl, ?_⟩; replace HO_4 := Aside0.mk (Kd.R_below (by (with_reducible repeat (first | apply Kd.R_alloc | apply Kd.R_drewN | apply Kd.R_drew)); exact HO_4.out) hb); replace HB := (pS HB hb); (try clear hb)))
     go_ret
     exact pR (pE HB)
    ·
     rw [if_neg c13] at H
     exact absurd H (by simp)

/-! ### ddiref05_bitmap: function 47 -/
mutual
def ddiref05_bitmap.l0 : Nat → Int → List Int → Int → Int → Option (ByteArray)
 | 0, _, _, _, _ => none
 | k + 1, x0, x3, x4, x5 => if x5 < 8 then (ddiref05_bitmap.l1 k x0 x3 x4 x5 0 0) else (if 0 ≤ x4 then (if x4 ≤ (x3.length : Int) then (some (strOfNums (x3.take (x4 : Int).toNat))) else (none)) else (none))
def ddiref05_bitmap.l1 : Nat → Int → List Int → Int → Int → Int → Int → Option (ByteArray)
 | 0, _, _, _, _, _, _ => none
 | k + 1, x0, x3, x4, x5, x6, x7 => if x7 < 8 then (if 0 ≤ (IntKind.u64.wrap (wrap64 ((wrap64 (x5 * 8)) + x7))) then (ddiref05_bitmap.l1 k x0 x3 x4 x5 (wrap64 ((wrap64 (x6 * 2)) + (wrap64 (Go.bits .and .u64 (shr .u64 x0 (IntKind.u64.wrap (wrap64 ((wrap64 (x5 * 8)) + x7)))) 1)))) (wrap64 (x7 + 1))) else (none)) else (if x3.length < 140737488355328 then ((some (x3 ++ [(x6) % 256] : List Int)).bind fun y222 => (if x6 = 0 then (ddiref05_bitmap.l0 k x0 y222 x4 (wrap64 (x5 + 1))) else (ddiref05_bitmap.l0 k x0 y222 (wrap64 (x5 + 1)) (wrap64 (x5 + 1))))) else (none))
end
def ddiref05_bitmap.f (k : Nat) (a0 : Int) : Option (ByteArray) := ddiref05_bitmap.l0 k a0 ([] : List Int) 0 0
theorem ddiref05_bitmap.mono_l : ∀ k, (∀ y0 y1 y2 y3, LeO (ddiref05_bitmap.l0 k y0 y1 y2 y3) (ddiref05_bitmap.l0 (k + 1) y0 y1 y2 y3)) ∧ (∀ y0 y1 y2 y3 y4 y5, LeO (ddiref05_bitmap.l1 k y0 y1 y2 y3 y4 y5) (ddiref05_bitmap.l1 (k + 1) y0 y1 y2 y3 y4 y5))
 | 0 => ⟨fun _ _ _ _ r h => by simp [ddiref05_bitmap.l0] at h, fun _ _ _ _ _ _ r h => by simp [ddiref05_bitmap.l1] at h⟩
 | k + 1 => by
  obtain ⟨ih0, ih1⟩ := ddiref05_bitmap.mono_l k
  refine ⟨?_, ?_⟩
  ·
   intro y0 y1 y2 y3
   unfold ddiref05_bitmap.l0
   repeat' with_reducible first | exact ih0 _ _ _ _ | exact ih1 _ _ _ _ _ _ | exact LeO.refl _ | exact LeO.none _ | refine LeO.ite ?_ ?_ | refine LeO.bind ?_ (fun _ => ?_)
  ·
   intro y0 y1 y2 y3 y4 y5
   unfold ddiref05_bitmap.l1
   repeat' with_reducible first | exact ih0 _ _ _ _ | exact ih1 _ _ _ _ _ _ | exact LeO.refl _ | exact LeO.none _ | refine LeO.ite ?_ ?_ | refine LeO.bind ?_ (fun _ => ?_)
theorem ddiref05_bitmap.mono : ∀ a0 k, LeO (ddiref05_bitmap.f k a0) (ddiref05_bitmap.f (k + 1) a0) := by
 intro a0 k
 obtain ⟨ih0, ih1⟩ := ddiref05_bitmap.mono_l k
 unfold ddiref05_bitmap.f
 repeat' with_reducible first | exact ih0 _ _ _ _ | exact ih1 _ _ _ _ _ _ | exact LeO.refl _ | exact LeO.none _ | refine LeO.ite ?_ ?_ | refine LeO.bind ?_ (fun _ => ?_)
set_option maxHeartbeats 40000000 in
set_option maxRecDepth 100000 in
theorem ddiref05_bitmap.calls (k : Nat) (a0 : Int) (r : ByteArray) (w : World) (h : ddiref05_bitmap.f k a0 = some r) :
 Calls Tryd.prog 47 #[.int .u64 a0] w fun e w' => e = .returned (.string r) ∧ Below w.heap.size w w' := by
 have HB := Aside0.mk (Below.refl w.heap.size w)
 have H : (ddiref05_bitmap.l0 k a0 ([] : List Int) 0 0) = some r := h
 clear h
 have H' := Aside0.mk H
 clear H
 go_enter Tryd.func47, Tryd.ntmps47
 go_wp2
 go_loopg [3, 4, 5] k (fun kq v3 v4 v5 w' => ∃ (x3_1 : List Int) (x4_1 : Int) (x5_1 : Int), v4 = .int .i64 x4_1 ∧ v5 = .int .i64 x5_1 ∧ Aside0 (ddiref05_bitmap.l0 kq a0 x3_1 x4_1 x5_1 = some r) ∧ Aside0 (kq ≤ k) ∧ Aside0 (Kd.R (Kd.int .u8) 5 w' w.heap.size (fun _ => True) v3 x3_1) ∧ Aside0 (Below w.heap.size w w'))
 case atStart => exact ⟨(([] : List Int)), (0), (0), pT, pT, H', ⟨Nat.le_refl _⟩, ⟨by first | exact Kd.R_nil _ _ _ _ _ | exact Kd.N_nil _ _ _ _ _ | exact Kd.V_nil _ _ _ _ _ | exact Kd.Q_nil _ _ _ _ _ | exact Kd.S_nil _ _ _ _ _⟩, ⟨pE HB⟩⟩
 case round =>
  clear H'
  obtain ⟨x3_1, x4_1, x5_1, rfl, rfl, HA, HK1, HO_3, HB⟩ := hrel
  cases gk with
  | zero => exact absurd HA.out (by simp [ddiref05_bitmap.l0])
  | succ k1 =>
   have H := HA.out
   clear HA
   simp only [ddiref05_bitmap.l0] at H
   by_cases c2 : x5_1 < 8
   ·
    rw [if_pos c2] at H
    have c2b0 := decide_eq_true c2
    clear c2
    have H' := Aside0.mk H
    clear H
    go_wp2
    go_loopg [6, 7] k1 (fun kq v6 v7 w' => ∃ (x6_2 : Int) (x7_2 : Int), v6 = .int .i64 x6_2 ∧ v7 = .int .i64 x7_2 ∧ Aside0 (ddiref05_bitmap.l1 kq a0 x3_1 x4_1 x5_1 x6_2 x7_2 = some r) ∧ Aside0 (kq ≤ k1) ∧ Aside0 (Kd.R (Kd.int .u8) 5 w' w.heap.size (fun _ => True) u3 x3_1) ∧ Aside0 (Below w.heap.size w w'))
    case atStart => exact ⟨(0), (0), pT, pT, H', ⟨Nat.le_refl _⟩, ⟨by (with_reducible repeat (first | apply Kd.R_alloc | apply Kd.R_drewN | apply Kd.R_drew)); exact HO_3.out⟩, ⟨pE HB⟩⟩
    case round =>
     clear H'
     try clear c2
     try clear c2b0
     obtain ⟨x6_2, x7_2, rfl, rfl, HA, HK2, HO_3, HB⟩ := hrel
     cases gk with
     | zero => exact absurd HA.out (by simp [ddiref05_bitmap.l1])
     | succ k2 =>
      have H := HA.out
      clear HA
      simp only [ddiref05_bitmap.l1] at H
      by_cases c3 : x7_2 < 8
      ·
       rw [if_pos c3] at H
       have c3b0 := decide_eq_true c3
       clear c3
       obtain ⟨ji4, hji4⟩ : ∃ j_ : Int, (IntKind.u64.wrap (wrap64 ((wrap64 (x5_1 * 8)) + x7_2))) = j_ := ⟨_, rfl⟩
       replace H : (if 0 ≤ (ji4) then (ddiref05_bitmap.l1 k2 a0 x3_1 x4_1 x5_1 (wrap64 ((wrap64 (x6_2 * 2)) + (wrap64 (Go.bits .and .u64 (shr .u64 a0 (ji4)) 1)))) (wrap64 (x7_2 + 1))) else (none)) = some r := by first | (rw [hji4] at H; exact H) | (simp only [hji4] at H ⊢; exact H)
       by_cases c5 : 0 ≤ (ji4)
       ·
        rw [if_pos c5] at H
        have c5b0 := eq_true c5
        have c5b1 := decide_eq_true c5
        clear c5
        obtain ⟨ji6, hji6⟩ : ∃ j_ : Int, (shr .u64 a0 (ji4)) = j_ := ⟨_, rfl⟩
        (try rw [hji6] at hji4)
        replace H : (ddiref05_bitmap.l1 k2 a0 x3_1 x4_1 x5_1 (wrap64 ((wrap64 (x6_2 * 2)) + (wrap64 (Go.bits .and .u64 (ji6) 1)))) (wrap64 (x7_2 + 1))) = some r := by first | (rw [hji6] at H; exact H) | (simp only [hji6] at H ⊢; exact H)
        have hji6_ : (a0 / 2 ^ min (ji4).toNat 64) = ji6 := hji6
        have hji6z : (ji4) ≤ 64 → (a0 / 2 ^ (ji4).toNat) = ji6 := shr_small hji6
        have H' := Aside0.mk H
        clear H
        go_wp2
        go_roundg k2
        case measure => have := HK1.out; have := HK2.out; omega
        case rel => exact ⟨(wrap64 ((wrap64 (x6_2 * 2)) + (wrap64 (Go.bits .and .u64 (ji6) 1)))), (wrap64 (x7_2 + 1)), (by first | rfl | (simp; done) | (simp only [← hji6] <;> (first | rfl | simp)) | (simp [*]; done) | ((try simp only [Bool.not_not]); (generalize ByteArray.toList _ = l_); cases l_ <;> rfl) | (simp; (generalize ByteArray.toList _ = l_); cases l_ <;> rfl)), pT, (by first | exact H' | (simp only [hji4, hji6]; exact H') | (simp only [hji4, hji6] at H' ⊢; exact H')), ⟨by have := HK1.out; have := HK2.out; omega⟩, ⟨by (with_reducible repeat (first | apply Kd.R_alloc | apply Kd.R_drewN | apply Kd.R_drew)); exact HO_3.out⟩, ⟨pE HB⟩⟩
       ·
        rw [if_neg c5] at H
        exact absurd H (by simp)
      ·
       rw [if_neg c3] at H
       have c3b0 := decide_eq_false c3
       clear c3
       by_cases c7 : x3_1.length < 140737488355328
       ·
        rw [if_pos c7] at H
        have LMc7 := Aside0.mk c7
        clear c7
        obtain ⟨y222, hy222⟩ : ∃ y_ : List Int, y_ = (x3_1 ++ [(x6_2) % 256]) := ⟨_, rfl⟩
        replace H : (if x6_2 = 0 then (ddiref05_bitmap.l0 k2 a0 y222 x4_1 (wrap64 (x5_1 + 1))) else (ddiref05_bitmap.l0 k2 a0 y222 (wrap64 (x5_1 + 1)) (wrap64 (x5_1 + 1)))) = some r := by first | (rw [hy222]; with_reducible exact H) | (have H2_ := (Option.bind_some _ _).symm.trans H; rw [hy222]; with_reducible exact H2_) | (have H2_ := (Option.bind_some _ _).symm.trans H; with_reducible exact H2_) | with_reducible exact H | (rw [hy222]; exact H) | exact H
        have Ny222 := Aside0.mk hy222
        clear hy222
        by_cases c8 : x6_2 = 0
        ·
         rw [if_pos c8] at H
         have c8b0 : (x6_2 == 0) = true := beq_iff_eq.mpr c8
         have c8b1 : (x6_2 != 0) = false := bne_eq_false_iff_eq.mpr c8
         clear c8
         have H' := Aside0.mk H
         clear H
         go_wp2_with (first | ((with_reducible refine gate_builtin (b := .append) (xs := #[.tmp 28, .tmp 31]) rfl ?_); at_builtin; refine Kd.R_append (Kd.int .u8) (w0 := w) w.heap.size rfl (.tmp 28) (.tmp 31) 55 5 (.int .u8 0) 1 rfl Tryd.underlying55 info5 rfl (by decide) (by omega) u3 x3_1 ((x6_2) % 256) [.int .u8 ((x6_2) % 256)] (fun _ => True) (fun _ => False) rfl rfl ?aP (fun _ hk => hk.elim) ?aF ?aO ?aB ?aS ?aL ?_; (case aP => exact rfl); (case aB => exact (by repeat (first | (with_reducible first | exact HB.out | apply below_alloc | apply pw_below_drewN | apply below_drew1) | exact HB.out))); (case aF => exact (fun _ _ => trivial)); (case aO => exact (by (with_reducible repeat (first | apply Kd.R_alloc | apply Kd.R_drewN | apply Kd.R_drew)); exact HO_3.out)); (case aS => exact (below_size (by repeat (first | (with_reducible first | exact HB.out | apply below_alloc | apply pw_below_drewN | apply below_drew1) | exact HB.out)))); (case aL => have := LMc7.out; omega); intro v223 w9 ho hb hg hat; rw [← Ny222.out] at ho; have HO224 := Aside0.mk (ho); replace HB := Aside0.mk (hb); clear HO_3; clear ho hb hg hat))
         go_roundg k2
         case measure => have := HK1.out; have := HK2.out; omega
         case rel => exact ⟨(y222), (x4_1), (wrap64 (x5_1 + 1)), pT, pT, H', ⟨by have := HK1.out; have := HK2.out; omega⟩, ⟨by (with_reducible repeat (first | apply Kd.R_alloc | apply Kd.R_drewN | apply Kd.R_drew)); exact HO224.out⟩, ⟨pE HB⟩⟩
        ·
         rw [if_neg c8] at H
         have c8b0 : (x6_2 == 0) = false := beq_eq_false_iff_ne.mpr c8
         have c8b1 : (x6_2 != 0) = true := bne_iff_ne.mpr c8
         have H' := Aside0.mk H
         clear H
         go_wp2_with (first | ((with_reducible refine gate_builtin (b := .append) (xs := #[.tmp 28, .tmp 31]) rfl ?_); at_builtin; refine Kd.R_append (Kd.int .u8) (w0 := w) w.heap.size rfl (.tmp 28) (.tmp 31) 55 5 (.int .u8 0) 1 rfl Tryd.underlying55 info5 rfl (by decide) (by omega) u3 x3_1 ((x6_2) % 256) [.int .u8 ((x6_2) % 256)] (fun _ => True) (fun _ => False) rfl rfl ?aP (fun _ hk => hk.elim) ?aF ?aO ?aB ?aS ?aL ?_; (case aP => exact rfl); (case aB => exact (by repeat (first | (with_reducible first | exact HB.out | apply below_alloc | apply pw_below_drewN | apply below_drew1) | exact HB.out))); (case aF => exact (fun _ _ => trivial)); (case aO => exact (by (with_reducible repeat (first | apply Kd.R_alloc | apply Kd.R_drewN | apply Kd.R_drew)); exact HO_3.out)); (case aS => exact (below_size (by repeat (first | (with_reducible first | exact HB.out | apply below_alloc | apply pw_below_drewN | apply below_drew1) | exact HB.out)))); (case aL => have := LMc7.out; omega); intro v223 w10 ho hb hg hat; rw [← Ny222.out] at ho; have HO224 := Aside0.mk (ho); replace HB := Aside0.mk (hb); clear HO_3; clear ho hb hg hat))
         go_roundg k2
         case measure => have := HK1.out; have := HK2.out; omega
         case rel => exact ⟨(y222), (wrap64 (x5_1 + 1)), (wrap64 (x5_1 + 1)), pT, pT, H', ⟨by have := HK1.out; have := HK2.out; omega⟩, ⟨by (with_reducible repeat (first | apply Kd.R_alloc | apply Kd.R_drewN | apply Kd.R_drew)); exact HO224.out⟩, ⟨pE HB⟩⟩
       ·
        rw [if_neg c7] at H
        exact absurd H (by simp)
   ·
    rw [if_neg c2] at H
    have c2b0 := decide_eq_false c2
    clear c2
    by_cases c11 : 0 ≤ x4_1
    ·
     rw [if_pos c11] at H
     have c11b0 := eq_true c11
     have c11b1 := decide_eq_true c11
     clear c11
     by_cases c12 : x4_1 ≤ (x3_1.length : Int)
     ·
      rw [if_pos c12] at H
      have c12b0 := eq_true c12
      have c12b1 := decide_eq_true c12
      clear c12
      obtain ⟨y218, hy218⟩ : ∃ y_ : List Int, y_ = (x3_1.take (x4_1 : Int).toNat) := ⟨_, rfl⟩
      replace H : (some (strOfNums y218)) = some r := by first | (rw [hy218]; with_reducible exact H) | (have H2_ := (Option.bind_some _ _).symm.trans H; rw [hy218]; with_reducible exact H2_) | (have H2_ := (Option.bind_some _ _).symm.trans H; with_reducible exact H2_) | with_reducible exact H | (rw [hy218]; exact H) | exact H
      have Ny218 := Aside0.mk hy218
      clear hy218
      obtain rfl := Option.some.inj H
      obtain ⟨Ao14, co14, eo14⟩ := Kd.R_slice HO_3.out
      subst eo14
      have q13 : (x4_1 : Int) ≤ ((x3_1.length : Int) : Int) := oD
      obtain ⟨i013, hi013, _, hsz13, _⟩ := info_parts info5
      have hroom13 : x3_1.length ≤ co14 := (Kd.R_reads' HO_3.out).2.1
      have hC13 : Kd.C (Kd.int .u8) _ Ao14 x3_1.length x3_1 := (Kd.R_reads' HO_3.out).2.2
      have hcut13 := cut_to (P := Tryd.prog) 55 5 .i64 Tryd.underlying55 hi013 Ao14 x3_1.length co14 x4_1 (oD) q13 hroom13
      have hr13 := Kd.C_take (m := (x4_1 : Int).toNat) hC13 (by omega)
      have hy13 : y218.length = (x4_1 : Int).toNat := (by rw [Ny218.out, List.length_take]; omega)
      rw [← Ny218.out] at hr13
      rw [← hy13] at hcut13
      have HR221 := Aside0.mk hr13
      have HC221 := Aside0.mk (show y218.length ≤ co14 from by omega)
      clear hr13 hC13 hroom13 hi013 hsz13
      have KY13 := Aside0.mk hy13
      clear hy13
      have KL13 := Aside0.mk (show (x4_1 : Int).toNat ≤ x3_1.length from by omega)
      replace q13 := eq_true q13
      have hcv15 := Kd.C_string (P := Tryd.prog) (A := Ao14) (c := co14) Tryd.underlying55 Tryd.underlying5 Tryd.underlying9 (by repeat (first | (with_reducible exact HR221.out) | (with_reducible refine Kd.C_alloc ?_ _) | (with_reducible refine Kd.C_drewN ?_ _) | (with_reducible refine Kd.C_drew ?_) | exact HR221.out))
      go_wp2
      go_ret
      exact pR (pE HB)
     ·
      rw [if_neg c12] at H
      exact absurd H (by simp)
    ·
     rw [if_neg c11] at H
     exact absurd H (by simp)

-- NOT PRINTED: function 17 (ddiref05_Wire)

-- NOT PRINTED: function 5 (ddilaw05_RdataWires)

/-! ### ddiref05_run: function 71 -/
def ddiref05_run.f (a0 : ByteArray) (a1_0 : Int) (a1_1 : Int) (a2 : Int) : Option (ByteArray × Int × Int) := if a1_1 = 0 then (if (wrap64 ((a0.size : Int) - a1_0)) < a2 then (some ((⟨#[]⟩ : ByteArray), (a0.size : Int), 6)) else (if 0 ≤ a1_0 then (if a1_0 ≤ (wrap64 (a1_0 + a2)) then (if (wrap64 (a1_0 + a2)) ≤ (a0.size : Int) then (some (a0.extract (a1_0 : Int).toNat ((wrap64 (a1_0 + a2)) : Int).toNat, wrap64 (a1_0 + a2), 0)) else (none)) else (none)) else (none))) else (some ((⟨#[]⟩ : ByteArray), a1_0, a1_1))
def ddiref05_run.T5 : Bool × List (List Nat × List Nat) := (true, [([], []), ([], []), ([1], [1]), ([], []), ([3], [3]), ([], []), ([4, 5], [4, 5]), ([0, 2, 6], [0, 2, 6]), ([], []), ([8], [8]), ([], []), ([9, 10], [9, 10]), ([11], [11]), ([7, 0, 1, 2, 3, 4, 5, 6, 7], [7]), ([12, 13, 0, 1, 2, 3, 4, 5, 6, 7, 8, 9, 10, 11, 12, 13], [12])])
def ddiref05_run.B5 : List Nat := [0, 0, 2, 0, 8, 0, 56, 127, 0, 256, 0, 1792, 3840, 255, 16383]
theorem ddiref05_run.tab5 : rtab .any (opsOf Tryd.f71 5) = ddiref05_run.T5 := by kernel_rfl
theorem ddiref05_run.bits5 : waitsOk ddiref05_run.T5.2 ddiref05_run.B5 = true := by kernel_rfl
set_option maxHeartbeats 40000000 in
set_option maxRecDepth 100000 in
theorem ddiref05_run.calls (a0 : ByteArray) (a1_0 : Int) (a1_1 : Int) (a2 : Int) (r1 : ByteArray) (r2 : Int) (r3 : Int) (w : World) (h : ddiref05_run.f a0 a1_0 a1_1 a2 = some (r1, r2, r3)) :
 Calls Tryd.prog 71 #[.string a0, .agg #[.int .i64 a1_0, .int .i64 a1_1], .int .i64 a2] w fun e w' => e = .returned (.tuple #[.string r1, .agg #[.int .i64 r2, .int .i64 r3]]) ∧ Below w.heap.size w w' := by
 have hu67 := Tryd.underlying67
 have HB := Aside0.mk (Below.refl w.heap.size w)
 have H : (if a1_1 = 0 then (if (wrap64 ((a0.size : Int) - a1_0)) < a2 then (some ((⟨#[]⟩ : ByteArray), (a0.size : Int), 6)) else (if 0 ≤ a1_0 then (if a1_0 ≤ (wrap64 (a1_0 + a2)) then (if (wrap64 (a1_0 + a2)) ≤ (a0.size : Int) then (some (a0.extract (a1_0 : Int).toNat ((wrap64 (a1_0 + a2)) : Int).toNat, wrap64 (a1_0 + a2), 0)) else (none)) else (none)) else (none))) else (some ((⟨#[]⟩ : ByteArray), a1_0, a1_1))) = some (r1, r2, r3) := h
 clear h
 by_cases c4 : a1_1 = 0
 ·
  rw [if_pos c4] at H
  have c4b0 : (a1_1 == 0) = true := beq_iff_eq.mpr c4
  have c4b1 : (a1_1 != 0) = false := bne_eq_false_iff_eq.mpr c4
  clear c4
  by_cases c5 : (wrap64 ((a0.size : Int) - a1_0)) < a2
  ·
   rw [if_pos c5] at H
   have c5b0 := decide_eq_true c5
   clear c5
   simp only [Option.some.injEq, Prod.mk.injEq] at H
   obtain ⟨rfl, rfl, rfl⟩ := H
   go_enter Tryd.func71, Tryd.ntmps71
   go_wp2_with (first | ((with_reducible refine gate_dst (N := 4) rfl ?_); refine boxA (N := 4) (cs := #[.int .i64 a1_0, .int .i64 a1_1]) (t := 67) ?_; intro gb228 hg w6 hbox hb; have BK228 := Aside0.mk (hbox); have GE228 := (pZ HB hg); replace HB := (pS HB hb); clear hb hbox hg) | ((with_reducible refine gate_dst (N := 7) rfl ?_); refine boxA (N := 7) (cs := #[.int .i64 0, .int .i64 0]) (t := 67) ?_; intro gb229 hg w7 hbox hb; have BK229 := Aside0.mk (hbox); have GE229 := (pZ HB hg); have NB228_229 := (pL BK228 hg); have NB229_228 := (pG BK228 hg); replace BK228 := (pB BK228 hb); replace HB := (pS HB hb); clear hb hbox hg; have hnb8 := NB228_229.out; have hnc8 := NB229_228.out; obtain ⟨hcz9_0, hcz9_1, hfz9_0, hfz9_1⟩ := pC2 BK228; obtain ⟨hcz10_0, hcz10_1, hfz10_0, hfz10_1⟩ := pC2 BK229))
   refine bodyPost_ret (results_tc rfl _ _ gb229 67 #[.int .i64 (a0.size : Int), .int .i64 6] (0, 0) _ rfl (pP (pP (pM BK229))) Tryd.underlying67 rfl (by kernel_rfl)) rfl ?_
   exact pR (pE HB)
  ·
   rw [if_neg c5] at H
   have c5b0 := decide_eq_false c5
   clear c5
   by_cases c11 : 0 ≤ a1_0
   ·
    rw [if_pos c11] at H
    have c11b0 := eq_true c11
    have c11b1 := decide_eq_true c11
    clear c11
    by_cases c12 : a1_0 ≤ (wrap64 (a1_0 + a2))
    ·
     rw [if_pos c12] at H
     have c12b0 := eq_true c12
     have c12b1 := decide_eq_true c12
     by_cases c13 : (wrap64 (a1_0 + a2)) ≤ (a0.size : Int)
     ·
      rw [if_pos c13] at H
      have c13b0 := eq_true c13
      have c13b1 := decide_eq_true c13
      simp only [Option.some.injEq, Prod.mk.injEq] at H
      obtain ⟨rfl, rfl, rfl⟩ := H
      go_enter Tryd.func71, Tryd.ntmps71
      try go_wp2_with (first | ((with_reducible refine gate_dst (N := 4) rfl ?_); refine boxA (N := 4) (cs := #[.int .i64 a1_0, .int .i64 a1_1]) (t := 67) ?_; intro gb228 hg w14 hbox hb; have BK228 := Aside0.mk (hbox); have GE228 := (pZ HB hg); replace HB := (pS HB hb); clear hb hbox hg) | ((with_reducible refine gate_dst (N := 7) rfl ?_); refine boxA (N := 7) (cs := #[.int .i64 0, .int .i64 0]) (t := 67) ?_; intro gb229 hg w15 hbox hb; have BK229 := Aside0.mk (hbox); have GE229 := (pZ HB hg); have NB228_229 := (pL BK228 hg); have NB229_228 := (pG BK228 hg); replace BK228 := (pB BK228 hb); replace HB := (pS HB hb); clear hb hbox hg; have hnb16 := NB228_229.out; have hnc16 := NB229_228.out; obtain ⟨hcz17_0, hcz17_1, hfz17_0, hfz17_1⟩ := pC2 BK228))
      replace BK228 := Aside0.mk (blk_drew BK228.out)
      replace BK229 := Aside0.mk (blk_drew BK229.out)
      replace HB := Aside0.mk (below_drew1 HB.out)
      refine start_ (n := 15) (S := fun w' => w'.cell? ⟨gb228, 0, none⟩ = some (.int .i64 a1_0) ∧ w'.cell? ⟨gb228, 1, none⟩ = some (.int .i64 a1_1)) (ds := []) (tk 15 0) (by kernel_rfl) rfl rfl ⟨bC BK228 0, bC BK228 1⟩ (fun hHeld => ?_); refine with_tabW ddiref05_run.tab5 ddiref05_run.bits5 (fun HT_ HW_ => ?_)
      generalize w15.drew = w18 at BK228 BK229 HB hHeld ⊢
      refine pureA (i := 0) (some 22) HT_ (tk 15 1) ?_
      refine pureA (i := 1) (some 23) HT_ (tk 15 2) ?_
      refine pureA (i := 3) (some 25) HT_ (tr [2, 1, 1, 11]) ?_
      refine pureA (i := 5) (some 27) HT_ (tr [2, 1, 1, 1, 1, 9]) ?_
      refine pureA (i := 8) (some 30) HT_ (tr [2, 1, 1, 1, 1, 2, 1, 6]) ?_
      refine pureA (i := 10) (some 32) HT_ (tr [2, 1, 1, 1, 1, 2, 1, 1, 1, 4]) ?_
      refine takeA (i := 2) (some 24) HT_ HW_ (tr [4, 1, 1, 2, 1, 1, 1, 4]) hHeld ?_
      refine takeA (i := 4) (some 26) HT_ HW_ (tr [6, 2, 1, 1, 1, 4]) hHeld ?_
      refine pureA (i := 6) (some 28) HT_ (tr [7, 1, 1, 1, 1, 4]) ?_
      refine pureA (i := 7) (some 29) HT_ (tr [9, 1, 1, 4]) ?_
      refine pureA (i := 13) (some 6) HT_ (tr [9, 1, 1, 2, 1, 1]) ?_
      refine takeA (i := 9) (some 31) HT_ HW_ (tr [11, 2, 1, 1]) hHeld ?_
      refine pureA (i := 11) (some 33) HT_ (tr [12, 1, 1, 1]) ?_
      refine pureA (i := 12) (some 34) HT_ (tk 15 14) ?_
      refine one_ (i := 14) (N := none) (tk 15 15) rfl rfl (one_of HT_.out (by kernel_rfl)) (by decide) (fun K hK => ?_)
      have hs19 : w18.cell? ⟨gb229, 0, none⟩ = some (.int .i64 0) := bC BK229 0
      have hfs19 := blk_frozen BK229.out 0
      have hns19_0 := NB228_229.out
      have hms19_0 := NB229_228.out
      have hs20 : w18.cell? ⟨gb229, 1, none⟩ = some (.int .i64 0) := bC BK229 1
      have hfs20 := blk_frozen BK229.out 1
      have hns20_0 := NB228_229.out
      have hms20_0 := NB229_228.out
      refine skip_ (w1 := ?_) (by rfl) rfl ?_ ?_
      rotate_left
      ·
       go_simp
       rfl
      refine hK.out _ _ ⟨((cell_far (p := ⟨gb229, _, none⟩) NB228_229.out _).trans (((cell_far (p := ⟨gb229, _, none⟩) NB228_229.out _).trans (hHeld.1)))), ((cell_far (p := ⟨gb229, _, none⟩) NB228_229.out _).trans (((cell_far (p := ⟨gb229, _, none⟩) NB228_229.out _).trans (hHeld.2))))⟩ (fun hHeld => ?_)
      clear hK K
      refine done_ (done_of HT_.out (by kernel_rfl)) ?_
      try go_wp2
      refine bodyPost_ret (results_tc rfl _ _ gb229 67 #[.int .i64 (wrap64 (a1_0 + a2)), .int .i64 0] (0, 0) _ rfl (pP (pP (pM BK229))) Tryd.underlying67 rfl (by kernel_rfl)) rfl ?_
      exact pR (pE HB)
     ·
      rw [if_neg c13] at H
      exact absurd H (by simp)
    ·
     rw [if_neg c12] at H
     exact absurd H (by simp)
   ·
    rw [if_neg c11] at H
    exact absurd H (by simp)
 ·
  rw [if_neg c4] at H
  have c4b0 : (a1_1 == 0) = false := beq_eq_false_iff_ne.mpr c4
  have c4b1 : (a1_1 != 0) = true := bne_iff_ne.mpr c4
  simp only [Option.some.injEq, Prod.mk.injEq] at H
  obtain ⟨rfl, rfl, rfl⟩ := H
  go_enter Tryd.func71, Tryd.ntmps71
  try go_wp2_with (first | ((with_reducible refine gate_dst (N := 4) rfl ?_); refine boxA (N := 4) (cs := #[.int .i64 a1_0, .int .i64 a1_1]) (t := 67) ?_; intro gb228 hg w21 hbox hb; have BK228 := Aside0.mk (hbox); have GE228 := (pZ HB hg); replace HB := (pS HB hb); clear hb hbox hg) | ((with_reducible refine gate_dst (N := 7) rfl ?_); refine boxA (N := 7) (cs := #[.int .i64 0, .int .i64 0]) (t := 67) ?_; intro gb229 hg w22 hbox hb; have BK229 := Aside0.mk (hbox); have GE229 := (pZ HB hg); have NB228_229 := (pL BK228 hg); have NB229_228 := (pG BK228 hg); replace BK228 := (pB BK228 hb); replace HB := (pS HB hb); clear hb hbox hg; have hnb23 := NB228_229.out; have hnc23 := NB229_228.out; obtain ⟨hcz24_0, hcz24_1, hfz24_0, hfz24_1⟩ := pC2 BK228))
  replace BK228 := Aside0.mk (blk_drew BK228.out)
  replace BK229 := Aside0.mk (blk_drew BK229.out)
  replace HB := Aside0.mk (below_drew1 HB.out)
  refine start_ (n := 3) (S := fun w' => w'.cell? ⟨gb228, 0, none⟩ = some (.int .i64 a1_0) ∧ w'.cell? ⟨gb228, 1, none⟩ = some (.int .i64 a1_1)) (ds := []) (tk 3 0) (by kernel_rfl) rfl rfl ⟨bC BK228 0, bC BK228 1⟩ (fun hHeld => ?_)
  generalize w22.drew = w25 at BK228 BK229 HB hHeld ⊢
  refine pure_ (i := 1) (N := some 6) (v := ?_) (a' := ?_) #[false, true, false] rfl rfl (by kernel_rfl) (fun _ _ _ h => h) (Or.inl ⟨by rfl, ?_⟩) ?_ ?_
  rotate_left
  ·
   intro w'
   go_simp
   with_reducible rfl
  rotate_left
  ·
   simp only [Act.put, List.setIfInBounds_toArray, List.set_cons_zero, List.set_cons_succ, i64_w, i32_w]
   rfl
  refine take_ (i := 0) (N := some 11) (v := ?_) (a' := ?_) (tk 3 2) rfl rfl (by kernel_rfl) (fun _ _ _ h => h) (Or.inl ⟨by rfl, ?_⟩) hHeld ?_ ?_
  rotate_left
  ·
   rintro w' ⟨s0, s1⟩
   go_simp
   with_reducible rfl
  rotate_left
  ·
   simp only [Act.put, List.setIfInBounds_toArray, List.set_cons_zero, List.set_cons_succ, i64_w, i32_w]
   rfl
  refine one_ (i := 2) (N := none) (tk 3 3) rfl rfl (by kernel_rfl) (by decide) (fun K hK => ?_)
  have hs26 : w25.cell? ⟨gb229, 0, none⟩ = some (.int .i64 0) := bC BK229 0
  have hfs26 := blk_frozen BK229.out 0
  have hns26_0 := NB228_229.out
  have hms26_0 := NB229_228.out
  have hs27 : w25.cell? ⟨gb229, 1, none⟩ = some (.int .i64 0) := bC BK229 1
  have hfs27 := blk_frozen BK229.out 1
  have hns27_0 := NB228_229.out
  have hms27_0 := NB229_228.out
  refine skip_ (w1 := ?_) (by rfl) rfl ?_ ?_
  rotate_left
  ·
   go_simp
   rfl
  refine hK.out _ _ ⟨((cell_far (p := ⟨gb229, _, none⟩) NB228_229.out _).trans (((cell_far (p := ⟨gb229, _, none⟩) NB228_229.out _).trans (hHeld.1)))), ((cell_far (p := ⟨gb229, _, none⟩) NB228_229.out _).trans (((cell_far (p := ⟨gb229, _, none⟩) NB228_229.out _).trans (hHeld.2))))⟩ (fun hHeld => ?_)
  clear hK K
  refine done_ (by kernel_rfl) ?_
  try go_wp2
  refine bodyPost_ret (results_tc rfl _ _ gb229 67 #[.int .i64 a1_0, .int .i64 a1_1] (0, 0) _ rfl (pP (pP (pM BK229))) Tryd.underlying67 rfl (by kernel_rfl)) rfl ?_
  exact pR (pE HB)

end Go.Proofs.YtaehonmfoanloaaDoor.PA
