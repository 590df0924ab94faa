/- The Go functions in Lean, with the proofs that the code comes to these answers: printed by this session's program (wip/px) out of the seat's translation. Conditions: each theorem's own. -/
import Derived.Test.YtaehonmfoanloaaDoorPAx0
namespace Go.Proofs.YtaehonmfoanloaaDoor.PA
open Go.RowKit Go.Proofs.YtaehonmfoanloaaDoorW.PrintWords Go.Proofs.YtaehonmfoanloaaDoorW.PrintLast Go.Proofs.YtaehonmfoanloaaDoorW.PrintMore
attribute [local go_sem] max2_int min2_int max_two min_two max_three min_three max_four min_four   -- for this text's walks alone
attribute [local go_sem ↓] Ext.isSome_setCell
open Press
set_option linter.unusedVariables false
set_option linter.unusedSimpArgs false

/-! ### rdata_number: function 43 -/
def rdata_number.l0 : Nat → Int → List Int → Int → Option (ByteArray)
 | 0, _, _, _ => none
 | k + 1, x0, x5, x6 => if x6 ≥ 0 then (if 0 ≤ x6 then (if x6 < (x5.length : Int) then (rdata_number.l0 k (x0 / 256) (x5.set (x6 : Int).toNat ((x0) % 256)) (wrap64 (x6 - 1))) else (none)) else (none)) else (some (strOfNums x5))
def rdata_number.f (k : Nat) (a0 : Int) (a1 : Int) : Option (ByteArray) := if 0 ≤ a1 then (if (a1 : Int).toNat ≤ 281474976710656 then (rdata_number.l0 k a0 (List.replicate (a1 : Int).toNat 0) (wrap64 (a1 - 1))) else (none)) else (none)
theorem rdata_number.mono_l : ∀ k, (∀ y0 y1 y2, LeO (rdata_number.l0 k y0 y1 y2) (rdata_number.l0 (k + 1) y0 y1 y2))
 | 0 => fun _ _ _ r h => by simp [rdata_number.l0] at h
 | k + 1 => by
  have ih0 := rdata_number.mono_l k
  ·
   intro y0 y1 y2
   unfold rdata_number.l0
   repeat' with_reducible first | exact ih0 _ _ _ | exact LeO.refl _ | exact LeO.none _ | refine LeO.ite ?_ ?_ | refine LeO.bind ?_ (fun _ => ?_)
theorem rdata_number.mono : ∀ a0 a1 k, LeO (rdata_number.f k a0 a1) (rdata_number.f (k + 1) a0 a1) := by
 intro a0 a1 k
 have ih0 := rdata_number.mono_l k
 unfold rdata_number.f
 repeat' with_reducible first | exact ih0 _ _ _ | exact LeO.refl _ | exact LeO.none _ | refine LeO.ite ?_ ?_ | refine LeO.bind ?_ (fun _ => ?_)
set_option maxHeartbeats 40000000 in
set_option maxRecDepth 100000 in
theorem rdata_number.calls (k : Nat) (a0 : Int) (a1 : Int) (r : ByteArray) (w : World) (h : rdata_number.f k a0 a1 = some r) :
 Calls Tryd.prog 43 #[.int .i64 a0, .int .i64 a1] w fun e w' => e = .returned (.string r) ∧ Below w.heap.size w w' := by
 have HB := Aside0.mk (Below.refl w.heap.size w)
 have H : (if 0 ≤ a1 then (if (a1 : Int).toNat ≤ 281474976710656 then (rdata_number.l0 k a0 (List.replicate (a1 : Int).toNat 0) (wrap64 (a1 - 1))) else (none)) else (none)) = some r := h
 clear h
 by_cases c3 : 0 ≤ a1
 ·
  rw [if_pos c3] at H
  have c3b0 := eq_true c3
  have c3b1 := decide_eq_true c3
  clear c3
  by_cases c4 : (a1 : Int).toNat ≤ 281474976710656
  ·
   rw [if_pos c4] at H
   have c4b0 := eq_true c4
   have c4b1 := decide_eq_true c4
   clear c4
   obtain ⟨y165, hy165⟩ : ∃ y_ : List Int, y_ = (List.replicate (a1 : Int).toNat 0) := ⟨_, rfl⟩
   replace H : (rdata_number.l0 k a0 y165 (wrap64 (a1 - 1))) = some r := by first | (rw [hy165]; with_reducible exact H) | (have H2_ := (Option.bind_some _ _).symm.trans H; rw [hy165]; with_reducible exact H2_) | (have H2_ := (Option.bind_some _ _).symm.trans H; with_reducible exact H2_) | with_reducible exact H | (rw [hy165]; exact H) | exact H
   have Ny165 := Aside0.mk hy165
   clear hy165
   have H' := Aside0.mk H
   clear H
   go_enter Tryd.func43, Tryd.ntmps43
   go_wp2_with (first | ((with_reducible refine gate_dst (N := 8) rfl ?_); refine Kd.R_make (Kd.int .u8) _ 5 rfl (N := 8) rfl 55 _ _ rfl a1 rfl rfl Tryd.underlying55 (.int .u8 0) 1 info5 rfl (by decide) (by omega) 0 (ok := fun _ => True) (okp := fun _ => True) rfl (fun _ hk => hk) trivial (oD) (Nat.le_trans (Nat.mul_le_mul_right _ (oD : a1.toNat ≤ 281474976710656)) (by omega)) (Below.refl _ _) (Nat.le_refl _) ?_; intro v166 w5 ho6 hb hg_ hnew_; clear hg_ hnew_; (first | rw [← Ny165.out] at ho6 | (simp only [Int.reduceToNat] at ho6; rw [← Ny165.out] at ho6)); have HO167 := Aside0.mk (Kd.R_lower ho6 (below_size (by repeat (first | (with_reducible first | exact HB.out | apply below_alloc | apply pw_below_drewN | apply below_drew1) | exact HB.out)))); replace HB := (pS HB hb); clear hb ho6))
   go_loopg [0, 6] k (fun kq v0 v6 w' => ∃ (x0_1 : Int) (x5_1 : List Int) (x6_1 : Int), v0 = .int .i64 x0_1 ∧ v6 = .int .i64 x6_1 ∧ Aside0 (rdata_number.l0 kq x0_1 x5_1 x6_1 = some r) ∧ Aside0 (kq ≤ k) ∧ Aside0 (Kd.R (Kd.int .u8) 5 w' w.heap.size (fun _ => True) v166 x5_1) ∧ Aside0 (Below w.heap.size w w'))
   case atStart => exact ⟨(a0), (y165), (wrap64 (a1 - 1)), pT, pT, H', ⟨Nat.le_refl _⟩, ⟨by (with_reducible repeat (first | apply Kd.R_alloc | apply Kd.R_drewN | apply Kd.R_drew)); exact HO167.out⟩, ⟨pE HB⟩⟩
   case round =>
    clear H'
    try clear c3
    try clear c3b0
    try clear c3b1
    try clear c4
    try clear c4b0
    try clear c4b1
    obtain ⟨x0_1, x5_1, x6_1, rfl, rfl, HA, HK1, HO_5, HB⟩ := hrel
    cases gk with
    | zero => exact absurd HA.out (by simp [rdata_number.l0])
    | succ k1 =>
     have H := HA.out
     clear HA
     simp only [rdata_number.l0] at H
     by_cases c7 : x6_1 ≥ 0
     ·
      rw [if_pos c7] at H
      have c7b0 := decide_eq_true c7
      clear c7
      by_cases c8 : 0 ≤ x6_1
      ·
       rw [if_pos c8] at H
       have c8b0 := decide_eq_true c8
       clear c8
       by_cases c9 : x6_1 < (x5_1.length : Int)
       ·
        rw [if_pos c9] at H
        have c9b0 := decide_eq_true c9
        clear c9
        obtain ⟨y168, hy168⟩ : ∃ y_ : List Int, y_ = (x5_1.set (x6_1 : Int).toNat ((x0_1) % 256)) := ⟨_, rfl⟩
        replace H : (rdata_number.l0 k1 (x0_1 / 256) y168 (wrap64 (x6_1 - 1))) = some r := by first | (rw [hy168]; with_reducible exact H) | (have H2_ := (Option.bind_some _ _).symm.trans H; rw [hy168]; with_reducible exact H2_) | (have H2_ := (Option.bind_some _ _).symm.trans H; with_reducible exact H2_) | with_reducible exact H | (rw [hy168]; exact H) | exact H
        have Ny168 := Aside0.mk hy168
        clear hy168
        have H' := Aside0.mk H
        clear H
        have p10 : 0 ≤ (x6_1 : Int) := oD
        have q10 : (x6_1 : Int) < ((x5_1.length : Int) : Int) := oD
        obtain ⟨go10, co10, eo10, gb10, gl10, cl10, HG10⟩ := Kd.R_form HO_5.out (by omega)
        (first | cases eo10 | (injection eo10 with ea_ en_ ec_; (first | subst ea_ | (injection ea_ with ea_; subst ea_)); subst ec_; clear en_))
        have GB10 := Aside0.mk gb10
        have GG10 := Aside0.mk HG10
        clear gb10 gl10 HG10
        obtain ⟨hx10_0, hf10_0⟩ := Kd.R_celln 0 HO_5.out (x6_1 : Int) p10 q10
        replace p10 := eq_true p10
        replace q10 := eq_true q10
        have HP11 := Kd.R_putg HO_5.out (x6_1 : Int) ((x0_1) % 256)
        go_wp2_with (first | ((with_reducible refine gate_store (t := 5) (p := 19) rfl ?_); refine store_event (t := 5) (p := 19) (v := ?vo_w12) (w1 := (wr.setCell ⟨go10, (x6_1 : Int).toNat, none⟩ (.int .u8 ((x0_1) % 256)))) ?hg ?ho ?hn ?hr ?_; (case ho => rfl); (case hg => rfl); (case hn => rfl); (case hr => first | (go_simp; done) | (go_simp; rfl)); intro w12 hw; have hg : wr.grownBy w12 (some go10) := (by rw [hw]; exact HP11.2); have hp_ : Kd.R (Kd.int .u8) 5 w12 w.heap.size (fun _ => True) (.slice (some ⟨go10, 0, none⟩) x5_1.length co10) y168 := (by rw [hw, Ny168.out]; exact HP11.1); clear HP11; replace HO_5 := Aside0.mk (hp_); replace HB := Aside0.mk ((by rw [hw]; exact below_set (HB.out) GB10.out : Below w.heap.size w w12)); clear hg hw hp_))
        go_roundg k1
        case measure => have := HK1.out; omega
        case rel => exact ⟨(x0_1 / 256), (y168), (wrap64 (x6_1 - 1)), pT, pT, H', ⟨by have := HK1.out; omega⟩, ⟨by (with_reducible repeat (first | apply Kd.R_alloc | apply Kd.R_drewN | apply Kd.R_drew)); exact HO_5.out⟩, ⟨pE HB⟩⟩
       ·
        rw [if_neg c9] at H
        exact absurd H (by simp)
      ·
       rw [if_neg c8] at H
       exact absurd H (by simp)
     ·
      rw [if_neg c7] at H
      have c7b0 := decide_eq_false c7
      clear c7
      obtain rfl := Option.some.inj H
      have hcv13 := own_string (P := Tryd.prog) Tryd.underlying55 Tryd.underlying5 Tryd.underlying9 (Kd.own_of_R HO_5.out)
      go_wp2
      go_ret
      exact pR (pE HB)
  ·
   rw [if_neg c4] at H
   exact absurd H (by simp)
 ·
  rw [if_neg c3] at H
  exact absurd H (by simp)

-- NOT PRINTED: function 16 (rdata_Wire)

-- NOT PRINTED: function 66 (rdata_reader_take)

-- NOT PRINTED: function 67 (rdata_reader_byte)

-- NOT PRINTED: function 68 (rdata_form)

-- NOT PRINTED: function 97 (rdata_letter)

-- NOT PRINTED: function 87 (rdata_reader_label)

-- NOT PRINTED: function 64 (rdata_reader_name)

/-! ### addr_value: function 88 -/
def addr_value.l0 : Nat → ByteArray → Int → Int → Int → Option (Int)
 | 0, _, _, _, _ => none
 | k + 1, x0, x3, x6, x7 => if x7 < x6 then (if 0 ≤ x7 then (if x7 < (x0.size : Int) then (addr_value.l0 k x0 (Go.bits .or .u64 (IntKind.u64.wrap (x3 * 256)) (IntKind.u64.wrap (bt x0 x7))) x6 (wrap64 (x7 + 1))) else (none)) else (none)) else (some x3)
def addr_value.f (k : Nat) (a0 : ByteArray) : Option (Int) := addr_value.l0 k a0 0 (a0.size : Int) 0
theorem addr_value.mono_l : ∀ k, (∀ y0 y1 y2 y3, LeO (addr_value.l0 k y0 y1 y2 y3) (addr_value.l0 (k + 1) y0 y1 y2 y3))
 | 0 => fun _ _ _ _ r h => by simp [addr_value.l0] at h
 | k + 1 => by
  have ih0 := addr_value.mono_l k
  ·
   intro y0 y1 y2 y3
   unfold addr_value.l0
   repeat' with_reducible first | exact ih0 _ _ _ _ | exact LeO.refl _ | exact LeO.none _ | refine LeO.ite ?_ ?_ | refine LeO.bind ?_ (fun _ => ?_)
theorem addr_value.mono : ∀ a0 k, LeO (addr_value.f k a0) (addr_value.f (k + 1) a0) := by
 intro a0 k
 have ih0 := addr_value.mono_l k
 unfold addr_value.f
 repeat' with_reducible first | exact ih0 _ _ _ _ | exact LeO.refl _ | exact LeO.none _ | refine LeO.ite ?_ ?_ | refine LeO.bind ?_ (fun _ => ?_)
set_option maxHeartbeats 40000000 in
set_option maxRecDepth 100000 in
theorem addr_value.calls (k : Nat) (a0 : ByteArray) (r : Int) (w : World) (h : addr_value.f k a0 = some r) :
 Calls Tryd.prog 88 #[.string a0] w fun e w' => e = .returned (.int .u64 r) ∧ Drawn0 w w' := by
 have H : (addr_value.l0 k a0 0 (a0.size : Int) 0) = some r := h
 clear h
 have H' := Aside0.mk H
 clear H
 go_enter Tryd.func88, Tryd.ntmps88
 go_wp2
 go_loopg [3, 7] k (fun kq v3 v7 w' => ∃ (x3_1 : Int) (x7_1 : Int), v3 = .int .u64 x3_1 ∧ v7 = .int .i64 x7_1 ∧ Aside0 (addr_value.l0 kq a0 x3_1 (a0.size : Int) x7_1 = some r) ∧ Aside0 (kq ≤ k) ∧ Drawn0 w w')
 case atStart => exact ⟨(0), (0), pT, pT, H', ⟨Nat.le_refl _⟩, by repeat (first | exact Drawn0.refl _ | apply Drawn0.step)⟩
 case round =>
  clear H'
  obtain ⟨x3_1, x7_1, rfl, rfl, HA, HK1, ⟨m1, rfl⟩⟩ := hrel
  cases gk with
  | zero => exact absurd HA.out (by simp [addr_value.l0])
  | succ k1 =>
   have H := HA.out
   clear HA
   simp only [addr_value.l0] at H
   by_cases c2 : x7_1 < (a0.size : Int)
   ·
    rw [if_pos c2] at H
    have c2b0 := decide_eq_true c2
    clear c2
    by_cases c3 : 0 ≤ x7_1
    ·
     rw [if_pos c3] at H
     have c3b0 := decide_eq_true c3
     clear c3
     by_cases c4 : x7_1 < (a0.size : Int)
     ·
      rw [if_pos c4] at H
      have c4b0 := decide_eq_true c4
      clear c4
      have H' := Aside0.mk H
      clear H
      have p5 : 0 ≤ (x7_1 : Int) := oD
      have q5 : x7_1 < (a0.size : Int) := oD
      have hx5 := bt_at a0 x7_1
      replace p5 := eq_true p5
      replace q5 := eq_true q5
      go_wp2
      go_roundg k1
      case measure => have := HK1.out; omega
      case rel => exact ⟨(Go.bits .or .u64 (IntKind.u64.wrap (x3_1 * 256)) (IntKind.u64.wrap (bt a0 x7_1))), (wrap64 (x7_1 + 1)), pT, pT, H', ⟨by have := HK1.out; omega⟩, by repeat (first | exact Drawn0.refl _ | apply Drawn0.step)⟩
     ·
      rw [if_neg c4] at H
      exact absurd H (by simp)
    ·
     rw [if_neg c3] at H
     exact absurd H (by simp)
   ·
    rw [if_neg c2] at H
    have c2b0 := decide_eq_false c2
    clear c2
    obtain rfl := Option.some.inj H
    go_wp2
    go_ret
    exact pV

/-! ### addr_Read: function 65 -/
def addr_Read.f (k : Nat) (a0 : ByteArray) : Option (Bool × Int × Int × Int) := if (a0.size : Int) = 4 then ((addr_value.f k a0).bind fun t176 => (some (false, 0, t176, 0))) else (if (a0.size : Int) = 16 then (if 0 ≤ 8 then (if 8 ≤ (a0.size : Int) then ((addr_value.f k (a0.extract 0 8)).bind fun t177 => ((addr_value.f k (a0.extract 8 a0.size)).bind fun t178 => (some (true, t177, t178, 0)))) else (none)) else (none)) else (if (a0.size : Int) > 16 then (some (false, 0, 0, 8)) else (some (false, 0, 0, 6))))
theorem addr_Read.mono : ∀ a0 k, LeO (addr_Read.f k a0) (addr_Read.f (k + 1) a0) := by
 intro a0 k
 unfold addr_Read.f
 repeat' with_reducible first | exact addr_value.mono _ _ | exact LeO.refl _ | exact LeO.none _ | refine LeO.ite ?_ ?_ | refine LeO.bind ?_ (fun _ => ?_)
def addr_Read.T4 : Bool × List (List Nat × List Nat) := (true, [([], []), ([0], [0]), ([1], [1]), ([], []), ([3], [3]), ([4, 2], [4]), ([2, 5], [2, 5]), ([6, 5, 0, 1, 2, 3, 4, 5, 6], [6]), ([7, 0, 1, 2, 3, 4, 5, 6, 7], [])])
def addr_Read.B4 : List Nat := [0, 1, 3, 0, 8, 31, 63, 127, 255]
theorem addr_Read.tab4 : rtab .any (opsOf Tryd.f65 4) = addr_Read.T4 := by kernel_rfl
theorem addr_Read.bits4 : waitsOk addr_Read.T4.2 addr_Read.B4 = true := by kernel_rfl
set_option maxHeartbeats 40000000 in
set_option maxRecDepth 100000 in
theorem addr_Read.calls (k : Nat) (a0 : ByteArray) (r1 : Bool) (r2 : Int) (r3 : Int) (r4 : Int) (w : World) (h : addr_Read.f k a0 = some (r1, r2, r3, r4)) :
 Calls Tryd.prog 65 #[.string a0] w fun e w' => e = .returned (.tuple #[.agg #[.bool r1, .int .u64 r2, .int .u64 r3], .int .i64 r4]) ∧ Below w.heap.size w w' := by
 have hu24 := Tryd.underlying24
 have HB := Aside0.mk (Below.refl w.heap.size w)
 have H : (if (a0.size : Int) = 4 then ((addr_value.f k a0).bind fun t176 => (some (false, 0, t176, 0))) else (if (a0.size : Int) = 16 then (if 0 ≤ 8 then (if 8 ≤ (a0.size : Int) then ((addr_value.f k (a0.extract 0 8)).bind fun t177 => ((addr_value.f k (a0.extract 8 a0.size)).bind fun t178 => (some (true, t177, t178, 0)))) else (none)) else (none)) else (if (a0.size : Int) > 16 then (some (false, 0, 0, 8)) else (some (false, 0, 0, 6))))) = some (r1, r2, r3, r4) := h
 clear h
 by_cases c2 : (a0.size : Int) = 4
 ·
  rw [if_pos c2] at H
  have c2b0 : ((a0.size : Int) == 4) = true := beq_iff_eq.mpr c2
  have c2b1 : ((a0.size : Int) != 4) = false := bne_eq_false_iff_eq.mpr c2
  clear c2
  replace H := Option.bind_eq_some_iff.mp H
  obtain ⟨t176, A30, H⟩ := H
  have A3 := Aside0.mk A30
  clear A30
  simp only [Option.some.injEq, Prod.mk.injEq] at H
  obtain ⟨rfl, rfl, rfl, rfl⟩ := H
  go_enter Tryd.func65, Tryd.ntmps65
  go_wp2_with (first | ((with_reducible refine gate_dst (N := 2) rfl ?_); refine boxA (N := 2) (cs := #[.bool false, .int .u64 0, .int .u64 0]) (t := 24) ?_; intro gb175 hg w4 hbox hb; have BK175 := Aside0.mk (hbox); have GE175 := (pZ HB hg); replace HB := (pS HB hb); clear hb hbox hg) | ((with_reducible refine gate_callee (f := 88) rfl ?_); refine goesA (some 9) Tryd.func88 #[.string a0] ?_; (with_reducible refine (addr_value.calls k a0 t176 _ A3.out).mono ?_); rintro e w' ⟨rfl, ⟨nd, rfl⟩⟩; refine ⟨_, rfl, ?_⟩; (try (rw [drewN_self w4]; generalize hq_ : World.drewN w4 _ = w4; replace BK175 : Aside0 (w4.heap[gb175]? = some (.cells #[.bool false, .int .u64 0, .int .u64 0] 24 (0, 0))) := ⟨by rw [← hq_]; exact (pM BK175)⟩; replace HB : Aside0 (Below w.heap.size w w4) := ⟨by rw [← hq_]; exact (by repeat (first | (with_reducible first | exact HB.out | apply below_alloc | apply pw_below_drewN | apply below_drew1 | refine below_set ?_ GE175.out) | exact HB.out))⟩; clear hq_)); obtain ⟨hcz5_0, hcz5_1, hcz5_2, hfz5_0, hfz5_1, hfz5_2⟩ := pC3 BK175))
  refine bodyPost_ret (results_ct rfl _ _ gb175 24 #[.bool false, .int .u64 0, .int .u64 t176] (0, 0) _ rfl (pP (pP (pP (pM BK175)))) Tryd.underlying24 rfl (by kernel_rfl)) rfl ?_
  exact pR (pE HB)
 ·
  rw [if_neg c2] at H
  have c2b0 : ((a0.size : Int) == 4) = false := beq_eq_false_iff_ne.mpr c2
  have c2b1 : ((a0.size : Int) != 4) = true := bne_iff_ne.mpr c2
  by_cases c6 : (a0.size : Int) = 16
  ·
   rw [if_pos c6] at H
   have c6b0 : ((a0.size : Int) == 16) = true := beq_iff_eq.mpr c6
   have c6b1 : ((a0.size : Int) != 16) = false := bne_eq_false_iff_eq.mpr c6
   clear c6
   by_cases c7 : 0 ≤ 8
   ·
    rw [if_pos c7] at H
    have c7b0 := eq_true c7
    have c7b1 := decide_eq_true c7
    clear c7
    by_cases c8 : 8 ≤ (a0.size : Int)
    ·
     rw [if_pos c8] at H
     have c8b0 := eq_true c8
     have c8b1 := decide_eq_true c8
     clear c8
     replace H := Option.bind_eq_some_iff.mp H
     obtain ⟨t177, A90, H⟩ := H
     have A9 := Aside0.mk A90
     clear A90
     have c10b0 := eq_true (oD : 8 ≤ (a0.size : Int))
     replace H := Option.bind_eq_some_iff.mp H
     obtain ⟨t178, A110, H⟩ := H
     have A11 := Aside0.mk A110
     clear A110
     simp only [Option.some.injEq, Prod.mk.injEq] at H
     obtain ⟨rfl, rfl, rfl, rfl⟩ := H
     go_enter Tryd.func65, Tryd.ntmps65
     try go_wp2_with (first | ((with_reducible refine gate_dst (N := 2) rfl ?_); refine boxA (N := 2) (cs := #[.bool false, .int .u64 0, .int .u64 0]) (t := 24) ?_; intro gb175 hg w12 hbox hb; have BK175 := Aside0.mk (hbox); have GE175 := (pZ HB hg); replace HB := (pS HB hb); clear hb hbox hg))
     replace BK175 := Aside0.mk (blk_drew BK175.out)
     replace HB := Aside0.mk (below_drew1 HB.out)
     refine start_ (n := 9) (S := fun w' => True) (ds := []) (tk 9 0) (by kernel_rfl) rfl rfl trivial (fun hHeld => ?_); refine with_tabW addr_Read.tab4 addr_Read.bits4 (fun HT_ HW_ => ?_)
     generalize w12.drew = w13 at BK175 HB hHeld ⊢
     refine pureA (i := 0) (some 15) HT_ (tk 9 1) ?_
     refine pureA (i := 1) (some 16) HT_ (tk 9 2) ?_
     refine pureA (i := 3) (some 18) HT_ (tr [2, 1, 1, 5]) ?_
     refine pureA (i := 4) (some 19) HT_ (tr [2, 1, 2, 4]) ?_
     refine one_ (i := 2) (N := some 17) (tk 9 5) rfl rfl (one_of HT_.out (by kernel_rfl)) (by decide) (fun K hK => ?_)
     refine goesR Tryd.func88 #[.string (a0.extract 0 8)] ?_
     with_reducible refine (addr_value.calls k (a0.extract 0 8) t177 _ A9.out).mono ?_
     rintro e w' ⟨rfl, ⟨nd, rfl⟩⟩
     refine ⟨_, rfl, ?_⟩
     refine hK.out _ _ trivial (fun hHeld => ?_)
     clear hK K
     refine normA (N := some 17) ?_
     refine one_ (i := 5) (N := some 20) (tk 9 6) rfl rfl (one_of HT_.out (by kernel_rfl)) (by decide) (fun K hK => ?_)
     refine goesR Tryd.func88 #[.string (a0.extract 8 a0.size)] ?_
     with_reducible refine (addr_value.calls k (a0.extract 8 a0.size) t178 _ A11.out).mono ?_
     rintro e w' ⟨rfl, ⟨nd, rfl⟩⟩
     refine ⟨_, rfl, ?_⟩
     refine hK.out _ _ trivial (fun hHeld => ?_)
     clear hK K
     refine normA (N := some 20) ?_
     refine pureA (i := 6) (some 21) HT_ (tk 9 7) ?_
     refine one_ (i := 7) (N := none) (tk 9 8) rfl rfl (one_of HT_.out (by kernel_rfl)) (by decide) (fun K hK => ?_)
     have hs14 : w13.cell? ⟨gb175, 0, none⟩ = some (.bool false) := bC BK175 0
     have hfs14 := blk_frozen BK175.out 0
     have hs15 : w13.cell? ⟨gb175, 1, none⟩ = some (.int .u64 0) := bC BK175 1
     have hfs15 := blk_frozen BK175.out 1
     have hs16 : w13.cell? ⟨gb175, 2, none⟩ = some (.int .u64 0) := bC BK175 2
     have hfs16 := blk_frozen BK175.out 2
     refine skip_ (w1 := ?_) (by rfl) rfl ?_ ?_
     rotate_left
     ·
      go_simp
      rfl
     refine hK.out _ _ trivial (fun hHeld => ?_)
     clear hK K
     refine pureA (i := 8) (some 3) HT_ (tk 9 9) ?_
     refine done_ (done_of HT_.out (by kernel_rfl)) ?_
     try go_wp2
     refine bodyPost_ret (results_ct rfl _ _ gb175 24 #[.bool true, .int .u64 t177, .int .u64 t178] (0, 0) _ rfl (pP (pP (pP (pM BK175)))) Tryd.underlying24 rfl (by kernel_rfl)) rfl ?_
     exact pR (pE HB)
    ·
     rw [if_neg c8] at H
     exact absurd H (by simp)
   ·
    rw [if_neg c7] at H
    exact absurd H (by simp)
  ·
   rw [if_neg c6] at H
   have c6b0 : ((a0.size : Int) == 16) = false := beq_eq_false_iff_ne.mpr c6
   have c6b1 : ((a0.size : Int) != 16) = true := bne_iff_ne.mpr c6
   by_cases c17 : (a0.size : Int) > 16
   ·
    rw [if_pos c17] at H
    have c17b0 := decide_eq_true c17
    have c17b1 : decide (16 < a0.size) = true := decide_eq_true (by omega)
    clear c17
    simp only [Option.some.injEq, Prod.mk.injEq] at H
    obtain ⟨rfl, rfl, rfl, rfl⟩ := H
    go_enter Tryd.func65, Tryd.ntmps65
    go_wp2_with (first | ((with_reducible refine gate_dst (N := 2) rfl ?_); refine boxA (N := 2) (cs := #[.bool false, .int .u64 0, .int .u64 0]) (t := 24) ?_; intro gb175 hg w18 hbox hb; have BK175 := Aside0.mk (hbox); have GE175 := (pZ HB hg); replace HB := (pS HB hb); clear hb hbox hg; obtain ⟨hcz19_0, hcz19_1, hcz19_2, hfz19_0, hfz19_1, hfz19_2⟩ := pC3 BK175))
    refine bodyPost_ret (results_ct rfl _ _ gb175 24 #[.bool false, .int .u64 0, .int .u64 0] (0, 0) _ rfl (pP (pP (pP (pM BK175)))) Tryd.underlying24 rfl (by kernel_rfl)) rfl ?_
    exact pR (pE HB)
   ·
    rw [if_neg c17] at H
    have c17b0 := decide_eq_false c17
    have c17b1 : decide (16 < a0.size) = false := decide_eq_false (by omega)
    clear c17
    simp only [Option.some.injEq, Prod.mk.injEq] at H
    obtain ⟨rfl, rfl, rfl, rfl⟩ := H
    go_enter Tryd.func65, Tryd.ntmps65
    go_wp2_with (first | ((with_reducible refine gate_dst (N := 2) rfl ?_); refine boxA (N := 2) (cs := #[.bool false, .int .u64 0, .int .u64 0]) (t := 24) ?_; intro gb175 hg w20 hbox hb; have BK175 := Aside0.mk (hbox); have GE175 := (pZ HB hg); replace HB := (pS HB hb); clear hb hbox hg; obtain ⟨hcz21_0, hcz21_1, hcz21_2, hfz21_0, hfz21_1, hfz21_2⟩ := pC3 BK175))
    refine bodyPost_ret (results_ct rfl _ _ gb175 24 #[.bool false, .int .u64 0, .int .u64 0] (0, 0) _ rfl (pP (pP (pP (pM BK175)))) Tryd.underlying24 rfl (by kernel_rfl)) rfl ?_
    exact pR (pE HB)

-- NOT PRINTED: function 69 (rdata_reader_set)

-- NOT PRINTED: function 70 (rdata_reader_number)

-- NOT PRINTED: function 49 (rdata_reader_field)

-- NOT PRINTED: function 18 (rdata_Read)

-- NOT PRINTED: function 14 (ddilaw05_awake)

/-! ### ddiref05_Mnemonic: function 57 -/
def ddiref05_Mnemonic.f (a0 : Int) : Option (ByteArray) := if a0 = 1 then (some (⟨#[65]⟩ : ByteArray)) else (if a0 = 2 then (some (⟨#[78, 83]⟩ : ByteArray)) else (if a0 = 5 then (some (⟨#[67, 78, 65, 77, 69]⟩ : ByteArray)) else (if a0 = 6 then (some (⟨#[83, 79, 65]⟩ : ByteArray)) else (if a0 = 12 then (some (⟨#[80, 84, 82]⟩ : ByteArray)) else (if a0 = 15 then (some (⟨#[77, 88]⟩ : ByteArray)) else (if a0 = 16 then (some (⟨#[84, 88, 84]⟩ : ByteArray)) else (if a0 = 28 then (some (⟨#[65, 65, 65, 65]⟩ : ByteArray)) else (if a0 = 33 then (some (⟨#[83, 82, 86]⟩ : ByteArray)) else (if a0 = 39 then (some (⟨#[68, 78, 65, 77, 69]⟩ : ByteArray)) else (if a0 = 43 then (some (⟨#[68, 83]⟩ : ByteArray)) else (if a0 = 46 then (some (⟨#[82, 82, 83, 73, 71]⟩ : ByteArray)) else (if a0 = 47 then (some (⟨#[78, 83, 69, 67]⟩ : ByteArray)) else (if a0 = 48 then (some (⟨#[68, 78, 83, 75, 69, 89]⟩ : ByteArray)) else (some (⟨#[]⟩ : ByteArray)))))))))))))))
set_option maxHeartbeats 40000000 in
set_option maxRecDepth 100000 in
theorem ddiref05_Mnemonic.calls (a0 : Int) (r : ByteArray) (w : World) (h : ddiref05_Mnemonic.f a0 = some r) :
 Calls Tryd.prog 57 #[.int .i64 a0] w fun e w' => e = .returned (.string r) ∧ Drawn0 w w' := by
 have H : (if a0 = 1 then (some (⟨#[65]⟩ : ByteArray)) else (if a0 = 2 then (some (⟨#[78, 83]⟩ : ByteArray)) else (if a0 = 5 then (some (⟨#[67, 78, 65, 77, 69]⟩ : ByteArray)) else (if a0 = 6 then (some (⟨#[83, 79, 65]⟩ : ByteArray)) else (if a0 = 12 then (some (⟨#[80, 84, 82]⟩ : ByteArray)) else (if a0 = 15 then (some (⟨#[77, 88]⟩ : ByteArray)) else (if a0 = 16 then (some (⟨#[84, 88, 84]⟩ : ByteArray)) else (if a0 = 28 then (some (⟨#[65, 65, 65, 65]⟩ : ByteArray)) else (if a0 = 33 then (some (⟨#[83, 82, 86]⟩ : ByteArray)) else (if a0 = 39 then (some (⟨#[68, 78, 65, 77, 69]⟩ : ByteArray)) else (if a0 = 43 then (some (⟨#[68, 83]⟩ : ByteArray)) else (if a0 = 46 then (some (⟨#[82, 82, 83, 73, 71]⟩ : ByteArray)) else (if a0 = 47 then (some (⟨#[78, 83, 69, 67]⟩ : ByteArray)) else (if a0 = 48 then (some (⟨#[68, 78, 83, 75, 69, 89]⟩ : ByteArray)) else (some (⟨#[]⟩ : ByteArray)))))))))))))))) = some r := h
 clear h
 by_cases c2 : a0 = 1
 ·
  rw [if_pos c2] at H
  have c2b0 : (a0 == 1) = true := beq_iff_eq.mpr c2
  have c2b1 : (a0 != 1) = false := bne_eq_false_iff_eq.mpr c2
  clear c2
  obtain rfl := Option.some.inj H
  go_enter Tryd.func57, Tryd.ntmps57
  go_wp2
  go_ret
  exact pV
 ·
  rw [if_neg c2] at H
  have c2b0 : (a0 == 1) = false := beq_eq_false_iff_ne.mpr c2
  have c2b1 : (a0 != 1) = true := bne_iff_ne.mpr c2
  by_cases c3 : a0 = 2
  ·
   rw [if_pos c3] at H
   have c3b0 : (a0 == 2) = true := beq_iff_eq.mpr c3
   have c3b1 : (a0 != 2) = false := bne_eq_false_iff_eq.mpr c3
   clear c3
   obtain rfl := Option.some.inj H
   go_enter Tryd.func57, Tryd.ntmps57
   go_wp2
   go_ret
   exact pV
  ·
   rw [if_neg c3] at H
   have c3b0 : (a0 == 2) = false := beq_eq_false_iff_ne.mpr c3
   have c3b1 : (a0 != 2) = true := bne_iff_ne.mpr c3
   by_cases c4 : a0 = 5
   ·
    rw [if_pos c4] at H
    have c4b0 : (a0 == 5) = true := beq_iff_eq.mpr c4
    have c4b1 : (a0 != 5) = false := bne_eq_false_iff_eq.mpr c4
    clear c4
    obtain rfl := Option.some.inj H
    go_enter Tryd.func57, Tryd.ntmps57
    go_wp2
    go_ret
    exact pV
   ·
    rw [if_neg c4] at H
    have c4b0 : (a0 == 5) = false := beq_eq_false_iff_ne.mpr c4
    have c4b1 : (a0 != 5) = true := bne_iff_ne.mpr c4
    by_cases c5 : a0 = 6
    ·
     rw [if_pos c5] at H
     have c5b0 : (a0 == 6) = true := beq_iff_eq.mpr c5
     have c5b1 : (a0 != 6) = false := bne_eq_false_iff_eq.mpr c5
     clear c5
     obtain rfl := Option.some.inj H
     go_enter Tryd.func57, Tryd.ntmps57
     go_wp2
     go_ret
     exact pV
    ·
     rw [if_neg c5] at H
     have c5b0 : (a0 == 6) = false := beq_eq_false_iff_ne.mpr c5
     have c5b1 : (a0 != 6) = true := bne_iff_ne.mpr c5
     by_cases c6 : a0 = 12
     ·
      rw [if_pos c6] at H
      have c6b0 : (a0 == 12) = true := beq_iff_eq.mpr c6
      have c6b1 : (a0 != 12) = false := bne_eq_false_iff_eq.mpr c6
      clear c6
      obtain rfl := Option.some.inj H
      go_enter Tryd.func57, Tryd.ntmps57
      go_wp2
      go_ret
      exact pV
     ·
      rw [if_neg c6] at H
      have c6b0 : (a0 == 12) = false := beq_eq_false_iff_ne.mpr c6
      have c6b1 : (a0 != 12) = true := bne_iff_ne.mpr c6
      by_cases c7 : a0 = 15
      ·
       rw [if_pos c7] at H
       have c7b0 : (a0 == 15) = true := beq_iff_eq.mpr c7
       have c7b1 : (a0 != 15) = false := bne_eq_false_iff_eq.mpr c7
       clear c7
       obtain rfl := Option.some.inj H
       go_enter Tryd.func57, Tryd.ntmps57
       go_wp2
       go_ret
       exact pV
      ·
       rw [if_neg c7] at H
       have c7b0 : (a0 == 15) = false := beq_eq_false_iff_ne.mpr c7
       have c7b1 : (a0 != 15) = true := bne_iff_ne.mpr c7
       by_cases c8 : a0 = 16
       ·
        rw [if_pos c8] at H
        have c8b0 : (a0 == 16) = true := beq_iff_eq.mpr c8
        have c8b1 : (a0 != 16) = false := bne_eq_false_iff_eq.mpr c8
        clear c8
        obtain rfl := Option.some.inj H
        go_enter Tryd.func57, Tryd.ntmps57
        go_wp2
        go_ret
        exact pV
       ·
        rw [if_neg c8] at H
        have c8b0 : (a0 == 16) = false := beq_eq_false_iff_ne.mpr c8
        have c8b1 : (a0 != 16) = true := bne_iff_ne.mpr c8
        by_cases c9 : a0 = 28
        ·
         rw [if_pos c9] at H
         have c9b0 : (a0 == 28) = true := beq_iff_eq.mpr c9
         have c9b1 : (a0 != 28) = false := bne_eq_false_iff_eq.mpr c9
         clear c9
         obtain rfl := Option.some.inj H
         go_enter Tryd.func57, Tryd.ntmps57
         go_wp2
         go_ret
         exact pV
        ·
         rw [if_neg c9] at H
         have c9b0 : (a0 == 28) = false := beq_eq_false_iff_ne.mpr c9
         have c9b1 : (a0 != 28) = true := bne_iff_ne.mpr c9
         by_cases c10 : a0 = 33
         ·
          rw [if_pos c10] at H
          have c10b0 : (a0 == 33) = true := beq_iff_eq.mpr c10
          have c10b1 : (a0 != 33) = false := bne_eq_false_iff_eq.mpr c10
          clear c10
          obtain rfl := Option.some.inj H
          go_enter Tryd.func57, Tryd.ntmps57
          go_wp2
          go_ret
          exact pV
         ·
          rw [if_neg c10] at H
          have c10b0 : (a0 == 33) = false := beq_eq_false_iff_ne.mpr c10
          have c10b1 : (a0 != 33) = true := bne_iff_ne.mpr c10
          by_cases c11 : a0 = 39
          ·
           rw [if_pos c11] at H
           have c11b0 : (a0 == 39) = true := beq_iff_eq.mpr c11
           have c11b1 : (a0 != 39) = false := bne_eq_false_iff_eq.mpr c11
           clear c11
           obtain rfl := Option.some.inj H
           go_enter Tryd.func57, Tryd.ntmps57
           go_wp2
           go_ret
           exact pV
          ·
           rw [if_neg c11] at H
           have c11b0 : (a0 == 39) = false := beq_eq_false_iff_ne.mpr c11
           have c11b1 : (a0 != 39) = true := bne_iff_ne.mpr c11
           by_cases c12 : a0 = 43
           ·
            rw [if_pos c12] at H
            have c12b0 : (a0 == 43) = true := beq_iff_eq.mpr c12
            have c12b1 : (a0 != 43) = false := bne_eq_false_iff_eq.mpr c12
            clear c12
            obtain rfl := Option.some.inj H
            go_enter Tryd.func57, Tryd.ntmps57
            go_wp2
            go_ret
            exact pV
           ·
            rw [if_neg c12] at H
            have c12b0 : (a0 == 43) = false := beq_eq_false_iff_ne.mpr c12
            have c12b1 : (a0 != 43) = true := bne_iff_ne.mpr c12
            by_cases c13 : a0 = 46
            ·
             rw [if_pos c13] at H
             have c13b0 : (a0 == 46) = true := beq_iff_eq.mpr c13
             have c13b1 : (a0 != 46) = false := bne_eq_false_iff_eq.mpr c13
             clear c13
             obtain rfl := Option.some.inj H
             go_enter Tryd.func57, Tryd.ntmps57
             go_wp2
             go_ret
             exact pV
            ·
             rw [if_neg c13] at H
             have c13b0 : (a0 == 46) = false := beq_eq_false_iff_ne.mpr c13
             have c13b1 : (a0 != 46) = true := bne_iff_ne.mpr c13
             by_cases c14 : a0 = 47
             ·
              rw [if_pos c14] at H
              have c14b0 : (a0 == 47) = true := beq_iff_eq.mpr c14
              have c14b1 : (a0 != 47) = false := bne_eq_false_iff_eq.mpr c14
              clear c14
              obtain rfl := Option.some.inj H
              go_enter Tryd.func57, Tryd.ntmps57
              go_wp2
              go_ret
              exact pV
             ·
              rw [if_neg c14] at H
              have c14b0 : (a0 == 47) = false := beq_eq_false_iff_ne.mpr c14
              have c14b1 : (a0 != 47) = true := bne_iff_ne.mpr c14
              by_cases c15 : a0 = 48
              ·
               rw [if_pos c15] at H
               have c15b0 : (a0 == 48) = true := beq_iff_eq.mpr c15
               have c15b1 : (a0 != 48) = false := bne_eq_false_iff_eq.mpr c15
               clear c15
               obtain rfl := Option.some.inj H
               go_enter Tryd.func57, Tryd.ntmps57
               go_wp2
               go_ret
               exact pV
              ·
               rw [if_neg c15] at H
               have c15b0 : (a0 == 48) = false := beq_eq_false_iff_ne.mpr c15
               have c15b1 : (a0 != 48) = true := bne_iff_ne.mpr c15
               obtain rfl := Option.some.inj H
               go_enter Tryd.func57, Tryd.ntmps57
               go_wp2
               go_ret
               exact pV

/-! ### ddiref05_Known: function 29 -/
def ddiref05_Known.f (a0 : Int) : Option (Bool) := (ddiref05_Mnemonic.f a0).bind fun t179 => (some (t179.toList != ([] : List UInt8)))
set_option maxHeartbeats 40000000 in
set_option maxRecDepth 100000 in
theorem ddiref05_Known.calls (a0 : Int) (r : Bool) (w : World) (h : ddiref05_Known.f a0 = some r) :
 Calls Tryd.prog 29 #[.int .i64 a0] w fun e w' => e = .returned (.bool r) ∧ Drawn0 w w' := by
 have H : ((ddiref05_Mnemonic.f a0).bind fun t179 => (some (t179.toList != ([] : List UInt8)))) = some r := h
 clear h
 replace H := Option.bind_eq_some_iff.mp H
 obtain ⟨t179, A20, H⟩ := H
 have A2 := Aside0.mk A20
 clear A20
 obtain rfl := Option.some.inj H
 go_enter Tryd.func29, Tryd.ntmps29
 go_wp2_with (first | ((with_reducible refine gate_callee (f := 57) rfl ?_); refine goesA (some 4) Tryd.func57 #[.int .i64 a0] ?_; (with_reducible refine (ddiref05_Mnemonic.calls a0 t179 _ A2.out).mono ?_); rintro e w' ⟨rfl, ⟨nd, rfl⟩⟩; refine ⟨_, rfl, ?_⟩))
 go_ret
 exact pV

-- NOT PRINTED: function 30 (ddiref05_used)

/-! ### ddiref02_Valid: function 31 -/
def ddiref02_Valid.f (a0_0 : Bool) (a0_1 : Int) (a0_2 : Int) : Option (Bool) := if a0_0 = true then (some true) else (if a0_1 = 0 then (some (decide (a0_2 < 4294967296))) else (some false))
set_option maxHeartbeats 40000000 in
set_option maxRecDepth 100000 in
theorem ddiref02_Valid.calls (a0_0 : Bool) (a0_1 : Int) (a0_2 : Int) (r : Bool) (w : World) (h : ddiref02_Valid.f a0_0 a0_1 a0_2 = some r) :
 Calls Tryd.prog 31 #[.agg #[.bool a0_0, .int .u64 a0_1, .int .u64 a0_2]] w fun e w' => e = .returned (.bool r) ∧ Below w.heap.size w w' := by
 have hu24 := Tryd.underlying24
 have HB := Aside0.mk (Below.refl w.heap.size w)
 have H : (if a0_0 = true then (some true) else (if a0_1 = 0 then (some (decide (a0_2 < 4294967296))) else (some false))) = some r := h
 clear h
 by_cases c2 : a0_0 = true
 ·
  subst c2
  rw [if_pos rfl] at H
  obtain rfl := Option.some.inj H
  go_enter Tryd.func31, Tryd.ntmps31
  go_wp2_with (first | ((with_reducible refine gate_dst (N := 1) rfl ?_); refine boxA (N := 1) (cs := #[.bool true, .int .u64 a0_1, .int .u64 a0_2]) (t := 24) ?_; intro gb180 hg w3 hbox hb; have BK180 := Aside0.mk (hbox); have GE180 := (pZ HB hg); replace HB := (pS HB hb); clear hb hbox hg; obtain ⟨hcz4_0, hcz4_1, hcz4_2, hfz4_0, hfz4_1, hfz4_2⟩ := pC3 BK180))
  go_ret
  exact pR (pE HB)
 ·
  replace c2 := Bool.eq_false_iff.mpr c2
  subst c2
  rw [if_neg (show ¬ (false = true) by decide)] at H
  by_cases c5 : a0_1 = 0
  ·
   rw [if_pos c5] at H
   have c5b0 : (a0_1 == 0) = true := beq_iff_eq.mpr c5
   have c5b1 : (a0_1 != 0) = false := bne_eq_false_iff_eq.mpr c5
   clear c5
   obtain rfl := Option.some.inj H
   go_enter Tryd.func31, Tryd.ntmps31
   go_wp2_with (first | ((with_reducible refine gate_dst (N := 1) rfl ?_); refine boxA (N := 1) (cs := #[.bool false, .int .u64 a0_1, .int .u64 a0_2]) (t := 24) ?_; intro gb180 hg w6 hbox hb; have BK180 := Aside0.mk (hbox); have GE180 := (pZ HB hg); replace HB := (pS HB hb); clear hb hbox hg; obtain ⟨hcz7_0, hcz7_1, hcz7_2, hfz7_0, hfz7_1, hfz7_2⟩ := pC3 BK180))
   go_ret
   exact pR (pE HB)
  ·
   rw [if_neg c5] at H
   have c5b0 : (a0_1 == 0) = false := beq_eq_false_iff_ne.mpr c5
   have c5b1 : (a0_1 != 0) = true := bne_iff_ne.mpr c5
   obtain rfl := Option.some.inj H
   go_enter Tryd.func31, Tryd.ntmps31
   go_wp2_with (first | ((with_reducible refine gate_dst (N := 1) rfl ?_); refine boxA (N := 1) (cs := #[.bool false, .int .u64 a0_1, .int .u64 a0_2]) (t := 24) ?_; intro gb180 hg w8 hbox hb; have BK180 := Aside0.mk (hbox); have GE180 := (pZ HB hg); replace HB := (pS HB hb); clear hb hbox hg; obtain ⟨hcz9_0, hcz9_1, hcz9_2, hfz9_0, hfz9_1, hfz9_2⟩ := pC3 BK180))
   go_ret
   exact pR (pE HB)

end Go.Proofs.YtaehonmfoanloaaDoor.PA
