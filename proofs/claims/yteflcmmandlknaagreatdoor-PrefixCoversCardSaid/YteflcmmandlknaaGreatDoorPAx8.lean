/- The Go functions in Lean, with the proofs that the code comes to these answers: printed by this session's program (wip/px) out of the seat's translation. Conditions: each theorem's own. -/
import Derived.Test.YteflcmmandlknaaGreatDoorPAx0
import Derived.Test.YteflcmmandlknaaGreatDoorPAx4
import Derived.Test.YteflcmmandlknaaGreatDoorPAx5
namespace Go.Proofs.YteflcmmandlknaaGreatDoor.PA
open Go.RowKit Go.Proofs.YteflcmmandlknaaGreatDoorW.PrintWords Go.Proofs.YteflcmmandlknaaGreatDoorW.PrintLast Go.Proofs.YteflcmmandlknaaGreatDoorW.PrintMore
attribute [local go_sem] max2_int min2_int max_two min_two max_three min_three max_four min_four   -- for this text's walks alone
attribute [local go_sem ↓] Ext.isSome_setCell
open Press
set_option linter.unusedVariables false
set_option linter.unusedSimpArgs false
/-! ### addr_bytes: function 98 -/
def addr_bytes.l0 : Nat → Int → List Int → Int → Int → Option (List Int)
 | 0, _, _, _, _ => none
 | k + 1, x0, x3, x7, x8 => if x8 < x7 then (if 0 ≤ (wrap64 (56 - (wrap64 (8 * x8)))) then (if 0 ≤ x8 then (if x8 < (x3.length : Int) then (addr_bytes.l0 k x0 (x3.set (x8 : Int).toNat ((shr .u64 x0 (wrap64 (56 - (wrap64 (8 * x8))))) % 256)) x7 (wrap64 (x8 + 1))) else (none)) else (none)) else (none)) else (some x3)
def addr_bytes.f (k : Nat) (a0 : Int) : Option (List Int) := if 8 ≤ 281474976710656 then ((some (List.replicate 8 0 : List Int)).bind fun y202 => (addr_bytes.l0 k a0 y202 (y202.length : Int) 0)) else (none)
theorem addr_bytes.mono_l : ∀ k, (∀ y0 y1 y2 y3, LeO (addr_bytes.l0 k y0 y1 y2 y3) (addr_bytes.l0 (k + 1) y0 y1 y2 y3))
 | 0 => fun _ _ _ _ r h => by simp [addr_bytes.l0] at h
 | k + 1 => by
  have ih0 := addr_bytes.mono_l k
  ·
   intro y0 y1 y2 y3
   unfold addr_bytes.l0
   repeat' with_reducible first | exact ih0 _ _ _ _ | exact LeO.refl _ | exact LeO.none _ | refine LeO.ite ?_ ?_ | refine LeO.bind ?_ (fun _ => ?_)
theorem addr_bytes.mono : ∀ a0 k, LeO (addr_bytes.f k a0) (addr_bytes.f (k + 1) a0) := by
 intro a0 k
 have ih0 := addr_bytes.mono_l k
 unfold addr_bytes.f
 repeat' with_reducible first | exact ih0 _ _ _ _ | exact LeO.refl _ | exact LeO.none _ | refine LeO.ite ?_ ?_ | refine LeO.bind ?_ (fun _ => ?_)
set_option maxHeartbeats 40000000 in
set_option maxRecDepth 100000 in
theorem addr_bytes.calls (k : Nat) (a0 : Int) (r : List Int) (w : World) (h : addr_bytes.f k a0 = some r) :
 Calls Tryz.prog 98 #[.int .u64 a0] w fun e w' => ∃ v0_ : Value, e = .returned (v0_) ∧ Kd.R (Kd.int .u8) 5 w' w.heap.size (fun _ => True) v0_ r ∧ Below w.heap.size w w' := by
 have HB := Aside0.mk (Below.refl w.heap.size w)
 have H : (if 8 ≤ 281474976710656 then ((some (List.replicate 8 0 : List Int)).bind fun y202 => (addr_bytes.l0 k a0 y202 (y202.length : Int) 0)) else (none)) = some r := h
 clear h
 by_cases c2 : 8 ≤ 281474976710656
 ·
  rw [if_pos c2] at H
  have c2b0 := eq_true c2
  have c2b1 := decide_eq_true c2
  clear c2
  obtain ⟨y202, hy202⟩ : ∃ y_ : List Int, y_ = (List.replicate 8 0) := ⟨_, rfl⟩
  replace H : (addr_bytes.l0 k a0 y202 (y202.length : Int) 0) = some r := by first | (rw [hy202]; with_reducible exact H) | (have H2_ := (Option.bind_some _ _).symm.trans H; rw [hy202]; with_reducible exact H2_) | (have H2_ := (Option.bind_some _ _).symm.trans H; with_reducible exact H2_) | with_reducible exact H | (rw [hy202]; exact H) | exact H
  have Ny202 := Aside0.mk hy202
  clear hy202
  have H' := Aside0.mk H
  clear H
  go_enter Tryz.func98, Tryz.ntmps98
  go_wp2_with (first | ((with_reducible refine gate_dst (N := 5) rfl ?_); refine Kd.R_make (Kd.int .u8) _ 5 rfl (N := 5) rfl 103 _ _ rfl 8 rfl rfl Tryz.underlying103 (.int .u8 0) 1 info5 rfl (by decide) (by omega) 0 (ok := fun _ => True) (okp := fun _ => True) rfl (fun _ hk => hk) trivial (by omega) (by omega) (Below.refl _ _) (Nat.le_refl _) ?_; intro v203 w3 ho4 hb hg_ hnew_; clear hg_ hnew_; (first | rw [← Ny202.out] at ho4 | (simp only [Int.reduceToNat] at ho4; rw [← Ny202.out] at ho4)); have HO204 := Aside0.mk (Kd.R_lower ho4 (below_size (by repeat (first | (with_reducible first | exact HB.out | apply below_alloc | apply pw_below_drewN | apply below_drew1) | exact HB.out)))); replace HB := (pS HB hb); clear hb ho4; obtain ⟨Ao5, co5, eo5⟩ := Kd.R_slice HO204.out; subst eo5))
  go_loopg [8] k (fun kq v8 w' => ∃ (x3_1 : List Int) (x8_1 : Int), v8 = .int .i64 x8_1 ∧ Aside0 (addr_bytes.l0 kq a0 x3_1 (y202.length : Int) x8_1 = some r) ∧ Aside0 (kq ≤ k) ∧ Aside0 (Kd.R (Kd.int .u8) 5 w' w.heap.size (fun _ => True) (.slice Ao5 y202.length co5) x3_1) ∧ Aside0 (Below w.heap.size w w'))
  case atStart => exact ⟨(y202), (0), pT, H', ⟨Nat.le_refl _⟩, ⟨by (with_reducible repeat (first | apply Kd.R_alloc | apply Kd.R_drewN | apply Kd.R_drew)); exact HO204.out⟩, ⟨pE HB⟩⟩
  case round =>
   clear H'
   try clear c2
   try clear c2b0
   try clear c2b1
   obtain ⟨x3_1, x8_1, rfl, HA, HK1, HO_3, HB⟩ := hrel
   have hl3_1 := (Kd.R_reads' HO_3.out).1
   rw [hl3_1] at HO_3
   (try simp only [hl3_1])
   cases gk with
   | zero => exact absurd HA.out (by simp [addr_bytes.l0])
   | succ k1 =>
    have H := HA.out
    clear HA
    simp only [addr_bytes.l0] at H
    by_cases c6 : x8_1 < (y202.length : Int)
    ·
     rw [if_pos c6] at H
     have c6b0 := decide_eq_true c6
     have c6b0_hl3_1 := c6b0
     (try rw [hl3_1] at c6b0_hl3_1)
     clear c6
     obtain ⟨ji7, hji7⟩ : ∃ j_ : Int, (wrap64 (56 - (wrap64 (8 * x8_1)))) = j_ := ⟨_, rfl⟩
     replace H : (if 0 ≤ (ji7) then (if 0 ≤ x8_1 then (if x8_1 < (x3_1.length : Int) then (addr_bytes.l0 k1 a0 (x3_1.set (x8_1 : Int).toNat ((shr .u64 a0 (ji7)) % 256)) (y202.length : Int) (wrap64 (x8_1 + 1))) else (none)) else (none)) else (none)) = some r := by first | (rw [hji7] at H; exact H) | (simp only [hji7] at H ⊢; exact H)
     have hji7w : (IntKind.i64.wrap (56 - (wrap64 (8 * x8_1)))) = ji7 := (i64_w _).trans hji7
     by_cases c8 : 0 ≤ (ji7)
     ·
      rw [if_pos c8] at H
      have c8b0 := eq_true c8
      have c8b1 := decide_eq_true c8
      clear c8
      obtain ⟨ji9, hji9⟩ : ∃ j_ : Int, (shr .u64 a0 (ji7)) = j_ := ⟨_, rfl⟩
      (try rw [hji9] at hji7)
      replace H : (if 0 ≤ x8_1 then (if x8_1 < (x3_1.length : Int) then (addr_bytes.l0 k1 a0 (x3_1.set (x8_1 : Int).toNat ((ji9) % 256)) (y202.length : Int) (wrap64 (x8_1 + 1))) else (none)) else (none)) = some r := by first | (rw [hji9] at H; exact H) | (simp only [hji9] at H ⊢; exact H)
      have hji9_ : (a0 / 2 ^ min (ji7).toNat 64) = ji9 := hji9
      have hji9z : (ji7) ≤ 64 → (a0 / 2 ^ (ji7).toNat) = ji9 := shr_small hji9
      by_cases c10 : 0 ≤ x8_1
      ·
       rw [if_pos c10] at H
       have c10b0 := decide_eq_true c10
       clear c10
       by_cases c11 : x8_1 < (x3_1.length : Int)
       ·
        rw [if_pos c11] at H
        have c11b0 := decide_eq_true c11
        have c11b0_hl3_1 := c11b0
        (try rw [hl3_1] at c11b0_hl3_1)
        clear c11
        obtain ⟨y205, hy205⟩ : ∃ y_ : List Int, y_ = (x3_1.set (x8_1 : Int).toNat ((ji9) % 256)) := ⟨_, rfl⟩
        replace H : (addr_bytes.l0 k1 a0 y205 (y202.length : Int) (wrap64 (x8_1 + 1))) = some r := by first | (rw [hy205]; with_reducible exact H) | (have H2_ := (Option.bind_some _ _).symm.trans H; rw [hy205]; with_reducible exact H2_) | (have H2_ := (Option.bind_some _ _).symm.trans H; with_reducible exact H2_) | with_reducible exact H | (rw [hy205]; exact H) | exact H
        have Ny205 := Aside0.mk hy205
        clear hy205
        have H' := Aside0.mk H
        clear H
        have p12 : 0 ≤ (x8_1 : Int) := of_decide_eq_true (by first | (with_reducible assumption) | assumption)
        have q12 : (x8_1 : Int) < ((x3_1.length : Int) : Int) := of_decide_eq_true (by first | (with_reducible assumption) | assumption)
        obtain ⟨go12, co12, eo12, gb12, gl12, cl12, HG12⟩ := Kd.R_form HO_3.out (by omega)
        (first | cases eo12 | (injection eo12 with ea_ en_ ec_; (first | subst ea_ | (injection ea_ with ea_; subst ea_)); subst ec_; clear en_))
        have GB12 := Aside0.mk gb12
        have GG12 := Aside0.mk HG12
        clear gb12 gl12 HG12
        obtain ⟨hx12_0, hf12_0⟩ := Kd.R_celln 0 HO_3.out (x8_1 : Int) p12 q12
        replace p12 := eq_true p12
        replace q12 := eq_true q12
        have HP13 := Kd.R_putg HO_3.out (x8_1 : Int) ((ji9) % 256)
        go_wp2_with (first | ((with_reducible refine gate_store (t := 5) (p := 19) rfl ?_); refine store_event (t := 5) (p := 19) (v := ?vo_w14) (w1 := (wr.setCell ⟨go12, (x8_1 : Int).toNat, none⟩ (.int .u8 ((ji9) % 256)))) ?hg ?ho ?hn ?hr ?_; (case ho => rfl); (case hg => rfl); (case hn => rfl); (case hr => first | (go_simp; done) | (go_simp; rfl)); intro w14 hw; have hg : wr.grownBy w14 (some go12) := (by rw [hw]; exact HP13.2); have hp_ : Kd.R (Kd.int .u8) 5 w14 w.heap.size (fun _ => True) (.slice (some ⟨go12, 0, none⟩) x3_1.length co5) y205 := (by rw [hw, Ny205.out]; exact HP13.1); clear HP13; replace HO_3 := Aside0.mk (hp_); replace HB := Aside0.mk ((by rw [hw]; exact below_set (HB.out) GB12.out : Below w.heap.size w w14)); clear hg hw hp_))
        (try simp only [← hl3_1])
        go_roundg k1
        case measure => have := HK1.out; omega
        case rel => exact ⟨(y205), (wrap64 (x8_1 + 1)), pT, (by first | exact H' | (simp only [hji7, hji9]; exact H') | (simp only [hji7, hji9] at H' ⊢; exact H')), ⟨by have := HK1.out; omega⟩, ⟨by (try simp only [hl3_1]); (with_reducible repeat (first | apply Kd.R_alloc | apply Kd.R_drewN | apply Kd.R_drew)); exact HO_3.out⟩, ⟨pE HB⟩⟩
       ·
        rw [if_neg c11] at H
        exact absurd H (by simp)
      ·
       rw [if_neg c10] at H
       exact absurd H (by simp)
     ·
      rw [if_neg c8] at H
      exact absurd H (by simp)
    ·
     rw [if_neg c6] at H
     have c6b0 := decide_eq_false c6
     have c6b0_hl3_1 := c6b0
     (try rw [hl3_1] at c6b0_hl3_1)
     clear c6
     obtain rfl := Option.some.inj H
     go_wp2
     go_ret
     exact ⟨_, by first | rfl | (simp [errW_none, errW_some] <;> rfl) | (simp [*, errW_none, errW_some] <;> rfl), by (with_reducible repeat (first | apply Kd.R_alloc | apply Kd.R_drewN | apply Kd.R_drew)); exact HO_3.out, by repeat (first | (with_reducible first | exact HB.out | apply below_alloc | apply pw_below_drewN | apply below_drew1) | exact HB.out)⟩
 ·
  rw [if_neg c2] at H
  exact absurd H (by simp)

/-! ### addr_Wire: function 69 -/
def addr_Wire.f (k : Nat) (a0_0 : Bool) (a0_1 : Int) (a0_2 : Int) : Option (ByteArray × Int) := (addr_Valid.f a0_0 a0_1 a0_2).bind fun t207 => (if t207 = true then (if a0_0 = true then ((addr_bytes.f k a0_1).bind fun t208 => ((addr_bytes.f k a0_2).bind fun t211 => (if (strOfNums t208).size + (strOfNums t211).size ≤ 9223372036854775807 then (some ((strOfNums t208) ++ (strOfNums t211), 0)) else (none)))) else ((addr_bytes.f k a0_2).bind fun t214 => (if 4 ≤ (t214.length : Int) then (some (strOfNums (t214.drop 4), 0)) else (none)))) else (some ((⟨#[]⟩ : ByteArray), 3)))
theorem addr_Wire.mono : ∀ a0 a1 a2 k, LeO (addr_Wire.f k a0 a1 a2) (addr_Wire.f (k + 1) a0 a1 a2) := by
 intro a0 a1 a2 k
 unfold addr_Wire.f
 repeat' with_reducible first | exact addr_bytes.mono _ _ | exact LeO.refl _ | exact LeO.none _ | refine LeO.ite ?_ ?_ | refine LeO.bind ?_ (fun _ => ?_)
def addr_Wire.T5 : Bool × List (List Nat × List Nat) := (true, [([], []), ([0], [0]), ([1], [1]), ([2], [2]), ([], []), ([4], [4]), ([5, 2], [5]), ([6], [6]), ([3, 7], [3, 7]), ([8, 6, 0, 1, 2, 3, 4, 5, 6, 7, 8], [8]), ([9, 0, 1, 2, 3, 4, 5, 6, 7, 8, 9], [])])
def addr_Wire.B5 : List Nat := [0, 1, 3, 7, 0, 16, 55, 119, 255, 511, 1023]
theorem addr_Wire.tab5 : rtab .any (opsOf Tryz.f69 5) = addr_Wire.T5 := by kernel_rfl
theorem addr_Wire.bits5 : waitsOk addr_Wire.T5.2 addr_Wire.B5 = true := by kernel_rfl
set_option maxHeartbeats 40000000 in
set_option maxRecDepth 100000 in
theorem addr_Wire.calls (k : Nat) (a0_0 : Bool) (a0_1 : Int) (a0_2 : Int) (r1 : ByteArray) (r2 : Int) (w : World) (h : addr_Wire.f k a0_0 a0_1 a0_2 = some (r1, r2)) :
 Calls Tryz.prog 69 #[.agg #[.bool a0_0, .int .u64 a0_1, .int .u64 a0_2]] w fun e w' => e = .returned (.tuple #[.string r1, .int .i64 r2]) ∧ Below w.heap.size w w' := by
 have hu24 := Tryz.underlying24
 have HB := Aside0.mk (Below.refl w.heap.size w)
 have H : ((addr_Valid.f a0_0 a0_1 a0_2).bind fun t207 => (if t207 = true then (if a0_0 = true then ((addr_bytes.f k a0_1).bind fun t208 => ((addr_bytes.f k a0_2).bind fun t211 => (if (strOfNums t208).size + (strOfNums t211).size ≤ 9223372036854775807 then (some ((strOfNums t208) ++ (strOfNums t211), 0)) else (none)))) else ((addr_bytes.f k a0_2).bind fun t214 => (if 4 ≤ (t214.length : Int) then (some (strOfNums (t214.drop 4), 0)) else (none)))) else (some ((⟨#[]⟩ : ByteArray), 3)))) = some (r1, r2) := h
 clear h
 replace H := Option.bind_eq_some_iff.mp H
 obtain ⟨t207, A20, H⟩ := H
 have A2 := Aside0.mk A20
 clear A20
 by_cases c3 : t207 = true
 ·
  subst c3
  have H1 : (if a0_0 = true then ((addr_bytes.f k a0_1).bind fun t208 => ((addr_bytes.f k a0_2).bind fun t211 => (if (strOfNums t208).size + (strOfNums t211).size ≤ 9223372036854775807 then (some ((strOfNums t208) ++ (strOfNums t211), 0)) else (none)))) else ((addr_bytes.f k a0_2).bind fun t214 => (if 4 ≤ (t214.length : Int) then (some (strOfNums (t214.drop 4), 0)) else (none)))) = some (r1, r2) := by rw [if_pos rfl] at H; exact H
  clear H
  have H := H1
  clear H1
  by_cases c4 : a0_0 = true
  ·
   subst c4
   have H1 : ((addr_bytes.f k a0_1).bind fun t208 => ((addr_bytes.f k a0_2).bind fun t211 => (if (strOfNums t208).size + (strOfNums t211).size ≤ 9223372036854775807 then (some ((strOfNums t208) ++ (strOfNums t211), 0)) else (none)))) = some (r1, r2) := by rw [if_pos rfl] at H; exact H
   clear H
   have H := H1
   clear H1
   replace H := Option.bind_eq_some_iff.mp H
   obtain ⟨t208, A50, H⟩ := H
   have A5 := Aside0.mk A50
   clear A50
   replace H := Option.bind_eq_some_iff.mp H
   obtain ⟨t211, A60, H⟩ := H
   have A6 := Aside0.mk A60
   clear A60
   by_cases c7 : (strOfNums t208).size + (strOfNums t211).size ≤ 9223372036854775807
   ·
    rw [if_pos c7] at H
    have c7b0 := eq_true c7
    have c7b1 := decide_eq_true c7
    try have c7b2 : (9223372036854775807 < (strOfNums t208).size + (strOfNums t211).size) = False := eq_false (Nat.not_lt.2 c7)
    simp only [Option.some.injEq, Prod.mk.injEq] at H
    obtain ⟨rfl, rfl⟩ := H
    go_enter Tryz.func69, Tryz.ntmps69
    try go_wp2_with (first | ((with_reducible refine gate_dst (N := 1) rfl ?_); refine boxA (N := 1) (cs := #[.bool true, .int .u64 a0_1, .int .u64 a0_2]) (t := 24) ?_; intro gb206 hg w8 hbox hb; have BK206 := Aside0.mk (hbox); have GW206 := (pZ HB hg); have GE206 := (pZ HB hg); replace HB := (pS HB hb); clear hb hbox hg; obtain ⟨hcz9_0, hcz9_1, hcz9_2, hfz9_0, hfz9_1, hfz9_2⟩ := pC3 BK206) | ((with_reducible refine gate_callee (f := 50) rfl ?_); refine goesA (some 6) Tryz.func50 #[.agg #[.bool true, .int .u64 a0_1, .int .u64 a0_2]] ?_; (with_reducible refine (addr_Valid.calls true a0_1 a0_2 true _ A2.out).mono ?_); rintro e w10 ⟨rfl, hb⟩; refine ⟨_, rfl, ?_⟩; replace BK206 := (pB BK206 hb); replace HB := (pS HB hb); (try clear hb); (try clear hk); obtain ⟨hcz11_0, hcz11_1, hcz11_2, hfz11_0, hfz11_1, hfz11_2⟩ := pC3 BK206))
    replace BK206 := Aside0.mk (blk_drew BK206.out)
    replace HB := Aside0.mk (below_drew1 HB.out)
    refine start_ (n := 11) (S := fun w' => w'.cell? ⟨gb206, 0, none⟩ = some (.bool true) ∧ w'.cell? ⟨gb206, 1, none⟩ = some (.int .u64 a0_1) ∧ w'.cell? ⟨gb206, 2, none⟩ = some (.int .u64 a0_2)) (ds := []) (tk 11 0) (by kernel_rfl) rfl rfl ⟨(blk_cell BK206.out 0).trans rfl, (blk_cell BK206.out 1).trans rfl, (blk_cell BK206.out 2).trans rfl⟩ (fun hHeld => ?_); refine with_tabW addr_Wire.tab5 addr_Wire.bits5 (fun HT_ HW_ => ?_)
    generalize w10.drew = w12 at BK206 HB hHeld ⊢
    refine pureA (i := 0) (some 17) HT_ (tk 11 1) ?_
    refine pureA (i := 4) (some 21) HT_ (tr [1, 3, 1, 6]) ?_
    refine takeA (i := 1) (some 18) HT_ HW_ (tr [2, 2, 1, 6]) hHeld ?_
    refine takeA (i := 5) (some 22) HT_ HW_ (tr [2, 2, 2, 5]) hHeld ?_
    refine one_ (i := 2) (N := some 19) (tr [3, 1, 2, 5]) rfl rfl (one_of HT_.out (by kernel_rfl)) (by decide) (fun K hK => ?_)
    refine goesR Tryz.func98 #[.int .u64 a0_1] ?_
    with_reducible refine (addr_bytes.calls k a0_1 t208 _ A5.out).mono ?_
    rintro e w13 ⟨v209, rfl, ho0, hb⟩
    refine ⟨_, rfl, ?_⟩
    have HO210 := Aside0.mk (Kd.R_lower ho0 (below_size (by repeat (first | (with_reducible first | exact HB.out | apply below_alloc | apply pw_below_drewN | apply below_drew1 | refine below_set ?_ GE206.out) | exact HB.out))))
    replace BK206 := (pB BK206 hb)
    replace HB := (pS HB hb)
    (try clear hb)
    (try clear hk)
    (try clear ho0)
    refine hK.out _ _ ⟨(blk_cell BK206.out 0).trans rfl, (blk_cell BK206.out 1).trans rfl, (blk_cell BK206.out 2).trans rfl⟩ (fun hHeld => ?_)
    clear hK K
    refine normA (N := some 19) ?_
    refine join_ (σ := Value) 3 (tk 11 8) (fun s_ => [(20, .string (strOfNums t208)), (23, s_), (24, .string (strOfNums t211))]) (fun s_ w' => (w'.cell? ⟨gb206, 0, none⟩ = some (.bool true) ∧ w'.cell? ⟨gb206, 1, none⟩ = some (.int .u64 a0_1) ∧ w'.cell? ⟨gb206, 2, none⟩ = some (.int .u64 a0_2)) ∧ (Kd.R (Kd.int .u8) 5 w' w.heap.size (fun k_ => some k_ ≠ (s_ : Value).ownBlock) v209 t208) ∧ (Kd.R (Kd.int .u8) 5 w' w.heap.size (fun k_ => some k_ ≠ (v209 : Value).ownBlock) s_ t211) ∧ (w'.heap[gb206]? = some (.cells #[.bool true, .int .u64 a0_1, .int .u64 a0_2] 24 (0, 0))) ∧ (Below w.heap.size w w')) ?_ ?_
    rotate_left
    ·
     intro hCont
     refine two_ (i := 3) (j := 6) (Ni := some 20) (Nj := some 23) (tk 11 6) (tr [3, 1, 3, 4]) rfl rfl rfl rfl (two_of HT_.out (by kernel_rfl)) (by decide) (by decide) (fun K hK => ?_) (fun K hK => ?_)
     ·
      skip
      have hcv14 := own_string (P := Tryz.prog) Tryz.underlying103 Tryz.underlying5 Tryz.underlying9 (Kd.own_of_R HO210.out)
      refine value_ (w1 := ?_) (v := ?_) (by rfl) rfl ?_ ?_
      rotate_left 2
      ·
       go_simp
       constructor
       ·
        rfl
       ·
        rfl
      clear hcv14
      refine hK.out _ _ ⟨(blk_cell BK206.out 0).trans rfl, (blk_cell BK206.out 1).trans rfl, (blk_cell BK206.out 2).trans rfl⟩ (fun hHeld => ?_)
      clear hK K
      refine normA (N := some 20) ?_
      refine one_ (i := 6) (N := some 23) (tk 11 7) rfl rfl (one_of HT_.out (by kernel_rfl)) (by decide) (fun K hK => ?_)
      refine goesR Tryz.func98 #[.int .u64 a0_2] ?_
      with_reducible refine (addr_bytes.calls k a0_2 t211 _ A6.out).mono ?_
      rintro e w15 ⟨v212, rfl, ho0, hb⟩
      refine ⟨_, rfl, ?_⟩
      have HO213 := Aside0.mk (Kd.R_lower (Kd.R_new' ho0 (Kd.R_lt (by (with_reducible repeat (first | apply Kd.R_alloc | apply Kd.R_drewN | apply Kd.R_drew)); exact HO210.out))) (below_size (by repeat (first | (with_reducible first | exact HB.out | apply below_alloc | apply pw_below_drewN | apply below_drew1 | refine below_set ?_ GE206.out) | exact HB.out))))
      replace HO210 := Aside0.mk (Kd.R_elder' (by (with_reducible repeat (first | apply Kd.R_alloc | apply Kd.R_drewN | apply Kd.R_drew)); exact HO210.out) (Kd.R_base ho0) hb)
      replace BK206 := (pB BK206 hb)
      replace HB := (pS HB hb)
      (try clear hb)
      (try clear hk)
      (try clear ho0)
      refine hK.out _ _ ⟨(blk_cell BK206.out 0).trans rfl, (blk_cell BK206.out 1).trans rfl, (blk_cell BK206.out 2).trans rfl⟩ (fun hHeld => ?_)
      clear hK K
      refine normA (N := some 23) ?_
      refine one_ (i := 7) (N := some 24) (tk 11 8) rfl rfl (one_of HT_.out (by kernel_rfl)) (by decide) (fun K hK => ?_)
      have hcv16 := own_string (P := Tryz.prog) Tryz.underlying103 Tryz.underlying5 Tryz.underlying9 (Kd.own_of_R HO213.out)
      refine value_ (w1 := ?_) (v := ?_) (by rfl) rfl ?_ ?_
      rotate_left 2
      ·
       go_simp
       constructor
       ·
        rfl
       ·
        rfl
      clear hcv16
      refine hK.out _ _ ⟨(blk_cell BK206.out 0).trans rfl, (blk_cell BK206.out 1).trans rfl, (blk_cell BK206.out 2).trans rfl⟩ (fun hHeld => ?_)
      clear hK K
      refine normA (N := some 24) ?_
      exact norm_ (by simp only [putAll, Act.put, List.setIfInBounds_toArray, List.set_cons_zero, List.set_cons_succ]) (hCont (v212) _ ⟨hHeld, (by (with_reducible repeat (first | apply Kd.R_alloc | apply Kd.R_drewN | apply Kd.R_drew)); exact Kd.R_mono HO210.out (fun _ hk => hk.2)), (by (with_reducible repeat (first | apply Kd.R_alloc | apply Kd.R_drewN | apply Kd.R_drew)); exact Kd.R_mono HO213.out (fun _ hk => hk.2)), (pM BK206), (by repeat (first | (with_reducible first | exact HB.out | apply below_alloc | apply pw_below_drewN | apply below_drew1 | refine below_set ?_ GE206.out) | exact HB.out))⟩)
     ·
      skip
      refine goesR Tryz.func98 #[.int .u64 a0_2] ?_
      with_reducible refine (addr_bytes.calls k a0_2 t211 _ A6.out).mono ?_
      rintro e w14 ⟨v212, rfl, ho0, hb⟩
      refine ⟨_, rfl, ?_⟩
      have HO213 := Aside0.mk (Kd.R_lower (Kd.R_new' ho0 (Kd.R_lt (by (with_reducible repeat (first | apply Kd.R_alloc | apply Kd.R_drewN | apply Kd.R_drew)); exact HO210.out))) (below_size (by repeat (first | (with_reducible first | exact HB.out | apply below_alloc | apply pw_below_drewN | apply below_drew1 | refine below_set ?_ GE206.out) | exact HB.out))))
      replace HO210 := Aside0.mk (Kd.R_elder' (by (with_reducible repeat (first | apply Kd.R_alloc | apply Kd.R_drewN | apply Kd.R_drew)); exact HO210.out) (Kd.R_base ho0) hb)
      replace BK206 := (pB BK206 hb)
      replace HB := (pS HB hb)
      (try clear hb)
      (try clear hk)
      (try clear ho0)
      refine hK.out _ _ ⟨(blk_cell BK206.out 0).trans rfl, (blk_cell BK206.out 1).trans rfl, (blk_cell BK206.out 2).trans rfl⟩ (fun hHeld => ?_)
      clear hK K
      refine normA (N := some 23) ?_
      refine two_ (i := 3) (j := 7) (Ni := some 20) (Nj := some 24) (tk 11 7) (tr [3, 1, 4, 3]) rfl rfl rfl rfl (two_of HT_.out (by kernel_rfl)) (by decide) (by decide) (fun K hK => ?_) (fun K hK => ?_)
      ·
       skip
       have hcv15 := own_string (P := Tryz.prog) Tryz.underlying103 Tryz.underlying5 Tryz.underlying9 (Kd.own_of_R HO210.out)
       refine value_ (w1 := ?_) (v := ?_) (by rfl) rfl ?_ ?_
       rotate_left 2
       ·
        go_simp
        constructor
        ·
         rfl
        ·
         rfl
       clear hcv15
       refine hK.out _ _ ⟨(blk_cell BK206.out 0).trans rfl, (blk_cell BK206.out 1).trans rfl, (blk_cell BK206.out 2).trans rfl⟩ (fun hHeld => ?_)
       clear hK K
       refine normA (N := some 20) ?_
       refine one_ (i := 7) (N := some 24) (tk 11 8) rfl rfl (one_of HT_.out (by kernel_rfl)) (by decide) (fun K hK => ?_)
       have hcv16 := own_string (P := Tryz.prog) Tryz.underlying103 Tryz.underlying5 Tryz.underlying9 (Kd.own_of_R HO213.out)
       refine value_ (w1 := ?_) (v := ?_) (by rfl) rfl ?_ ?_
       rotate_left 2
       ·
        go_simp
        constructor
        ·
         rfl
        ·
         rfl
       clear hcv16
       refine hK.out _ _ ⟨(blk_cell BK206.out 0).trans rfl, (blk_cell BK206.out 1).trans rfl, (blk_cell BK206.out 2).trans rfl⟩ (fun hHeld => ?_)
       clear hK K
       refine normA (N := some 24) ?_
       exact norm_ (by simp only [putAll, Act.put, List.setIfInBounds_toArray, List.set_cons_zero, List.set_cons_succ]) (hCont (v212) _ ⟨hHeld, (by (with_reducible repeat (first | apply Kd.R_alloc | apply Kd.R_drewN | apply Kd.R_drew)); exact Kd.R_mono HO210.out (fun _ hk => hk.2)), (by (with_reducible repeat (first | apply Kd.R_alloc | apply Kd.R_drewN | apply Kd.R_drew)); exact Kd.R_mono HO213.out (fun _ hk => hk.2)), (pM BK206), (by repeat (first | (with_reducible first | exact HB.out | apply below_alloc | apply pw_below_drewN | apply below_drew1 | refine below_set ?_ GE206.out) | exact HB.out))⟩)
      ·
       skip
       have hcv15 := own_string (P := Tryz.prog) Tryz.underlying103 Tryz.underlying5 Tryz.underlying9 (Kd.own_of_R HO213.out)
       refine value_ (w1 := ?_) (v := ?_) (by rfl) rfl ?_ ?_
       rotate_left 2
       ·
        go_simp
        constructor
        ·
         rfl
        ·
         rfl
       clear hcv15
       refine hK.out _ _ ⟨(blk_cell BK206.out 0).trans rfl, (blk_cell BK206.out 1).trans rfl, (blk_cell BK206.out 2).trans rfl⟩ (fun hHeld => ?_)
       clear hK K
       refine normA (N := some 24) ?_
       refine one_ (i := 3) (N := some 20) (tk 11 8) rfl rfl (one_of HT_.out (by kernel_rfl)) (by decide) (fun K hK => ?_)
       have hcv16 := own_string (P := Tryz.prog) Tryz.underlying103 Tryz.underlying5 Tryz.underlying9 (Kd.own_of_R HO210.out)
       refine value_ (w1 := ?_) (v := ?_) (by rfl) rfl ?_ ?_
       rotate_left 2
       ·
        go_simp
        constructor
        ·
         rfl
        ·
         rfl
       clear hcv16
       refine hK.out _ _ ⟨(blk_cell BK206.out 0).trans rfl, (blk_cell BK206.out 1).trans rfl, (blk_cell BK206.out 2).trans rfl⟩ (fun hHeld => ?_)
       clear hK K
       refine normA (N := some 20) ?_
       exact norm_ (by simp only [putAll, Act.put, List.setIfInBounds_toArray, List.set_cons_zero, List.set_cons_succ]) (hCont (v212) _ ⟨hHeld, (by (with_reducible repeat (first | apply Kd.R_alloc | apply Kd.R_drewN | apply Kd.R_drew)); exact Kd.R_mono HO210.out (fun _ hk => hk.2)), (by (with_reducible repeat (first | apply Kd.R_alloc | apply Kd.R_drewN | apply Kd.R_drew)); exact Kd.R_mono HO213.out (fun _ hk => hk.2)), (pM BK206), (by repeat (first | (with_reducible first | exact HB.out | apply below_alloc | apply pw_below_drewN | apply below_drew1 | refine below_set ?_ GE206.out) | exact HB.out))⟩)
    rintro v212 w17 ⟨hS_, h0_, h1_, h2_, h3_⟩
    have HO210 : Aside0 (Kd.R (Kd.int .u8) 5 w17 w.heap.size (fun k_ => some k_ ≠ (v212 : Value).ownBlock) v209 t208) := ⟨h0_⟩
    have HO213 : Aside0 (Kd.R (Kd.int .u8) 5 w17 w.heap.size (fun k_ => some k_ ≠ (v209 : Value).ownBlock) v212 t211) := ⟨h1_⟩
    replace BK206 : Aside0 (w17.heap[gb206]? = some (.cells #[.bool true, .int .u64 a0_1, .int .u64 a0_2] 24 (0, 0))) := ⟨h2_⟩
    replace HB : Aside0 (Below w.heap.size w w17) := ⟨h3_⟩
    clear h0_ h1_ h2_ h3_
    have hHeld : w17.cell? ⟨gb206, 0, none⟩ = some (.bool true) ∧ w17.cell? ⟨gb206, 1, none⟩ = some (.int .u64 a0_1) ∧ w17.cell? ⟨gb206, 2, none⟩ = some (.int .u64 a0_2) := hS_
    refine norm_ (a' := ?_) ?_ ?_
    rotate_left
    ·
     simp only [putAll, Act.put, List.setIfInBounds_toArray, List.set_cons_zero, List.set_cons_succ]
     rfl
    refine pureA (i := 8) (some 25) HT_ (tk 11 9) ?_
    refine pureA (i := 9) (some 2) HT_ (tk 11 10) ?_
    refine pureA (i := 10) (some 3) HT_ (tk 11 11) ?_
    refine done_ (done_of HT_.out (by kernel_rfl)) ?_
    try go_wp2
    go_ret2
    exact pR (pE HB)
   ·
    rw [if_neg c7] at H
    exact absurd H (by simp)
  ·
   replace c4 := Bool.eq_false_iff.mpr c4
   subst c4
   rw [if_neg (show ¬ (false = true) by decide)] at H
   replace H := Option.bind_eq_some_iff.mp H
   obtain ⟨t214, A180, H⟩ := H
   have A18 := Aside0.mk A180
   clear A180
   by_cases c19 : 4 ≤ (t214.length : Int)
   ·
    rw [if_pos c19] at H
    have c19b0 := eq_true c19
    have c19b1 := decide_eq_true c19
    clear c19
    obtain ⟨y217, hy217⟩ : ∃ y_ : List Int, y_ = (t214.drop 4) := ⟨_, rfl⟩
    replace H : (some (strOfNums y217, 0)) = some (r1, r2) := by first | (rw [hy217]; with_reducible exact H) | (have H2_ := (Option.bind_some _ _).symm.trans H; rw [hy217]; with_reducible exact H2_) | (have H2_ := (Option.bind_some _ _).symm.trans H; with_reducible exact H2_) | with_reducible exact H | (rw [hy217]; exact H) | exact H
    have Ny217 := Aside0.mk hy217
    clear hy217
    simp only [Option.some.injEq, Prod.mk.injEq] at H
    obtain ⟨rfl, rfl⟩ := H
    go_enter Tryz.func69, Tryz.ntmps69
    go_wp2_with (first | ((with_reducible refine gate_dst (N := 1) rfl ?_); refine boxA (N := 1) (cs := #[.bool false, .int .u64 a0_1, .int .u64 a0_2]) (t := 24) ?_; intro gb206 hg w20 hbox hb; have BK206 := Aside0.mk (hbox); have GW206 := (pZ HB hg); have GE206 := (pZ HB hg); replace HB := (pS HB hb); clear hb hbox hg; obtain ⟨hcz21_0, hcz21_1, hcz21_2, hfz21_0, hfz21_1, hfz21_2⟩ := pC3 BK206) | ((with_reducible refine gate_callee (f := 50) rfl ?_); refine goesA (some 6) Tryz.func50 #[.agg #[.bool false, .int .u64 a0_1, .int .u64 a0_2]] ?_; (with_reducible refine (addr_Valid.calls false a0_1 a0_2 true _ A2.out).mono ?_); rintro e w22 ⟨rfl, hb⟩; refine ⟨_, rfl, ?_⟩; replace BK206 := (pB BK206 hb); replace HB := (pS HB hb); (try clear hb); (try clear hk); obtain ⟨hcz23_0, hcz23_1, hcz23_2, hfz23_0, hfz23_1, hfz23_2⟩ := pC3 BK206) | ((with_reducible refine gate_callee (f := 98) rfl ?_); refine goesA (some 14) Tryz.func98 #[.int .u64 a0_2] ?_; (with_reducible refine (addr_bytes.calls k a0_2 t214 _ A18.out).mono ?_); rintro e w24 ⟨v215, rfl, ho0, hb⟩; refine ⟨_, rfl, ?_⟩; have HO216 := Aside0.mk (Kd.R_lower ho0 (below_size (by repeat (first | (with_reducible first | exact HB.out | apply below_alloc | apply pw_below_drewN | apply below_drew1 | refine below_set ?_ GE206.out) | exact HB.out)))); replace BK206 := (pB BK206 hb); replace HB := (pS HB hb); (try clear hb); (try clear hk); (try clear ho0); obtain ⟨Ao26, co26, eo26⟩ := Kd.R_slice HO216.out; subst eo26; have q25 : (4 : Int) ≤ ((t214.length : Int) : Int) := of_decide_eq_true (by first | (with_reducible assumption) | assumption); obtain ⟨i025, hi025, _, hsz25, _⟩ := info_parts info5; have hroom25 : t214.length ≤ co26 := (Kd.R_reads' HO216.out).2.1; have hC25 : Kd.C (Kd.int .u8) _ Ao26 t214.length t214 := (Kd.R_reads' HO216.out).2.2; have hcut25 := cut_from (P := Tryz.prog) 103 5 .i64 Tryz.underlying103 hi025 1 hsz25 Ao26 t214.length co26 4 (by omega) q25; have hr25 := Kd.C_drop (m := (4 : Int).toNat) (c := co26) hC25 (by omega) hroom25; obtain ⟨A25, hA25⟩ : ∃ A1, A1 = (if co26 = (4 : Int).toNat then Ao26 else (Ao26 : Option Addr).map (·.add ((4 : Int).toNat * 1))) := ⟨_, rfl⟩; obtain ⟨c25, hc25⟩ : ∃ c1, c1 = co26 - (4 : Int).toNat := ⟨_, rfl⟩; have hy25 : y217.length = t214.length - (4 : Int).toNat := (by rw [Ny217.out, List.length_drop] <;> omega); rw [show (t214).drop (4 : Int).toNat = y217 from Ny217.out.symm] at hr25; replace hr25 : Kd.C (Kd.int .u8) _ A25 y217.length y217 := (by rw [hA25]; exact hr25); rw [← hy25, ← hA25, ← hc25] at hcut25; have HR220 := Aside0.mk hr25; have HC220 := Aside0.mk (show y217.length ≤ c25 from by rw [hy25, hc25]; exact Nat.sub_le_sub_right hroom25 _); clear hr25 hC25 hroom25 hi025 hsz25 hc25; have KY25 := Aside0.mk hy25; have KA25 := Aside0.mk hA25; clear hy25 hA25; have KL25 := Aside0.mk (show 4 ≤ t214.length from by omega); replace q25 := eq_true q25; have hcv27 := Kd.C_string (P := Tryz.prog) (A := A25) (c := c25) Tryz.underlying103 Tryz.underlying5 Tryz.underlying9 (by repeat (first | (with_reducible exact HR220.out) | (with_reducible refine Kd.C_alloc ?_ _) | (with_reducible refine Kd.C_drewN ?_ _) | (with_reducible refine Kd.C_drew ?_) | exact HR220.out))))
    go_ret2
    exact pR (pE HB)
   ·
    rw [if_neg c19] at H
    exact absurd H (by simp)
 ·
  replace c3 := Bool.eq_false_iff.mpr c3
  subst c3
  rw [if_neg (show ¬ (false = true) by decide)] at H
  simp only [Option.some.injEq, Prod.mk.injEq] at H
  obtain ⟨rfl, rfl⟩ := H
  go_enter Tryz.func69, Tryz.ntmps69
  go_wp2_with (first | ((with_reducible refine gate_dst (N := 1) rfl ?_); refine boxA (N := 1) (cs := #[.bool a0_0, .int .u64 a0_1, .int .u64 a0_2]) (t := 24) ?_; intro gb206 hg w28 hbox hb; have BK206 := Aside0.mk (hbox); have GW206 := (pZ HB hg); have GE206 := (pZ HB hg); replace HB := (pS HB hb); clear hb hbox hg; obtain ⟨hcz29_0, hcz29_1, hcz29_2, hfz29_0, hfz29_1, hfz29_2⟩ := pC3 BK206) | ((with_reducible refine gate_callee (f := 50) rfl ?_); refine goesA (some 6) Tryz.func50 #[.agg #[.bool a0_0, .int .u64 a0_1, .int .u64 a0_2]] ?_; (with_reducible refine (addr_Valid.calls a0_0 a0_1 a0_2 false _ A2.out).mono ?_); rintro e w30 ⟨rfl, hb⟩; refine ⟨_, rfl, ?_⟩; replace BK206 := (pB BK206 hb); replace HB := (pS HB hb); (try clear hb); (try clear hk)))
  go_ret2
  exact pR (pE HB)

/-! ### strconv_FormatUint: function 70 (given) -/
/-- A hexadecimal digit. -/
def hexd (n : Nat) : UInt8 := if n < 10 then UInt8.ofNat (48 + n) else UInt8.ofNat (87 + n)
def hexText (u : Nat) : List UInt8 := if u < 16 then [hexd u] else if u < 256 then [hexd (u / 16), hexd (u % 16)] else if u < 4096 then [hexd (u / 256), hexd (u / 16 % 16), hexd (u % 16)] else [hexd (u / 4096), hexd (u / 256 % 16), hexd (u / 16 % 16), hexd (u % 16)]
def strconv_FormatUint.f (a0 : Int) (a1 : Int) : Option ByteArray := if a1 = 10 then (if 0 ≤ a0 ∧ a0 < 18446744073709551616 then some (⟨(Lib.decDigits a0.toNat).toArray⟩ : ByteArray) else none) else if a1 = 16 then (if 0 ≤ a0 ∧ a0 < 65536 then some (⟨(hexText a0.toNat).toArray⟩ : ByteArray) else none) else none
theorem pow2_16 (w : World) : Calls Tryz.prog 130 #[.int .i64 16] w fun e w' => e = .returned (.bool true) ∧ w' = w := by
  go_enter Tryz.func130, Tryz.ntmps130
  go_wp2
  go_ret
  exact ⟨rfl, rfl⟩
theorem tz64_16 (w : World) (hc : w.cell? ⟨0, 15, none⟩ = some (.int .u8 4)) : Calls Tryz.prog 76 #[.int .u64 16] w fun e w' => e = .returned (.int .i64 4) ∧ w' = w := by
  have key : IntKind.u64.wrap (bits BinOp.and IntKind.u64 16 (IntKind.u64.wrap (-16)) * 285870213051353865) / 288230376151711744 = 15 := by decide
  go_enter Tryz.func76, Tryz.ntmps76
  go_wp2_with (simp only [key])
  go_ret
  exact ⟨rfl, rfl⟩
theorem tz_16 (w : World) (hc : w.cell? ⟨0, 15, none⟩ = some (.int .u8 4)) : Calls Tryz.prog 131 #[.int .u64 16] w fun e w' => e = .returned (.int .i64 4) ∧ w' = w := by
  have HC := Aside0.mk hc
  clear hc
  go_enter Tryz.func131, Tryz.ntmps131
  go_wp2_with fail
  refine (tz64_16 _ HC.out).mono ?_
  rintro e w' ⟨rfl, rfl⟩
  go_wp2_with fail
  go_ret
  exact ⟨rfl, rfl⟩
theorem bru_ {w : World} (h : Laid w) : w.cell? ⟨0, 15, none⟩ = some (.int .u8 4) := by
  rw [h.bruijn.cell (show Tryz.prog.globalNamed "math/bits.deBruijn64tab" = some 0 by kernel_rfl) 15 (by decide)]
  rfl
theorem zc65_size : Tryz.zeroCells150.size = 65 := by decide +kernel
theorem and15_ (u q d : Nat) (h : u = 16 * q + d) (hd : d < 16) (hu : u < 18446744073709551616) : bits .and .u64 (u : Int) 15 = (d : Int) := by
  have := bits_and_u64_nat u 15 hu (by omega)
  rw [show ((15 : Nat) : Int) = 15 from rfl] at this
  rw [this]
  have e : u &&& 15 = u % 16 := Nat.and_two_pow_sub_one_eq_mod u 4
  rw [e]
  omega
theorem hexd_at : ∀ i : Fin 16, (⟨#[48, 49, 50, 51, 52, 53, 54, 55, 56, 57, 97, 98, 99, 100, 101, 102, 103, 104, 105, 106, 107, 108, 109, 110, 111, 112, 113, 114, 115, 116, 117, 118, 119, 120, 121, 122]⟩ : ByteArray).data[i.val]? = some (hexd i.val) := by decide +kernel
theorem idx16_ (d : Nat) (hd : d < 16) : ∀ w, (Instr.index 9 (.string (⟨#[48, 49, 50, 51, 52, 53, 54, 55, 56, 57, 97, 98, 99, 100, 101, 102, 103, 104, 105, 106, 107, 108, 109, 110, 111, 112, 113, 114, 115, 116, 117, 118, 119, 120, 121, 122]⟩ : ByteArray)) (.int .u64 (d : Int))).run Tryz.prog w = .ok (.int .u8 ((hexd d).toNat : Int)) w := by
  intro w
  have hs : (⟨#[48, 49, 50, 51, 52, 53, 54, 55, 56, 57, 97, 98, 99, 100, 101, 102, 103, 104, 105, 106, 107, 108, 109, 110, 111, 112, 113, 114, 115, 116, 117, 118, 119, 120, 121, 122]⟩ : ByteArray).size = 36 := by decide +kernel
  have h1 := hexd_at ⟨d, hd⟩
  generalize (⟨#[48, 49, 50, 51, 52, 53, 54, 55, 56, 57, 97, 98, 99, 100, 101, 102, 103, 104, 105, 106, 107, 108, 109, 110, 111, 112, 113, 114, 115, 116, 117, 118, 119, 120, 121, 122]⟩ : ByteArray) = D at hs h1
  rw [run_index_string w 9 D .u64 _ (by kernel_rfl), dif_pos ⟨by omega, by rw [hs]; omega⟩]
  have e : ((d : Int)).toNat = d := by omega
  simp only [e]
  have h2 : D[d]'(by rw [hs]; omega) = hexd d := by
    have := (Array.getElem?_eq_some_iff.1 h1).2
    exact this
  rw [h2]
theorem cv16_ (w : World) (cells : Array Value) (off n : Nat) (l : List UInt8) (hn : l.length = n) (hc : ∀ j (hj : j < l.length), cells[off + j]? = some (.int .u8 (l[j].toNat : Int))) :
    (convert 103 9 (.slice (some ⟨w.heap.size, off, none⟩) n n)).run Tryz.prog (w.alloc (.cells cells 150)) = .ok (.string ⟨l.toArray⟩) (w.alloc (.cells cells 150)) := by
  subst hn
  refine run_convert_bytes_back (P := Tryz.prog) _ 103 9 5 ⟨w.heap.size, off, none⟩ l.length l (by kernel_rfl) (by kernel_rfl) (by kernel_rfl) (fun j hj => ?_)
  rw [Lib.add_plain, World.cell?_alloc_new]
  exact hc j hj
set_option maxHeartbeats 4000000 in
set_option maxRecDepth 100000 in
theorem fb16_1 (u : Nat) (ht : u < 16) (w : World) (hLD : Laid w) (hb64 : u < 65536) : Calls Tryz.prog 116 #[.slice none 0 0, .int .u64 u, .int .i64 16, .bool false, .bool false] w fun e w' => e = .returned (.tuple #[.slice none 0 0, .string (⟨#[hexd u]⟩ : ByteArray)]) ∧ Below w.heap.size w w' := by
  have HLD := Aside0.mk hLD
  clear hLD
  have xt := idx16_ u ht
  have gt : ¬ (16 : Int) ≤ (u : Int) := by omega
  have hcv := cv16_ w (Tryz.zeroCells150.setIfInBounds 64 (.int .u8 ((hexd u).toNat : Int))) 64 1 [hexd u] rfl (by intro j hj; simp only [List.length_cons, List.length_nil] at hj; match j, hj with | 0, _ => simp [Array.getElem?_setIfInBounds, zc65_size])
  clear ht hb64
  go_enter Tryz.func116, Tryz.ntmps116
  go_wp2_with fail
  refine (pow2_16 _).mono ?_
  rintro e w' ⟨rfl, rfl⟩
  go_wp2_with fail
  refine (tz_16 _ (bru_ (HLD.out.below (by repeat (first | exact Below.refl _ _ | apply below_drew | apply below_alloc | apply pw_below_drewN))))).mono ?_
  rintro e w' ⟨rfl, rfl⟩
  go_wp2_with fail
  refine wp_loop_rounds 1 ?_
  rw [rounds_succ]
  go_wp2_with fail
  refine bodyPost_ret (v := .tuple #[.slice none 0 0, .string (⟨#[hexd u]⟩ : ByteArray)]) (by simp [results, Tryz.results116, go_sem]) rfl ⟨rfl, ?_⟩
  (repeat (first | exact Below.refl _ _ | apply below_drew | apply below_alloc | apply pw_below_drewN))
set_option maxHeartbeats 4000000 in
set_option maxRecDepth 100000 in
theorem fb16_2 (u u1 d0 : Nat) (e0 : u = 16 * u1 + d0) (b0 : d0 < 16) (n0 : 1 ≤ u1) (ht : u1 < 16) (w : World) (hLD : Laid w) (hb64 : u < 65536) : Calls Tryz.prog 116 #[.slice none 0 0, .int .u64 u, .int .i64 16, .bool false, .bool false] w fun e w' => e = .returned (.tuple #[.slice none 0 0, .string (⟨#[hexd u1, hexd d0]⟩ : ByteArray)]) ∧ Below w.heap.size w w' := by
  have HLD := Aside0.mk hLD
  clear hLD
  have q0 : (u : Int) / 16 = (u1 : Int) := by omega
  have a0 : bits .and .u64 (u : Int) 15 = (d0 : Int) := and15_ _ _ _ e0 b0 (by omega)
  have g0 : (16 : Int) ≤ (u : Int) := by omega
  have x0 := idx16_ d0 b0
  have xt := idx16_ u1 ht
  have gt : ¬ (16 : Int) ≤ (u1 : Int) := by omega
  have hcv := cv16_ w ((Tryz.zeroCells150.setIfInBounds 64 (.int .u8 ((hexd d0).toNat : Int))).setIfInBounds 63 (.int .u8 ((hexd u1).toNat : Int))) 63 2 [hexd u1, hexd d0] rfl (by intro j hj; simp only [List.length_cons, List.length_nil] at hj; match j, hj with | 0, _ => simp [Array.getElem?_setIfInBounds, zc65_size] | 1, _ => simp [Array.getElem?_setIfInBounds, zc65_size])
  clear e0 b0 n0
  clear ht hb64
  go_enter Tryz.func116, Tryz.ntmps116
  go_wp2_with fail
  refine (pow2_16 _).mono ?_
  rintro e w' ⟨rfl, rfl⟩
  go_wp2_with fail
  refine (tz_16 _ (bru_ (HLD.out.below (by repeat (first | exact Below.refl _ _ | apply below_drew | apply below_alloc | apply pw_below_drewN))))).mono ?_
  rintro e w' ⟨rfl, rfl⟩
  go_wp2_with fail
  refine wp_loop_rounds 2 ?_
  rw [rounds_succ]
  go_wp2_with fail
  rw [rounds_succ]
  go_wp2_with fail
  refine bodyPost_ret (v := .tuple #[.slice none 0 0, .string (⟨#[hexd u1, hexd d0]⟩ : ByteArray)]) (by simp [results, Tryz.results116, go_sem]) rfl ⟨rfl, ?_⟩
  (repeat (first | exact Below.refl _ _ | apply below_drew | apply below_alloc | apply pw_below_drewN))
set_option maxHeartbeats 4000000 in
set_option maxRecDepth 100000 in
theorem fb16_3 (u u1 u2 d0 d1 : Nat) (e0 : u = 16 * u1 + d0) (b0 : d0 < 16) (n0 : 1 ≤ u1) (e1 : u1 = 16 * u2 + d1) (b1 : d1 < 16) (n1 : 1 ≤ u2) (ht : u2 < 16) (w : World) (hLD : Laid w) (hb64 : u < 65536) : Calls Tryz.prog 116 #[.slice none 0 0, .int .u64 u, .int .i64 16, .bool false, .bool false] w fun e w' => e = .returned (.tuple #[.slice none 0 0, .string (⟨#[hexd u2, hexd d1, hexd d0]⟩ : ByteArray)]) ∧ Below w.heap.size w w' := by
  have HLD := Aside0.mk hLD
  clear hLD
  have q0 : (u : Int) / 16 = (u1 : Int) := by omega
  have a0 : bits .and .u64 (u : Int) 15 = (d0 : Int) := and15_ _ _ _ e0 b0 (by omega)
  have g0 : (16 : Int) ≤ (u : Int) := by omega
  have x0 := idx16_ d0 b0
  have q1 : (u1 : Int) / 16 = (u2 : Int) := by omega
  have a1 : bits .and .u64 (u1 : Int) 15 = (d1 : Int) := and15_ _ _ _ e1 b1 (by omega)
  have g1 : (16 : Int) ≤ (u1 : Int) := by omega
  have x1 := idx16_ d1 b1
  have xt := idx16_ u2 ht
  have gt : ¬ (16 : Int) ≤ (u2 : Int) := by omega
  have hcv := cv16_ w (((Tryz.zeroCells150.setIfInBounds 64 (.int .u8 ((hexd d0).toNat : Int))).setIfInBounds 63 (.int .u8 ((hexd d1).toNat : Int))).setIfInBounds 62 (.int .u8 ((hexd u2).toNat : Int))) 62 3 [hexd u2, hexd d1, hexd d0] rfl (by intro j hj; simp only [List.length_cons, List.length_nil] at hj; match j, hj with | 0, _ => simp [Array.getElem?_setIfInBounds, zc65_size] | 1, _ => simp [Array.getElem?_setIfInBounds, zc65_size] | 2, _ => simp [Array.getElem?_setIfInBounds, zc65_size])
  clear e0 b0 n0
  clear e1 b1 n1
  clear ht hb64
  go_enter Tryz.func116, Tryz.ntmps116
  go_wp2_with fail
  refine (pow2_16 _).mono ?_
  rintro e w' ⟨rfl, rfl⟩
  go_wp2_with fail
  refine (tz_16 _ (bru_ (HLD.out.below (by repeat (first | exact Below.refl _ _ | apply below_drew | apply below_alloc | apply pw_below_drewN))))).mono ?_
  rintro e w' ⟨rfl, rfl⟩
  go_wp2_with fail
  refine wp_loop_rounds 3 ?_
  rw [rounds_succ]
  go_wp2_with fail
  rw [rounds_succ]
  go_wp2_with fail
  rw [rounds_succ]
  go_wp2_with fail
  refine bodyPost_ret (v := .tuple #[.slice none 0 0, .string (⟨#[hexd u2, hexd d1, hexd d0]⟩ : ByteArray)]) (by simp [results, Tryz.results116, go_sem]) rfl ⟨rfl, ?_⟩
  (repeat (first | exact Below.refl _ _ | apply below_drew | apply below_alloc | apply pw_below_drewN))
set_option maxHeartbeats 4000000 in
set_option maxRecDepth 100000 in
theorem fb16_4 (u u1 u2 u3 d0 d1 d2 : Nat) (e0 : u = 16 * u1 + d0) (b0 : d0 < 16) (n0 : 1 ≤ u1) (e1 : u1 = 16 * u2 + d1) (b1 : d1 < 16) (n1 : 1 ≤ u2) (e2 : u2 = 16 * u3 + d2) (b2 : d2 < 16) (n2 : 1 ≤ u3) (ht : u3 < 16) (w : World) (hLD : Laid w) (hb64 : u < 65536) : Calls Tryz.prog 116 #[.slice none 0 0, .int .u64 u, .int .i64 16, .bool false, .bool false] w fun e w' => e = .returned (.tuple #[.slice none 0 0, .string (⟨#[hexd u3, hexd d2, hexd d1, hexd d0]⟩ : ByteArray)]) ∧ Below w.heap.size w w' := by
  have HLD := Aside0.mk hLD
  clear hLD
  have q0 : (u : Int) / 16 = (u1 : Int) := by omega
  have a0 : bits .and .u64 (u : Int) 15 = (d0 : Int) := and15_ _ _ _ e0 b0 (by omega)
  have g0 : (16 : Int) ≤ (u : Int) := by omega
  have x0 := idx16_ d0 b0
  have q1 : (u1 : Int) / 16 = (u2 : Int) := by omega
  have a1 : bits .and .u64 (u1 : Int) 15 = (d1 : Int) := and15_ _ _ _ e1 b1 (by omega)
  have g1 : (16 : Int) ≤ (u1 : Int) := by omega
  have x1 := idx16_ d1 b1
  have q2 : (u2 : Int) / 16 = (u3 : Int) := by omega
  have a2 : bits .and .u64 (u2 : Int) 15 = (d2 : Int) := and15_ _ _ _ e2 b2 (by omega)
  have g2 : (16 : Int) ≤ (u2 : Int) := by omega
  have x2 := idx16_ d2 b2
  have xt := idx16_ u3 ht
  have gt : ¬ (16 : Int) ≤ (u3 : Int) := by omega
  have hcv := cv16_ w ((((Tryz.zeroCells150.setIfInBounds 64 (.int .u8 ((hexd d0).toNat : Int))).setIfInBounds 63 (.int .u8 ((hexd d1).toNat : Int))).setIfInBounds 62 (.int .u8 ((hexd d2).toNat : Int))).setIfInBounds 61 (.int .u8 ((hexd u3).toNat : Int))) 61 4 [hexd u3, hexd d2, hexd d1, hexd d0] rfl (by intro j hj; simp only [List.length_cons, List.length_nil] at hj; match j, hj with | 0, _ => simp [Array.getElem?_setIfInBounds, zc65_size] | 1, _ => simp [Array.getElem?_setIfInBounds, zc65_size] | 2, _ => simp [Array.getElem?_setIfInBounds, zc65_size] | 3, _ => simp [Array.getElem?_setIfInBounds, zc65_size])
  clear e0 b0 n0
  clear e1 b1 n1
  clear e2 b2 n2
  clear ht hb64
  go_enter Tryz.func116, Tryz.ntmps116
  go_wp2_with fail
  refine (pow2_16 _).mono ?_
  rintro e w' ⟨rfl, rfl⟩
  go_wp2_with fail
  refine (tz_16 _ (bru_ (HLD.out.below (by repeat (first | exact Below.refl _ _ | apply below_drew | apply below_alloc | apply pw_below_drewN))))).mono ?_
  rintro e w' ⟨rfl, rfl⟩
  go_wp2_with fail
  refine wp_loop_rounds 4 ?_
  rw [rounds_succ]
  go_wp2_with fail
  rw [rounds_succ]
  go_wp2_with fail
  rw [rounds_succ]
  go_wp2_with fail
  rw [rounds_succ]
  go_wp2_with fail
  refine bodyPost_ret (v := .tuple #[.slice none 0 0, .string (⟨#[hexd u3, hexd d2, hexd d1, hexd d0]⟩ : ByteArray)]) (by simp [results, Tryz.results116, go_sem]) rfl ⟨rfl, ?_⟩
  (repeat (first | exact Below.refl _ _ | apply below_drew | apply below_alloc | apply pw_below_drewN))
theorem fb16 (u : Nat) (hu : u < 65536) (w : World) (hLD : Laid w) : Calls Tryz.prog 116 #[.slice none 0 0, .int .u64 u, .int .i64 16, .bool false, .bool false] w fun e w' => e = .returned (.tuple #[.slice none 0 0, .string (⟨(hexText u).toArray⟩ : ByteArray)]) ∧ Below w.heap.size w w' := by
  unfold hexText
  by_cases h1 : u < 16
  · rw [if_pos h1]
    exact fb16_1 u h1 w hLD hu
  · rw [if_neg h1]
    by_cases h2 : u < 256
    · rw [if_pos h2]
      exact fb16_2 u (u / 16) (u % 16) (by omega) (by omega) (by omega) (by omega) w hLD hu
    · rw [if_neg h2]
      by_cases h3 : u < 4096
      · rw [if_pos h3]
        exact fb16_3 u (u / 16) (u / 256) (u % 16) (u / 16 % 16) (by omega) (by omega) (by omega) (by omega) (by omega) (by omega) (by omega) w hLD hu
      · rw [if_neg h3]
        exact fb16_4 u (u / 16) (u / 256) (u / 4096) (u % 16) (u / 16 % 16) (u / 256 % 16) (by omega) (by omega) (by omega) (by omega) (by omega) (by omega) (by omega) (by omega) (by omega) (by omega) w hLD hu
theorem iFU16 (u : Nat) (hu : u < 65536) (w : World) (hLD : Laid w) : Calls Tryz.prog 99 #[.int .u64 u, .int .i64 16] w fun e w' => e = .returned (.string (⟨(hexText u).toArray⟩ : ByteArray)) ∧ Below w.heap.size w w' := by
  have HLD := Aside0.mk hLD
  clear hLD
  go_enter Tryz.func99, Tryz.ntmps99
  go_wp2_with fail
  refine (fb16 u hu _ HLD.out).mono ?_
  rintro e w' ⟨rfl, hb⟩
  have HB := Aside0.mk hb
  clear hb
  go_wp2_with fail
  go_ret
  exact ⟨rfl, HB.out⟩
set_option maxHeartbeats 4000000 in
set_option maxRecDepth 100000 in
theorem iFU10 (u : Nat) (hu : u < 18446744073709551616) (w : World) (hLD : Laid w) : Calls Tryz.prog 99 #[.int .u64 u, .int .i64 10] w fun e w' => e = .returned (.string (⟨(Lib.decDigits u).toArray⟩ : ByteArray)) ∧ Below w.heap.size w w' := by
  by_cases h100 : u < 100
  · have hI : (u : Int) < 100 := by omega
    have hW : IntKind.i64.wrap (u : Int) = (u : Int) := by rw [IntKind.wrap_i64]; omega
    go_enter Tryz.func99, Tryz.ntmps99
    go_wp2_with fail
    refine (Tryz.internal_strconv_small u h100 _).mono ?_
    rintro e w' ⟨rfl, rfl⟩
    go_wp2_with fail
    go_ret
    exact ⟨rfl, Below.refl _ _⟩
  · have hI : ¬ (u : Int) < 100 := by omega
    have hu1 : 1 ≤ u := by omega
    have hnd20 : Lib.nDigits u ≤ 20 := by have := Lib.numDigits_eq u hu1 hu; split at this <;> omega
    have hal : Tryz.prog.arrayLen 135 = 24 := by kernel_rfl
    have hund : Tryz.prog.underlying 135 = some (.array 24 5) := by kernel_rfl
    have hsl : ∀ W, (Instr.sliceAt 135 (.pointer (some ⟨w.heap.size, 0, none⟩)) none (some (.int .i64 (Lib.nDigits u : Int))) none).run Tryz.prog W = .ok (.slice (some ⟨w.heap.size, 0, none⟩) (Lib.nDigits u) 24) W := fun W => by
      rw [run_sliceAt_array_h W 135 ⟨w.heap.size, 0, none⟩ hund .i64 (Lib.nDigits u : Int) (by omega) (by rw [hal]; omega)]
      go_simp
    have hH0 := Lib.holds_zero0 w 135 (Lib.nDigits u) (by omega)
    have hfmt := Tryz.internal_strconv_formatBase10 w.heap.size 0 24 u (Array.replicate (Lib.nDigits u) 0) (w.alloc (.cells Lib.zeros24 135)) hH0 (by rw [Array.size_replicate]; exact Lib.lt_pow_nDigits u) hu (by rw [Array.size_replicate]; omega)
    rw [Array.size_replicate] at hfmt
    have HH0 := Aside0.mk hH0
    have HLD := Aside0.mk hLD
    have HF := Aside0.mk hfmt
    clear hH0 hal hund hLD hfmt
    go_enter Tryz.func99, Tryz.ntmps99
    go_wp2_with fail
    refine (Tryz.internal_strconv_numDigits u hu1 hu _ (HLD.out.below (by repeat (first | exact Below.refl _ _ | apply below_drew | apply below_alloc | apply pw_below_drewN))).pow10).mono ?_
    rintro e w' ⟨rfl, rfl⟩
    go_wp2_with fail
    refine HF.out.mono ?_
    rintro e w' ⟨rfl, k, v', dk, rfl, hF⟩
    have hcv : (convert 103 9 (.slice (some ⟨w.heap.size, 0, none⟩) (Lib.nDigits u) 24)).run Tryz.prog ((Go.Sort.putRow (fun (b : UInt8) => Value.int .u8 (b.toNat : Int)) (w.alloc (.cells Lib.zeros24 135)) w.heap.size 0 dk).drewN k) = .ok (.string ⟨(Lib.decDigits u).toArray⟩) ((Go.Sort.putRow (fun (b : UInt8) => Value.int .u8 (b.toNat : Int)) (w.alloc (.cells Lib.zeros24 135)) w.heap.size 0 dk).drewN k) := by
      have h := run_convert_bytes_back (P := Tryz.prog) ((Go.Sort.putRow (fun (b : UInt8) => Value.int .u8 (b.toNat : Int)) (w.alloc (.cells Lib.zeros24 135)) w.heap.size 0 dk).drewN k) 103 9 5 ⟨w.heap.size, 0, none⟩ 24 (Lib.decDigits u) (by kernel_rfl) (by kernel_rfl) (by kernel_rfl) (fun j hj => by
        rw [Lib.row_is_numeral hF j hj, Lib.add_plain, World.cell?_drewN]
        exact Go.Sort.cell?_putRow (fun (b : UInt8) => Value.int .u8 (b.toNat : Int)) _ w.heap.size 0 _ dk HH0.out (by rw [hF.size, Array.size_replicate]) j (by rw [hF.size]; rw [Lib.decDigits_length] at hj; exact hj))
      rw [Lib.decDigits_length] at h
      exact h
    obtain ⟨os, eo⟩ := Lib.fin_at w (.cells Lib.zeros24 135) dk k 0
    have HBB : Aside0 (Below w.heap.size w ((Go.Sort.putRow (fun (b : UInt8) => Value.int .u8 (b.toNat : Int)) (w.alloc (.cells Lib.zeros24 135)) w.heap.size 0 dk).drewN k)) := Aside0.mk (by rw [eo]; exact Lib.below_grow w.heap.size w (Nat.le_refl _) k os)
    clear eo hF
    generalize (Go.Sort.putRow (fun (b : UInt8) => Value.int .u8 (b.toNat : Int)) (w.alloc (.cells Lib.zeros24 135)) w.heap.size 0 dk).drewN k = W2 at hcv HBB ⊢
    go_wp2_with fail
    go_ret
    exact ⟨rfl, HBB.out⟩
theorem strconv_FormatUint.calls (a0 : Int) (a1 : Int) (r : ByteArray) (w : World) (hLD : Laid w) (h : strconv_FormatUint.f a0 a1 = some r) :
    Calls Tryz.prog 70 #[.int .u64 a0, .int .i64 a1] w fun e w' => e = .returned (.string r) ∧ Below w.heap.size w w' := by
  unfold strconv_FormatUint.f at h
  by_cases h10 : a1 = 10
  · rw [if_pos h10] at h
    by_cases hb : 0 ≤ a0 ∧ a0 < 18446744073709551616
    · rw [if_pos hb] at h
      obtain rfl := Option.some.inj h
      subst h10
      obtain ⟨u, rfl⟩ : ∃ u : Nat, a0 = u := ⟨a0.toNat, by omega⟩
      rw [Int.toNat_natCast]
      have hu : u < 18446744073709551616 := by omega
      have HLD := Aside0.mk hLD
      clear hLD h hb
      go_enter Tryz.func70, Tryz.ntmps70
      go_wp2_with fail
      refine (iFU10 u hu _ HLD.out).mono ?_
      rintro e w' ⟨rfl, hb⟩
      have HB := Aside0.mk hb
      clear hb
      go_wp2_with fail
      go_ret
      exact ⟨rfl, HB.out⟩
    · rw [if_neg hb] at h; cases h
  · rw [if_neg h10] at h
    by_cases h16 : a1 = 16
    · rw [if_pos h16] at h
      by_cases hb : 0 ≤ a0 ∧ a0 < 65536
      · rw [if_pos hb] at h
        obtain rfl := Option.some.inj h
        subst h16
        obtain ⟨u, rfl⟩ : ∃ u : Nat, a0 = u := ⟨a0.toNat, by omega⟩
        rw [Int.toNat_natCast]
        have hu : u < 65536 := by omega
        have HLD := Aside0.mk hLD
        clear hLD h hb
        go_enter Tryz.func70, Tryz.ntmps70
        go_wp2_with fail
        refine (iFU16 u hu _ HLD.out).mono ?_
        rintro e w' ⟨rfl, hb⟩
        have HB := Aside0.mk hb
        clear hb
        go_wp2_with fail
        go_ret
        exact ⟨rfl, HB.out⟩
      · rw [if_neg hb] at h; cases h
    · rw [if_neg h16] at h; cases h

/-! ### addr_Reverse: function 47 -/
mutual
def addr_Reverse.j0 : Nat → ByteArray → ByteArray → ByteArray → Bool → Int → Int → Option (ByteArray × Int)
 | 0, _, _, _, _, _, _ => none
 | k + 1, x4, x6, x7, x222000, x222001, x222002 => addr_Reverse.l0 k x4 x6 x7 (wrap64 ((x4.size : Int) - 1)) x222000 x222001 x222002
def addr_Reverse.l0 : Nat → ByteArray → ByteArray → ByteArray → Int → Bool → Int → Int → Option (ByteArray × Int)
 | 0, _, _, _, _, _, _, _ => none
 | k + 1, x4, x6, x7, x8, x222000, x222001, x222002 => if x8 ≥ 0 then (if x222000 = true then (if 0 ≤ x8 then (if x8 < (x4.size : Int) then ((strconv_FormatUint.f (IntKind.u64.wrap (Go.bits .and .u8 (bt x4 x8) 15)) 16).bind fun t224 => (if t224.size + 1 ≤ 9223372036854775807 then ((strconv_FormatUint.f (IntKind.u64.wrap ((bt x4 x8) / 16)) 16).bind fun t225 => (if (t224 ++ (⟨#[46]⟩ : ByteArray)).size + t225.size ≤ 9223372036854775807 then (if ((t224 ++ (⟨#[46]⟩ : ByteArray)) ++ t225).size + 1 ≤ 9223372036854775807 then (if x6.size + (((t224 ++ (⟨#[46]⟩ : ByteArray)) ++ t225) ++ (⟨#[46]⟩ : ByteArray)).size ≤ 9223372036854775807 then (addr_Reverse.l0 k x4 (x6 ++ (((t224 ++ (⟨#[46]⟩ : ByteArray)) ++ t225) ++ (⟨#[46]⟩ : ByteArray))) x7 (wrap64 (x8 - 1)) x222000 x222001 x222002) else (none)) else (none)) else (none))) else (none))) else (none)) else (none)) else (if 0 ≤ x8 then (if x8 < (x4.size : Int) then ((strconv_Itoa.f (wrap64 (bt x4 x8))).bind fun t226 => (if t226.size + 1 ≤ 9223372036854775807 then (if x6.size + (t226 ++ (⟨#[46]⟩ : ByteArray)).size ≤ 9223372036854775807 then (addr_Reverse.l0 k x4 (x6 ++ (t226 ++ (⟨#[46]⟩ : ByteArray))) x7 (wrap64 (x8 - 1)) x222000 x222001 x222002) else (none)) else (none))) else (none)) else (none))) else (if x6.size + x7.size ≤ 9223372036854775807 then (some (x6 ++ x7, 0)) else (none))
end
def addr_Reverse.f (k : Nat) (a0_0 : Bool) (a0_1 : Int) (a0_2 : Int) : Option (ByteArray × Int) := (addr_Wire.f k a0_0 a0_1 a0_2).bind fun bt222 => (if bt222.2 = 0 then (if a0_0 = true then (addr_Reverse.j0 k bt222.1 (⟨#[]⟩ : ByteArray) (⟨#[105, 112, 54, 46, 97, 114, 112, 97, 46]⟩ : ByteArray) a0_0 a0_1 a0_2) else (addr_Reverse.j0 k bt222.1 (⟨#[]⟩ : ByteArray) (⟨#[105, 110, 45, 97, 100, 100, 114, 46, 97, 114, 112, 97, 46]⟩ : ByteArray) a0_0 a0_1 a0_2)) else (some ((⟨#[]⟩ : ByteArray), bt222.2)))
theorem addr_Reverse.mono_l : ∀ k, (∀ y0 y1 y2 y3 y4 y5, LeO (addr_Reverse.j0 k y0 y1 y2 y3 y4 y5) (addr_Reverse.j0 (k + 1) y0 y1 y2 y3 y4 y5)) ∧ (∀ y0 y1 y2 y3 y4 y5 y6, LeO (addr_Reverse.l0 k y0 y1 y2 y3 y4 y5 y6) (addr_Reverse.l0 (k + 1) y0 y1 y2 y3 y4 y5 y6))
 | 0 => ⟨fun _ _ _ _ _ _ r h => by simp [addr_Reverse.j0] at h, fun _ _ _ _ _ _ _ r h => by simp [addr_Reverse.l0] at h⟩
 | k + 1 => by
  obtain ⟨ih0, ih1⟩ := addr_Reverse.mono_l k
  refine ⟨?_, ?_⟩
  ·
   intro y0 y1 y2 y3 y4 y5
   unfold addr_Reverse.j0
   repeat' with_reducible first | exact ih0 _ _ _ _ _ _ | exact ih1 _ _ _ _ _ _ _ | exact addr_Wire.mono _ _ _ _ | exact LeO.refl _ | exact LeO.none _ | refine LeO.ite ?_ ?_ | refine LeO.bind ?_ (fun _ => ?_)
  ·
   intro y0 y1 y2 y3 y4 y5 y6
   unfold addr_Reverse.l0
   repeat' with_reducible first | exact ih0 _ _ _ _ _ _ | exact ih1 _ _ _ _ _ _ _ | exact addr_Wire.mono _ _ _ _ | exact LeO.refl _ | exact LeO.none _ | refine LeO.ite ?_ ?_ | refine LeO.bind ?_ (fun _ => ?_)
theorem addr_Reverse.mono : ∀ a0 a1 a2 k, LeO (addr_Reverse.f k a0 a1 a2) (addr_Reverse.f (k + 1) a0 a1 a2) := by
 intro a0 a1 a2 k
 obtain ⟨ih0, ih1⟩ := addr_Reverse.mono_l k
 unfold addr_Reverse.f
 repeat' with_reducible first | exact ih0 _ _ _ _ _ _ | exact ih1 _ _ _ _ _ _ _ | exact addr_Wire.mono _ _ _ _ | exact LeO.refl _ | exact LeO.none _ | refine LeO.ite ?_ ?_ | refine LeO.bind ?_ (fun _ => ?_)
def addr_Reverse.T12 : Bool × List (List Nat × List Nat) := (true, [([], []), ([], []), ([], []), ([1, 2], [1, 2]), ([3], [3]), ([4], [4]), ([5], [5]), ([6], [6]), ([], []), ([], []), ([8, 9], [8, 9]), ([10], [10]), ([11], [11]), ([12, 6], [12]), ([7, 13], [7, 13]), ([14], [14]), ([0, 15], [0, 15]), ([16, 13, 0, 1, 2, 3, 4, 5, 6, 7, 8, 9, 10, 11, 12, 13, 14, 15, 16], [0, 16])])
def addr_Reverse.B12 : List Nat := [0, 0, 0, 6, 14, 30, 62, 126, 0, 0, 768, 1792, 3840, 8062, 16382, 32766, 65535, 131071]
theorem addr_Reverse.tab12 : rtab .any (opsOf Tryz.f47 12) = addr_Reverse.T12 := by kernel_rfl
theorem addr_Reverse.bits12 : waitsOk addr_Reverse.T12.2 addr_Reverse.B12 = true := by kernel_rfl
set_option maxHeartbeats 40000000 in
set_option maxRecDepth 100000 in
theorem addr_Reverse.calls (k : Nat) (a0_0 : Bool) (a0_1 : Int) (a0_2 : Int) (r1 : ByteArray) (r2 : Int) (w : World) (hLD : Laid w) (h : addr_Reverse.f k a0_0 a0_1 a0_2 = some (r1, r2)) :
 Calls Tryz.prog 47 #[.agg #[.bool a0_0, .int .u64 a0_1, .int .u64 a0_2]] w fun e w' => e = .returned (.tuple #[.string r1, .int .i64 r2]) ∧ Below w.heap.size w w' := by
 have hu24 := Tryz.underlying24
 have HLD := Aside0.mk hLD
 clear hLD
 have HB := Aside0.mk (Below.refl w.heap.size w)
 have H : ((addr_Wire.f k a0_0 a0_1 a0_2).bind fun bt222 => (if bt222.2 = 0 then (if a0_0 = true then (addr_Reverse.j0 k bt222.1 (⟨#[]⟩ : ByteArray) (⟨#[105, 112, 54, 46, 97, 114, 112, 97, 46]⟩ : ByteArray) a0_0 a0_1 a0_2) else (addr_Reverse.j0 k bt222.1 (⟨#[]⟩ : ByteArray) (⟨#[105, 110, 45, 97, 100, 100, 114, 46, 97, 114, 112, 97, 46]⟩ : ByteArray) a0_0 a0_1 a0_2)) else (some ((⟨#[]⟩ : ByteArray), bt222.2)))) = some (r1, r2) := h
 clear h
 replace H := Option.bind_eq_some_iff.mp H
 obtain ⟨⟨t222, t223⟩, A20, H⟩ := H
 replace H : (if t223 = 0 then (if a0_0 = true then (addr_Reverse.j0 k t222 (⟨#[]⟩ : ByteArray) (⟨#[105, 112, 54, 46, 97, 114, 112, 97, 46]⟩ : ByteArray) a0_0 a0_1 a0_2) else (addr_Reverse.j0 k t222 (⟨#[]⟩ : ByteArray) (⟨#[105, 110, 45, 97, 100, 100, 114, 46, 97, 114, 112, 97, 46]⟩ : ByteArray) a0_0 a0_1 a0_2)) else (some ((⟨#[]⟩ : ByteArray), t223))) = some (r1, r2) := H
 have A2 := Aside0.mk A20
 clear A20
 by_cases c3 : t223 = 0
 ·
  rw [if_pos c3] at H
  have c3b0 : (t223 == 0) = true := beq_iff_eq.mpr c3
  have c3b1 : (t223 != 0) = false := bne_eq_false_iff_eq.mpr c3
  clear c3
  have HC4 := Aside0.mk H
  clear H
  go_enter Tryz.func47, Tryz.ntmps47
  go_upto_if 18 with (first | ((with_reducible refine gate_dst (N := 1) rfl ?_); refine boxA (N := 1) (cs := #[.bool a0_0, .int .u64 a0_1, .int .u64 a0_2]) (t := 24) ?_; intro gb221 hg w5 hbox hb; have BK221 := Aside0.mk (hbox); have GW221 := (pZ HB hg); have GE221 := (pZ HB hg); replace HB := (pS HB hb); clear hb hbox hg; obtain ⟨hcz6_0, hcz6_1, hcz6_2, hfz6_0, hfz6_1, hfz6_2⟩ := pC3 BK221) | ((with_reducible refine gate_callee (f := 69) rfl ?_); refine goesA (some 11) Tryz.func69 #[.agg #[.bool a0_0, .int .u64 a0_1, .int .u64 a0_2]] ?_; (with_reducible refine (addr_Wire.calls k a0_0 a0_1 a0_2 t222 t223 _ A2.out).mono ?_); rintro e w7 ⟨rfl, hb⟩; refine ⟨_, rfl, ?_⟩; replace BK221 := (pB BK221 hb); replace HB := (pS HB hb); (try clear hb); obtain ⟨hcz8_0, hcz8_1, hcz8_2, hfz8_0, hfz8_1, hfz8_2⟩ := pC3 BK221))
  (try simp only [Act.put, List.setIfInBounds_toArray, List.set_cons_zero, List.set_cons_succ])
  go_cut [7] (fun v7 wc => ∃ (kq : Nat) (x7_3 : ByteArray), v7 = .string x7_3 ∧ Aside0 (addr_Reverse.j0 kq t222 (⟨#[]⟩ : ByteArray) x7_3 a0_0 a0_1 a0_2 = some (r1, r2)) ∧ Aside0 (kq ≤ k) ∧ Aside0 (wc.heap[gb221]? = some (.cells #[.bool a0_0, .int .u64 a0_1, .int .u64 a0_2] 24 (0, 0))) ∧ Aside0 (Below w.heap.size w wc))
  case first =>
   have H := HC4.out
   clear HC4
   by_cases c9 : a0_0 = true
   ·
    subst c9
    have H1 : (addr_Reverse.j0 k t222 (⟨#[]⟩ : ByteArray) (⟨#[105, 112, 54, 46, 97, 114, 112, 97, 46]⟩ : ByteArray) true a0_1 a0_2) = some (r1, r2) := by rw [if_pos rfl] at H; exact H
    clear H
    have H := H1
    clear H1
    have H' := Aside0.mk H
    clear H
    go_wp2
    go_meet
    case rel => exact ⟨_, ((⟨#[105, 112, 54, 46, 97, 114, 112, 97, 46]⟩ : ByteArray)), pT, H', ⟨by first | omega | exact Nat.le_refl _⟩, ⟨pM BK221⟩, ⟨pE HB⟩⟩
   ·
    replace c9 := Bool.eq_false_iff.mpr c9
    subst c9
    rw [if_neg (show ¬ (false = true) by decide)] at H
    have H' := Aside0.mk H
    clear H
    go_wp2
    go_meet
    case rel => exact ⟨_, ((⟨#[105, 110, 45, 97, 100, 100, 114, 46, 97, 114, 112, 97, 46]⟩ : ByteArray)), pT, H', ⟨by first | omega | exact Nat.le_refl _⟩, ⟨pM BK221⟩, ⟨pE HB⟩⟩
  case rest =>
   clear HC4
   try clear c3
   try clear c3b0
   try clear c3b1
   try clear hcz6_0 hcz6_1 hcz6_2
   try clear hcz8_0 hcz8_1 hcz8_2
   try clear hfz6_0 hfz6_1 hfz6_2
   try clear hfz8_0 hfz8_1 hfz8_2
   obtain ⟨kq, x7_3, rfl, HA, HJ3, BK221, HB⟩ := hcut
   cases kq with
   | zero => exact absurd HA.out (by simp [addr_Reverse.j0])
   | succ kj3 =>
    have H := HA.out
    clear HA
    simp only [addr_Reverse.j0] at H
    have H' := Aside0.mk H
    clear H
    go_wp2
    go_loopg [6, 8] kj3 (fun kq v6 v8 w' => ∃ (x6_2 : ByteArray) (x8_2 : Int), v6 = .string x6_2 ∧ v8 = .int .i64 x8_2 ∧ Aside0 (addr_Reverse.l0 kq t222 x6_2 x7_3 x8_2 a0_0 a0_1 a0_2 = some (r1, r2)) ∧ Aside0 (kq ≤ kj3) ∧ Aside0 (w'.heap[gb221]? = some (.cells #[.bool a0_0, .int .u64 a0_1, .int .u64 a0_2] 24 (0, 0))) ∧ Aside0 (Below w.heap.size w w'))
    case atStart => exact ⟨((⟨#[]⟩ : ByteArray)), (wrap64 ((t222.size : Int) - 1)), pT, pT, H', ⟨Nat.le_refl _⟩, ⟨pM BK221⟩, ⟨pE HB⟩⟩
    case round =>
     clear H'
     try clear c3
     try clear c3b0
     try clear c3b1
     try clear hcz6_0 hcz6_1 hcz6_2
     try clear hcz8_0 hcz8_1 hcz8_2
     try clear hfz6_0 hfz6_1 hfz6_2
     try clear hfz8_0 hfz8_1 hfz8_2
     obtain ⟨x6_2, x8_2, rfl, rfl, HA, HK2, BK221, HB⟩ := hrel
     cases gk with
     | zero => exact absurd HA.out (by simp [addr_Reverse.l0])
     | succ k2 =>
      have H := HA.out
      clear HA
      simp only [addr_Reverse.l0] at H
      by_cases c10 : x8_2 ≥ 0
      ·
       rw [if_pos c10] at H
       have c10b0 := decide_eq_true c10
       clear c10
       by_cases c11 : a0_0 = true
       ·
        subst c11
        have H1 : (if 0 ≤ x8_2 then (if x8_2 < (t222.size : Int) then ((strconv_FormatUint.f (IntKind.u64.wrap (Go.bits .and .u8 (bt t222 x8_2) 15)) 16).bind fun t224 => (if t224.size + 1 ≤ 9223372036854775807 then ((strconv_FormatUint.f (IntKind.u64.wrap ((bt t222 x8_2) / 16)) 16).bind fun t225 => (if (t224 ++ (⟨#[46]⟩ : ByteArray)).size + t225.size ≤ 9223372036854775807 then (if ((t224 ++ (⟨#[46]⟩ : ByteArray)) ++ t225).size + 1 ≤ 9223372036854775807 then (if x6_2.size + (((t224 ++ (⟨#[46]⟩ : ByteArray)) ++ t225) ++ (⟨#[46]⟩ : ByteArray)).size ≤ 9223372036854775807 then (addr_Reverse.l0 k2 t222 (x6_2 ++ (((t224 ++ (⟨#[46]⟩ : ByteArray)) ++ t225) ++ (⟨#[46]⟩ : ByteArray))) x7_3 (wrap64 (x8_2 - 1)) true a0_1 a0_2) else (none)) else (none)) else (none))) else (none))) else (none)) else (none)) = some (r1, r2) := by rw [if_pos rfl] at H; exact H
        clear H
        have H := H1
        clear H1
        by_cases c12 : 0 ≤ x8_2
        ·
         rw [if_pos c12] at H
         have c12b0 := decide_eq_true c12
         clear c12
         by_cases c13 : x8_2 < (t222.size : Int)
         ·
          rw [if_pos c13] at H
          have c13b0 := decide_eq_true c13
          clear c13
          replace H := Option.bind_eq_some_iff.mp H
          obtain ⟨t224, A150, H⟩ := H
          have A15 := Aside0.mk A150
          clear A150
          by_cases c16 : t224.size + 1 ≤ 9223372036854775807
          ·
           rw [if_pos c16] at H
           have c16b0 := eq_true c16
           have c16b1 := decide_eq_true c16
           try have c16b2 : (9223372036854775807 < t224.size + 1) = False := eq_false (Nat.not_lt.2 c16)
           replace H := Option.bind_eq_some_iff.mp H
           obtain ⟨t225, A180, H⟩ := H
           have A18 := Aside0.mk A180
           clear A180
           by_cases c19 : (t224 ++ (⟨#[46]⟩ : ByteArray)).size + t225.size ≤ 9223372036854775807
           ·
            rw [if_pos c19] at H
            have c19b0 := eq_true c19
            have c19b1 := decide_eq_true c19
            try have c19b2 : (9223372036854775807 < (t224 ++ (⟨#[46]⟩ : ByteArray)).size + t225.size) = False := eq_false (Nat.not_lt.2 c19)
            try have c19b2z := c19b2
            try simp only [go_sem, List.size_toArray, List.length_cons, List.length_nil, Nat.zero_add, Nat.reduceAdd] at c19b2z
            by_cases c20 : ((t224 ++ (⟨#[46]⟩ : ByteArray)) ++ t225).size + 1 ≤ 9223372036854775807
            ·
             rw [if_pos c20] at H
             have c20b0 := eq_true c20
             have c20b1 := decide_eq_true c20
             try have c20b2 : (9223372036854775807 < ((t224 ++ (⟨#[46]⟩ : ByteArray)) ++ t225).size + 1) = False := eq_false (Nat.not_lt.2 c20)
             try have c20b2z := c20b2
             try simp only [go_sem, List.size_toArray, List.length_cons, List.length_nil, Nat.zero_add, Nat.reduceAdd] at c20b2z
             by_cases c21 : x6_2.size + (((t224 ++ (⟨#[46]⟩ : ByteArray)) ++ t225) ++ (⟨#[46]⟩ : ByteArray)).size ≤ 9223372036854775807
             ·
              rw [if_pos c21] at H
              have c21b0 := eq_true c21
              have c21b1 := decide_eq_true c21
              try have c21b2 : (9223372036854775807 < x6_2.size + (((t224 ++ (⟨#[46]⟩ : ByteArray)) ++ t225) ++ (⟨#[46]⟩ : ByteArray)).size) = False := eq_false (Nat.not_lt.2 c21)
              try have c21b2z := c21b2
              try simp only [go_sem, List.size_toArray, List.length_cons, List.length_nil, Nat.zero_add, Nat.reduceAdd] at c21b2z
              have H' := Aside0.mk H
              clear H
              obtain ⟨hcz22_0, hcz22_1, hcz22_2, hfz22_0, hfz22_1, hfz22_2⟩ := pC3 BK221
              try go_wp2
              replace BK221 := Aside0.mk (blk_drew BK221.out)
              replace HB := Aside0.mk (below_drew1 HB.out)
              have p14 : 0 ≤ (x8_2 : Int) := of_decide_eq_true (by first | (with_reducible assumption) | assumption)
              have q14 : x8_2 < (t222.size : Int) := of_decide_eq_true (by first | (with_reducible assumption) | assumption)
              have hx14 := bt_at t222 x8_2
              replace p14 := eq_true p14
              replace q14 := eq_true q14
              have p17 : 0 ≤ (x8_2 : Int) := of_decide_eq_true (by first | (with_reducible assumption) | assumption)
              have q17 : x8_2 < (t222.size : Int) := of_decide_eq_true (by first | (with_reducible assumption) | assumption)
              have hx17 := bt_at t222 x8_2
              replace p17 := eq_true p17
              replace q17 := eq_true q17
              refine start_ (n := 18) (S := fun w' => True) (ds := []) (tk 18 0) (by kernel_rfl) rfl rfl trivial (fun hHeld => ?_); refine with_tabW addr_Reverse.tab12 addr_Reverse.bits12 (fun HT_ HW_ => ?_)
              generalize wr.drew = w23 at BK221 HB hHeld ⊢
              refine pureA (i := 0) (some 37) HT_ (tk 18 1) ?_
              refine pureA (i := 1) (some 38) HT_ (tk 18 2) ?_
              refine pureA (i := 2) (some 39) HT_ (tk 18 3) ?_
              refine pureA (i := 8) (some 45) HT_ (tr [3, 5, 1, 9]) ?_
              refine pureA (i := 9) (some 46) HT_ (tr [3, 5, 2, 8]) ?_
              refine takeA (i := 3) (some 40) HT_ HW_ (tr [4, 4, 2, 8]) hHeld ?_
              refine pureA (i := 4) (some 41) HT_ (tr [5, 3, 2, 8]) ?_
              refine pureA (i := 5) (some 42) HT_ (tr [6, 2, 2, 8]) ?_
              refine takeA (i := 10) (some 47) HT_ HW_ (tr [6, 2, 3, 7]) hHeld ?_
              refine pureA (i := 11) (some 48) HT_ (tr [6, 2, 4, 6]) ?_
              refine pureA (i := 12) (some 49) HT_ (tr [6, 2, 5, 5]) ?_
              refine one_ (i := 6) (N := some 43) (tr [7, 1, 5, 5]) rfl rfl (one_of HT_.out (by kernel_rfl)) (by decide) (fun K hK => ?_)
              refine goesR Tryz.func70 #[.int .u64 (IntKind.u64.wrap (Go.bits .and .u8 (bt t222 x8_2) 15)), .int .i64 16] ?_
              with_reducible refine (strconv_FormatUint.calls (IntKind.u64.wrap (Go.bits .and .u8 (bt t222 x8_2) 15)) 16 t224 _ ?side1 A15.out).mono ?_
              (case side1 => exact Laid.below HLD.out (pE HB))
              rintro e w24 ⟨rfl, hb⟩
              refine ⟨_, rfl, ?_⟩
              replace BK221 := (pB BK221 hb)
              replace HB := (pS HB hb)
              (try clear hb)
              refine hK.out _ _ trivial (fun hHeld => ?_)
              clear hK K
              refine normA (N := some 43) ?_
              refine pureA (i := 7) (some 44) HT_ (tk 18 13) ?_
              refine one_ (i := 13) (N := some 50) (tk 18 14) rfl rfl (one_of HT_.out (by kernel_rfl)) (by decide) (fun K hK => ?_)
              refine goesR Tryz.func70 #[.int .u64 (IntKind.u64.wrap ((bt t222 x8_2) / 16)), .int .i64 16] ?_
              with_reducible refine (strconv_FormatUint.calls (IntKind.u64.wrap ((bt t222 x8_2) / 16)) 16 t225 _ ?side1 A18.out).mono ?_
              (case side1 => exact Laid.below HLD.out (pE HB))
              rintro e w25 ⟨rfl, hb⟩
              refine ⟨_, rfl, ?_⟩
              replace BK221 := (pB BK221 hb)
              replace HB := (pS HB hb)
              (try clear hb)
              refine hK.out _ _ trivial (fun hHeld => ?_)
              clear hK K
              refine normA (N := some 50) ?_
              refine pureA (i := 14) (some 51) HT_ (tk 18 15) ?_
              refine pureA (i := 15) (some 52) HT_ (tk 18 16) ?_
              refine pureA (i := 16) (some 53) HT_ (tk 18 17) ?_
              refine pureA (i := 17) (some 6) HT_ (tk 18 18) ?_
              refine done_ (done_of HT_.out (by kernel_rfl)) ?_
              try go_wp2
              go_roundg k2
              case measure => have := HJ3.out; have := HK2.out; omega
              case rel => exact ⟨(x6_2 ++ (((t224 ++ (⟨#[46]⟩ : ByteArray)) ++ t225) ++ (⟨#[46]⟩ : ByteArray))), (wrap64 (x8_2 - 1)), pT, pT, H', ⟨by have := HJ3.out; have := HK2.out; omega⟩, ⟨pM BK221⟩, ⟨pE HB⟩⟩
             ·
              rw [if_neg c21] at H
              exact absurd H (by simp)
            ·
             rw [if_neg c20] at H
             exact absurd H (by simp)
           ·
            rw [if_neg c19] at H
            exact absurd H (by simp)
          ·
           rw [if_neg c16] at H
           exact absurd H (by simp)
         ·
          rw [if_neg c13] at H
          exact absurd H (by simp)
        ·
         rw [if_neg c12] at H
         exact absurd H (by simp)
       ·
        replace c11 := Bool.eq_false_iff.mpr c11
        subst c11
        rw [if_neg (show ¬ (false = true) by decide)] at H
        by_cases c26 : 0 ≤ x8_2
        ·
         rw [if_pos c26] at H
         have c26b0 := decide_eq_true c26
         clear c26
         by_cases c27 : x8_2 < (t222.size : Int)
         ·
          rw [if_pos c27] at H
          have c27b0 := decide_eq_true c27
          clear c27
          replace H := Option.bind_eq_some_iff.mp H
          obtain ⟨t226, A290, H⟩ := H
          have A29 := Aside0.mk A290
          clear A290
          by_cases c30 : t226.size + 1 ≤ 9223372036854775807
          ·
           rw [if_pos c30] at H
           have c30b0 := eq_true c30
           have c30b1 := decide_eq_true c30
           try have c30b2 : (9223372036854775807 < t226.size + 1) = False := eq_false (Nat.not_lt.2 c30)
           by_cases c31 : x6_2.size + (t226 ++ (⟨#[46]⟩ : ByteArray)).size ≤ 9223372036854775807
           ·
            rw [if_pos c31] at H
            have c31b0 := eq_true c31
            have c31b1 := decide_eq_true c31
            try have c31b2 : (9223372036854775807 < x6_2.size + (t226 ++ (⟨#[46]⟩ : ByteArray)).size) = False := eq_false (Nat.not_lt.2 c31)
            try have c31b2z := c31b2
            try simp only [go_sem, List.size_toArray, List.length_cons, List.length_nil, Nat.zero_add, Nat.reduceAdd] at c31b2z
            have H' := Aside0.mk H
            clear H
            obtain ⟨hcz32_0, hcz32_1, hcz32_2, hfz32_0, hfz32_1, hfz32_2⟩ := pC3 BK221
            have p28 : 0 ≤ (x8_2 : Int) := of_decide_eq_true (by first | (with_reducible assumption) | assumption)
            have q28 : x8_2 < (t222.size : Int) := of_decide_eq_true (by first | (with_reducible assumption) | assumption)
            have hx28 := bt_at t222 x8_2
            replace p28 := eq_true p28
            replace q28 := eq_true q28
            go_wp2_with (first | ((with_reducible refine gate_callee (f := 39) rfl ?_); refine goesA (some 34) Tryz.func39 #[.int .i64 (wrap64 (bt t222 x8_2))] ?_; (with_reducible refine (strconv_Itoa.calls (wrap64 (bt t222 x8_2)) t226 _ ?side1 A29.out).mono ?_); (case side1 => exact Laid.below HLD.out (pE HB)); rintro e w33 ⟨rfl, hb⟩; refine ⟨_, rfl, ?_⟩; replace BK221 := (pB BK221 hb); replace HB := (pS HB hb); (try clear hb)))
            go_roundg k2
            case measure => have := HJ3.out; have := HK2.out; omega
            case rel => exact ⟨(x6_2 ++ (t226 ++ (⟨#[46]⟩ : ByteArray))), (wrap64 (x8_2 - 1)), pT, pT, H', ⟨by have := HJ3.out; have := HK2.out; omega⟩, ⟨pM BK221⟩, ⟨pE HB⟩⟩
           ·
            rw [if_neg c31] at H
            exact absurd H (by simp)
          ·
           rw [if_neg c30] at H
           exact absurd H (by simp)
         ·
          rw [if_neg c27] at H
          exact absurd H (by simp)
        ·
         rw [if_neg c26] at H
         exact absurd H (by simp)
      ·
       rw [if_neg c10] at H
       have c10b0 := decide_eq_false c10
       clear c10
       by_cases c34 : x6_2.size + x7_3.size ≤ 9223372036854775807
       ·
        rw [if_pos c34] at H
        have c34b0 := eq_true c34
        have c34b1 := decide_eq_true c34
        try have c34b2 : (9223372036854775807 < x6_2.size + x7_3.size) = False := eq_false (Nat.not_lt.2 c34)
        simp only [Option.some.injEq, Prod.mk.injEq] at H
        obtain ⟨rfl, rfl⟩ := H
        go_wp2
        go_ret2
        exact pR (pE HB)
       ·
        rw [if_neg c34] at H
        exact absurd H (by simp)
 ·
  rw [if_neg c3] at H
  have c3b0 : (t223 == 0) = false := beq_eq_false_iff_ne.mpr c3
  have c3b1 : (t223 != 0) = true := bne_iff_ne.mpr c3
  simp only [Option.some.injEq, Prod.mk.injEq] at H
  obtain ⟨rfl, rfl⟩ := H
  go_enter Tryz.func47, Tryz.ntmps47
  go_wp2_with (first | ((with_reducible refine gate_dst (N := 1) rfl ?_); refine boxA (N := 1) (cs := #[.bool a0_0, .int .u64 a0_1, .int .u64 a0_2]) (t := 24) ?_; intro gb221 hg w35 hbox hb; have BK221 := Aside0.mk (hbox); have GW221 := (pZ HB hg); have GE221 := (pZ HB hg); replace HB := (pS HB hb); clear hb hbox hg; obtain ⟨hcz36_0, hcz36_1, hcz36_2, hfz36_0, hfz36_1, hfz36_2⟩ := pC3 BK221) | ((with_reducible refine gate_callee (f := 69) rfl ?_); refine goesA (some 11) Tryz.func69 #[.agg #[.bool a0_0, .int .u64 a0_1, .int .u64 a0_2]] ?_; (with_reducible refine (addr_Wire.calls k a0_0 a0_1 a0_2 t222 t223 _ A2.out).mono ?_); rintro e w37 ⟨rfl, hb⟩; refine ⟨_, rfl, ?_⟩; replace BK221 := (pB BK221 hb); replace HB := (pS HB hb); (try clear hb)))
  go_ret2
  exact pR (pE HB)
end Go.Proofs.YteflcmmandlknaaGreatDoor.PA
