/- The Go functions in Lean, with the proofs that the code comes to these answers: printed by this session's program (wip/px) out of the seat's translation. Conditions: each theorem's own. -/
import Derived.Test.YtaehonmfoanloaaDoorPAx0
import Derived.Test.YtaehonmfoanloaaDoorPAx1
namespace Go.Proofs.YtaehonmfoanloaaDoor.PA
open Go.RowKit Go.Proofs.YtaehonmfoanloaaDoorW.PrintWords Go.Proofs.YtaehonmfoanloaaDoorW.PrintLast Go.Proofs.YtaehonmfoanloaaDoorW.PrintMore
attribute [local go_sem] max2_int min2_int max_two min_two max_three min_three max_four min_four   -- for this text's walks alone
attribute [local go_sem ↓] Ext.isSome_setCell
open Press
set_option linter.unusedVariables false
set_option linter.unusedSimpArgs false

/-! ### addr_bytes: function 60 -/
def addr_bytes.l0 : Nat → Int → List Int → Int → Int → Option (List Int)
 | 0, _, _, _, _ => none
 | k + 1, x0, x3, x7, x8 => if x8 < x7 then (if 0 ≤ (wrap64 (56 - (wrap64 (8 * x8)))) then (if 0 ≤ x8 then (if x8 < (x3.length : Int) then (addr_bytes.l0 k x0 (x3.set (x8 : Int).toNat ((shr .u64 x0 (wrap64 (56 - (wrap64 (8 * x8))))) % 256)) x7 (wrap64 (x8 + 1))) else (none)) else (none)) else (none)) else (some x3)
def addr_bytes.f (k : Nat) (a0 : Int) : Option (List Int) := if 8 ≤ 281474976710656 then ((some (List.replicate 8 0 : List Int)).bind fun y142 => (addr_bytes.l0 k a0 y142 (y142.length : Int) 0)) else (none)
theorem addr_bytes.mono_l : ∀ k, (∀ y0 y1 y2 y3, LeO (addr_bytes.l0 k y0 y1 y2 y3) (addr_bytes.l0 (k + 1) y0 y1 y2 y3))
 | 0 => fun _ _ _ _ r h => by simp [addr_bytes.l0] at h
 | k + 1 => by
  have ih0 := addr_bytes.mono_l k
  ·
   intro y0 y1 y2 y3
   unfold addr_bytes.l0
   repeat' with_reducible first | exact ih0 _ _ _ _ | exact LeO.refl _ | exact LeO.none _ | refine LeO.ite ?_ ?_ | refine LeO.bind ?_ (fun _ => ?_)
theorem addr_bytes.mono : ∀ a0 k, LeO (addr_bytes.f k a0) (addr_bytes.f (k + 1) a0) := by
 intro a0 k
 have ih0 := addr_bytes.mono_l k
 unfold addr_bytes.f
 repeat' with_reducible first | exact ih0 _ _ _ _ | exact LeO.refl _ | exact LeO.none _ | refine LeO.ite ?_ ?_ | refine LeO.bind ?_ (fun _ => ?_)
set_option maxHeartbeats 40000000 in
set_option maxRecDepth 100000 in
theorem addr_bytes.calls (k : Nat) (a0 : Int) (r : List Int) (w : World) (h : addr_bytes.f k a0 = some r) :
 Calls Tryd.prog 60 #[.int .u64 a0] w fun e w' => ∃ v0_ : Value, e = .returned (v0_) ∧ Kd.R (Kd.int .u8) 5 w' w.heap.size (fun _ => True) v0_ r ∧ Below w.heap.size w w' := by
 have HB := Aside0.mk (Below.refl w.heap.size w)
 have H : (if 8 ≤ 281474976710656 then ((some (List.replicate 8 0 : List Int)).bind fun y142 => (addr_bytes.l0 k a0 y142 (y142.length : Int) 0)) else (none)) = some r := h
 clear h
 by_cases c2 : 8 ≤ 281474976710656
 ·
  rw [if_pos c2] at H
  have c2b0 := eq_true c2
  have c2b1 := decide_eq_true c2
  clear c2
  obtain ⟨y142, hy142⟩ : ∃ y_ : List Int, y_ = (List.replicate 8 0) := ⟨_, rfl⟩
  replace H : (addr_bytes.l0 k a0 y142 (y142.length : Int) 0) = some r := by first | (rw [hy142]; with_reducible exact H) | (have H2_ := (Option.bind_some _ _).symm.trans H; rw [hy142]; with_reducible exact H2_) | (have H2_ := (Option.bind_some _ _).symm.trans H; with_reducible exact H2_) | with_reducible exact H | (rw [hy142]; exact H) | exact H
  have Ny142 := Aside0.mk hy142
  clear hy142
  have H' := Aside0.mk H
  clear H
  go_enter Tryd.func60, Tryd.ntmps60
  go_wp2_with (first | ((with_reducible refine gate_dst (N := 5) rfl ?_); refine Kd.R_make (Kd.int .u8) _ 5 rfl (N := 5) rfl 55 _ _ rfl 8 rfl rfl Tryd.underlying55 (.int .u8 0) 1 info5 rfl (by decide) (by omega) 0 (ok := fun _ => True) (okp := fun _ => True) rfl (fun _ hk => hk) trivial (by omega) (by omega) (Below.refl _ _) (Nat.le_refl _) ?_; intro v143 w3 ho4 hb hg_ hnew_; clear hg_ hnew_; (first | rw [← Ny142.out] at ho4 | (simp only [Int.reduceToNat] at ho4; rw [← Ny142.out] at ho4)); have HO144 := Aside0.mk (Kd.R_lower ho4 (below_size (by repeat (first | (with_reducible first | exact HB.out | apply below_alloc | apply pw_below_drewN | apply below_drew1) | exact HB.out)))); replace HB := (pS HB hb); clear hb ho4; obtain ⟨Ao5, co5, eo5⟩ := Kd.R_slice HO144.out; subst eo5))
  go_loopg [8] k (fun kq v8 w' => ∃ (x3_1 : List Int) (x8_1 : Int), v8 = .int .i64 x8_1 ∧ Aside0 (addr_bytes.l0 kq a0 x3_1 (y142.length : Int) x8_1 = some r) ∧ Aside0 (kq ≤ k) ∧ Aside0 (Kd.R (Kd.int .u8) 5 w' w.heap.size (fun _ => True) (.slice Ao5 y142.length co5) x3_1) ∧ Aside0 (Below w.heap.size w w'))
  case atStart => exact ⟨(y142), (0), pT, H', ⟨Nat.le_refl _⟩, ⟨by (with_reducible repeat (first | apply Kd.R_alloc | apply Kd.R_drewN | apply Kd.R_drew)); exact HO144.out⟩, ⟨pE HB⟩⟩
  case round =>
   clear H'
   try clear c2
   try clear c2b0
   try clear c2b1
   obtain ⟨x3_1, x8_1, rfl, HA, HK1, HO_3, HB⟩ := hrel
   have hl3_1 := (Kd.R_reads' HO_3.out).1
   rw [hl3_1] at HO_3
   (try simp only [hl3_1])
   cases gk with
   | zero => exact absurd HA.out (by simp [addr_bytes.l0])
   | succ k1 =>
    have H := HA.out
    clear HA
    simp only [addr_bytes.l0] at H
    by_cases c6 : x8_1 < (y142.length : Int)
    ·
     rw [if_pos c6] at H
     have c6b0 := decide_eq_true c6
     have c6b0_hl3_1 := c6b0
     (try rw [hl3_1] at c6b0_hl3_1)
     clear c6
     obtain ⟨ji7, hji7⟩ : ∃ j_ : Int, (wrap64 (56 - (wrap64 (8 * x8_1)))) = j_ := ⟨_, rfl⟩
     replace H : (if 0 ≤ (ji7) then (if 0 ≤ x8_1 then (if x8_1 < (x3_1.length : Int) then (addr_bytes.l0 k1 a0 (x3_1.set (x8_1 : Int).toNat ((shr .u64 a0 (ji7)) % 256)) (y142.length : Int) (wrap64 (x8_1 + 1))) else (none)) else (none)) else (none)) = some r := by first | (rw [hji7] at H; exact H) | (simp only [hji7] at H ⊢; exact H)
     have hji7w : (IntKind.i64.wrap (56 - (wrap64 (8 * x8_1)))) = ji7 := (i64_w _).trans hji7
     by_cases c8 : 0 ≤ (ji7)
     ·
      rw [if_pos c8] at H
      have c8b0 := eq_true c8
      have c8b1 := decide_eq_true c8
      clear c8
      obtain ⟨ji9, hji9⟩ : ∃ j_ : Int, (shr .u64 a0 (ji7)) = j_ := ⟨_, rfl⟩
      (try rw [hji9] at hji7)
      replace H : (if 0 ≤ x8_1 then (if x8_1 < (x3_1.length : Int) then (addr_bytes.l0 k1 a0 (x3_1.set (x8_1 : Int).toNat ((ji9) % 256)) (y142.length : Int) (wrap64 (x8_1 + 1))) else (none)) else (none)) = some r := by first | (rw [hji9] at H; exact H) | (simp only [hji9] at H ⊢; exact H)
      have hji9_ : (a0 / 2 ^ min (ji7).toNat 64) = ji9 := hji9
      have hji9z : (ji7) ≤ 64 → (a0 / 2 ^ (ji7).toNat) = ji9 := shr_small hji9
      by_cases c10 : 0 ≤ x8_1
      ·
       rw [if_pos c10] at H
       have c10b0 := decide_eq_true c10
       clear c10
       by_cases c11 : x8_1 < (x3_1.length : Int)
       ·
        rw [if_pos c11] at H
        have c11b0 := decide_eq_true c11
        have c11b0_hl3_1 := c11b0
        (try rw [hl3_1] at c11b0_hl3_1)
        clear c11
        obtain ⟨y145, hy145⟩ : ∃ y_ : List Int, y_ = (x3_1.set (x8_1 : Int).toNat ((ji9) % 256)) := ⟨_, rfl⟩
        replace H : (addr_bytes.l0 k1 a0 y145 (y142.length : Int) (wrap64 (x8_1 + 1))) = some r := by first | (rw [hy145]; with_reducible exact H) | (have H2_ := (Option.bind_some _ _).symm.trans H; rw [hy145]; with_reducible exact H2_) | (have H2_ := (Option.bind_some _ _).symm.trans H; with_reducible exact H2_) | with_reducible exact H | (rw [hy145]; exact H) | exact H
        have Ny145 := Aside0.mk hy145
        clear hy145
        have H' := Aside0.mk H
        clear H
        have p12 : 0 ≤ (x8_1 : Int) := oD
        have q12 : (x8_1 : Int) < ((x3_1.length : Int) : Int) := oD
        obtain ⟨go12, co12, eo12, gb12, gl12, cl12, HG12⟩ := Kd.R_form HO_3.out (by omega)
        (first | cases eo12 | (injection eo12 with ea_ en_ ec_; (first | subst ea_ | (injection ea_ with ea_; subst ea_)); subst ec_; clear en_))
        have GB12 := Aside0.mk gb12
        have GG12 := Aside0.mk HG12
        clear gb12 gl12 HG12
        obtain ⟨hx12_0, hf12_0⟩ := Kd.R_celln 0 HO_3.out (x8_1 : Int) p12 q12
        replace p12 := eq_true p12
        replace q12 := eq_true q12
        have HP13 := Kd.R_putg HO_3.out (x8_1 : Int) ((ji9) % 256)
        go_wp2_with (first | ((with_reducible refine gate_store (t := 5) (p := 19) rfl ?_); refine store_event (t := 5) (p := 19) (v := ?vo_w14) (w1 := (wr.setCell ⟨go12, (x8_1 : Int).toNat, none⟩ (.int .u8 ((ji9) % 256)))) ?hg ?ho ?hn ?hr ?_; (case ho => rfl); (case hg => rfl); (case hn => rfl); (case hr => first | (go_simp; done) | (go_simp; rfl)); intro w14 hw; have hg : wr.grownBy w14 (some go12) := (by rw [hw]; exact HP13.2); have hp_ : Kd.R (Kd.int .u8) 5 w14 w.heap.size (fun _ => True) (.slice (some ⟨go12, 0, none⟩) x3_1.length co5) y145 := (by rw [hw, Ny145.out]; exact HP13.1); clear HP13; replace HO_3 := Aside0.mk (hp_); replace HB := Aside0.mk ((by rw [hw]; exact below_set (HB.out) GB12.out : Below w.heap.size w w14)); clear hg hw hp_))
        (try simp only [← hl3_1])
        go_roundg k1
        case measure => have := HK1.out; omega
        case rel => exact ⟨(y145), (wrap64 (x8_1 + 1)), pT, (by first | exact H' | (simp only [hji7, hji9]; exact H') | (simp only [hji7, hji9] at H' ⊢; exact H')), ⟨by have := HK1.out; omega⟩, ⟨by (try simp only [hl3_1]); (with_reducible repeat (first | apply Kd.R_alloc | apply Kd.R_drewN | apply Kd.R_drew)); exact HO_3.out⟩, ⟨pE HB⟩⟩
       ·
        rw [if_neg c11] at H
        exact absurd H (by simp)
      ·
       rw [if_neg c10] at H
       exact absurd H (by simp)
     ·
      rw [if_neg c8] at H
      exact absurd H (by simp)
    ·
     rw [if_neg c6] at H
     have c6b0 := decide_eq_false c6
     have c6b0_hl3_1 := c6b0
     (try rw [hl3_1] at c6b0_hl3_1)
     clear c6
     obtain rfl := Option.some.inj H
     go_wp2
     go_ret
     exact ⟨_, by first | rfl | (simp [errW_none, errW_some] <;> rfl) | (simp [*, errW_none, errW_some] <;> rfl), by (with_reducible repeat (first | apply Kd.R_alloc | apply Kd.R_drewN | apply Kd.R_drew)); exact HO_3.out, by repeat (first | (with_reducible first | exact HB.out | apply below_alloc | apply pw_below_drewN | apply below_drew1) | exact HB.out)⟩
 ·
  rw [if_neg c2] at H
  exact absurd H (by simp)

/-! ### addr_Wire: function 40 -/
def addr_Wire.f (k : Nat) (a0_0 : Bool) (a0_1 : Int) (a0_2 : Int) : Option (ByteArray × Int) := (addr_Valid.f a0_0 a0_1 a0_2).bind fun t147 => (if t147 = true then (if a0_0 = true then ((addr_bytes.f k a0_1).bind fun t148 => ((addr_bytes.f k a0_2).bind fun t151 => (if (strOfNums t148).size + (strOfNums t151).size ≤ 9223372036854775807 then (some ((strOfNums t148) ++ (strOfNums t151), 0)) else (none)))) else ((addr_bytes.f k a0_2).bind fun t154 => (if 4 ≤ (t154.length : Int) then (some (strOfNums (t154.drop 4), 0)) else (none)))) else (some ((⟨#[]⟩ : ByteArray), 3)))
theorem addr_Wire.mono : ∀ a0 a1 a2 k, LeO (addr_Wire.f k a0 a1 a2) (addr_Wire.f (k + 1) a0 a1 a2) := by
 intro a0 a1 a2 k
 unfold addr_Wire.f
 repeat' with_reducible first | exact addr_bytes.mono _ _ | exact LeO.refl _ | exact LeO.none _ | refine LeO.ite ?_ ?_ | refine LeO.bind ?_ (fun _ => ?_)
def addr_Wire.T5 : Bool × List (List Nat × List Nat) := (true, [([], []), ([0], [0]), ([1], [1]), ([2], [2]), ([], []), ([4], [4]), ([5, 2], [5]), ([6], [6]), ([3, 7], [3, 7]), ([8, 6, 0, 1, 2, 3, 4, 5, 6, 7, 8], [8]), ([9, 0, 1, 2, 3, 4, 5, 6, 7, 8, 9], [])])
def addr_Wire.B5 : List Nat := [0, 1, 3, 7, 0, 16, 55, 119, 255, 511, 1023]
theorem addr_Wire.tab5 : rtab .any (opsOf Tryd.f40 5) = addr_Wire.T5 := by kernel_rfl
theorem addr_Wire.bits5 : waitsOk addr_Wire.T5.2 addr_Wire.B5 = true := by kernel_rfl
set_option maxHeartbeats 40000000 in
set_option maxRecDepth 100000 in
theorem addr_Wire.calls (k : Nat) (a0_0 : Bool) (a0_1 : Int) (a0_2 : Int) (r1 : ByteArray) (r2 : Int) (w : World) (h : addr_Wire.f k a0_0 a0_1 a0_2 = some (r1, r2)) :
 Calls Tryd.prog 40 #[.agg #[.bool a0_0, .int .u64 a0_1, .int .u64 a0_2]] w fun e w' => e = .returned (.tuple #[.string r1, .int .i64 r2]) ∧ Below w.heap.size w w' := by
 have hu24 := Tryd.underlying24
 have HB := Aside0.mk (Below.refl w.heap.size w)
 have H : ((addr_Valid.f a0_0 a0_1 a0_2).bind fun t147 => (if t147 = true then (if a0_0 = true then ((addr_bytes.f k a0_1).bind fun t148 => ((addr_bytes.f k a0_2).bind fun t151 => (if (strOfNums t148).size + (strOfNums t151).size ≤ 9223372036854775807 then (some ((strOfNums t148) ++ (strOfNums t151), 0)) else (none)))) else ((addr_bytes.f k a0_2).bind fun t154 => (if 4 ≤ (t154.length : Int) then (some (strOfNums (t154.drop 4), 0)) else (none)))) else (some ((⟨#[]⟩ : ByteArray), 3)))) = some (r1, r2) := h
 clear h
 replace H := Option.bind_eq_some_iff.mp H
 obtain ⟨t147, A20, H⟩ := H
 have A2 := Aside0.mk A20
 clear A20
 by_cases c3 : t147 = true
 ·
  subst c3
  have H1 : (if a0_0 = true then ((addr_bytes.f k a0_1).bind fun t148 => ((addr_bytes.f k a0_2).bind fun t151 => (if (strOfNums t148).size + (strOfNums t151).size ≤ 9223372036854775807 then (some ((strOfNums t148) ++ (strOfNums t151), 0)) else (none)))) else ((addr_bytes.f k a0_2).bind fun t154 => (if 4 ≤ (t154.length : Int) then (some (strOfNums (t154.drop 4), 0)) else (none)))) = some (r1, r2) := by rw [if_pos rfl] at H; exact H
  clear H
  have H := H1
  clear H1
  by_cases c4 : a0_0 = true
  ·
   subst c4
   have H1 : ((addr_bytes.f k a0_1).bind fun t148 => ((addr_bytes.f k a0_2).bind fun t151 => (if (strOfNums t148).size + (strOfNums t151).size ≤ 9223372036854775807 then (some ((strOfNums t148) ++ (strOfNums t151), 0)) else (none)))) = some (r1, r2) := by rw [if_pos rfl] at H; exact H
   clear H
   have H := H1
   clear H1
   replace H := Option.bind_eq_some_iff.mp H
   obtain ⟨t148, A50, H⟩ := H
   have A5 := Aside0.mk A50
   clear A50
   replace H := Option.bind_eq_some_iff.mp H
   obtain ⟨t151, A60, H⟩ := H
   have A6 := Aside0.mk A60
   clear A60
   by_cases c7 : (strOfNums t148).size + (strOfNums t151).size ≤ 9223372036854775807
   ·
    rw [if_pos c7] at H
    have c7b0 := eq_true c7
    have c7b1 := decide_eq_true c7
    try have c7b2 : (9223372036854775807 < (strOfNums t148).size + (strOfNums t151).size) = False := eq_false (Nat.not_lt.2 c7)
    simp only [Option.some.injEq, Prod.mk.injEq] at H
    obtain ⟨rfl, rfl⟩ := H
    go_enter Tryd.func40, Tryd.ntmps40
    try go_wp2_with (first | ((with_reducible refine gate_dst (N := 1) rfl ?_); refine boxA (N := 1) (cs := #[.bool true, .int .u64 a0_1, .int .u64 a0_2]) (t := 24) ?_; intro gb146 hg w8 hbox hb; have BK146 := Aside0.mk (hbox); have GE146 := (pZ HB hg); replace HB := (pS HB hb); clear hb hbox hg; obtain ⟨hcz9_0, hcz9_1, hcz9_2, hfz9_0, hfz9_1, hfz9_2⟩ := pC3 BK146) | ((with_reducible refine gate_callee (f := 22) rfl ?_); refine goesA (some 6) Tryd.func22 #[.agg #[.bool true, .int .u64 a0_1, .int .u64 a0_2]] ?_; (with_reducible refine (addr_Valid.calls true a0_1 a0_2 true _ A2.out).mono ?_); rintro e w10 ⟨rfl, hb⟩; refine ⟨_, rfl, ?_⟩; replace BK146 := (pB BK146 hb); replace HB := (pS HB hb); (try clear hb); (try clear hk); obtain ⟨hcz11_0, hcz11_1, hcz11_2, hfz11_0, hfz11_1, hfz11_2⟩ := pC3 BK146))
    replace BK146 := Aside0.mk (blk_drew BK146.out)
    replace HB := Aside0.mk (below_drew1 HB.out)
    refine start_ (n := 11) (S := fun w' => w'.cell? ⟨gb146, 0, none⟩ = some (.bool true) ∧ w'.cell? ⟨gb146, 1, none⟩ = some (.int .u64 a0_1) ∧ w'.cell? ⟨gb146, 2, none⟩ = some (.int .u64 a0_2)) (ds := []) (tk 11 0) (by kernel_rfl) rfl rfl ⟨bC BK146 0, bC BK146 1, bC BK146 2⟩ (fun hHeld => ?_); refine with_tabW addr_Wire.tab5 addr_Wire.bits5 (fun HT_ HW_ => ?_)
    generalize w10.drew = w12 at BK146 HB hHeld ⊢
    refine pureA (i := 0) (some 17) HT_ (tk 11 1) ?_
    refine pureA (i := 4) (some 21) HT_ (tr [1, 3, 1, 6]) ?_
    refine takeA (i := 1) (some 18) HT_ HW_ (tr [2, 2, 1, 6]) hHeld ?_
    refine takeA (i := 5) (some 22) HT_ HW_ (tr [2, 2, 2, 5]) hHeld ?_
    refine one_ (i := 2) (N := some 19) (tr [3, 1, 2, 5]) rfl rfl (one_of HT_.out (by kernel_rfl)) (by decide) (fun K hK => ?_)
    refine goesR Tryd.func60 #[.int .u64 a0_1] ?_
    with_reducible refine (addr_bytes.calls k a0_1 t148 _ A5.out).mono ?_
    rintro e w13 ⟨v149, rfl, ho0, hb⟩
    refine ⟨_, rfl, ?_⟩
    have HO150 := Aside0.mk (Kd.R_lower ho0 (below_size (by repeat (first | (with_reducible first | exact HB.out | apply below_alloc | apply pw_below_drewN | apply below_drew1 | refine below_set ?_ GE146.out) | exact HB.out))))
    replace BK146 := (pB BK146 hb)
    replace HB := (pS HB hb)
    (try clear hb)
    (try clear hk)
    (try clear ho0)
    refine hK.out _ _ ⟨bC BK146 0, bC BK146 1, bC BK146 2⟩ (fun hHeld => ?_)
    clear hK K
    refine normA (N := some 19) ?_
    refine join_ (σ := Value) 3 (tk 11 8) (fun s_ => [(20, .string (strOfNums t148)), (23, s_), (24, .string (strOfNums t151))]) (fun s_ w' => (w'.cell? ⟨gb146, 0, none⟩ = some (.bool true) ∧ w'.cell? ⟨gb146, 1, none⟩ = some (.int .u64 a0_1) ∧ w'.cell? ⟨gb146, 2, none⟩ = some (.int .u64 a0_2)) ∧ (Kd.R (Kd.int .u8) 5 w' w.heap.size (fun k_ => some k_ ≠ (s_ : Value).ownBlock) v149 t148) ∧ (Kd.R (Kd.int .u8) 5 w' w.heap.size (fun k_ => some k_ ≠ (v149 : Value).ownBlock) s_ t151) ∧ (w'.heap[gb146]? = some (.cells #[.bool true, .int .u64 a0_1, .int .u64 a0_2] 24 (0, 0))) ∧ (Below w.heap.size w w')) ?_ ?_
    rotate_left
    ·
     intro hCont
     refine two_ (i := 3) (j := 6) (Ni := some 20) (Nj := some 23) (tk 11 6) (tr [3, 1, 3, 4]) rfl rfl rfl rfl (two_of HT_.out (by kernel_rfl)) (by decide) (by decide) (fun K hK => ?_) (fun K hK => ?_)
     ·
      skip
      have hcv14 := own_string (P := Tryd.prog) Tryd.underlying55 Tryd.underlying5 Tryd.underlying9 (Kd.own_of_R HO150.out)
      refine value_ (w1 := ?_) (v := ?_) (by rfl) rfl ?_ ?_
      rotate_left 2
      ·
       go_simp
       constructor
       ·
        rfl
       ·
        rfl
      clear hcv14
      refine hK.out _ _ ⟨bC BK146 0, bC BK146 1, bC BK146 2⟩ (fun hHeld => ?_)
      clear hK K
      refine normA (N := some 20) ?_
      refine one_ (i := 6) (N := some 23) (tk 11 7) rfl rfl (one_of HT_.out (by kernel_rfl)) (by decide) (fun K hK => ?_)
      refine goesR Tryd.func60 #[.int .u64 a0_2] ?_
      with_reducible refine (addr_bytes.calls k a0_2 t151 _ A6.out).mono ?_
      rintro e w15 ⟨v152, rfl, ho0, hb⟩
      refine ⟨_, rfl, ?_⟩
      have HO153 := Aside0.mk (Kd.R_lower (Kd.R_new' ho0 (Kd.R_lt (by (with_reducible repeat (first | apply Kd.R_alloc | apply Kd.R_drewN | apply Kd.R_drew)); exact HO150.out))) (below_size (by repeat (first | (with_reducible first | exact HB.out | apply below_alloc | apply pw_below_drewN | apply below_drew1 | refine below_set ?_ GE146.out) | exact HB.out))))
      replace HO150 := Aside0.mk (Kd.R_elder' (by (with_reducible repeat (first | apply Kd.R_alloc | apply Kd.R_drewN | apply Kd.R_drew)); exact HO150.out) (Kd.R_base ho0) hb)
      replace BK146 := (pB BK146 hb)
      replace HB := (pS HB hb)
      (try clear hb)
      (try clear hk)
      (try clear ho0)
      refine hK.out _ _ ⟨bC BK146 0, bC BK146 1, bC BK146 2⟩ (fun hHeld => ?_)
      clear hK K
      refine normA (N := some 23) ?_
      refine one_ (i := 7) (N := some 24) (tk 11 8) rfl rfl (one_of HT_.out (by kernel_rfl)) (by decide) (fun K hK => ?_)
      have hcv16 := own_string (P := Tryd.prog) Tryd.underlying55 Tryd.underlying5 Tryd.underlying9 (Kd.own_of_R HO153.out)
      refine value_ (w1 := ?_) (v := ?_) (by rfl) rfl ?_ ?_
      rotate_left 2
      ·
       go_simp
       constructor
       ·
        rfl
       ·
        rfl
      clear hcv16
      refine hK.out _ _ ⟨bC BK146 0, bC BK146 1, bC BK146 2⟩ (fun hHeld => ?_)
      clear hK K
      refine normA (N := some 24) ?_
      exact norm_ (by simp only [putAll, Act.put, List.setIfInBounds_toArray, List.set_cons_zero, List.set_cons_succ]) (hCont (v152) _ ⟨hHeld, (by (with_reducible repeat (first | apply Kd.R_alloc | apply Kd.R_drewN | apply Kd.R_drew)); exact Kd.R_mono HO150.out (fun _ hk => hk.2)), (by (with_reducible repeat (first | apply Kd.R_alloc | apply Kd.R_drewN | apply Kd.R_drew)); exact Kd.R_mono HO153.out (fun _ hk => hk.2)), (pM BK146), (by repeat (first | (with_reducible first | exact HB.out | apply below_alloc | apply pw_below_drewN | apply below_drew1 | refine below_set ?_ GE146.out) | exact HB.out))⟩)
     ·
      skip
      refine goesR Tryd.func60 #[.int .u64 a0_2] ?_
      with_reducible refine (addr_bytes.calls k a0_2 t151 _ A6.out).mono ?_
      rintro e w14 ⟨v152, rfl, ho0, hb⟩
      refine ⟨_, rfl, ?_⟩
      have HO153 := Aside0.mk (Kd.R_lower (Kd.R_new' ho0 (Kd.R_lt (by (with_reducible repeat (first | apply Kd.R_alloc | apply Kd.R_drewN | apply Kd.R_drew)); exact HO150.out))) (below_size (by repeat (first | (with_reducible first | exact HB.out | apply below_alloc | apply pw_below_drewN | apply below_drew1 | refine below_set ?_ GE146.out) | exact HB.out))))
      replace HO150 := Aside0.mk (Kd.R_elder' (by (with_reducible repeat (first | apply Kd.R_alloc | apply Kd.R_drewN | apply Kd.R_drew)); exact HO150.out) (Kd.R_base ho0) hb)
      replace BK146 := (pB BK146 hb)
      replace HB := (pS HB hb)
      (try clear hb)
      (try clear hk)
      (try clear ho0)
      refine hK.out _ _ ⟨bC BK146 0, bC BK146 1, bC BK146 2⟩ (fun hHeld => ?_)
      clear hK K
      refine normA (N := some 23) ?_
      refine two_ (i := 3) (j := 7) (Ni := some 20) (Nj := some 24) (tk 11 7) (tr [3, 1, 4, 3]) rfl rfl rfl rfl (two_of HT_.out (by kernel_rfl)) (by decide) (by decide) (fun K hK => ?_) (fun K hK => ?_)
      ·
       skip
       have hcv15 := own_string (P := Tryd.prog) Tryd.underlying55 Tryd.underlying5 Tryd.underlying9 (Kd.own_of_R HO150.out)
       refine value_ (w1 := ?_) (v := ?_) (by rfl) rfl ?_ ?_
       rotate_left 2
       ·
        go_simp
        constructor
        ·
         rfl
        ·
         rfl
       clear hcv15
       refine hK.out _ _ ⟨bC BK146 0, bC BK146 1, bC BK146 2⟩ (fun hHeld => ?_)
       clear hK K
       refine normA (N := some 20) ?_
       refine one_ (i := 7) (N := some 24) (tk 11 8) rfl rfl (one_of HT_.out (by kernel_rfl)) (by decide) (fun K hK => ?_)
       have hcv16 := own_string (P := Tryd.prog) Tryd.underlying55 Tryd.underlying5 Tryd.underlying9 (Kd.own_of_R HO153.out)
       refine value_ (w1 := ?_) (v := ?_) (by rfl) rfl ?_ ?_
       rotate_left 2
       ·
        go_simp
        constructor
        ·
         rfl
        ·
         rfl
       clear hcv16
       refine hK.out _ _ ⟨bC BK146 0, bC BK146 1, bC BK146 2⟩ (fun hHeld => ?_)
       clear hK K
       refine normA (N := some 24) ?_
       exact norm_ (by simp only [putAll, Act.put, List.setIfInBounds_toArray, List.set_cons_zero, List.set_cons_succ]) (hCont (v152) _ ⟨hHeld, (by (with_reducible repeat (first | apply Kd.R_alloc | apply Kd.R_drewN | apply Kd.R_drew)); exact Kd.R_mono HO150.out (fun _ hk => hk.2)), (by (with_reducible repeat (first | apply Kd.R_alloc | apply Kd.R_drewN | apply Kd.R_drew)); exact Kd.R_mono HO153.out (fun _ hk => hk.2)), (pM BK146), (by repeat (first | (with_reducible first | exact HB.out | apply below_alloc | apply pw_below_drewN | apply below_drew1 | refine below_set ?_ GE146.out) | exact HB.out))⟩)
      ·
       skip
       have hcv15 := own_string (P := Tryd.prog) Tryd.underlying55 Tryd.underlying5 Tryd.underlying9 (Kd.own_of_R HO153.out)
       refine value_ (w1 := ?_) (v := ?_) (by rfl) rfl ?_ ?_
       rotate_left 2
       ·
        go_simp
        constructor
        ·
         rfl
        ·
         rfl
       clear hcv15
       refine hK.out _ _ ⟨bC BK146 0, bC BK146 1, bC BK146 2⟩ (fun hHeld => ?_)
       clear hK K
       refine normA (N := some 24) ?_
       refine one_ (i := 3) (N := some 20) (tk 11 8) rfl rfl (one_of HT_.out (by kernel_rfl)) (by decide) (fun K hK => ?_)
       have hcv16 := own_string (P := Tryd.prog) Tryd.underlying55 Tryd.underlying5 Tryd.underlying9 (Kd.own_of_R HO150.out)
       refine value_ (w1 := ?_) (v := ?_) (by rfl) rfl ?_ ?_
       rotate_left 2
       ·
        go_simp
        constructor
        ·
         rfl
        ·
         rfl
       clear hcv16
       refine hK.out _ _ ⟨bC BK146 0, bC BK146 1, bC BK146 2⟩ (fun hHeld => ?_)
       clear hK K
       refine normA (N := some 20) ?_
       exact norm_ (by simp only [putAll, Act.put, List.setIfInBounds_toArray, List.set_cons_zero, List.set_cons_succ]) (hCont (v152) _ ⟨hHeld, (by (with_reducible repeat (first | apply Kd.R_alloc | apply Kd.R_drewN | apply Kd.R_drew)); exact Kd.R_mono HO150.out (fun _ hk => hk.2)), (by (with_reducible repeat (first | apply Kd.R_alloc | apply Kd.R_drewN | apply Kd.R_drew)); exact Kd.R_mono HO153.out (fun _ hk => hk.2)), (pM BK146), (by repeat (first | (with_reducible first | exact HB.out | apply below_alloc | apply pw_below_drewN | apply below_drew1 | refine below_set ?_ GE146.out) | exact HB.out))⟩)
    rintro v152 w17 ⟨hS_, h0_, h1_, h2_, h3_⟩
    have HO150 : Aside0 (Kd.R (Kd.int .u8) 5 w17 w.heap.size (fun k_ => some k_ ≠ (v152 : Value).ownBlock) v149 t148) := ⟨h0_⟩
    have HO153 : Aside0 (Kd.R (Kd.int .u8) 5 w17 w.heap.size (fun k_ => some k_ ≠ (v149 : Value).ownBlock) v152 t151) := ⟨h1_⟩
    replace BK146 : Aside0 (w17.heap[gb146]? = some (.cells #[.bool true, .int .u64 a0_1, .int .u64 a0_2] 24 (0, 0))) := ⟨h2_⟩
    replace HB : Aside0 (Below w.heap.size w w17) := ⟨h3_⟩
    clear h0_ h1_ h2_ h3_
    have hHeld : w17.cell? ⟨gb146, 0, none⟩ = some (.bool true) ∧ w17.cell? ⟨gb146, 1, none⟩ = some (.int .u64 a0_1) ∧ w17.cell? ⟨gb146, 2, none⟩ = some (.int .u64 a0_2) := hS_
    refine norm_ (a' := ?_) ?_ ?_
    rotate_left
    ·
     simp only [putAll, Act.put, List.setIfInBounds_toArray, List.set_cons_zero, List.set_cons_succ]
     rfl
    refine pureA (i := 8) (some 25) HT_ (tk 11 9) ?_
    refine pureA (i := 9) (some 2) HT_ (tk 11 10) ?_
    refine pureA (i := 10) (some 3) HT_ (tk 11 11) ?_
    refine done_ (done_of HT_.out (by kernel_rfl)) ?_
    try go_wp2
    go_ret2
    exact pR (pE HB)
   ·
    rw [if_neg c7] at H
    exact absurd H (by simp)
  ·
   replace c4 := Bool.eq_false_iff.mpr c4
   subst c4
   rw [if_neg (show ¬ (false = true) by decide)] at H
   replace H := Option.bind_eq_some_iff.mp H
   obtain ⟨t154, A180, H⟩ := H
   have A18 := Aside0.mk A180
   clear A180
   by_cases c19 : 4 ≤ (t154.length : Int)
   ·
    rw [if_pos c19] at H
    have c19b0 := eq_true c19
    have c19b1 := decide_eq_true c19
    clear c19
    obtain ⟨y157, hy157⟩ : ∃ y_ : List Int, y_ = (t154.drop 4) := ⟨_, rfl⟩
    replace H : (some (strOfNums y157, 0)) = some (r1, r2) := by first | (rw [hy157]; with_reducible exact H) | (have H2_ := (Option.bind_some _ _).symm.trans H; rw [hy157]; with_reducible exact H2_) | (have H2_ := (Option.bind_some _ _).symm.trans H; with_reducible exact H2_) | with_reducible exact H | (rw [hy157]; exact H) | exact H
    have Ny157 := Aside0.mk hy157
    clear hy157
    simp only [Option.some.injEq, Prod.mk.injEq] at H
    obtain ⟨rfl, rfl⟩ := H
    go_enter Tryd.func40, Tryd.ntmps40
    go_wp2_with (first | ((with_reducible refine gate_dst (N := 1) rfl ?_); refine boxA (N := 1) (cs := #[.bool false, .int .u64 a0_1, .int .u64 a0_2]) (t := 24) ?_; intro gb146 hg w20 hbox hb; have BK146 := Aside0.mk (hbox); have GE146 := (pZ HB hg); replace HB := (pS HB hb); clear hb hbox hg; obtain ⟨hcz21_0, hcz21_1, hcz21_2, hfz21_0, hfz21_1, hfz21_2⟩ := pC3 BK146) | ((with_reducible refine gate_callee (f := 22) rfl ?_); refine goesA (some 6) Tryd.func22 #[.agg #[.bool false, .int .u64 a0_1, .int .u64 a0_2]] ?_; (with_reducible refine (addr_Valid.calls false a0_1 a0_2 true _ A2.out).mono ?_); rintro e w22 ⟨rfl, hb⟩; refine ⟨_, rfl, ?_⟩; replace BK146 := (pB BK146 hb); replace HB := (pS HB hb); (try clear hb); (try clear hk); obtain ⟨hcz23_0, hcz23_1, hcz23_2, hfz23_0, hfz23_1, hfz23_2⟩ := pC3 BK146) | ((with_reducible refine gate_callee (f := 60) rfl ?_); refine goesA (some 14) Tryd.func60 #[.int .u64 a0_2] ?_; (with_reducible refine (addr_bytes.calls k a0_2 t154 _ A18.out).mono ?_); rintro e w24 ⟨v155, rfl, ho0, hb⟩; refine ⟨_, rfl, ?_⟩; have HO156 := Aside0.mk (Kd.R_lower ho0 (below_size (by repeat (first | (with_reducible first | exact HB.out | apply below_alloc | apply pw_below_drewN | apply below_drew1 | refine below_set ?_ GE146.out) | exact HB.out)))); replace BK146 := (pB BK146 hb); replace HB := (pS HB hb); (try clear hb); (try clear hk); (try clear ho0); obtain ⟨Ao26, co26, eo26⟩ := Kd.R_slice HO156.out; subst eo26; have q25 : (4 : Int) ≤ ((t154.length : Int) : Int) := oD; obtain ⟨i025, hi025, _, hsz25, _⟩ := info_parts info5; have hroom25 : t154.length ≤ co26 := (Kd.R_reads' HO156.out).2.1; have hC25 : Kd.C (Kd.int .u8) _ Ao26 t154.length t154 := (Kd.R_reads' HO156.out).2.2; have hcut25 := cut_from (P := Tryd.prog) 55 5 .i64 Tryd.underlying55 hi025 1 hsz25 Ao26 t154.length co26 4 (by omega) q25; have hr25 := Kd.C_drop (m := (4 : Int).toNat) (c := co26) hC25 (by omega) hroom25; obtain ⟨A25, hA25⟩ : ∃ A1, A1 = (if co26 = (4 : Int).toNat then Ao26 else (Ao26 : Option Addr).map (·.add ((4 : Int).toNat * 1))) := ⟨_, rfl⟩; obtain ⟨c25, hc25⟩ : ∃ c1, c1 = co26 - (4 : Int).toNat := ⟨_, rfl⟩; have hy25 : y157.length = t154.length - (4 : Int).toNat := (by rw [Ny157.out, List.length_drop] <;> omega); rw [show (t154).drop (4 : Int).toNat = y157 from Ny157.out.symm] at hr25; replace hr25 : Kd.C (Kd.int .u8) _ A25 y157.length y157 := (by rw [hA25]; exact hr25); rw [← hy25, ← hA25, ← hc25] at hcut25; have HR160 := Aside0.mk hr25; have HC160 := Aside0.mk (show y157.length ≤ c25 from by rw [hy25, hc25]; exact Nat.sub_le_sub_right hroom25 _); clear hr25 hC25 hroom25 hi025 hsz25 hc25; have KY25 := Aside0.mk hy25; have KA25 := Aside0.mk hA25; clear hy25 hA25; have KL25 := Aside0.mk (show 4 ≤ t154.length from by omega); replace q25 := eq_true q25; have hcv27 := Kd.C_string (P := Tryd.prog) (A := A25) (c := c25) Tryd.underlying55 Tryd.underlying5 Tryd.underlying9 (by repeat (first | (with_reducible exact HR160.out) | (with_reducible refine Kd.C_alloc ?_ _) | (with_reducible refine Kd.C_drewN ?_ _) | (with_reducible refine Kd.C_drew ?_) | exact HR160.out))))
    go_ret2
    exact pR (pE HB)
   ·
    rw [if_neg c19] at H
    exact absurd H (by simp)
 ·
  replace c3 := Bool.eq_false_iff.mpr c3
  subst c3
  rw [if_neg (show ¬ (false = true) by decide)] at H
  simp only [Option.some.injEq, Prod.mk.injEq] at H
  obtain ⟨rfl, rfl⟩ := H
  go_enter Tryd.func40, Tryd.ntmps40
  go_wp2_with (first | ((with_reducible refine gate_dst (N := 1) rfl ?_); refine boxA (N := 1) (cs := #[.bool a0_0, .int .u64 a0_1, .int .u64 a0_2]) (t := 24) ?_; intro gb146 hg w28 hbox hb; have BK146 := Aside0.mk (hbox); have GE146 := (pZ HB hg); replace HB := (pS HB hb); clear hb hbox hg; obtain ⟨hcz29_0, hcz29_1, hcz29_2, hfz29_0, hfz29_1, hfz29_2⟩ := pC3 BK146) | ((with_reducible refine gate_callee (f := 22) rfl ?_); refine goesA (some 6) Tryd.func22 #[.agg #[.bool a0_0, .int .u64 a0_1, .int .u64 a0_2]] ?_; (with_reducible refine (addr_Valid.calls a0_0 a0_1 a0_2 false _ A2.out).mono ?_); rintro e w30 ⟨rfl, hb⟩; refine ⟨_, rfl, ?_⟩; replace BK146 := (pB BK146 hb); replace HB := (pS HB hb); (try clear hb); (try clear hk)))
  go_ret2
  exact pR (pE HB)

/-! ### strings_trimRightByte: function 83 -/
def strings_trimRightByte.l0 : Nat → ByteArray → Int → Option (ByteArray)
 | 0, _, _ => none
 | k + 1, x0, x1 => if (x0.size : Int) > 0 then (if 0 ≤ (wrap64 ((x0.size : Int) - 1)) then (if (wrap64 ((x0.size : Int) - 1)) < (x0.size : Int) then (if (bt x0 (wrap64 ((x0.size : Int) - 1))) = x1 then (if (wrap64 ((x0.size : Int) - 1)) ≤ (x0.size : Int) then (strings_trimRightByte.l0 k (x0.extract 0 ((wrap64 ((x0.size : Int) - 1)) : Int).toNat) x1) else (none)) else (some x0)) else (none)) else (none)) else (some x0)
def strings_trimRightByte.f (k : Nat) (a0 : ByteArray) (a1 : Int) : Option (ByteArray) := strings_trimRightByte.l0 k a0 a1
theorem strings_trimRightByte.mono_l : ∀ k, (∀ y0 y1, LeO (strings_trimRightByte.l0 k y0 y1) (strings_trimRightByte.l0 (k + 1) y0 y1))
 | 0 => fun _ _ r h => by simp [strings_trimRightByte.l0] at h
 | k + 1 => by
  have ih0 := strings_trimRightByte.mono_l k
  ·
   intro y0 y1
   unfold strings_trimRightByte.l0
   repeat' with_reducible first | exact ih0 _ _ | exact LeO.refl _ | exact LeO.none _ | refine LeO.ite ?_ ?_ | refine LeO.bind ?_ (fun _ => ?_)
theorem strings_trimRightByte.mono : ∀ a0 a1 k, LeO (strings_trimRightByte.f k a0 a1) (strings_trimRightByte.f (k + 1) a0 a1) := by
 intro a0 a1 k
 have ih0 := strings_trimRightByte.mono_l k
 unfold strings_trimRightByte.f
 repeat' with_reducible first | exact ih0 _ _ | exact LeO.refl _ | exact LeO.none _ | refine LeO.ite ?_ ?_ | refine LeO.bind ?_ (fun _ => ?_)
set_option maxHeartbeats 40000000 in
set_option maxRecDepth 100000 in
theorem strings_trimRightByte.calls (k : Nat) (a0 : ByteArray) (a1 : Int) (r : ByteArray) (w : World) (h : strings_trimRightByte.f k a0 a1 = some r) :
 Calls Tryd.prog 83 #[.string a0, .int .u8 a1] w fun e w' => e = .returned (.string r) ∧ Drawn0 w w' := by
 have H : (strings_trimRightByte.l0 k a0 a1) = some r := h
 clear h
 have H' := Aside0.mk H
 clear H
 go_enter Tryd.func83, Tryd.ntmps83
 go_wp2
 go_loopg [0] k (fun kq v0 w' => ∃ (x0_1 : ByteArray), v0 = .string x0_1 ∧ Aside0 (strings_trimRightByte.l0 kq x0_1 a1 = some r) ∧ Aside0 (kq ≤ k) ∧ Drawn0 w w')
 case atStart => exact ⟨(a0), pT, H', ⟨Nat.le_refl _⟩, by repeat (first | exact Drawn0.refl _ | apply Drawn0.step)⟩
 case round =>
  clear H'
  obtain ⟨x0_1, rfl, HA, HK1, ⟨m1, rfl⟩⟩ := hrel
  cases gk with
  | zero => exact absurd HA.out (by simp [strings_trimRightByte.l0])
  | succ k1 =>
   have H := HA.out
   clear HA
   simp only [strings_trimRightByte.l0] at H
   by_cases c3 : (x0_1.size : Int) > 0
   ·
    rw [if_pos c3] at H
    have c3b0 := decide_eq_true c3
    have c3b1 : decide (0 < x0_1.size) = true := decide_eq_true (by omega)
    clear c3
    obtain ⟨ji4, hji4⟩ : ∃ j_ : Int, (wrap64 ((x0_1.size : Int) - 1)) = j_ := ⟨_, rfl⟩
    replace H : (if 0 ≤ (ji4) then (if (ji4) < (x0_1.size : Int) then (if (bt x0_1 (ji4)) = a1 then (if (ji4) ≤ (x0_1.size : Int) then (strings_trimRightByte.l0 k1 (x0_1.extract 0 ((ji4) : Int).toNat) a1) else (none)) else (some x0_1)) else (none)) else (none)) = some r := by first | (rw [hji4] at H; exact H) | (simp only [hji4] at H ⊢; exact H)
    have hji4w : (IntKind.i64.wrap ((x0_1.size : Int) - 1)) = ji4 := (i64_w _).trans hji4
    by_cases c5 : 0 ≤ (ji4)
    ·
     rw [if_pos c5] at H
     have c5b0 := decide_eq_true c5
     clear c5
     by_cases c6 : (ji4) < (x0_1.size : Int)
     ·
      rw [if_pos c6] at H
      have c6b0 := decide_eq_true c6
      clear c6
      by_cases c8 : (bt x0_1 (ji4)) = a1
      ·
       rw [if_pos c8] at H
       have c8b0 : ((bt x0_1 (ji4)) == a1) = true := beq_iff_eq.mpr c8
       have c8b1 : ((bt x0_1 (ji4)) != a1) = false := bne_eq_false_iff_eq.mpr c8
       clear c8
       have c9b0 := eq_true (oD : 0 ≤ (ji4))
       by_cases c10 : (ji4) ≤ (x0_1.size : Int)
       ·
        rw [if_pos c10] at H
        have c10b0 := eq_true c10
        have c10b1 := decide_eq_true c10
        clear c10
        have H' := Aside0.mk H
        clear H
        have p7 : 0 ≤ ((ji4) : Int) := oD
        have q7 : (ji4) < (x0_1.size : Int) := oD
        have hx7 := bt_at x0_1 (ji4)
        replace p7 := eq_true p7
        replace q7 := eq_true q7
        go_wp2
        go_roundg k1
        case measure => have := HK1.out; omega
        case rel => exact ⟨(x0_1.extract 0 ((ji4) : Int).toNat), (by first | rfl | (simp; done) | (simp only [← hji4] <;> (first | rfl | simp)) | (simp [*]; done) | ((try simp only [Bool.not_not]); (generalize ByteArray.toList _ = l_); cases l_ <;> rfl) | (simp; (generalize ByteArray.toList _ = l_); cases l_ <;> rfl)), (by first | exact H' | (simp only [hji4]; exact H') | (simp only [hji4] at H' ⊢; exact H')), ⟨by have := HK1.out; omega⟩, by repeat (first | exact Drawn0.refl _ | apply Drawn0.step)⟩
       ·
        rw [if_neg c10] at H
        exact absurd H (by simp)
      ·
       rw [if_neg c8] at H
       have c8b0 : ((bt x0_1 (ji4)) == a1) = false := beq_eq_false_iff_ne.mpr c8
       have c8b1 : ((bt x0_1 (ji4)) != a1) = true := bne_iff_ne.mpr c8
       obtain rfl := Option.some.inj H
       have p7 : 0 ≤ ((ji4) : Int) := oD
       have q7 : (ji4) < (x0_1.size : Int) := oD
       have hx7 := bt_at x0_1 (ji4)
       replace p7 := eq_true p7
       replace q7 := eq_true q7
       go_wp2
       go_ret
       exact ⟨by first | rfl | (simp; done) | (simp only [← hji4] <;> (first | rfl | simp)) | (simp [*]; done) | ((try simp only [Bool.not_not]); (generalize ByteArray.toList _ = l_); cases l_ <;> rfl) | (simp; (generalize ByteArray.toList _ = l_); cases l_ <;> rfl), by repeat (first | exact Drawn0.refl _ | apply Drawn0.step)⟩
     ·
      rw [if_neg c6] at H
      exact absurd H (by simp)
    ·
     rw [if_neg c5] at H
     exact absurd H (by simp)
   ·
    rw [if_neg c3] at H
    have c3b0 := decide_eq_false c3
    have c3b1 : decide (0 < x0_1.size) = false := decide_eq_false (by omega)
    clear c3
    obtain rfl := Option.some.inj H
    go_wp2
    go_ret
    exact pV

/-! ### strings_TrimRight: function 61 (given) -/
def strings_TrimRight.f (k : Nat) (a0 a1 : ByteArray) : Option ByteArray := if a1.toList = ([0] : List UInt8) then (if a0.toList = ([] : List UInt8) then some a0 else strings_trimRightByte.f k a0 0) else none
theorem strings_TrimRight.mono : ∀ a0 a1 k, LeO (strings_TrimRight.f k a0 a1) (strings_TrimRight.f (k + 1) a0 a1) := by
  intro a0 a1 k
  unfold strings_TrimRight.f
  repeat' with_reducible first | exact strings_trimRightByte.mono _ _ _ | exact LeO.refl _ | exact LeO.none _ | refine LeO.ite ?_ ?_
set_option maxHeartbeats 4000000 in
set_option maxRecDepth 100000 in
theorem strings_TrimRight.calls (k : Nat) (a0 a1 : ByteArray) (r : ByteArray) (w : World) (h : strings_TrimRight.f k a0 a1 = some r) :
    Calls Tryd.prog 61 #[.string a0, .string a1] w fun e w' => e = .returned (.string r) ∧ Below w.heap.size w w' := by
  unfold strings_TrimRight.f at h
  by_cases h1 : a1.toList = ([0] : List UInt8)
  · rw [if_pos h1] at h
    have e1 : a1 = ⟨#[0]⟩ := by rw [ByteArray.toList_eq] at h1; exact ByteArray.ext (Array.toList_inj.mp h1)
    subst e1
    clear h1
    by_cases h0 : a0.toList = ([] : List UInt8)
    · rw [if_pos h0] at h
      obtain rfl := Option.some.inj h
      clear h
      have e0 : a0 = ⟨#[]⟩ := by rw [ByteArray.toList_eq] at h0; exact ByteArray.ext (Array.toList_inj.mp h0)
      subst e0
      clear h0
      go_enter Tryd.func61, Tryd.ntmps61
      go_wp2
      go_ret
      exact ⟨rfl, Below.refl _ _⟩
    · rw [if_neg h0] at h
      have hb0 : (a0.toList == ([] : List UInt8)) = false := beq_eq_false_iff_ne.mpr h0
      have hb1 : a0.toList.isEmpty = false := by cases hl : a0.toList with | nil => exact absurd hl h0 | cons => rfl
      clear h0
      have H := Aside0.mk h
      clear h
      go_enter Tryd.func61, Tryd.ntmps61
      go_wp2_with fail
      refine (strings_trimRightByte.calls k a0 0 r _ H.out).mono ?_
      rintro e w1 ⟨rfl, hb⟩
      go_wp2_with fail
      go_ret
      exact ⟨rfl, by first | exact hb | (obtain ⟨n, rfl⟩ := hb; exact pw_below_drewN (Below.refl _ _) _)⟩
  · rw [if_neg h1] at h; cases h


/-! ### rdata_bitmap: function 41 -/
mutual
def rdata_bitmap.l0 : Nat → Int → ByteArray → Int → Option (ByteArray)
 | 0, _, _, _ => none
 | k + 1, x0, x3, x7 => if x7 < 8 then (rdata_bitmap.l1 k x0 x3 x7 0 x7 0) else ((strings_TrimRight.f k x3 (⟨#[0]⟩ : ByteArray)).bind fun t161 => (some t161))
def rdata_bitmap.l1 : Nat → Int → ByteArray → Int → Int → Int → Int → Option (ByteArray)
 | 0, _, _, _, _, _, _ => none
 | k + 1, x0, x3, x4, x5, x7, x10 => if x10 < 8 then (if 0 ≤ (wrap64 ((wrap64 (8 * x4)) + x10)) then (if (Go.bits .and .u64 (shr .u64 x0 (wrap64 ((wrap64 (8 * x4)) + x10))) 1) = 1 then (if 0 ≤ x10 then (rdata_bitmap.l1 k x0 x3 x4 (Go.bits .or .u8 x5 (shr .u8 128 x10)) x7 (wrap64 (x10 + 1))) else (none)) else (rdata_bitmap.l1 k x0 x3 x4 x5 x7 (wrap64 (x10 + 1)))) else (none)) else ((some (([x5] : List Int) : List Int)).bind fun y162 => (if x3.size + (strOfNums y162).size ≤ 9223372036854775807 then (rdata_bitmap.l0 k x0 (x3 ++ (strOfNums y162)) (wrap64 (x7 + 1))) else (none)))
end
def rdata_bitmap.f (k : Nat) (a0 : Int) : Option (ByteArray) := rdata_bitmap.l0 k a0 (⟨#[]⟩ : ByteArray) 0
theorem rdata_bitmap.mono_l : ∀ k, (∀ y0 y1 y2, LeO (rdata_bitmap.l0 k y0 y1 y2) (rdata_bitmap.l0 (k + 1) y0 y1 y2)) ∧ (∀ y0 y1 y2 y3 y4 y5, LeO (rdata_bitmap.l1 k y0 y1 y2 y3 y4 y5) (rdata_bitmap.l1 (k + 1) y0 y1 y2 y3 y4 y5))
 | 0 => ⟨fun _ _ _ r h => by simp [rdata_bitmap.l0] at h, fun _ _ _ _ _ _ r h => by simp [rdata_bitmap.l1] at h⟩
 | k + 1 => by
  obtain ⟨ih0, ih1⟩ := rdata_bitmap.mono_l k
  refine ⟨?_, ?_⟩
  ·
   intro y0 y1 y2
   unfold rdata_bitmap.l0
   repeat' with_reducible first | exact ih0 _ _ _ | exact ih1 _ _ _ _ _ _ | exact strings_TrimRight.mono _ _ _ | exact LeO.refl _ | exact LeO.none _ | refine LeO.ite ?_ ?_ | refine LeO.bind ?_ (fun _ => ?_)
  ·
   intro y0 y1 y2 y3 y4 y5
   unfold rdata_bitmap.l1
   repeat' with_reducible first | exact ih0 _ _ _ | exact ih1 _ _ _ _ _ _ | exact strings_TrimRight.mono _ _ _ | exact LeO.refl _ | exact LeO.none _ | refine LeO.ite ?_ ?_ | refine LeO.bind ?_ (fun _ => ?_)
theorem rdata_bitmap.mono : ∀ a0 k, LeO (rdata_bitmap.f k a0) (rdata_bitmap.f (k + 1) a0) := by
 intro a0 k
 obtain ⟨ih0, ih1⟩ := rdata_bitmap.mono_l k
 unfold rdata_bitmap.f
 repeat' with_reducible first | exact ih0 _ _ _ | exact ih1 _ _ _ _ _ _ | exact strings_TrimRight.mono _ _ _ | exact LeO.refl _ | exact LeO.none _ | refine LeO.ite ?_ ?_ | refine LeO.bind ?_ (fun _ => ?_)
set_option maxHeartbeats 40000000 in
set_option maxRecDepth 100000 in
theorem rdata_bitmap.calls (k : Nat) (a0 : Int) (r : ByteArray) (w : World) (h : rdata_bitmap.f k a0 = some r) :
 Calls Tryd.prog 41 #[.int .u64 a0] w fun e w' => e = .returned (.string r) ∧ Below w.heap.size w w' := by
 have HB := Aside0.mk (Below.refl w.heap.size w)
 have H : (rdata_bitmap.l0 k a0 (⟨#[]⟩ : ByteArray) 0) = some r := h
 clear h
 have H' := Aside0.mk H
 clear H
 go_enter Tryd.func41, Tryd.ntmps41
 go_wp2
 go_loopg [3, 7] k (fun kq v3 v7 w' => ∃ (x3_1 : ByteArray) (x7_1 : Int), v3 = .string x3_1 ∧ v7 = .int .i64 x7_1 ∧ Aside0 (rdata_bitmap.l0 kq a0 x3_1 x7_1 = some r) ∧ Aside0 (kq ≤ k) ∧ Aside0 (Below w.heap.size w w'))
 case atStart => exact ⟨((⟨#[]⟩ : ByteArray)), (0), pT, pT, H', ⟨Nat.le_refl _⟩, ⟨pE HB⟩⟩
 case round =>
  clear H'
  obtain ⟨x3_1, x7_1, rfl, rfl, HA, HK1, HB⟩ := hrel
  cases gk with
  | zero => exact absurd HA.out (by simp [rdata_bitmap.l0])
  | succ k1 =>
   have H := HA.out
   clear HA
   simp only [rdata_bitmap.l0] at H
   by_cases c2 : x7_1 < 8
   ·
    rw [if_pos c2] at H
    have c2b0 := decide_eq_true c2
    clear c2
    have H' := Aside0.mk H
    clear H
    go_wp2
    go_loopg [5, 10] k1 (fun kq v5 v10 w' => ∃ (x5_2 : Int) (x10_2 : Int), v5 = .int .u8 x5_2 ∧ v10 = .int .i64 x10_2 ∧ Aside0 (rdata_bitmap.l1 kq a0 x3_1 x7_1 x5_2 x7_1 x10_2 = some r) ∧ Aside0 (kq ≤ k1) ∧ Aside0 (Below w.heap.size w w'))
    case atStart => exact ⟨(0), (0), pT, pT, H', ⟨Nat.le_refl _⟩, ⟨pE HB⟩⟩
    case round =>
     clear H'
     try clear c2
     try clear c2b0
     obtain ⟨x5_2, x10_2, rfl, rfl, HA, HK2, HB⟩ := hrel
     cases gk with
     | zero => exact absurd HA.out (by simp [rdata_bitmap.l1])
     | succ k2 =>
      have H := HA.out
      clear HA
      simp only [rdata_bitmap.l1] at H
      by_cases c3 : x10_2 < 8
      ·
       rw [if_pos c3] at H
       have c3b0 := decide_eq_true c3
       clear c3
       obtain ⟨ji4, hji4⟩ : ∃ j_ : Int, (wrap64 ((wrap64 (8 * x7_1)) + x10_2)) = j_ := ⟨_, rfl⟩
       replace H : (if 0 ≤ (ji4) then (if (Go.bits .and .u64 (shr .u64 a0 (ji4)) 1) = 1 then (if 0 ≤ x10_2 then (rdata_bitmap.l1 k2 a0 x3_1 x7_1 (Go.bits .or .u8 x5_2 (shr .u8 128 x10_2)) x7_1 (wrap64 (x10_2 + 1))) else (none)) else (rdata_bitmap.l1 k2 a0 x3_1 x7_1 x5_2 x7_1 (wrap64 (x10_2 + 1)))) else (none)) = some r := by first | (rw [hji4] at H; exact H) | (simp only [hji4] at H ⊢; exact H)
       have hji4w : (IntKind.i64.wrap ((wrap64 (8 * x7_1)) + x10_2)) = ji4 := (i64_w _).trans hji4
       by_cases c5 : 0 ≤ (ji4)
       ·
        rw [if_pos c5] at H
        have c5b0 := eq_true c5
        have c5b1 := decide_eq_true c5
        clear c5
        obtain ⟨ji6, hji6⟩ : ∃ j_ : Int, (shr .u64 a0 (ji4)) = j_ := ⟨_, rfl⟩
        (try rw [hji6] at hji4)
        replace H : (if (Go.bits .and .u64 (ji6) 1) = 1 then (if 0 ≤ x10_2 then (rdata_bitmap.l1 k2 a0 x3_1 x7_1 (Go.bits .or .u8 x5_2 (shr .u8 128 x10_2)) x7_1 (wrap64 (x10_2 + 1))) else (none)) else (rdata_bitmap.l1 k2 a0 x3_1 x7_1 x5_2 x7_1 (wrap64 (x10_2 + 1)))) = some r := by first | (rw [hji6] at H; exact H) | (simp only [hji6] at H ⊢; exact H)
        have hji6_ : (a0 / 2 ^ min (ji4).toNat 64) = ji6 := hji6
        have hji6z : (ji4) ≤ 64 → (a0 / 2 ^ (ji4).toNat) = ji6 := shr_small hji6
        by_cases c7 : (Go.bits .and .u64 (ji6) 1) = 1
        ·
         rw [if_pos c7] at H
         have c7b0 : ((Go.bits .and .u64 (ji6) 1) == 1) = true := beq_iff_eq.mpr c7
         have c7b1 : ((Go.bits .and .u64 (ji6) 1) != 1) = false := bne_eq_false_iff_eq.mpr c7
         clear c7
         by_cases c8 : 0 ≤ x10_2
         ·
          rw [if_pos c8] at H
          have c8b0 := eq_true c8
          have c8b1 := decide_eq_true c8
          clear c8
          obtain ⟨ji9, hji9⟩ : ∃ j_ : Int, (shr .u8 128 x10_2) = j_ := ⟨_, rfl⟩
          (try rw [hji9] at hji4)
          (try rw [hji9] at hji6)
          replace H : (rdata_bitmap.l1 k2 a0 x3_1 x7_1 (Go.bits .or .u8 x5_2 (ji9)) x7_1 (wrap64 (x10_2 + 1))) = some r := by first | (rw [hji9] at H; exact H) | (simp only [hji9] at H ⊢; exact H)
          have hji9_ : (128 / 2 ^ min x10_2.toNat 8) = ji9 := hji9
          have hji9z : x10_2 ≤ 8 → (128 / 2 ^ x10_2.toNat) = ji9 := shr_small hji9
          have H' := Aside0.mk H
          clear H
          go_wp2
          go_roundg k2
          case measure => have := HK1.out; have := HK2.out; omega
          case rel => exact ⟨(Go.bits .or .u8 x5_2 (ji9)), (wrap64 (x10_2 + 1)), (by first | rfl | (simp; done) | (simp only [← hji9] <;> (first | rfl | simp)) | (simp [*]; done) | ((try simp only [Bool.not_not]); (generalize ByteArray.toList _ = l_); cases l_ <;> rfl) | (simp; (generalize ByteArray.toList _ = l_); cases l_ <;> rfl)), pT, (by first | exact H' | (simp only [hji4, hji6, hji9]; exact H') | (simp only [hji4, hji6, hji9] at H' ⊢; exact H')), ⟨by have := HK1.out; have := HK2.out; omega⟩, ⟨pE HB⟩⟩
         ·
          rw [if_neg c8] at H
          exact absurd H (by simp)
        ·
         rw [if_neg c7] at H
         have c7b0 : ((Go.bits .and .u64 (ji6) 1) == 1) = false := beq_eq_false_iff_ne.mpr c7
         have c7b1 : ((Go.bits .and .u64 (ji6) 1) != 1) = true := bne_iff_ne.mpr c7
         have H' := Aside0.mk H
         clear H
         go_wp2
         go_roundg k2
         case measure => have := HK1.out; have := HK2.out; omega
         case rel => exact ⟨(x5_2), (wrap64 (x10_2 + 1)), pT, pT, (by first | exact H' | (simp only [hji4, hji6]; exact H') | (simp only [hji4, hji6] at H' ⊢; exact H')), ⟨by have := HK1.out; have := HK2.out; omega⟩, ⟨pE HB⟩⟩
       ·
        rw [if_neg c5] at H
        exact absurd H (by simp)
      ·
       rw [if_neg c3] at H
       have c3b0 := decide_eq_false c3
       clear c3
       obtain ⟨y162, hy162⟩ : ∃ y_ : List Int, y_ = (([x5_2] : List Int)) := ⟨_, rfl⟩
       replace H : (if x3_1.size + (strOfNums y162).size ≤ 9223372036854775807 then (rdata_bitmap.l0 k2 a0 (x3_1 ++ (strOfNums y162)) (wrap64 (x7_1 + 1))) else (none)) = some r := by first | (rw [hy162]; with_reducible exact H) | (have H2_ := (Option.bind_some _ _).symm.trans H; rw [hy162]; with_reducible exact H2_) | (have H2_ := (Option.bind_some _ _).symm.trans H; with_reducible exact H2_) | with_reducible exact H | (rw [hy162]; exact H) | exact H
       have Ny162 := Aside0.mk hy162
       clear hy162
       by_cases c10 : x3_1.size + (strOfNums y162).size ≤ 9223372036854775807
       ·
        rw [if_pos c10] at H
        have c10b0 := eq_true c10
        have c10b1 := decide_eq_true c10
        try have c10b2 : (9223372036854775807 < x3_1.size + (strOfNums y162).size) = False := eq_false (Nat.not_lt.2 c10)
        have H' := Aside0.mk H
        clear H
        go_wp2_with (first | ((with_reducible refine gate_dst (N := 28) rfl ?_); refine Kd.R_lit (Kd.int .u8) _ 5 ?hg (N := 28) ?hd (xs := ([x5_2] : List Int)) (inner := [.int .u8 x5_2]) (ok := fun _ => True) (okp := fun _ => True) ?hr ?hp (fun _ hk => hk) trivial (Below.refl _ _) (Nat.le_refl _) (by simp) ?_; (case hd => rfl); (case hg => rfl); (case hr => first | (go_simp; done) | (go_simp; rfl)); (case hp => exact (Reps.one (show Kd.M (Kd.int .u8) _ _ _ x5_2 [.int .u8 x5_2] from rfl) (Reps.none _ _))); intro v163 w11 ho12 hb hg_ hnew_; clear hg_ hnew_; (first | rw [← Ny162.out] at ho12 | (simp only [Int.reduceToNat] at ho12; rw [← Ny162.out] at ho12)); have HO164 := Aside0.mk (Kd.R_lower ho12 (below_size (by repeat (first | (with_reducible first | exact HB.out | apply below_alloc | apply pw_below_drewN | apply below_drew1) | exact HB.out)))); replace HB := (pS HB hb); clear hb ho12; have hcv13 := own_string (P := Tryd.prog) Tryd.underlying55 Tryd.underlying5 Tryd.underlying9 (Kd.own_of_R HO164.out)))
        go_roundg k2
        case measure => have := HK1.out; have := HK2.out; omega
        case rel => exact ⟨(x3_1 ++ (strOfNums y162)), (wrap64 (x7_1 + 1)), pT, pT, H', ⟨by have := HK1.out; have := HK2.out; omega⟩, ⟨pE HB⟩⟩
       ·
        rw [if_neg c10] at H
        exact absurd H (by simp)
   ·
    rw [if_neg c2] at H
    have c2b0 := decide_eq_false c2
    clear c2
    replace H := Option.bind_eq_some_iff.mp H
    obtain ⟨t161, A140, H⟩ := H
    have A14 := Aside0.mk A140
    clear A140
    obtain rfl := Option.some.inj H
    go_wp2_with (first | ((with_reducible refine gate_callee (f := 61) rfl ?_); refine goesA (some 33) Tryd.func61 #[.string x3_1, .string (⟨#[0]⟩ : ByteArray)] ?_; (with_reducible refine (strings_TrimRight.calls k1 x3_1 (⟨#[0]⟩ : ByteArray) t161 _ A14.out).mono ?_); rintro e w15 ⟨rfl, hb⟩; refine ⟨_, rfl, ?_⟩; replace HB := (pS HB hb); (try clear hb); (try clear hk)))
    go_ret
    exact pR (pE HB)

-- NOT PRINTED: function 42 (rdata_place)

end Go.Proofs.YtaehonmfoanloaaDoor.PA
