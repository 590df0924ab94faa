/- The Go functions in Lean, with the proofs that the code comes to these answers: printed by this session's program (wip/px) out of the seat's translation. Conditions: each theorem's own. -/
import Derived.Test.YteflcmmandlknaaDoorPAx0
import Derived.Test.YteflcmmandlknaaDoorPAx3
namespace Go.Proofs.YteflcmmandlknaaDoor.PA
open Go.RowKit Go.Proofs.YteflcmmandlknaaDoorW.PrintWords Go.Proofs.YteflcmmandlknaaDoorW.PrintLast Go.Proofs.YteflcmmandlknaaDoorW.PrintMore
attribute [local go_sem] max2_int min2_int max_two min_two max_three min_three max_four min_four   -- for this text's walks alone
attribute [local go_sem ↓] Ext.isSome_setCell
open Press
set_option linter.unusedVariables false
set_option linter.unusedSimpArgs false

/-! ### addr_text: function 43 -/
def addr_text.l0 : Nat → List Int → List ByteArray → Int → Int → Option (ByteArray)
 | 0, _, _, _, _ => none
 | k + 1, x0, x3, x9, x10 => if x10 < x9 then (if 0 ≤ x10 then (if x10 < (x0.length : Int) then ((strconv_FormatUint.f (IntKind.u64.wrap (rd x0 x10)) 16).bind fun t112 => (if x10 < (x3.length : Int) then (addr_text.l0 k x0 (x3.set (x10 : Int).toNat t112) x9 (wrap64 (x10 + 1))) else (none))) else (none)) else (none)) else ((strings_Join.f x3 (⟨#[58]⟩ : ByteArray)).bind fun t114 => (some t114))
def addr_text.f (k : Nat) (l0 : List Int) : Option (ByteArray) := if 0 ≤ (l0.length : Int) then (if ((l0.length : Int) : Int).toNat ≤ 17592186044416 then ((some (List.replicate ((l0.length : Int) : Int).toNat (⟨#[]⟩ : ByteArray) : List ByteArray)).bind fun y108 => (addr_text.l0 k l0 y108 (y108.length : Int) 0)) else (none)) else (none)
theorem addr_text.mono_l : ∀ k, (∀ y0 y1 y2 y3, LeO (addr_text.l0 k y0 y1 y2 y3) (addr_text.l0 (k + 1) y0 y1 y2 y3))
 | 0 => fun _ _ _ _ r h => by simp [addr_text.l0] at h
 | k + 1 => by
  have ih0 := addr_text.mono_l k
  ·
   intro y0 y1 y2 y3
   unfold addr_text.l0
   repeat' first
   | (with_reducible exact ih0 _ _ _ _)
   | (with_reducible exact LeO.refl _)
   | (with_reducible exact LeO.none _)
   | (with_reducible refine LeO.ite ?_ ?_)
   | (with_reducible refine LeO.bind ?_ (fun _ => ?_))
   | exact ih0 _ _ _ _
   | exact LeO.none _
   | refine LeO.ite ?_ ?_
   | refine LeO.bind ?_ (fun _ => ?_)
theorem addr_text.mono : ∀ a0 k, LeO (addr_text.f k a0) (addr_text.f (k + 1) a0) := by
 intro a0 k
 have ih0 := addr_text.mono_l k
 unfold addr_text.f
 repeat' first
  | (with_reducible exact ih0 _ _ _ _)
  | (with_reducible exact LeO.refl _)
  | (with_reducible exact LeO.none _)
  | (with_reducible refine LeO.ite ?_ ?_)
  | (with_reducible refine LeO.bind ?_ (fun _ => ?_))
  | exact ih0 _ _ _ _
  | exact LeO.none _
  | refine LeO.ite ?_ ?_
  | refine LeO.bind ?_ (fun _ => ?_)
set_option maxHeartbeats 40000000 in
set_option maxRecDepth 100000 in
theorem addr_text.calls (k : Nat) (A0 : Option Addr) (c0 : Nat) (l0 : List Int) (r : ByteArray) (w : World) (hr0 : Kd.C (Kd.int .u16) w A0 l0.length l0) (hc0 : l0.length ≤ c0) (hLD : Laid w) (h : addr_text.f k l0 = some r) :
 Calls Tryd.prog 43 #[.slice A0 l0.length c0] w fun e w' => e = .returned (.string r) ∧ Below w.heap.size w w' := by
 have HLD := Aside0.mk hLD
 clear hLD
 have HR0 := Aside0.mk hr0
 have HC0 := Aside0.mk hc0
 clear hr0 hc0
 have HB := Aside0.mk (Below.refl w.heap.size w)
 have H : (if 0 ≤ (l0.length : Int) then (if ((l0.length : Int) : Int).toNat ≤ 17592186044416 then ((some (List.replicate ((l0.length : Int) : Int).toNat (⟨#[]⟩ : ByteArray) : List ByteArray)).bind fun y108 => (addr_text.l0 k l0 y108 (y108.length : Int) 0)) else (none)) else (none)) = some r := h
 clear h
 by_cases c2 : 0 ≤ (l0.length : Int)
 ·
  rw [if_pos c2] at H
  have c2b0 := eq_true c2
  have c2b1 : decide (0 ≤ (l0.length : Int)) = true := decide_eq_true c2
  clear c2
  by_cases c3 : ((l0.length : Int) : Int).toNat ≤ 17592186044416
  ·
   rw [if_pos c3] at H
   have c3b0 := eq_true c3
   have c3b1 : decide (((l0.length : Int) : Int).toNat ≤ 17592186044416) = true := decide_eq_true c3
   clear c3
   obtain ⟨y108, hy108⟩ : ∃ y_ : List ByteArray, y_ = (List.replicate ((l0.length : Int) : Int).toNat (⟨#[]⟩ : ByteArray)) := ⟨_, rfl⟩
   replace H : (addr_text.l0 k l0 y108 (y108.length : Int) 0) = some r := by first | (rw [hy108]; with_reducible exact H) | (have H2_ := (Option.bind_some _ _).symm.trans H; rw [hy108]; with_reducible exact H2_) | (have H2_ := (Option.bind_some _ _).symm.trans H; with_reducible exact H2_) | with_reducible exact H | (rw [hy108]; exact H) | exact H
   have Ny108 := Aside0.mk hy108
   clear hy108
   have H' := Aside0.mk H
   clear H
   go_enter Tryd.func43, Tryd.ntmps43
   go_wp2_with (first | ((with_reducible refine gate_dst (N := 7) rfl ?_); refine Kd.R_make Kd.string _ 9 rfl (N := 7) rfl 78 _ _ rfl (l0.length : Int) rfl rfl Tryd.underlying78 (.string ⟨#[]⟩) 16 info9 rfl (by decide) (by omega) (⟨#[]⟩ : ByteArray) (ok := fun _ => True) (okp := fun _ => True) rfl (fun _ hk => hk) trivial (of_decide_eq_true (by first | (with_reducible assumption) | assumption)) (Nat.le_trans (Nat.mul_le_mul_right _ (of_decide_eq_true (by first | (with_reducible assumption) | assumption) : (l0.length : Int).toNat ≤ 17592186044416)) (by omega)) (Below.refl _ _) (Nat.le_refl _) ?_; intro v109 w4 ho5 hb hg_ hnew_; clear hg_ hnew_; (first | rw [← Ny108.out] at ho5 | (simp only [Int.reduceToNat] at ho5; rw [← Ny108.out] at ho5)); have HO110 := Aside0.mk (Kd.R_lower ho5 (below_size (by repeat (first | (with_reducible first | exact HB.out | apply below_alloc | apply pw_below_drewN | apply below_drew1) | exact HB.out)))); replace HB := (pS HB hb); clear hb ho5; obtain ⟨Ao6, co6, eo6⟩ := Kd.R_slice HO110.out; subst eo6))
   go_loopg [10] k (fun kq v10 w' => ∃ (x3_1 : List ByteArray) (x10_1 : Int), v10 = .int .i64 x10_1 ∧ Aside0 (addr_text.l0 kq l0 x3_1 (y108.length : Int) x10_1 = some r) ∧ Aside0 (kq ≤ k) ∧ Aside0 (Kd.R Kd.string 9 w' w.heap.size (fun _ => True) (.slice Ao6 y108.length co6) x3_1) ∧ Aside0 (Below w.heap.size w w'))
   case atStart => exact ⟨(y108), (0), pT, H', ⟨Nat.le_refl _⟩, ⟨by (with_reducible repeat (first | apply Kd.R_alloc | apply Kd.R_drewN | apply Kd.R_drew)); exact HO110.out⟩, ⟨pE HB⟩⟩
   case round =>
    clear H'
    try clear c2
    try clear c2b0
    try clear c2b1
    try clear p2
    try clear c3
    try clear c3b0
    try clear c3b1
    try clear c4
    obtain ⟨x3_1, x10_1, rfl, HA, HK1, HO_3, HB⟩ := hrel
    have hl3_1 := (Kd.R_reads' HO_3.out).1
    rw [hl3_1] at HO_3
    (try simp only [hl3_1])
    cases gk with
    | zero => exact absurd HA.out (by simp [addr_text.l0])
    | succ k1 =>
     have H := HA.out
     clear HA
     simp only [addr_text.l0] at H
     by_cases c7 : x10_1 < (y108.length : Int)
     ·
      rw [if_pos c7] at H
      have c7b0 : decide (x10_1 < (y108.length : Int)) = true := decide_eq_true c7
      have c7b0_hl3_1 := c7b0
      (try rw [hl3_1] at c7b0_hl3_1)
      clear c7
      by_cases c8 : 0 ≤ x10_1
      ·
       rw [if_pos c8] at H
       have c8b0 : decide (0 ≤ x10_1) = true := decide_eq_true c8
       clear c8
       by_cases c9 : x10_1 < (l0.length : Int)
       ·
        rw [if_pos c9] at H
        have c9b0 : decide (x10_1 < (l0.length : Int)) = true := decide_eq_true c9
        have c9b0_hl3_1 := c9b0
        (try rw [hl3_1] at c9b0_hl3_1)
        clear c9
        replace H := Option.bind_eq_some_iff.mp H
        obtain ⟨t112, A100, H⟩ := H
        replace H : (if x10_1 < (x3_1.length : Int) then (addr_text.l0 k1 l0 (x3_1.set (x10_1 : Int).toNat t112) (y108.length : Int) (wrap64 (x10_1 + 1))) else (none)) = some r := H
        have A10 := Aside0.mk A100
        clear A100
        by_cases c11 : x10_1 < (x3_1.length : Int)
        ·
         rw [if_pos c11] at H
         have c11b0 : decide (x10_1 < (x3_1.length : Int)) = true := decide_eq_true c11
         have c11b0_hl3_1 := c11b0
         (try rw [hl3_1] at c11b0_hl3_1)
         clear c11
         obtain ⟨y113, hy113⟩ : ∃ y_ : List ByteArray, y_ = (x3_1.set (x10_1 : Int).toNat t112) := ⟨_, rfl⟩
         replace H : (addr_text.l0 k1 l0 y113 (y108.length : Int) (wrap64 (x10_1 + 1))) = some r := by first | (rw [hy113]; with_reducible exact H) | (have H2_ := (Option.bind_some _ _).symm.trans H; rw [hy113]; with_reducible exact H2_) | (have H2_ := (Option.bind_some _ _).symm.trans H; with_reducible exact H2_) | with_reducible exact H | (rw [hy113]; exact H) | exact H
         have Ny113 := Aside0.mk hy113
         clear hy113
         have H' := Aside0.mk H
         clear H
         have p111 : 0 ≤ (x10_1 : Int) := of_decide_eq_true (by first | (with_reducible assumption) | assumption)
         have q111 : x10_1 < (l0.length : Int) := of_decide_eq_true (by first | (with_reducible assumption) | assumption)
         obtain ⟨ad111, e111, hx111_0⟩ := Kd.at_int HR0.out x10_1 p111 q111
         cases e111
         replace hx111_0 := (HB.out.cell (World.block_lt_of_cell? w _ hx111_0)).trans hx111_0
         replace p111 := eq_true p111
         replace q111 := eq_true q111
         go_wp2_with (first | ((with_reducible refine gate_callee (f := 37) rfl ?_); refine goesA (some 20) Tryd.func37 #[.int .u64 (IntKind.u64.wrap (rd l0 x10_1)), .int .i64 16] ?_; (with_reducible refine (strconv_FormatUint.calls (IntKind.u64.wrap (rd l0 x10_1)) 16 t112 _ ?side1 A10.out).mono ?_); (case side1 => exact Laid.below HLD.out (pE HB)); rintro e w13 ⟨rfl, hb⟩; refine ⟨_, rfl, ?_⟩; replace HO_3 := Aside0.mk (Kd.R_below (by (with_reducible repeat (first | apply Kd.R_alloc | apply Kd.R_drewN | apply Kd.R_drew)); exact HO_3.out) hb); replace HB := (pS HB hb); (try clear hb); (try clear hk); have p12 : 0 ≤ (x10_1 : Int) := of_decide_eq_true (by first | (with_reducible assumption) | assumption); have q12 : (x10_1 : Int) < ((x3_1.length : Int) : Int) := of_decide_eq_true (by first | (with_reducible assumption) | assumption); obtain ⟨go12, co12, eo12, gb12, gl12, cl12, HG12⟩ := Kd.R_form HO_3.out (by omega); (first | cases eo12 | (injection eo12 with ea_ en_ ec_; (first | subst ea_ | (injection ea_ with ea_; subst ea_)); subst ec_; clear en_)); have GB12 := Aside0.mk gb12; have GG12 := Aside0.mk HG12; clear gb12 gl12 HG12; obtain ⟨hx12_0, hf12_0⟩ := Kd.R_celln (⟨#[]⟩ : ByteArray) HO_3.out (x10_1 : Int) p12 q12; replace p12 := eq_true p12; replace q12 := eq_true q12; obtain ⟨hy14_, hz14_⟩ := Kd.R_celln (⟨#[]⟩ : ByteArray) HO_3.out (x10_1 : Int) (of_decide_eq_true (by first | (with_reducible assumption) | assumption)) (of_decide_eq_true (by first | (with_reducible assumption) | assumption)); have HP14 := Kd.R_putg HO_3.out (x10_1 : Int) t112) | ((with_reducible refine gate_store (t := 9) (p := 21) rfl ?_); refine store_event (t := 9) (p := 21) (v := ?vo_w15) (w1 := (w13.setCell ⟨go12, (x10_1 : Int).toNat, none⟩ (.string t112))) ?hg ?ho ?hn ?hr ?_; (case ho => rfl); (case hg => rfl); (case hn => rfl); (case hr => first | (go_simp; done) | (go_simp; rfl)); intro w15 hw; have hg : w13.grownBy w15 (some go12) := (by rw [hw]; exact HP14.2); have hp_ : Kd.R Kd.string 9 w15 w.heap.size (fun _ => True) (.slice (some ⟨go12, 0, none⟩) x3_1.length co6) y113 := (by rw [hw, Ny113.out]; exact HP14.1); clear HP14; replace HO_3 := Aside0.mk (hp_); replace HB := Aside0.mk ((by rw [hw]; exact below_set (HB.out) GB12.out : Below w.heap.size w w15)); clear hg hw hp_))
         (try simp only [← hl3_1])
         go_roundg k1
         case measure => have := HK1.out; omega
         case rel => exact ⟨(y113), (wrap64 (x10_1 + 1)), pT, H', ⟨by have := HK1.out; omega⟩, ⟨by (try simp only [hl3_1]); (with_reducible repeat (first | apply Kd.R_alloc | apply Kd.R_drewN | apply Kd.R_drew)); exact HO_3.out⟩, ⟨pE HB⟩⟩
        ·
         rw [if_neg c11] at H
         exact absurd H (by simp)
       ·
        rw [if_neg c9] at H
        exact absurd H (by simp)
      ·
       rw [if_neg c8] at H
       exact absurd H (by simp)
     ·
      rw [if_neg c7] at H
      have c7b0 : decide (x10_1 < (y108.length : Int)) = false := decide_eq_false c7
      have c7b0_hl3_1 := c7b0
      (try rw [hl3_1] at c7b0_hl3_1)
      clear c7
      replace H := Option.bind_eq_some_iff.mp H
      obtain ⟨t114, A160, H⟩ := H
      replace H : (some t114) = some r := H
      have A16 := Aside0.mk A160
      clear A160
      obtain rfl := Option.some.inj H
      go_wp2_with (first | ((with_reducible refine gate_callee (f := 40) rfl ?_); refine goesA (some 24) Tryd.func40 #[.slice Ao6 x3_1.length co6, .string (⟨#[58]⟩ : ByteArray)] ?_; (with_reducible refine (strings_Join.calls _ _ x3_1 (⟨#[58]⟩ : ByteArray) t114 _ ?side1 ?side2 A16.out).mono ?_); (case side1 => repeat (first | exact (Kd.R_reads' HO_3.out).2.2 | (with_reducible refine Kd.C_alloc ?_ _) | (with_reducible refine Kd.C_drewN ?_ _) | (with_reducible refine Kd.C_drew ?_))); (case side2 => exact (Kd.R_reads' HO_3.out).2.1); rintro e w17 ⟨rfl, hb⟩; refine ⟨_, rfl, ?_⟩; replace HO_3 := Aside0.mk (Kd.R_below (by (with_reducible repeat (first | apply Kd.R_alloc | apply Kd.R_drewN | apply Kd.R_drew)); exact HO_3.out) hb); replace HB := (pS HB hb); (try clear hb); (try clear hk)))
      go_ret
      exact pR (pE HB)
  ·
   rw [if_neg c3] at H
   exact absurd H (by simp)
 ·
  rw [if_neg c2] at H
  exact absurd H (by simp)

/-! ### addr_Print: function 27 (given) -/
def grp8 (hi lo : Int) : List Int := [IntKind.u16.wrap (hi / 281474976710656), IntKind.u16.wrap (hi / 4294967296), IntKind.u16.wrap (hi / 65536), IntKind.u16.wrap hi, IntKind.u16.wrap (lo / 281474976710656), IntKind.u16.wrap (lo / 4294967296), IntKind.u16.wrap (lo / 65536), IntKind.u16.wrap lo]
set_option maxHeartbeats 4000000 in
set_option maxRecDepth 100000 in
theorem groupsOf_calls (b : Bool) (hi lo : Int) (w : World) :
    Calls Tryd.prog 41 #[.agg #[.bool b, .int .u64 hi, .int .u64 lo]] w fun e w' => e = .returned (.agg #[.int .u16 (IntKind.u16.wrap (hi / 281474976710656)), .int .u16 (IntKind.u16.wrap (hi / 4294967296)), .int .u16 (IntKind.u16.wrap (hi / 65536)), .int .u16 (IntKind.u16.wrap hi), .int .u16 (IntKind.u16.wrap (lo / 281474976710656)), .int .u16 (IntKind.u16.wrap (lo / 4294967296)), .int .u16 (IntKind.u16.wrap (lo / 65536)), .int .u16 (IntKind.u16.wrap lo)]) ∧ Below w.heap.size w w' := by
  have huA_ := Tryd.underlying24
  have huG_ := Tryd.underlying82
  go_enter Tryd.func41, Tryd.ntmps41
  go_wp2
  refine wp_loop_rounds 5 ?_
  rw [rounds_succ]
  go_wp2
  rw [rounds_succ]
  go_wp2
  rw [rounds_succ]
  go_wp2
  rw [rounds_succ]
  go_wp2
  rw [rounds_succ]
  go_wp2
  refine bodyPost_ret (v := .agg #[.int .u16 (IntKind.u16.wrap (hi / 281474976710656)), .int .u16 (IntKind.u16.wrap (hi / 4294967296)), .int .u16 (IntKind.u16.wrap (hi / 65536)), .int .u16 (IntKind.u16.wrap hi), .int .u16 (IntKind.u16.wrap (lo / 281474976710656)), .int .u16 (IntKind.u16.wrap (lo / 4294967296)), .int .u16 (IntKind.u16.wrap (lo / 65536)), .int .u16 (IntKind.u16.wrap lo)]) (by simp [results, Tryd.results41, go_sem]) rfl ⟨rfl, ?_⟩
  repeat (first | exact Below.refl _ _ | apply below_drew | apply below_alloc | apply pw_below_drewN)

def zr (g : List Int) (i : Nat) : Nat := ((g.drop i).takeWhile (· == 0)).length
def lstep (g : List Int) (p : Nat × Nat) (i : Nat) : Nat × Nat := if zr g i > p.2 then (i, zr g i) else p
def longest (g : List Int) : Nat × Nat := (List.range 8).foldl (lstep g) (0, 0)
theorem zr_eq (g : List Int) (hg : g.length = 8) : ∀ (n i : Nat), i + n ≤ 8 → (∀ j, j < n → g.getD (i + j) 0 = 0) → (i + n < 8 → g.getD (i + n) 0 ≠ 0) → zr g i = n
  | 0, i, h, _, he => by
    unfold zr
    by_cases h8 : i < 8
    · have hne := he (by omega)
      rw [List.drop_eq_getElem_cons (by omega : i < g.length)]
      rw [Nat.add_zero, List.getD_eq_getElem?_getD, List.getElem?_eq_getElem (by omega : i < g.length)] at hne
      have hb : (g[i] == 0) = false := by simpa using hne
      rw [List.takeWhile_cons_of_neg (by rw [hb]; decide)]
      rfl
    · rw [List.drop_of_length_le (by omega)]
      rfl
  | n + 1, i, h, h0, he => by
    have h1 := h0 0 (by omega)
    have ih := zr_eq g hg n (i + 1) (by omega) (fun j hj => by have := h0 (j + 1) (by omega); rwa [show i + (j + 1) = i + 1 + j by omega] at this) (fun h2 => by have := he (by omega); rwa [show i + (n + 1) = i + 1 + n by omega] at this)
    unfold zr at ih ⊢
    rw [List.drop_eq_getElem_cons (by omega : i < g.length)]
    rw [Nat.add_zero, List.getD_eq_getElem?_getD, List.getElem?_eq_getElem (by omega : i < g.length)] at h1
    have hb : (g[i] == 0) = true := by simpa using h1
    simp only [List.takeWhile_cons, hb, if_true, List.length_cons, ih]
theorem lfold_succ (g : List Int) (i : Nat) : (List.range (i + 1)).foldl (lstep g) (0, 0) = lstep g ((List.range i).foldl (lstep g) (0, 0)) i := by
  rw [List.range_succ, List.foldl_append]
  rfl
set_option maxHeartbeats 4000000 in
set_option maxRecDepth 100000 in
theorem longest_calls (g0 g1 g2 g3 g4 g5 g6 g7 : Int) (w : World) :
    Calls Tryd.prog 42 #[.agg #[.int .u16 g0, .int .u16 g1, .int .u16 g2, .int .u16 g3, .int .u16 g4, .int .u16 g5, .int .u16 g6, .int .u16 g7]] w fun e w' => e = .returned (.tuple #[.int .i64 ((longest [g0, g1, g2, g3, g4, g5, g6, g7]).1 : Int), .int .i64 ((longest [g0, g1, g2, g3, g4, g5, g6, g7]).2 : Int)]) ∧ Below w.heap.size w w' := by
  have huG_ := Tryd.underlying82
  obtain ⟨g, hg⟩ : ∃ g : List Int, g = [g0, g1, g2, g3, g4, g5, g6, g7] := ⟨_, rfl⟩
  have hcells : ∀ t : Nat, t < 8 → (w.alloc (.cells #[.int .u16 g0, .int .u16 g1, .int .u16 g2, .int .u16 g3, .int .u16 g4, .int .u16 g5, .int .u16 g6, .int .u16 g7] 82)).cell? ⟨w.heap.size, t, none⟩ = some (.int .u16 (g.getD t 0)) := by
    intro t ht
    rw [World.cell?_alloc_new, hg]
    match t, ht with
    | 0, _ => rfl
    | 1, _ => rfl
    | 2, _ => rfl
    | 3, _ => rfl
    | 4, _ => rfl
    | 5, _ => rfl
    | 6, _ => rfl
    | 7, _ => rfl
  have HL := Aside0.mk (show g.length = 8 by rw [hg]; rfl)
  rw [← hg]
  have HB := Aside0.mk (show Below w.heap.size w (w.alloc (.cells #[.int .u16 g0, .int .u16 g1, .int .u16 g2, .int .u16 g3, .int .u16 g4, .int .u16 g5, .int .u16 g6, .int .u16 g7] 82)) from below_alloc (Below.refl _ _) _)
  clear hg
  go_enter Tryd.func42, Tryd.ntmps42
  go_wp2
  generalize w.alloc (.cells #[.int .u16 g0, .int .u16 g1, .int .u16 g2, .int .u16 g3, .int .u16 g4, .int .u16 g5, .int .u16 g6, .int .u16 g7] 82) = W at hcells HB ⊢
  have HCS := Aside0.mk hcells
  clear hcells
  go_loopw [4, 5, 8] (fun va vm vi wr => ∃ (i : Nat) (p : Nat × Nat), va = .int .i64 (p.1 : Int) ∧ vm = .int .i64 (p.2 : Int) ∧ vi = .int .i64 (i : Int) ∧ wr = W ∧ Hid (i ≤ 8 ∧ p = (List.range i).foldl (lstep g) (0, 0))) (fun _ _ vi _ => 8 - (RowKit.intOf vi).toNat)
  case atStart => exact ⟨0, (0, 0), rfl, rfl, rfl, rfl, by decide, rfl⟩
  case round =>
    obtain ⟨i, p, rfl, rfl, rfl, rfl, HI⟩ := hrel
    have hle := HI.out.1
    by_cases h8 : i < 8
    · have h8i : (i : Int) < 8 := by omega
      go_wp2
      rename World => wr
      go_loopw [7] (fun vn wr2 => ∃ n : Nat, vn = .int .i64 (n : Int) ∧ wr2 = wr ∧ Hid (i + n ≤ 8 ∧ ∀ j, j < n → g.getD (i + j) 0 = 0)) (fun vn _ => 8 - (RowKit.intOf vn).toNat)
      case atStart => exact ⟨0, rfl, rfl, by omega, fun j hj => absurd hj (by omega)⟩
      case round =>
        obtain ⟨n, rfl, rfl, HN⟩ := hrel
        have hnle := HN.out.1
        have hwr : wrap64 ((i : Int) + (n : Int)) = ((i + n : Nat) : Int) := by unfold wrap64; omega
        by_cases hlt : i + n < 8
        · have hlti : (i : Int) + (n : Int) < 8 := by omega
          have hc := HCS.out (i + n) hlt
          obtain ⟨x, hx⟩ : ∃ x, x = g.getD (i + n) 0 := ⟨_, rfl⟩
          rw [← hx] at hc
          have HX := Aside0.mk hx
          clear hx
          by_cases hz : x = 0
          · subst hz
            go_wp2
            go_roundw
            case rel => exact ⟨n + 1, by first | go_num | (congr 1), trivial, by omega, fun j hj => by
              rcases Nat.lt_succ_iff_lt_or_eq.1 hj with h | h
              · exact HN.out.2 j h
              · rw [h]; exact HX.out.symm⟩
            case measure => simp [RowKit.intOf]; omega
          · have hzr : zr g i = n := zr_eq g HL.out n i HN.out.1 HN.out.2 (fun _ => HX.out ▸ hz)
            by_cases hgt : p.2 < n
            · have hgtI : (p.2 : Int) < (n : Int) := by omega
              go_wp2
              refine ⟨⟨i + 1, (i, n), rfl, rfl, by first | go_num | (congr 1), trivial, by omega, ?_⟩, by simp [RowKit.intOf]; omega⟩
              rw [lfold_succ, ← HI.out.2]
              unfold lstep
              rw [hzr, if_pos hgt]
            · have hgtI : ¬ (p.2 : Int) < (n : Int) := by omega
              go_wp2
              refine ⟨⟨i + 1, p, rfl, rfl, by first | go_num | (congr 1), trivial, by omega, ?_⟩, by simp [RowKit.intOf]; omega⟩
              rw [lfold_succ, ← HI.out.2]
              unfold lstep
              rw [hzr, if_neg hgt]
        · have hlti : ¬ (i : Int) + (n : Int) < 8 := by omega
          have hzr : zr g i = n := zr_eq g HL.out n i HN.out.1 HN.out.2 (fun h => absurd h hlt)
          by_cases hgt : p.2 < n
          · have hgtI : (p.2 : Int) < (n : Int) := by omega
            go_wp2
            refine ⟨⟨i + 1, (i, n), rfl, rfl, by first | go_num | (congr 1), trivial, by omega, ?_⟩, by simp [RowKit.intOf]; omega⟩
            rw [lfold_succ, ← HI.out.2]
            unfold lstep
            rw [hzr, if_pos hgt]
          · have hgtI : ¬ (p.2 : Int) < (n : Int) := by omega
            go_wp2
            refine ⟨⟨i + 1, p, rfl, rfl, by first | go_num | (congr 1), trivial, by omega, ?_⟩, by simp [RowKit.intOf]; omega⟩
            rw [lfold_succ, ← HI.out.2]
            unfold lstep
            rw [hzr, if_neg hgt]
    · have h8e : i = 8 := by omega
      subst h8e
      have hp : p = longest g := HI.out.2
      subst hp
      go_wp2
      refine bodyPost_ret (v := .tuple #[.int .i64 ((longest g).1 : Int), .int .i64 ((longest g).2 : Int)]) (by simp [results, Tryd.results42, go_sem]) rfl ⟨rfl, HB.out⟩

theorem fuf10 (u : Nat) (hu : u < 18446744073709551616) : strconv_FormatUint.f (u : Int) 10 = some (⟨(Lib.decDigits u).toArray⟩ : ByteArray) := by
  unfold strconv_FormatUint.f
  rw [if_pos rfl, if_pos ⟨by omega, by omega⟩, Int.toNat_natCast]
theorem and255_ (u d : Nat) (hd : d = u % 256) (hu : u < 18446744073709551616) (x : Int) (hx : x = (u : Int)) : bits .and .u64 x 255 = (d : Int) := by
  subst hx
  have := bits_and_u64_nat u 255 hu (by omega)
  rw [show ((255 : Nat) : Int) = 255 from rfl] at this
  rw [this]
  have e : u &&& 255 = u % 256 := Nat.and_two_pow_sub_one_eq_mod u 8
  rw [e, hd]
theorem pr_below_mono_ {B B' : Nat} {w w' : World} (h : Below B w w') (hb : B' ≤ B) : Below B' w w' := ⟨h.os, h.tape, h.output, h.size, fun k hk => h.block k (by omega)⟩
theorem made4_ : madeCells #[.string (⟨#[]⟩ : ByteArray)] 4 = #[.string (⟨#[]⟩ : ByteArray), .string (⟨#[]⟩ : ByteArray), .string (⟨#[]⟩ : ByteArray), .string (⟨#[]⟩ : ByteArray)] := by
  unfold madeCells
  rw [show Array.range 4 = #[0, 1, 2, 3] by decide +kernel]
  simp [Nat.mod_one]
def dec4 (lo : Nat) : List ByteArray := [⟨(Lib.decDigits (lo / 16777216 % 256)).toArray⟩, ⟨(Lib.decDigits (lo / 65536 % 256)).toArray⟩, ⟨(Lib.decDigits (lo / 256 % 256)).toArray⟩, ⟨(Lib.decDigits (lo % 256)).toArray⟩]
theorem kdC_str4 {w : World} {g : Nat} {a b c d : ByteArray} (h : w.heap[g]? = some (.cells #[.string a, .string b, .string c, .string d] 9 (0, 0))) : Kd.C Kd.string w (some ⟨g, 0, none⟩) 4 [a, b, c, d] := by
  refine ⟨rfl, by decide, fun _ => ⟨_, rfl, fun j p hp => ⟨[.string p], rfl, rfl, fun i u hu => ?_⟩⟩⟩
  have hi : i = 0 := by
    have := (List.getElem?_eq_some_iff.1 hu).1
    simpa using this
  subst hi
  have hu' : u = .string p := by simpa using hu.symm
  subst hu'
  show w.cell? ((⟨g, 0, none⟩ : Addr).add (j * 1 + 0)) = _
  rw [Lib.add_plain, blk_cell h]
  match j, hp with
  | 0, hp => cases hp; rfl
  | 1, hp => cases hp; rfl
  | 2, hp => cases hp; rfl
  | 3, hp => cases hp; rfl
set_option maxHeartbeats 4000000 in
set_option maxRecDepth 100000 in
theorem Print_v4 (a1 : Int) (lo d0 d1 d2 d3 : Nat) (s0 s1 s2 s3 r : ByteArray) (hlo : lo < 18446744073709551616)
    (e0 : d0 = lo / 16777216 % 256) (e1 : d1 = lo / 65536 % 256) (e2 : d2 = lo / 256 % 256) (e3 : d3 = lo % 256)
    (hs0 : strconv_FormatUint.f (d0 : Int) 10 = some s0) (hs1 : strconv_FormatUint.f (d1 : Int) 10 = some s1) (hs2 : strconv_FormatUint.f (d2 : Int) 10 = some s2) (hs3 : strconv_FormatUint.f (d3 : Int) 10 = some s3)
    (hj : strings_Join.f [s0, s1, s2, s3] (⟨#[46]⟩ : ByteArray) = some r) (w : World) (hLD : Laid w) (hv : addr_Valid.f false a1 (lo : Int) = some true) :
    Calls Tryd.prog 27 #[.agg #[.bool false, .int .u64 a1, .int .u64 (lo : Int)]] w fun e w' => e = .returned (.tuple #[.string r, .int .i64 0]) ∧ Below w.heap.size w w' := by
  have huA_ := Tryd.underlying24
  have HLD := Aside0.mk hLD
  have HV := Aside0.mk hv
  have HS0 := Aside0.mk hs0
  have HS1 := Aside0.mk hs1
  have HS2 := Aside0.mk hs2
  have HS3 := Aside0.mk hs3
  have HJ := Aside0.mk hj
  have b0 := and255_ (lo / 16777216) d0 e0 (by omega) ((lo : Int) / 16777216) (by omega)
  have b1 := and255_ (lo / 65536) d1 e1 (by omega) ((lo : Int) / 65536) (by omega)
  have b2 := and255_ (lo / 256) d2 e2 (by omega) ((lo : Int) / 256) (by omega)
  have b3 := and255_ lo d3 e3 (by omega) (lo : Int) rfl
  have hmk : ∀ W : World, (Instr.makeSlice 78 (.int .i64 4) (.int .i64 4)).run Tryd.prog W = .ok (.slice (some ⟨W.heap.size, 0, none⟩) 4 4) (W.alloc (.cells #[.string (⟨#[]⟩ : ByteArray), .string (⟨#[]⟩ : ByteArray), .string (⟨#[]⟩ : ByteArray), .string (⟨#[]⟩ : ByteArray)] 9)) := fun W => (print_make_of 78 9 (.string (⟨#[]⟩ : ByteArray)) 16 (by kernel_rfl) (by kernel_rfl) rfl (by decide) 4 (by decide) W).trans (by rw [made4_])
  clear hLD hv hs0 hs1 hs2 hs3 hj e0 e1 e2 e3 hlo
  go_enter Tryd.func27, Tryd.ntmps27
  go_wp2_with fail
  refine (addr_Valid.calls false a1 (lo : Int) true _ HV.out).mono ?_
  rintro e w1 ⟨rfl, hb⟩
  have hw : Below w.heap.size w w1 := Below.trans (below_alloc (Below.refl _ _) _) (pr_below_mono_ hb (by simp))
  have hbx : w1.heap[w.heap.size]? = some (.cells #[.bool false, .int .u64 a1, .int .u64 (lo : Int)] 24 (0, 0)) := blk_below (blk_new _ _) hb
  have hlt : w.heap.size < w1.heap.size := blk_lt hbx
  have HW := Aside0.mk hw
  have HBX := Aside0.mk hbx
  have HSL := Aside0.mk (Nat.le_of_lt hlt)
  clear hw hb
  have c0 : w1.cell? ⟨w.heap.size, 0, none⟩ = some (.bool false) := (blk_cell hbx 0).trans rfl
  have c2 : w1.cell? ⟨w.heap.size, 2, none⟩ = some (.int .u64 (lo : Int)) := (blk_cell hbx 2).trans rfl
  clear hbx
  have hsl : w.heap.size ≠ w1.heap.size := by omega
  have V0 := Aside0.mk (show Below w.heap.size w (w1.alloc (.cells #[.string (⟨#[]⟩ : ByteArray), .string (⟨#[]⟩ : ByteArray), .string (⟨#[]⟩ : ByteArray), .string (⟨#[]⟩ : ByteArray)] 9)) from below_alloc HW.out _)
  have S0 := Aside0.mk (show (w1.alloc (.cells #[.string (⟨#[]⟩ : ByteArray), .string (⟨#[]⟩ : ByteArray), .string (⟨#[]⟩ : ByteArray), .string (⟨#[]⟩ : ByteArray)] 9)).heap[w1.heap.size]? = some (.cells #[.string (⟨#[]⟩ : ByteArray), .string (⟨#[]⟩ : ByteArray), .string (⟨#[]⟩ : ByteArray), .string (⟨#[]⟩ : ByteArray)] 9 (0, 0)) from blk_new _ _)
  have X0 := Aside0.mk (show (w1.alloc (.cells #[.string (⟨#[]⟩ : ByteArray), .string (⟨#[]⟩ : ByteArray), .string (⟨#[]⟩ : ByteArray), .string (⟨#[]⟩ : ByteArray)] 9)).heap[w.heap.size]? = some (.cells #[.bool false, .int .u64 a1, .int .u64 (lo : Int)] 24 (0, 0)) from blk_alloc HBX.out _)
  go_wp2_with fail
  refine wp_loop_rounds 5 ?_
  rw [rounds_succ]
  go_wp2_with fail
  refine (strconv_FormatUint.calls (d0 : Int) 10 s0 _ (HLD.out.below V0.out) HS0.out).mono ?_
  rintro e u0 ⟨rfl, hb⟩
  have hw : Below w.heap.size w u0 := Below.trans V0.out (pr_below_mono_ hb V0.out.size)
  have hs : u0.heap[w1.heap.size]? = some (.cells #[.string (⟨#[]⟩ : ByteArray), .string (⟨#[]⟩ : ByteArray), .string (⟨#[]⟩ : ByteArray), .string (⟨#[]⟩ : ByteArray)] 9 (0, 0)) := blk_below S0.out hb
  have hx : u0.heap[w.heap.size]? = some (.cells #[.bool false, .int .u64 a1, .int .u64 (lo : Int)] 24 (0, 0)) := blk_below X0.out hb
  have V1 := Aside0.mk (show Below w.heap.size w (u0.setCell ⟨w1.heap.size, 0, none⟩ (.string s0)) from below_set hw HSL.out)
  have S1 := Aside0.mk (show (u0.setCell ⟨w1.heap.size, 0, none⟩ (.string s0)).heap[w1.heap.size]? = some (.cells #[.string s0, .string (⟨#[]⟩ : ByteArray), .string (⟨#[]⟩ : ByteArray), .string (⟨#[]⟩ : ByteArray)] 9 (0, 0)) from blk_put hs 0 _ rfl)
  have X1 := Aside0.mk (show (u0.setCell ⟨w1.heap.size, 0, none⟩ (.string s0)).heap[w.heap.size]? = some (.cells #[.bool false, .int .u64 a1, .int .u64 (lo : Int)] 24 (0, 0)) from blk_far hx hsl _)
  have cc0 : u0.cell? ⟨w1.heap.size, 0, none⟩ = some (.string (⟨#[]⟩ : ByteArray)) := (blk_cell hs 0).trans rfl
  have cf0 := blk_frozen hs 0
  have cx0 : (u0.setCell ⟨w1.heap.size, 0, none⟩ (.string s0)).cell? ⟨w.heap.size, 2, none⟩ = some (.int .u64 (lo : Int)) := (blk_cell X1.out 2).trans rfl
  clear hw hs hx hb
  go_wp2_with fail
  rw [rounds_succ]
  go_wp2_with fail
  refine (strconv_FormatUint.calls (d1 : Int) 10 s1 _ (HLD.out.below V1.out) HS1.out).mono ?_
  rintro e u1 ⟨rfl, hb⟩
  have hw : Below w.heap.size w u1 := Below.trans V1.out (pr_below_mono_ hb V1.out.size)
  have hs : u1.heap[w1.heap.size]? = some (.cells #[.string s0, .string (⟨#[]⟩ : ByteArray), .string (⟨#[]⟩ : ByteArray), .string (⟨#[]⟩ : ByteArray)] 9 (0, 0)) := blk_below S1.out hb
  have hx : u1.heap[w.heap.size]? = some (.cells #[.bool false, .int .u64 a1, .int .u64 (lo : Int)] 24 (0, 0)) := blk_below X1.out hb
  have V2 := Aside0.mk (show Below w.heap.size w (u1.setCell ⟨w1.heap.size, 1, none⟩ (.string s1)) from below_set hw HSL.out)
  have S2 := Aside0.mk (show (u1.setCell ⟨w1.heap.size, 1, none⟩ (.string s1)).heap[w1.heap.size]? = some (.cells #[.string s0, .string s1, .string (⟨#[]⟩ : ByteArray), .string (⟨#[]⟩ : ByteArray)] 9 (0, 0)) from blk_put hs 1 _ rfl)
  have X2 := Aside0.mk (show (u1.setCell ⟨w1.heap.size, 1, none⟩ (.string s1)).heap[w.heap.size]? = some (.cells #[.bool false, .int .u64 a1, .int .u64 (lo : Int)] 24 (0, 0)) from blk_far hx hsl _)
  have cc1 : u1.cell? ⟨w1.heap.size, 1, none⟩ = some (.string (⟨#[]⟩ : ByteArray)) := (blk_cell hs 1).trans rfl
  have cf1 := blk_frozen hs 1
  have cx1 : (u1.setCell ⟨w1.heap.size, 1, none⟩ (.string s1)).cell? ⟨w.heap.size, 2, none⟩ = some (.int .u64 (lo : Int)) := (blk_cell X2.out 2).trans rfl
  clear hw hs hx hb
  go_wp2_with fail
  rw [rounds_succ]
  go_wp2_with fail
  refine (strconv_FormatUint.calls (d2 : Int) 10 s2 _ (HLD.out.below V2.out) HS2.out).mono ?_
  rintro e u2 ⟨rfl, hb⟩
  have hw : Below w.heap.size w u2 := Below.trans V2.out (pr_below_mono_ hb V2.out.size)
  have hs : u2.heap[w1.heap.size]? = some (.cells #[.string s0, .string s1, .string (⟨#[]⟩ : ByteArray), .string (⟨#[]⟩ : ByteArray)] 9 (0, 0)) := blk_below S2.out hb
  have hx : u2.heap[w.heap.size]? = some (.cells #[.bool false, .int .u64 a1, .int .u64 (lo : Int)] 24 (0, 0)) := blk_below X2.out hb
  have V3 := Aside0.mk (show Below w.heap.size w (u2.setCell ⟨w1.heap.size, 2, none⟩ (.string s2)) from below_set hw HSL.out)
  have S3 := Aside0.mk (show (u2.setCell ⟨w1.heap.size, 2, none⟩ (.string s2)).heap[w1.heap.size]? = some (.cells #[.string s0, .string s1, .string s2, .string (⟨#[]⟩ : ByteArray)] 9 (0, 0)) from blk_put hs 2 _ rfl)
  have X3 := Aside0.mk (show (u2.setCell ⟨w1.heap.size, 2, none⟩ (.string s2)).heap[w.heap.size]? = some (.cells #[.bool false, .int .u64 a1, .int .u64 (lo : Int)] 24 (0, 0)) from blk_far hx hsl _)
  have cc2 : u2.cell? ⟨w1.heap.size, 2, none⟩ = some (.string (⟨#[]⟩ : ByteArray)) := (blk_cell hs 2).trans rfl
  have cf2 := blk_frozen hs 2
  have cx2 : (u2.setCell ⟨w1.heap.size, 2, none⟩ (.string s2)).cell? ⟨w.heap.size, 2, none⟩ = some (.int .u64 (lo : Int)) := (blk_cell X3.out 2).trans rfl
  clear hw hs hx hb
  go_wp2_with fail
  rw [rounds_succ]
  go_wp2_with fail
  refine (strconv_FormatUint.calls (d3 : Int) 10 s3 _ (HLD.out.below V3.out) HS3.out).mono ?_
  rintro e u3 ⟨rfl, hb⟩
  have hw : Below w.heap.size w u3 := Below.trans V3.out (pr_below_mono_ hb V3.out.size)
  have hs : u3.heap[w1.heap.size]? = some (.cells #[.string s0, .string s1, .string s2, .string (⟨#[]⟩ : ByteArray)] 9 (0, 0)) := blk_below S3.out hb
  have hx : u3.heap[w.heap.size]? = some (.cells #[.bool false, .int .u64 a1, .int .u64 (lo : Int)] 24 (0, 0)) := blk_below X3.out hb
  have V4 := Aside0.mk (show Below w.heap.size w (u3.setCell ⟨w1.heap.size, 3, none⟩ (.string s3)) from below_set hw HSL.out)
  have S4 := Aside0.mk (show (u3.setCell ⟨w1.heap.size, 3, none⟩ (.string s3)).heap[w1.heap.size]? = some (.cells #[.string s0, .string s1, .string s2, .string s3] 9 (0, 0)) from blk_put hs 3 _ rfl)
  have X4 := Aside0.mk (show (u3.setCell ⟨w1.heap.size, 3, none⟩ (.string s3)).heap[w.heap.size]? = some (.cells #[.bool false, .int .u64 a1, .int .u64 (lo : Int)] 24 (0, 0)) from blk_far hx hsl _)
  have cc3 : u3.cell? ⟨w1.heap.size, 3, none⟩ = some (.string (⟨#[]⟩ : ByteArray)) := (blk_cell hs 3).trans rfl
  have cf3 := blk_frozen hs 3
  have cx3 : (u3.setCell ⟨w1.heap.size, 3, none⟩ (.string s3)).cell? ⟨w.heap.size, 2, none⟩ = some (.int .u64 (lo : Int)) := (blk_cell X4.out 2).trans rfl
  clear hw hs hx hb
  go_wp2_with fail
  rw [rounds_succ]
  go_wp2_with fail
  refine (strings_Join.calls (some ⟨w1.heap.size, 0, none⟩) 4 [s0, s1, s2, s3] (⟨#[46]⟩ : ByteArray) r _ (kdC_str4 S4.out) (Nat.le_refl 4) HJ.out).mono ?_
  rintro e w9 ⟨rfl, hb⟩
  have HW9 := Aside0.mk (Below.trans V4.out (pr_below_mono_ hb V4.out.size))
  clear hb
  go_wp2_with fail
  refine bodyPost_ret (v := .tuple #[.string r, .int .i64 0]) (by simp [results, Tryd.results27, go_sem]) rfl ⟨rfl, HW9.out⟩
theorem kdC_u16 {w : World} {g off n : Nat} {G : List Int} (h : w.heap[g]? = some (.cells (nums .u16 G).toArray 82 (0, 0))) (hoff : off + n ≤ G.length) (h8 : G.length = 8) : Kd.C (Kd.int .u16) w (some ⟨g, off, none⟩) n ((G.drop off).take n) := by
  refine ⟨by rw [List.length_take, List.length_drop]; omega, by omega, fun _ => ⟨_, rfl, fun j p hp => ⟨[.int .u16 p], rfl, rfl, fun i u hu => ?_⟩⟩⟩
  have hi : i = 0 := by
    have := (List.getElem?_eq_some_iff.1 hu).1
    simpa using this
  subst hi
  have hu' : u = .int .u16 p := by simpa using hu.symm
  subst hu'
  show w.cell? ((⟨g, off, none⟩ : Addr).add (j * 1 + 0)) = _
  rw [Lib.add_plain, blk_cell h]
  have hj : j < n := by
    have := (List.getElem?_eq_some_iff.1 hp).1
    rw [List.length_take] at this
    omega
  rw [List.getElem?_take_of_lt hj, List.getElem?_drop] at hp
  simp only [nums, Nat.mul_one, Nat.add_zero, List.getElem?_toArray, List.getElem?_map, hp, Option.map_some]
theorem text_calls' (k : Nat) (A0 : Option Addr) (n c0 : Nat) (l0 : List Int) (hn : l0.length = n) (r : ByteArray) (w : World) (hr0 : Kd.C (Kd.int .u16) w A0 n l0) (hc0 : n ≤ c0) (hLD : Laid w) (h : addr_text.f k l0 = some r) :
    Calls Tryd.prog 43 #[.slice A0 n c0] w fun e w' => e = .returned (.string r) ∧ Below w.heap.size w w' := by
  subst hn
  exact addr_text.calls k A0 c0 l0 r w hr0 hc0 hLD h
theorem longest_grp (hi lo : Int) (p q : Nat) (hp : longest (grp8 hi lo) = (p, q)) (w : World) :
    Calls Tryd.prog 42 #[.agg #[.int .u16 (IntKind.u16.wrap (hi / 281474976710656)), .int .u16 (IntKind.u16.wrap (hi / 4294967296)), .int .u16 (IntKind.u16.wrap (hi / 65536)), .int .u16 (IntKind.u16.wrap hi), .int .u16 (IntKind.u16.wrap (lo / 281474976710656)), .int .u16 (IntKind.u16.wrap (lo / 4294967296)), .int .u16 (IntKind.u16.wrap (lo / 65536)), .int .u16 (IntKind.u16.wrap lo)]] w fun e w' => e = .returned (.tuple #[.int .i64 (p : Int), .int .i64 (q : Int)]) ∧ Below w.heap.size w w' := by
  refine (longest_calls _ _ _ _ _ _ _ _ w).mono ?_
  rintro e w' ⟨rfl, hb⟩
  refine ⟨?_, hb⟩
  have h1 : (longest (grp8 hi lo)).1 = p := by rw [hp]
  have h2 : (longest (grp8 hi lo)).2 = q := by rw [hp]
  show Ending.returned (.tuple #[.int .i64 ((longest (grp8 hi lo)).1 : Int), .int .i64 ((longest (grp8 hi lo)).2 : Int)]) = _
  rw [h1, h2]
set_option maxRecDepth 100000 in
theorem sl_h_ (g p : Nat) (hp : p ≤ 8) : ∀ W : World, (Instr.sliceAt 82 (.pointer (some ⟨g, 0, none⟩)) none (some (.int .i64 (p : Int))) none).run Tryd.prog W = .ok (.slice (some ⟨g, 0, none⟩) p 8) W := fun W => by
  have hal : Tryd.prog.arrayLen 82 = 8 := by kernel_rfl
  have hund : Tryd.prog.underlying 82 = some (.array 8 80) := by kernel_rfl
  rw [run_sliceAt_array_h W 82 ⟨g, 0, none⟩ hund .i64 (p : Int) (by omega) (by rw [hal]; omega)]
  go_simp
set_option maxRecDepth 100000 in
theorem sl_l_ (g o n : Nat) (ho : o + n = 8) : ∀ W : World, (Instr.sliceAt 82 (.pointer (some ⟨g, 0, none⟩)) (some (.int .i64 (o : Int))) none none).run Tryd.prog W = (.ok (.slice (some ⟨g, if o = 8 then 0 else o, none⟩) n n) W) := fun W => by
  have hal : Tryd.prog.arrayLen 82 = 8 := by kernel_rfl
  have hund : Tryd.prog.underlying 82 = some (.array 8 80) := by kernel_rfl
  rw [run_sliceAt_array_l W 82 ⟨g, 0, none⟩ hund .i64 (o : Int) (by omega) (by rw [hal]; omega)]
  have : n = 8 - o := by omega
  subst this
  by_cases h8 : o = 8
  · subst h8
    go_simp
  · rw [if_neg h8]
    have h8' : ¬ 8 = o := fun h => h8 h.symm
    go_simp
theorem kdC_drop {w : World} {g o n : Nat} {G : List Int} (h : w.heap[g]? = some (.cells (nums .u16 G).toArray 82 (0, 0))) (hon : o + n = 8) (h8 : G.length = 8) : Kd.C (Kd.int .u16) w (some ⟨g, if o = 8 then 0 else o, none⟩) n (G.drop o) := by
  by_cases h : o = 8
  · subst h
    have hn : n = 0 := by omega
    subst hn
    rw [if_pos rfl, List.drop_of_length_le (by omega)]
    exact ⟨rfl, by decide, fun h => absurd h (Nat.lt_irrefl _)⟩
  · rw [if_neg h]
    have h1 := kdC_u16 (off := o) (n := n) (by assumption) (by omega) h8
    rwa [List.take_of_length_le (by rw [List.length_drop]; omega)] at h1
set_option maxHeartbeats 4000000 in
set_option maxRecDepth 100000 in
theorem Print_v6a (k : Nat) (hi lo : Int) (p q : Nat) (hp : longest (grp8 hi lo) = (p, q)) (hq : q < 2) (r : ByteArray) (ht : addr_text.f k (grp8 hi lo) = some r) (w : World) (hLD : Laid w) (hv : addr_Valid.f true hi lo = some true) :
    Calls Tryd.prog 27 #[.agg #[.bool true, .int .u64 hi, .int .u64 lo]] w fun e w' => e = .returned (.tuple #[.string r, .int .i64 0]) ∧ Below w.heap.size w w' := by
  have huA_ := Tryd.underlying24
  have huG_ := Tryd.underlying82
  have HLD := Aside0.mk hLD
  have HV := Aside0.mk hv
  have HP := Aside0.mk hp
  clear hLD hv hp
  have HT := Aside0.mk ht
  clear ht
  have hqI : (q : Int) < 2 := by omega
  go_enter Tryd.func27, Tryd.ntmps27
  go_wp2_with fail
  refine (addr_Valid.calls true hi lo true _ HV.out).mono ?_
  rintro e w1 ⟨rfl, hb⟩
  have hw : Below w.heap.size w w1 := Below.trans (below_alloc (Below.refl _ _) _) (pr_below_mono_ hb (by simp))
  have hbx : w1.heap[w.heap.size]? = some (.cells #[.bool true, .int .u64 hi, .int .u64 lo] 24 (0, 0)) := blk_below (blk_new _ _) hb
  have HW := Aside0.mk hw
  clear hw hb
  have c0 : w1.cell? ⟨w.heap.size, 0, none⟩ = some (.bool true) := (blk_cell hbx 0).trans rfl
  have c1 : w1.cell? ⟨w.heap.size, 1, none⟩ = some (.int .u64 hi) := (blk_cell hbx 1).trans rfl
  have c2 : w1.cell? ⟨w.heap.size, 2, none⟩ = some (.int .u64 lo) := (blk_cell hbx 2).trans rfl
  clear hbx
  go_wp2_with fail
  refine (groupsOf_calls true hi lo _).mono ?_
  rintro e w2 ⟨rfl, hb⟩
  have W2 := Aside0.mk (Below.trans HW.out (pr_below_mono_ hb HW.out.size))
  clear hb c0 c1 c2
  go_wp2_with fail
  refine (longest_grp hi lo p q HP.out _).mono ?_
  rintro e w3 ⟨rfl, hb⟩
  have W3 := Aside0.mk (Below.trans (below_alloc W2.out _) (pr_below_mono_ hb (below_alloc W2.out _).size))
  have G3 := Aside0.mk (show w3.heap[w2.heap.size]? = some (.cells (nums .u16 (grp8 hi lo)).toArray 82 (0, 0)) from blk_below (blk_new _ _) hb)
  clear hb
  go_wp2_with fail
  refine (text_calls' k (some ⟨w2.heap.size, 0, none⟩) 8 8 (grp8 hi lo) rfl r _ (show Kd.C (Kd.int .u16) _ _ 8 (((grp8 hi lo).drop 0).take 8) from kdC_u16 G3.out (Nat.le_refl 8) rfl) (Nat.le_refl _) (HLD.out.below W3.out) HT.out).mono ?_
  rintro e w4 ⟨rfl, hb⟩
  have W9 := Aside0.mk (Below.trans W3.out (pr_below_mono_ hb W3.out.size))
  clear hb
  go_wp2_with fail
  refine bodyPost_ret (v := .tuple #[.string r, .int .i64 0]) (by simp [results, Tryd.results27, go_sem]) rfl ⟨rfl, W9.out⟩

set_option maxHeartbeats 4000000 in
set_option maxRecDepth 100000 in
theorem Print_v6b (k : Nat) (hi lo : Int) (p q : Nat) (hp : longest (grp8 hi lo) = (p, q)) (hq : 2 ≤ q) (hpq : p + q ≤ 8) (s t : ByteArray) (ht : addr_text.f k ((grp8 hi lo).take p) = some s) (hu : addr_text.f k ((grp8 hi lo).drop (p + q)) = some t) (hz1 : s.size + 2 ≤ 9223372036854775807) (hz2 : (s ++ (⟨#[58, 58]⟩ : ByteArray)).size + t.size ≤ 9223372036854775807) (w : World) (hLD : Laid w) (hv : addr_Valid.f true hi lo = some true) :
    Calls Tryd.prog 27 #[.agg #[.bool true, .int .u64 hi, .int .u64 lo]] w fun e w' => e = .returned (.tuple #[.string ((s ++ (⟨#[58, 58]⟩ : ByteArray)) ++ t), .int .i64 0]) ∧ Below w.heap.size w w' := by
  have huA_ := Tryd.underlying24
  have huG_ := Tryd.underlying82
  have HLD := Aside0.mk hLD
  have HV := Aside0.mk hv
  have HP := Aside0.mk hp
  clear hLD hv hp
  have HT := Aside0.mk ht
  have HU := Aside0.mk hu
  clear ht hu
  have hqI : ¬ (q : Int) < 2 := by omega
  have hwq : wrap64 ((p : Int) + (q : Int)) = ((p + q : Nat) : Int) := by unfold wrap64; omega
  obtain ⟨n, hn⟩ : ∃ n, p + q + n = 8 := ⟨8 - (p + q), by omega⟩
  obtain ⟨o, ho⟩ : ∃ o, o = p + q := ⟨_, rfl⟩
  rw [← ho] at hwq hn hpq
  have HO := Aside0.mk ho
  have HN := Aside0.mk hn
  have HPQ := Aside0.mk hpq
  have h1 : (9223372036854775807 < s.size + 2) = False := eq_false (Nat.not_lt.2 hz1)
  have hz3 : s.size + 2 + t.size ≤ 9223372036854775807 := by have := hz2; rw [ByteArray.size_append] at this; exact this
  have h2 : (9223372036854775807 < s.size + 2 + t.size) = False := eq_false (Nat.not_lt.2 hz3)
  clear hq ho hn hpq
  go_enter Tryd.func27, Tryd.ntmps27
  go_wp2_with fail
  refine (addr_Valid.calls true hi lo true _ HV.out).mono ?_
  rintro e w1 ⟨rfl, hb⟩
  have hw : Below w.heap.size w w1 := Below.trans (below_alloc (Below.refl _ _) _) (pr_below_mono_ hb (by simp))
  have hbx : w1.heap[w.heap.size]? = some (.cells #[.bool true, .int .u64 hi, .int .u64 lo] 24 (0, 0)) := blk_below (blk_new _ _) hb
  have HW := Aside0.mk hw
  clear hw hb
  have c0 : w1.cell? ⟨w.heap.size, 0, none⟩ = some (.bool true) := (blk_cell hbx 0).trans rfl
  have c1 : w1.cell? ⟨w.heap.size, 1, none⟩ = some (.int .u64 hi) := (blk_cell hbx 1).trans rfl
  have c2 : w1.cell? ⟨w.heap.size, 2, none⟩ = some (.int .u64 lo) := (blk_cell hbx 2).trans rfl
  clear hbx
  go_wp2_with fail
  refine (groupsOf_calls true hi lo _).mono ?_
  rintro e w2 ⟨rfl, hb⟩
  have W2 := Aside0.mk (Below.trans HW.out (pr_below_mono_ hb HW.out.size))
  clear hb c0 c1 c2
  go_wp2_with fail
  refine (longest_grp hi lo p q HP.out _).mono ?_
  rintro e w3 ⟨rfl, hb⟩
  have W3 := Aside0.mk (Below.trans (below_alloc W2.out _) (pr_below_mono_ hb (below_alloc W2.out _).size))
  have G3 := Aside0.mk (show w3.heap[w2.heap.size]? = some (.cells (nums .u16 (grp8 hi lo)).toArray 82 (0, 0)) from blk_below (blk_new _ _) hb)
  clear hb
  have f1 := sl_h_ w2.heap.size p (by have := HPQ.out; have := HO.out; omega)
  have f2 := sl_l_ w2.heap.size o n HN.out
  have K2 : Aside0 (∀ W : World, W.heap[w2.heap.size]? = some (.cells (nums .u16 (grp8 hi lo)).toArray 82 (0, 0)) → Kd.C (Kd.int .u16) W (some ⟨w2.heap.size, if o = 8 then 0 else o, none⟩) n ((grp8 hi lo).drop (p + q))) := Aside0.mk (fun W h => by rw [← HO.out]; exact kdC_drop h HN.out rfl)
  generalize (if o = 8 then 0 else o) = o2 at f2 K2
  go_wp2_with fail
  refine start_ (n := 12) (S := fun _ => True) (ds := []) #[false, false, false, false, false, false, false, false, false, false, false, false] (by kernel_rfl) rfl rfl trivial (fun hHeld => ?_)
  have W4 := Aside0.mk (below_drew1 W3.out)
  have G4 := Aside0.mk (blk_drew G3.out)
  clear W3 G3
  generalize w3.drew = w4 at W4 G4 hHeld ⊢
  refine pure_ (i := 0) (N := some 48) (v := ?_) (a' := ?_) #[true, false, false, false, false, false, false, false, false, false, false, false] rfl rfl (by kernel_rfl) (fun _ _ _ h => h) (Or.inl ⟨by rfl, ?_⟩) ?_ ?_
  rotate_left
  · intro w'
    go_simp
    with_reducible rfl
  rotate_left
  · simp only [Act.put, List.setIfInBounds_toArray, List.set_cons_zero, List.set_cons_succ, i64_w, i32_w]
    rfl
  refine pure_ (i := 1) (N := some 49) (v := ?_) (a' := ?_) #[true, true, false, false, false, false, false, false, false, false, false, false] rfl rfl (by kernel_rfl) (fun _ _ _ h => h) (Or.inl ⟨by rfl, ?_⟩) ?_ ?_
  rotate_left
  · intro w'
    go_simp
    with_reducible rfl
  rotate_left
  · simp only [Act.put, List.setIfInBounds_toArray, List.set_cons_zero, List.set_cons_succ, i64_w, i32_w]
    rfl
  refine pure_ (i := 4) (N := some 52) (v := ?_) (a' := ?_) #[true, true, false, false, true, false, false, false, false, false, false, false] rfl rfl (by kernel_rfl) (fun _ _ _ h => h) (Or.inl ⟨by rfl, ?_⟩) ?_ ?_
  rotate_left
  · intro w'
    go_simp
    with_reducible rfl
  rotate_left
  · simp only [Act.put, List.setIfInBounds_toArray, List.set_cons_zero, List.set_cons_succ, i64_w, i32_w]
    rfl
  refine pure_ (i := 5) (N := some 53) (v := ?_) (a' := ?_) #[true, true, false, false, true, true, false, false, false, false, false, false] rfl rfl (by kernel_rfl) (fun _ _ _ h => h) (Or.inl ⟨by rfl, ?_⟩) ?_ ?_
  rotate_left
  · intro w'
    go_simp
    with_reducible rfl
  rotate_left
  · simp only [Act.put, List.setIfInBounds_toArray, List.set_cons_zero, List.set_cons_succ, i64_w, i32_w]
    rfl
  refine pure_ (i := 6) (N := some 54) (v := ?_) (a' := ?_) #[true, true, false, false, true, true, true, false, false, false, false, false] rfl rfl (by kernel_rfl) (fun _ _ _ h => h) (Or.inl ⟨by rfl, ?_⟩) ?_ ?_
  rotate_left
  · intro w'
    go_simp
    with_reducible rfl
  rotate_left
  · simp only [Act.put, List.setIfInBounds_toArray, List.set_cons_zero, List.set_cons_succ, i64_w, i32_w]
    rfl
  refine pure_ (i := 7) (N := some 55) (v := ?_) (a' := ?_) #[true, true, false, false, true, true, true, true, false, false, false, false] rfl rfl (by kernel_rfl) (fun _ _ _ h => h) (Or.inl ⟨by rfl, ?_⟩) ?_ ?_
  rotate_left
  · intro w'
    go_simp
    with_reducible rfl
  rotate_left
  · simp only [Act.put, List.setIfInBounds_toArray, List.set_cons_zero, List.set_cons_succ, i64_w, i32_w]
    rfl
  refine one_ (i := 2) (N := some 50) #[true, true, true, false, true, true, true, true, false, false, false, false] rfl rfl (by kernel_rfl) (by decide) (fun K hK => ?_)
  refine goes_ Tryd.func43 (by kernel_rfl) rfl #[.slice (some ⟨w2.heap.size, 0, none⟩) p 8] (by rfl) rfl rfl (by (try simp only [List.map_toArray, List.map_cons, List.map_nil]); first | done | rfl) ?_
  refine (text_calls' k (some ⟨w2.heap.size, 0, none⟩) p 8 ((grp8 hi lo).take p) (by rw [List.length_take]; have := HPQ.out; have := HO.out; show min p 8 = p; omega) s _ (show Kd.C (Kd.int .u16) _ _ p (((grp8 hi lo).drop 0).take p) from kdC_u16 G4.out (by have := HPQ.out; have := HO.out; show 0 + p ≤ 8; omega) rfl) (by have := HPQ.out; have := HO.out; omega) (HLD.out.below W4.out) HT.out).mono ?_
  rintro e w5 ⟨rfl, hb⟩
  refine ⟨_, rfl, ?_⟩
  refine hK.out _ _ trivial (fun hHeld => ?_)
  clear hK K
  refine norm_ (a' := ?_) ?_ ?_
  rotate_left
  · show Act.put _ (some 50) _ = _
    simp only [Act.put, List.setIfInBounds_toArray, List.set_cons_zero, List.set_cons_succ, i64_w, i32_w]
    rfl
  have W5 := Aside0.mk (Below.trans W4.out (pr_below_mono_ hb W4.out.size))
  have G5 := Aside0.mk (blk_below G4.out hb)
  clear hb
  refine pure_ (i := 3) (N := some 51) (v := ?_) (a' := ?_) #[true, true, true, true, true, true, true, true, false, false, false, false] rfl rfl (by kernel_rfl) (fun _ _ _ h => h) (Or.inl ⟨by rfl, ?_⟩) ?_ ?_
  rotate_left
  · intro w'
    go_simp
    with_reducible rfl
  rotate_left
  · simp only [Act.put, List.setIfInBounds_toArray, List.set_cons_zero, List.set_cons_succ, i64_w, i32_w]
    rfl
  refine one_ (i := 8) (N := some 56) #[true, true, true, true, true, true, true, true, true, false, false, false] rfl rfl (by kernel_rfl) (by decide) (fun K hK => ?_)
  refine goes_ Tryd.func43 (by kernel_rfl) rfl #[.slice (some ⟨w2.heap.size, o2, none⟩) n n] (by rfl) rfl rfl (by (try simp only [List.map_toArray, List.map_cons, List.map_nil]); first | done | rfl) ?_
  refine (text_calls' k (some ⟨w2.heap.size, o2, none⟩) n n ((grp8 hi lo).drop (p + q)) (by rw [List.length_drop]; have := HN.out; have := HO.out; show 8 - (p + q) = n; omega) t _ (K2.out _ G5.out) (Nat.le_refl _) (HLD.out.below W5.out) HU.out).mono ?_
  rintro e w6 ⟨rfl, hb⟩
  refine ⟨_, rfl, ?_⟩
  refine hK.out _ _ trivial (fun hHeld => ?_)
  clear hK K
  refine norm_ (a' := ?_) ?_ ?_
  rotate_left
  · show Act.put _ (some 56) _ = _
    simp only [Act.put, List.setIfInBounds_toArray, List.set_cons_zero, List.set_cons_succ, i64_w, i32_w]
    rfl
  have W9 := Aside0.mk (Below.trans W5.out (pr_below_mono_ hb W5.out.size))
  clear hb
  refine pure_ (i := 9) (N := some 57) (v := ?_) (a' := ?_) #[true, true, true, true, true, true, true, true, true, true, false, false] rfl rfl (by kernel_rfl) (fun _ _ _ h => h) (Or.inl ⟨by rfl, ?_⟩) ?_ ?_
  rotate_left
  · intro w'
    go_simp
    with_reducible rfl
  rotate_left
  · simp only [Act.put, List.setIfInBounds_toArray, List.set_cons_zero, List.set_cons_succ, i64_w, i32_w]
    rfl
  refine pure_ (i := 10) (N := some 2) (v := ?_) (a' := ?_) #[true, true, true, true, true, true, true, true, true, true, true, false] rfl rfl (by kernel_rfl) (fun _ _ _ h => h) (Or.inl ⟨by rfl, ?_⟩) ?_ ?_
  rotate_left
  · intro w'
    go_simp
    with_reducible rfl
  rotate_left
  · simp only [Act.put, List.setIfInBounds_toArray, List.set_cons_zero, List.set_cons_succ, i64_w, i32_w]
    rfl
  refine pure_ (i := 11) (N := some 3) (v := ?_) (a' := ?_) #[true, true, true, true, true, true, true, true, true, true, true, true] rfl rfl (by kernel_rfl) (fun _ _ _ h => h) (Or.inl ⟨by rfl, ?_⟩) ?_ ?_
  rotate_left
  · intro w'
    go_simp
    with_reducible rfl
  rotate_left
  · simp only [Act.put, List.setIfInBounds_toArray, List.set_cons_zero, List.set_cons_succ, i64_w, i32_w]
    rfl
  refine done_ (by kernel_rfl) ?_
  go_wp2_with fail
  refine bodyPost_ret (v := .tuple #[.string ((s ++ (⟨#[58, 58]⟩ : ByteArray)) ++ t), .int .i64 0]) (by simp [results, Tryd.results27, go_sem]) rfl ⟨rfl, W9.out⟩

theorem lfold_le (g : List Int) (hg : g.length = 8) : ∀ (l : List Nat) (p : Nat × Nat), (∀ i, i ∈ l → i ≤ 8) → p.1 + p.2 ≤ 8 → (l.foldl (lstep g) p).1 + (l.foldl (lstep g) p).2 ≤ 8
  | [], p, _, h => h
  | i :: l, p, hl, h => by
    rw [List.foldl_cons]
    refine lfold_le g hg l _ (fun j hj => hl j (List.mem_cons_of_mem _ hj)) ?_
    unfold lstep
    by_cases hz : zr g i > p.2
    · rw [if_pos hz]
      have h1 : zr g i ≤ (g.drop i).length := List.Sublist.length_le (List.takeWhile_sublist _)
      rw [List.length_drop] at h1
      have := hl i List.mem_cons_self
      show i + zr g i ≤ 8
      omega
    · rw [if_neg hz]
      exact h
theorem longest_le (g : List Int) (hg : g.length = 8) : (longest g).1 + (longest g).2 ≤ 8 := lfold_le g hg (List.range 8) (0, 0) (fun i hi => by have := List.mem_range.1 hi; omega) (by decide)
set_option maxHeartbeats 4000000 in
set_option maxRecDepth 100000 in
theorem Print_bad (b : Bool) (hi lo : Int) (w : World) (hv : addr_Valid.f b hi lo = some false) :
    Calls Tryd.prog 27 #[.agg #[.bool b, .int .u64 hi, .int .u64 lo]] w fun e w' => e = .returned (.tuple #[.string (⟨#[]⟩ : ByteArray), .int .i64 3]) ∧ Below w.heap.size w w' := by
  have huA_ := Tryd.underlying24
  have HV := Aside0.mk hv
  clear hv
  go_enter Tryd.func27, Tryd.ntmps27
  go_wp2_with fail
  refine (addr_Valid.calls b hi lo false _ HV.out).mono ?_
  rintro e w1 ⟨rfl, hb⟩
  have HW := Aside0.mk (show Below w.heap.size w w1 from Below.trans (below_alloc (Below.refl _ _) _) (pr_below_mono_ hb (by simp)))
  clear hb
  go_wp2_with fail
  refine bodyPost_ret (v := .tuple #[.string (⟨#[]⟩ : ByteArray), .int .i64 3]) (by simp [results, Tryd.results27, go_sem]) rfl ⟨rfl, HW.out⟩
def prV6 (k : Nat) (g : List Int) : Option (ByteArray × Int) := if (longest g).2 < 2 then (addr_text.f k g).bind fun s => some (s, 0) else (addr_text.f k (g.take (longest g).1)).bind fun s => (addr_text.f k (g.drop ((longest g).1 + (longest g).2))).bind fun t => if s.size + 2 ≤ 9223372036854775807 then (if (s ++ (⟨#[58, 58]⟩ : ByteArray)).size + t.size ≤ 9223372036854775807 then some ((s ++ (⟨#[58, 58]⟩ : ByteArray)) ++ t, 0) else none) else none
def addr_Print.f (k : Nat) (a0_0 : Bool) (a0_1 : Int) (a0_2 : Int) : Option (ByteArray × Int) := (addr_Valid.f a0_0 a0_1 a0_2).bind fun v => if v = true then (if a0_0 = true then prV6 k (grp8 a0_1 a0_2) else (if 0 ≤ a0_2 ∧ a0_2 < 18446744073709551616 then (strings_Join.f (dec4 a0_2.toNat) (⟨#[46]⟩ : ByteArray)).bind fun s => some (s, 0) else none)) else some ((⟨#[]⟩ : ByteArray), 3)
theorem LeO_bind_ {α β : Type} {x y : Option α} {f g : α → Option β} (h : LeO x y) (hf : ∀ a, LeO (f a) (g a)) : LeO (x.bind f) (y.bind g) := by
  intro r hr
  obtain ⟨a, ha, hr⟩ := Option.bind_eq_some_iff.mp hr
  exact Option.bind_eq_some_iff.mpr ⟨a, h a ha, hf a r hr⟩
theorem LeO_refl_ {α : Type} (x : Option α) : LeO x x := fun _ h => h
theorem prV6_mono (g : List Int) (k : Nat) : LeO (prV6 k g) (prV6 (k + 1) g) := by
  unfold prV6
  by_cases h : (longest g).2 < 2
  · rw [if_pos h, if_pos h]
    exact LeO_bind_ (addr_text.mono g k) (fun _ => LeO_refl_ _)
  · rw [if_neg h, if_neg h]
    exact LeO_bind_ (addr_text.mono _ k) (fun _ => LeO_bind_ (addr_text.mono _ k) (fun _ => LeO_refl_ _))
theorem addr_Print.mono : ∀ a0 a1 a2 k, LeO (addr_Print.f k a0 a1 a2) (addr_Print.f (k + 1) a0 a1 a2) := by
  intro a0 a1 a2 k
  unfold addr_Print.f
  refine LeO_bind_ (LeO_refl_ _) (fun v => ?_)
  by_cases h : v = true
  · rw [if_pos h, if_pos h]
    by_cases h1 : a0 = true
    · rw [if_pos h1, if_pos h1]
      exact prV6_mono _ k
    · rw [if_neg h1, if_neg h1]
      exact LeO_refl_ _
  · rw [if_neg h, if_neg h]
    exact LeO_refl_ _
theorem addr_Print.calls (k : Nat) (a0_0 : Bool) (a0_1 : Int) (a0_2 : Int) (r1 : ByteArray) (r2 : Int) (w : World) (hLD : Laid w) (h : addr_Print.f k a0_0 a0_1 a0_2 = some (r1, r2)) :
    Calls Tryd.prog 27 #[.agg #[.bool a0_0, .int .u64 a0_1, .int .u64 a0_2]] w fun e w' => e = .returned (.tuple #[.string r1, .int .i64 r2]) ∧ Below w.heap.size w w' := by
  unfold addr_Print.f at h
  obtain ⟨v, hv, h⟩ := Option.bind_eq_some_iff.mp h
  by_cases h0 : v = true
  · subst h0
    rw [if_pos rfl] at h
    by_cases h1 : a0_0 = true
    · subst h1
      rw [if_pos rfl] at h
      unfold prV6 at h
      have hle := longest_le (grp8 a0_1 a0_2) rfl
      by_cases h2 : (longest (grp8 a0_1 a0_2)).2 < 2
      · rw [if_pos h2] at h
        obtain ⟨s, hs, h⟩ := Option.bind_eq_some_iff.mp h
        simp only [Option.some.injEq, Prod.mk.injEq] at h
        obtain ⟨rfl, rfl⟩ := h
        exact Print_v6a k a0_1 a0_2 (longest (grp8 a0_1 a0_2)).1 (longest (grp8 a0_1 a0_2)).2 rfl h2 s hs w hLD hv
      · rw [if_neg h2] at h
        obtain ⟨s, hs, h⟩ := Option.bind_eq_some_iff.mp h
        obtain ⟨t, ht, h⟩ := Option.bind_eq_some_iff.mp h
        by_cases h3 : s.size + 2 ≤ 9223372036854775807
        · rw [if_pos h3] at h
          by_cases h4 : (s ++ (⟨#[58, 58]⟩ : ByteArray)).size + t.size ≤ 9223372036854775807
          · rw [if_pos h4] at h
            simp only [Option.some.injEq, Prod.mk.injEq] at h
            obtain ⟨rfl, rfl⟩ := h
            exact Print_v6b k a0_1 a0_2 (longest (grp8 a0_1 a0_2)).1 (longest (grp8 a0_1 a0_2)).2 rfl (by omega) hle s t hs ht h3 h4 w hLD hv
          · rw [if_neg h4] at h; cases h
        · rw [if_neg h3] at h; cases h
    · have h1' : a0_0 = false := by cases a0_0 <;> simp_all
      subst h1'
      rw [if_neg (by decide)] at h
      by_cases h2 : 0 ≤ a0_2 ∧ a0_2 < 18446744073709551616
      · rw [if_pos h2] at h
        obtain ⟨s, hs, h⟩ := Option.bind_eq_some_iff.mp h
        simp only [Option.some.injEq, Prod.mk.injEq] at h
        obtain ⟨rfl, rfl⟩ := h
        obtain ⟨lo, rfl⟩ : ∃ lo : Nat, a0_2 = lo := ⟨a0_2.toNat, by omega⟩
        rw [Int.toNat_natCast] at hs
        exact Print_v4 a0_1 lo _ _ _ _ _ _ _ _ s (by omega) rfl rfl rfl rfl (fuf10 _ (by omega)) (fuf10 _ (by omega)) (fuf10 _ (by omega)) (fuf10 _ (by omega)) hs w hLD hv
      · rw [if_neg h2] at h; cases h
  · have h0' : v = false := by cases v <;> simp_all
    subst h0'
    rw [if_neg (by decide)] at h
    simp only [Option.some.injEq, Prod.mk.injEq] at h
    obtain ⟨rfl, rfl⟩ := h
    exact Print_bad a0_0 a0_1 a0_2 w hv


/-! ### strconv_Itoa: function 28 (given) -/
def strconv_Itoa.f (a0 : Int) : Option ByteArray := if -9223372036854775808 ≤ a0 ∧ a0 ≤ 9223372036854775807 then some (⟨(Lib.itoa a0).toArray⟩ : ByteArray) else none
theorem strconv_Itoa.calls (a0 : Int) (r : ByteArray) (w : World) (hLD : Laid w) (h : strconv_Itoa.f a0 = some r) :
    Calls Tryd.prog 28 #[.int .i64 a0] w fun e w' => e = .returned (.string r) ∧ Below w.heap.size w w' := by
  unfold strconv_Itoa.f at h
  by_cases hb : -9223372036854775808 ≤ a0 ∧ a0 ≤ 9223372036854775807
  · rw [if_pos hb] at h
    obtain rfl := Option.some.inj h
    refine (Tryd.strconv_Itoa a0 hb.1 hb.2 w hLD.pow10).mono ?_
    rintro e w' ⟨rfl, k, os, rfl⟩
    exact ⟨rfl, Lib.below_grow w.heap.size w (Nat.le_refl _) k os⟩
  · rw [if_neg hb] at h; cases h


end Go.Proofs.YteflcmmandlknaaDoor.PA
