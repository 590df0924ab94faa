/- The Go functions in Lean, with the proofs that the code comes to these answers: printed by this session's program (wip/px) out of the seat's translation. Conditions: each theorem's own. -/
import Derived.Test.YteflcmmandlknaaGreatDoorPAx0
import Derived.Test.YteflcmmandlknaaGreatDoorPAx1
import Derived.Test.YteflcmmandlknaaGreatDoorPAx4
import Derived.Test.YteflcmmandlknaaGreatDoorPAx5
import Derived.Test.YteflcmmandlknaaGreatDoorPAx8
namespace Go.Proofs.YteflcmmandlknaaGreatDoor.PA
open Go.RowKit Go.Proofs.YteflcmmandlknaaGreatDoorW.PrintWords Go.Proofs.YteflcmmandlknaaGreatDoorW.PrintLast Go.Proofs.YteflcmmandlknaaGreatDoorW.PrintMore
attribute [local go_sem] max2_int min2_int max_two min_two max_three min_three max_four min_four   -- for this text's walks alone
attribute [local go_sem ↓] Ext.isSome_setCell
open Press
set_option linter.unusedVariables false
set_option linter.unusedSimpArgs false
attribute [local go_sem high] eqA24
/-! ### strings_Join: function 78 (given) -/
def strings_Join.f (l0 : List ByteArray) (a1 : ByteArray) : Option ByteArray := if l0.length ≤ 140737488355328 then (if (Lib.join (l0.map (·.data.toList)) a1.data.toList).length ≤ 140737488355328 then some (⟨(Lib.join (l0.map (·.data.toList)) a1.data.toList).toArray⟩ : ByteArray) else none) else none
theorem cell_spot {w : World} {a : Addr} {v : Value} (h : w.cell? a = some v) : a.spot = none ∧ a.block < w.heap.size := by
  unfold World.cell? at h
  cases hb : w.heap[a.block]? with
  | none => rw [hb] at h; cases h
  | some o =>
    rw [hb] at h
    have hlt := (Array.getElem?_eq_some_iff.1 hb).1
    cases o with
    | cells c t x =>
      cases hs : a.spot with
      | none => exact ⟨rfl, hlt⟩
      | some s => rw [hs] at h; simp at h
    | _ => cases h
theorem strings_Join.calls (A0 : Option Addr) (c0 : Nat) (l0 : List ByteArray) (a1 : ByteArray) (r : ByteArray) (w : World) (hr0 : Kd.C Kd.string w A0 l0.length l0) (hc0 : l0.length ≤ c0) (h : strings_Join.f l0 a1 = some r) :
    Calls Tryz.prog 78 #[.slice A0 l0.length c0, .string a1] w fun e w' => e = .returned (.string r) ∧ Below w.heap.size w w' := by
  unfold strings_Join.f at h
  by_cases h0 : l0.length ≤ 140737488355328
  · rw [if_pos h0] at h
    by_cases h1 : (Lib.join (l0.map (·.data.toList)) a1.data.toList).length ≤ 140737488355328
    · rw [if_pos h1] at h
      obtain rfl := Option.some.inj h
      cases l0 with
      | nil =>
        refine (Tryz.strings_Join_none A0 c0 a1 w).mono ?_
        rintro e w' ⟨rfl, rfl⟩
        exact ⟨rfl, Below.refl _ _⟩
      | cons x t =>
        obtain ⟨ad, rfl, hc⟩ := hr0.2.2 (by simp)
        have hcell : ∀ (j : Nat) p, (x :: t)[j]? = some p → w.cell? (ad.add j) = some (.string p) := by
          intro j p hp
          obtain ⟨c, _, hr, hcell⟩ := hc j p hp
          have := hcell 0 (.string p) (by rw [show c = [Value.string p] from hr]; rfl)
          simpa [Kd.string, Kd.scalar] using this
        obtain ⟨hsp, hlt⟩ := cell_spot (hcell 0 x rfl)
        obtain ⟨bk, o, sp⟩ := ad
        have hsp' : sp = none := by simpa [Addr.add] using hsp
        subst hsp'
        have hlt' : bk < w.heap.size := by simpa [Addr.add] using hlt
        refine (Tryz.strings_Join bk o c0 (x :: t) a1 w (fun j p hp => ?_) hlt' h0 hc0 h1).mono ?_
        · have := hcell j p hp
          rwa [Lib.add_plain] at this
        · rintro e w' ⟨rfl, hb⟩
          exact ⟨rfl, hb⟩
    · rw [if_neg h1] at h; cases h
  · rw [if_neg h0] at h; cases h

/-! ### addr_text: function 81 -/
def addr_text.l0 : Nat → List Int → List ByteArray → Int → Int → Option (ByteArray)
 | 0, _, _, _, _ => none
 | k + 1, x0, x3, x9, x10 => if x10 < x9 then (if 0 ≤ x10 then (if x10 < (x0.length : Int) then ((strconv_FormatUint.f (IntKind.u64.wrap (rd x0 x10)) 16).bind fun t255 => (if x10 < (x3.length : Int) then (addr_text.l0 k x0 (x3.set (x10 : Int).toNat t255) x9 (wrap64 (x10 + 1))) else (none))) else (none)) else (none)) else ((strings_Join.f x3 (⟨#[58]⟩ : ByteArray)).bind fun t257 => (some t257))
def addr_text.f (k : Nat) (l0 : List Int) : Option (ByteArray) := if 0 ≤ (l0.length : Int) then (if ((l0.length : Int) : Int).toNat ≤ 17592186044416 then ((some (List.replicate ((l0.length : Int) : Int).toNat (⟨#[]⟩ : ByteArray) : List ByteArray)).bind fun y251 => (addr_text.l0 k l0 y251 (y251.length : Int) 0)) else (none)) else (none)
theorem addr_text.mono_l : ∀ k, (∀ y0 y1 y2 y3, LeO (addr_text.l0 k y0 y1 y2 y3) (addr_text.l0 (k + 1) y0 y1 y2 y3))
 | 0 => fun _ _ _ _ r h => by simp [addr_text.l0] at h
 | k + 1 => by
  have ih0 := addr_text.mono_l k
  ·
   intro y0 y1 y2 y3
   unfold addr_text.l0
   repeat' with_reducible first | exact ih0 _ _ _ _ | exact LeO.refl _ | exact LeO.none _ | refine LeO.ite ?_ ?_ | refine LeO.bind ?_ (fun _ => ?_)
theorem addr_text.mono : ∀ a0 k, LeO (addr_text.f k a0) (addr_text.f (k + 1) a0) := by
 intro a0 k
 have ih0 := addr_text.mono_l k
 unfold addr_text.f
 repeat' with_reducible first | exact ih0 _ _ _ _ | exact LeO.refl _ | exact LeO.none _ | refine LeO.ite ?_ ?_ | refine LeO.bind ?_ (fun _ => ?_)
set_option maxHeartbeats 40000000 in
set_option maxRecDepth 100000 in
theorem addr_text.calls (k : Nat) (A0 : Option Addr) (c0 : Nat) (l0 : List Int) (r : ByteArray) (w : World) (hr0 : Kd.C (Kd.int .u16) w A0 l0.length l0) (hc0 : l0.length ≤ c0) (hLD : Laid w) (h : addr_text.f k l0 = some r) :
 Calls Tryz.prog 81 #[.slice A0 l0.length c0] w fun e w' => e = .returned (.string r) ∧ Below w.heap.size w w' := by
 have HLD := Aside0.mk hLD
 clear hLD
 have HR0 := Aside0.mk hr0
 have HC0 := Aside0.mk hc0
 clear hr0 hc0
 have HB := Aside0.mk (Below.refl w.heap.size w)
 have H : (if 0 ≤ (l0.length : Int) then (if ((l0.length : Int) : Int).toNat ≤ 17592186044416 then ((some (List.replicate ((l0.length : Int) : Int).toNat (⟨#[]⟩ : ByteArray) : List ByteArray)).bind fun y251 => (addr_text.l0 k l0 y251 (y251.length : Int) 0)) else (none)) else (none)) = some r := h
 clear h
 by_cases c2 : 0 ≤ (l0.length : Int)
 ·
  rw [if_pos c2] at H
  have c2b0 := eq_true c2
  have c2b1 := decide_eq_true c2
  clear c2
  by_cases c3 : ((l0.length : Int) : Int).toNat ≤ 17592186044416
  ·
   rw [if_pos c3] at H
   have c3b0 := eq_true c3
   have c3b1 := decide_eq_true c3
   clear c3
   obtain ⟨y251, hy251⟩ : ∃ y_ : List ByteArray, y_ = (List.replicate ((l0.length : Int) : Int).toNat (⟨#[]⟩ : ByteArray)) := ⟨_, rfl⟩
   replace H : (addr_text.l0 k l0 y251 (y251.length : Int) 0) = some r := by first | (rw [hy251]; with_reducible exact H) | (have H2_ := (Option.bind_some _ _).symm.trans H; rw [hy251]; with_reducible exact H2_) | (have H2_ := (Option.bind_some _ _).symm.trans H; with_reducible exact H2_) | with_reducible exact H | (rw [hy251]; exact H) | exact H
   have Ny251 := Aside0.mk hy251
   clear hy251
   have H' := Aside0.mk H
   clear H
   go_enter Tryz.func81, Tryz.ntmps81
   go_wp2_with (first | ((with_reducible refine gate_dst (N := 7) rfl ?_); refine Kd.R_make Kd.string _ 9 rfl (N := 7) rfl 91 _ _ rfl (l0.length : Int) rfl rfl Tryz.underlying91 (.string ⟨#[]⟩) 16 info9 rfl (by decide) (by omega) (⟨#[]⟩ : ByteArray) (ok := fun _ => True) (okp := fun _ => True) rfl (fun _ hk => hk) trivial (oD) (Nat.le_trans (Nat.mul_le_mul_right _ (oD : (l0.length : Int).toNat ≤ 17592186044416)) (by omega)) (Below.refl _ _) (Nat.le_refl _) ?_; intro v252 w4 ho5 hb hg_ hnew_; clear hg_ hnew_; (first | rw [← Ny251.out] at ho5 | (simp only [Int.reduceToNat] at ho5; rw [← Ny251.out] at ho5)); have HO253 := Aside0.mk (Kd.R_lower ho5 (below_size (by repeat (first | (with_reducible first | exact HB.out | apply below_alloc | apply pw_below_drewN | apply below_drew1) | exact HB.out)))); replace HB := (pS HB hb); clear hb ho5; obtain ⟨Ao6, co6, eo6⟩ := Kd.R_slice HO253.out; subst eo6))
   go_loopg [10] k (fun kq v10 w' => ∃ (x3_1 : List ByteArray) (x10_1 : Int), v10 = .int .i64 x10_1 ∧ Aside0 (addr_text.l0 kq l0 x3_1 (y251.length : Int) x10_1 = some r) ∧ Aside0 (kq ≤ k) ∧ Aside0 (Kd.R Kd.string 9 w' w.heap.size (fun _ => True) (.slice Ao6 y251.length co6) x3_1) ∧ Aside0 (Below w.heap.size w w'))
   case atStart => exact ⟨(y251), (0), pT, H', ⟨Nat.le_refl _⟩, ⟨by (with_reducible repeat (first | apply Kd.R_alloc | apply Kd.R_drewN | apply Kd.R_drew)); exact HO253.out⟩, ⟨pE HB⟩⟩
   case round =>
    clear H'
    try clear c2
    try clear c2b0
    try clear c2b1
    try clear c3
    try clear c3b0
    try clear c3b1
    obtain ⟨x3_1, x10_1, rfl, HA, HK1, HO_3, HB⟩ := hrel
    have hl3_1 := (Kd.R_reads' HO_3.out).1
    rw [hl3_1] at HO_3
    (try simp only [hl3_1])
    cases gk with
    | zero => exact absurd HA.out (by simp [addr_text.l0])
    | succ k1 =>
     have H := HA.out
     clear HA
     simp only [addr_text.l0] at H
     by_cases c7 : x10_1 < (y251.length : Int)
     ·
      rw [if_pos c7] at H
      have c7b0 := decide_eq_true c7
      have c7b0_hl3_1 := c7b0
      (try rw [hl3_1] at c7b0_hl3_1)
      clear c7
      by_cases c8 : 0 ≤ x10_1
      ·
       rw [if_pos c8] at H
       have c8b0 := decide_eq_true c8
       clear c8
       by_cases c9 : x10_1 < (l0.length : Int)
       ·
        rw [if_pos c9] at H
        have c9b0 := decide_eq_true c9
        have c9b0_hl3_1 := c9b0
        (try rw [hl3_1] at c9b0_hl3_1)
        clear c9
        replace H := Option.bind_eq_some_iff.mp H
        obtain ⟨t255, A100, H⟩ := H
        have A10 := Aside0.mk A100
        clear A100
        by_cases c11 : x10_1 < (x3_1.length : Int)
        ·
         rw [if_pos c11] at H
         have c11b0 := decide_eq_true c11
         have c11b0_hl3_1 := c11b0
         (try rw [hl3_1] at c11b0_hl3_1)
         clear c11
         obtain ⟨y256, hy256⟩ : ∃ y_ : List ByteArray, y_ = (x3_1.set (x10_1 : Int).toNat t255) := ⟨_, rfl⟩
         replace H : (addr_text.l0 k1 l0 y256 (y251.length : Int) (wrap64 (x10_1 + 1))) = some r := by first | (rw [hy256]; with_reducible exact H) | (have H2_ := (Option.bind_some _ _).symm.trans H; rw [hy256]; with_reducible exact H2_) | (have H2_ := (Option.bind_some _ _).symm.trans H; with_reducible exact H2_) | with_reducible exact H | (rw [hy256]; exact H) | exact H
         have Ny256 := Aside0.mk hy256
         clear hy256
         have H' := Aside0.mk H
         clear H
         have p254 : 0 ≤ (x10_1 : Int) := oD
         have q254 : x10_1 < (l0.length : Int) := oD
         obtain ⟨ad254, e254, hx254_0⟩ := Kd.at_int HR0.out x10_1 p254 q254
         cases e254
         replace hx254_0 := (HB.out.cell (World.block_lt_of_cell? w _ hx254_0)).trans hx254_0
         replace p254 := eq_true p254
         replace q254 := eq_true q254
         go_wp2_with (first | ((with_reducible refine gate_callee (f := 70) rfl ?_); refine goesA (some 20) Tryz.func70 #[.int .u64 (IntKind.u64.wrap (rd l0 x10_1)), .int .i64 16] ?_; (with_reducible refine (strconv_FormatUint.calls (IntKind.u64.wrap (rd l0 x10_1)) 16 t255 _ ?side1 A10.out).mono ?_); (case side1 => exact Laid.below HLD.out (pE HB)); rintro e w13 ⟨rfl, hb⟩; refine ⟨_, rfl, ?_⟩; replace HO_3 := Aside0.mk (Kd.R_below (by (with_reducible repeat (first | apply Kd.R_alloc | apply Kd.R_drewN | apply Kd.R_drew)); exact HO_3.out) hb); replace HB := (pS HB hb); (try clear hb); (try clear hk); have p12 : 0 ≤ (x10_1 : Int) := oD; have q12 : (x10_1 : Int) < ((x3_1.length : Int) : Int) := oD; obtain ⟨go12, co12, eo12, gb12, gl12, cl12, HG12⟩ := Kd.R_form HO_3.out (by omega); (first | cases eo12 | (injection eo12 with ea_ en_ ec_; (first | subst ea_ | (injection ea_ with ea_; subst ea_)); subst ec_; clear en_)); have GB12 := Aside0.mk gb12; have GG12 := Aside0.mk HG12; clear gb12 gl12 HG12; obtain ⟨hx12_0, hf12_0⟩ := Kd.R_celln (⟨#[]⟩ : ByteArray) HO_3.out (x10_1 : Int) p12 q12; replace p12 := eq_true p12; replace q12 := eq_true q12; obtain ⟨hy14_, hz14_⟩ := Kd.R_celln (⟨#[]⟩ : ByteArray) HO_3.out (x10_1 : Int) (oD) (oD); have HP14 := Kd.R_putg HO_3.out (x10_1 : Int) t255) | ((with_reducible refine gate_store (t := 9) (p := 21) rfl ?_); refine store_event (t := 9) (p := 21) (v := ?vo_w15) (w1 := (w13.setCell ⟨go12, (x10_1 : Int).toNat, none⟩ (.string t255))) ?hg ?ho ?hn ?hr ?_; (case ho => rfl); (case hg => rfl); (case hn => rfl); (case hr => first | (go_simp; done) | (go_simp; rfl)); intro w15 hw; have hg : w13.grownBy w15 (some go12) := (by rw [hw]; exact HP14.2); have hp_ : Kd.R Kd.string 9 w15 w.heap.size (fun _ => True) (.slice (some ⟨go12, 0, none⟩) x3_1.length co6) y256 := (by rw [hw, Ny256.out]; exact HP14.1); clear HP14; replace HO_3 := Aside0.mk (hp_); replace HB := Aside0.mk ((by rw [hw]; exact below_set (HB.out) GB12.out : Below w.heap.size w w15)); clear hg hw hp_))
         (try simp only [← hl3_1])
         go_roundg k1
         case measure => have := HK1.out; omega
         case rel => exact ⟨(y256), (wrap64 (x10_1 + 1)), pT, H', ⟨by have := HK1.out; omega⟩, ⟨by (try simp only [hl3_1]); (with_reducible repeat (first | apply Kd.R_alloc | apply Kd.R_drewN | apply Kd.R_drew)); exact HO_3.out⟩, ⟨pE HB⟩⟩
        ·
         rw [if_neg c11] at H
         exact absurd H (by simp)
       ·
        rw [if_neg c9] at H
        exact absurd H (by simp)
      ·
       rw [if_neg c8] at H
       exact absurd H (by simp)
     ·
      rw [if_neg c7] at H
      have c7b0 := decide_eq_false c7
      have c7b0_hl3_1 := c7b0
      (try rw [hl3_1] at c7b0_hl3_1)
      clear c7
      replace H := Option.bind_eq_some_iff.mp H
      obtain ⟨t257, A160, H⟩ := H
      have A16 := Aside0.mk A160
      clear A160
      obtain rfl := Option.some.inj H
      go_wp2_with (first | ((with_reducible refine gate_callee (f := 78) rfl ?_); refine goesA (some 24) Tryz.func78 #[.slice Ao6 x3_1.length co6, .string (⟨#[58]⟩ : ByteArray)] ?_; (with_reducible refine (strings_Join.calls _ _ x3_1 (⟨#[58]⟩ : ByteArray) t257 _ ?side1 ?side2 A16.out).mono ?_); (case side1 => repeat (first | exact (Kd.R_reads' HO_3.out).2.2 | (with_reducible refine Kd.C_alloc ?_ _) | (with_reducible refine Kd.C_drewN ?_ _) | (with_reducible refine Kd.C_drew ?_))); (case side2 => exact (Kd.R_reads' HO_3.out).2.1); rintro e w17 ⟨rfl, hb⟩; refine ⟨_, rfl, ?_⟩; replace HO_3 := Aside0.mk (Kd.R_below (by (with_reducible repeat (first | apply Kd.R_alloc | apply Kd.R_drewN | apply Kd.R_drew)); exact HO_3.out) hb); replace HB := (pS HB hb); (try clear hb); (try clear hk)))
      go_ret
      exact pR (pE HB)
  ·
   rw [if_neg c3] at H
   exact absurd H (by simp)
 ·
  rw [if_neg c2] at H
  exact absurd H (by simp)

/-! ### addr_Print: function 58 (given) -/
def grp8 (hi lo : Int) : List Int := [IntKind.u16.wrap (hi / 281474976710656), IntKind.u16.wrap (hi / 4294967296), IntKind.u16.wrap (hi / 65536), IntKind.u16.wrap hi, IntKind.u16.wrap (lo / 281474976710656), IntKind.u16.wrap (lo / 4294967296), IntKind.u16.wrap (lo / 65536), IntKind.u16.wrap lo]
set_option maxHeartbeats 4000000 in
set_option maxRecDepth 100000 in
theorem groupsOf_calls (b : Bool) (hi lo : Int) (w : World) :
    Calls Tryz.prog 79 #[.agg #[.bool b, .int .u64 hi, .int .u64 lo]] w fun e w' => e = .returned (.agg #[.int .u16 (IntKind.u16.wrap (hi / 281474976710656)), .int .u16 (IntKind.u16.wrap (hi / 4294967296)), .int .u16 (IntKind.u16.wrap (hi / 65536)), .int .u16 (IntKind.u16.wrap hi), .int .u16 (IntKind.u16.wrap (lo / 281474976710656)), .int .u16 (IntKind.u16.wrap (lo / 4294967296)), .int .u16 (IntKind.u16.wrap (lo / 65536)), .int .u16 (IntKind.u16.wrap lo)]) ∧ Below w.heap.size w w' := by
  have huA_ := Tryz.underlying24
  have huG_ := Tryz.underlying95
  go_enter Tryz.func79, Tryz.ntmps79
  go_wp2
  refine wp_loop_rounds 5 ?_
  rw [rounds_succ]
  go_wp2
  rw [rounds_succ]
  go_wp2
  rw [rounds_succ]
  go_wp2
  rw [rounds_succ]
  go_wp2
  rw [rounds_succ]
  go_wp2
  refine bodyPost_ret (v := .agg #[.int .u16 (IntKind.u16.wrap (hi / 281474976710656)), .int .u16 (IntKind.u16.wrap (hi / 4294967296)), .int .u16 (IntKind.u16.wrap (hi / 65536)), .int .u16 (IntKind.u16.wrap hi), .int .u16 (IntKind.u16.wrap (lo / 281474976710656)), .int .u16 (IntKind.u16.wrap (lo / 4294967296)), .int .u16 (IntKind.u16.wrap (lo / 65536)), .int .u16 (IntKind.u16.wrap lo)]) (by simp [results, Tryz.results79, go_sem]) rfl ⟨rfl, ?_⟩
  repeat (first | exact Below.refl _ _ | apply below_drew | apply below_alloc | apply pw_below_drewN)

def zr (g : List Int) (i : Nat) : Nat := ((g.drop i).takeWhile (· == 0)).length
def lstep (g : List Int) (p : Nat × Nat) (i : Nat) : Nat × Nat := if zr g i > p.2 then (i, zr g i) else p
def longest (g : List Int) : Nat × Nat := (List.range 8).foldl (lstep g) (0, 0)
theorem zr_eq (g : List Int) (hg : g.length = 8) : ∀ (n i : Nat), i + n ≤ 8 → (∀ j, j < n → g.getD (i + j) 0 = 0) → (i + n < 8 → g.getD (i + n) 0 ≠ 0) → zr g i = n
  | 0, i, h, _, he => by
    unfold zr
    by_cases h8 : i < 8
    · have hne := he (by omega)
      rw [List.drop_eq_getElem_cons (by omega : i < g.length)]
      rw [Nat.add_zero, List.getD_eq_getElem?_getD, List.getElem?_eq_getElem (by omega : i < g.length)] at hne
      have hb : (g[i] == 0) = false := by simpa using hne
      rw [List.takeWhile_cons_of_neg (by rw [hb]; decide)]
      rfl
    · rw [List.drop_of_length_le (by omega)]
      rfl
  | n + 1, i, h, h0, he => by
    have h1 := h0 0 (by omega)
    have ih := zr_eq g hg n (i + 1) (by omega) (fun j hj => by have := h0 (j + 1) (by omega); rwa [show i + (j + 1) = i + 1 + j by omega] at this) (fun h2 => by have := he (by omega); rwa [show i + (n + 1) = i + 1 + n by omega] at this)
    unfold zr at ih ⊢
    rw [List.drop_eq_getElem_cons (by omega : i < g.length)]
    rw [Nat.add_zero, List.getD_eq_getElem?_getD, List.getElem?_eq_getElem (by omega : i < g.length)] at h1
    have hb : (g[i] == 0) = true := by simpa using h1
    simp only [List.takeWhile_cons, hb, if_true, List.length_cons, ih]
theorem lfold_succ (g : List Int) (i : Nat) : (List.range (i + 1)).foldl (lstep g) (0, 0) = lstep g ((List.range i).foldl (lstep g) (0, 0)) i := by
  rw [List.range_succ, List.foldl_append]
  rfl
set_option maxHeartbeats 4000000 in
set_option maxRecDepth 100000 in
theorem longest_calls (g0 g1 g2 g3 g4 g5 g6 g7 : Int) (w : World) :
    Calls Tryz.prog 80 #[.agg #[.int .u16 g0, .int .u16 g1, .int .u16 g2, .int .u16 g3, .int .u16 g4, .int .u16 g5, .int .u16 g6, .int .u16 g7]] w fun e w' => e = .returned (.tuple #[.int .i64 ((longest [g0, g1, g2, g3, g4, g5, g6, g7]).1 : Int), .int .i64 ((longest [g0, g1, g2, g3, g4, g5, g6, g7]).2 : Int)]) ∧ Below w.heap.size w w' := by
  have huG_ := Tryz.underlying95
  obtain ⟨g, hg⟩ : ∃ g : List Int, g = [g0, g1, g2, g3, g4, g5, g6, g7] := ⟨_, rfl⟩
  have hcells : ∀ t : Nat, t < 8 → (w.alloc (.cells #[.int .u16 g0, .int .u16 g1, .int .u16 g2, .int .u16 g3, .int .u16 g4, .int .u16 g5, .int .u16 g6, .int .u16 g7] 95)).cell? ⟨w.heap.size, t, none⟩ = some (.int .u16 (g.getD t 0)) := by
    intro t ht
    rw [World.cell?_alloc_new, hg]
    match t, ht with
    | 0, _ => rfl
    | 1, _ => rfl
    | 2, _ => rfl
    | 3, _ => rfl
    | 4, _ => rfl
    | 5, _ => rfl
    | 6, _ => rfl
    | 7, _ => rfl
  have HL := Aside0.mk (show g.length = 8 by rw [hg]; rfl)
  rw [← hg]
  have HB := Aside0.mk (show Below w.heap.size w (w.alloc (.cells #[.int .u16 g0, .int .u16 g1, .int .u16 g2, .int .u16 g3, .int .u16 g4, .int .u16 g5, .int .u16 g6, .int .u16 g7] 95)) from below_alloc (Below.refl _ _) _)
  clear hg
  go_enter Tryz.func80, Tryz.ntmps80
  go_wp2
  generalize w.alloc (.cells #[.int .u16 g0, .int .u16 g1, .int .u16 g2, .int .u16 g3, .int .u16 g4, .int .u16 g5, .int .u16 g6, .int .u16 g7] 95) = W at hcells HB ⊢
  have HCS := Aside0.mk hcells
  clear hcells
  go_loopw [4, 5, 8] (fun va vm vi wr => ∃ (i : Nat) (p : Nat × Nat), va = .int .i64 (p.1 : Int) ∧ vm = .int .i64 (p.2 : Int) ∧ vi = .int .i64 (i : Int) ∧ wr = W ∧ Hid (i ≤ 8 ∧ p = (List.range i).foldl (lstep g) (0, 0))) (fun _ _ vi _ => 8 - (RowKit.intOf vi).toNat)
  case atStart => exact ⟨0, (0, 0), rfl, rfl, rfl, rfl, by decide, rfl⟩
  case round =>
    obtain ⟨i, p, rfl, rfl, rfl, rfl, HI⟩ := hrel
    have hle := HI.out.1
    by_cases h8 : i < 8
    · have h8i : (i : Int) < 8 := by omega
      go_wp2
      rename World => wr
      go_loopw [7] (fun vn wr2 => ∃ n : Nat, vn = .int .i64 (n : Int) ∧ wr2 = wr ∧ Hid (i + n ≤ 8 ∧ ∀ j, j < n → g.getD (i + j) 0 = 0)) (fun vn _ => 8 - (RowKit.intOf vn).toNat)
      case atStart => exact ⟨0, rfl, rfl, by omega, fun j hj => absurd hj (by omega)⟩
      case round =>
        obtain ⟨n, rfl, rfl, HN⟩ := hrel
        have hnle := HN.out.1
        have hwr : wrap64 ((i : Int) + (n : Int)) = ((i + n : Nat) : Int) := by unfold wrap64; omega
        by_cases hlt : i + n < 8
        · have hlti : (i : Int) + (n : Int) < 8 := by omega
          have hc := HCS.out (i + n) hlt
          obtain ⟨x, hx⟩ : ∃ x, x = g.getD (i + n) 0 := ⟨_, rfl⟩
          rw [← hx] at hc
          have HX := Aside0.mk hx
          clear hx
          by_cases hz : x = 0
          · subst hz
            go_wp2
            go_roundw
            case rel => exact ⟨n + 1, by first | go_num | (congr 1), trivial, by omega, fun j hj => by
              rcases Nat.lt_succ_iff_lt_or_eq.1 hj with h | h
              · exact HN.out.2 j h
              · rw [h]; exact HX.out.symm⟩
            case measure => simp [RowKit.intOf]; omega
          · have hzr : zr g i = n := zr_eq g HL.out n i HN.out.1 HN.out.2 (fun _ => HX.out ▸ hz)
            by_cases hgt : p.2 < n
            · have hgtI : (p.2 : Int) < (n : Int) := by omega
              go_wp2
              refine ⟨⟨i + 1, (i, n), rfl, rfl, by first | go_num | (congr 1), trivial, by omega, ?_⟩, by simp [RowKit.intOf]; omega⟩
              rw [lfold_succ, ← HI.out.2]
              unfold lstep
              rw [hzr, if_pos hgt]
            · have hgtI : ¬ (p.2 : Int) < (n : Int) := by omega
              go_wp2
              refine ⟨⟨i + 1, p, rfl, rfl, by first | go_num | (congr 1), trivial, by omega, ?_⟩, by simp [RowKit.intOf]; omega⟩
              rw [lfold_succ, ← HI.out.2]
              unfold lstep
              rw [hzr, if_neg hgt]
        · have hlti : ¬ (i : Int) + (n : Int) < 8 := by omega
          have hzr : zr g i = n := zr_eq g HL.out n i HN.out.1 HN.out.2 (fun h => absurd h hlt)
          by_cases hgt : p.2 < n
          · have hgtI : (p.2 : Int) < (n : Int) := by omega
            go_wp2
            refine ⟨⟨i + 1, (i, n), rfl, rfl, by first | go_num | (congr 1), trivial, by omega, ?_⟩, by simp [RowKit.intOf]; omega⟩
            rw [lfold_succ, ← HI.out.2]
            unfold lstep
            rw [hzr, if_pos hgt]
          · have hgtI : ¬ (p.2 : Int) < (n : Int) := by omega
            go_wp2
            refine ⟨⟨i + 1, p, rfl, rfl, by first | go_num | (congr 1), trivial, by omega, ?_⟩, by simp [RowKit.intOf]; omega⟩
            rw [lfold_succ, ← HI.out.2]
            unfold lstep
            rw [hzr, if_neg hgt]
    · have h8e : i = 8 := by omega
      subst h8e
      have hp : p = longest g := HI.out.2
      subst hp
      go_wp2
      refine bodyPost_ret (v := .tuple #[.int .i64 ((longest g).1 : Int), .int .i64 ((longest g).2 : Int)]) (by simp [results, Tryz.results80, go_sem]) rfl ⟨rfl, HB.out⟩

theorem fuf10 (u : Nat) (hu : u < 18446744073709551616) : strconv_FormatUint.f (u : Int) 10 = some (⟨(Lib.decDigits u).toArray⟩ : ByteArray) := by
  unfold strconv_FormatUint.f
  rw [if_pos rfl, if_pos ⟨by omega, by omega⟩, Int.toNat_natCast]
theorem and255_ (u d : Nat) (hd : d = u % 256) (hu : u < 18446744073709551616) (x : Int) (hx : x = (u : Int)) : bits .and .u64 x 255 = (d : Int) := by
  subst hx
  have := bits_and_u64_nat u 255 hu (by omega)
  rw [show ((255 : Nat) : Int) = 255 from rfl] at this
  rw [this]
  have e : u &&& 255 = u % 256 := Nat.and_two_pow_sub_one_eq_mod u 8
  rw [e, hd]
theorem pr_below_mono_ {B B' : Nat} {w w' : World} (h : Below B w w') (hb : B' ≤ B) : Below B' w w' := ⟨h.os, h.tape, h.output, h.size, fun k hk => h.block k (by omega)⟩
theorem made4_ : madeCells #[.string (⟨#[]⟩ : ByteArray)] 4 = #[.string (⟨#[]⟩ : ByteArray), .string (⟨#[]⟩ : ByteArray), .string (⟨#[]⟩ : ByteArray), .string (⟨#[]⟩ : ByteArray)] := by
  unfold madeCells
  rw [show Array.range 4 = #[0, 1, 2, 3] by decide +kernel]
  simp [Nat.mod_one]
def dec4 (lo : Nat) : List ByteArray := [⟨(Lib.decDigits (lo / 16777216 % 256)).toArray⟩, ⟨(Lib.decDigits (lo / 65536 % 256)).toArray⟩, ⟨(Lib.decDigits (lo / 256 % 256)).toArray⟩, ⟨(Lib.decDigits (lo % 256)).toArray⟩]
theorem kdC_str4 {w : World} {g : Nat} {a b c d : ByteArray} (h : w.heap[g]? = some (.cells #[.string a, .string b, .string c, .string d] 9 (0, 0))) : Kd.C Kd.string w (some ⟨g, 0, none⟩) 4 [a, b, c, d] := by
  refine ⟨rfl, by decide, fun _ => ⟨_, rfl, fun j p hp => ⟨[.string p], rfl, rfl, fun i u hu => ?_⟩⟩⟩
  have hi : i = 0 := by
    have := (List.getElem?_eq_some_iff.1 hu).1
    simpa using this
  subst hi
  have hu' : u = .string p := by simpa using hu.symm
  subst hu'
  show w.cell? ((⟨g, 0, none⟩ : Addr).add (j * 1 + 0)) = _
  rw [Lib.add_plain, blk_cell h]
  match j, hp with
  | 0, hp => cases hp; rfl
  | 1, hp => cases hp; rfl
  | 2, hp => cases hp; rfl
  | 3, hp => cases hp; rfl
set_option maxHeartbeats 4000000 in
set_option maxRecDepth 100000 in
theorem Print_v4 (a1 : Int) (lo d0 d1 d2 d3 : Nat) (s0 s1 s2 s3 r : ByteArray) (hlo : lo < 18446744073709551616)
    (e0 : d0 = lo / 16777216 % 256) (e1 : d1 = lo / 65536 % 256) (e2 : d2 = lo / 256 % 256) (e3 : d3 = lo % 256)
    (hs0 : strconv_FormatUint.f (d0 : Int) 10 = some s0) (hs1 : strconv_FormatUint.f (d1 : Int) 10 = some s1) (hs2 : strconv_FormatUint.f (d2 : Int) 10 = some s2) (hs3 : strconv_FormatUint.f (d3 : Int) 10 = some s3)
    (hj : strings_Join.f [s0, s1, s2, s3] (⟨#[46]⟩ : ByteArray) = some r) (w : World) (hLD : Laid w) (hv : addr_Valid.f false a1 (lo : Int) = some true) :
    Calls Tryz.prog 58 #[.agg #[.bool false, .int .u64 a1, .int .u64 (lo : Int)]] w fun e w' => e = .returned (.tuple #[.string r, .int .i64 0]) ∧ Below w.heap.size w w' := by
  have huA_ := Tryz.underlying24
  have HLD := Aside0.mk hLD
  have HV := Aside0.mk hv
  have HS0 := Aside0.mk hs0
  have HS1 := Aside0.mk hs1
  have HS2 := Aside0.mk hs2
  have HS3 := Aside0.mk hs3
  have HJ := Aside0.mk hj
  have b0 := and255_ (lo / 16777216) d0 e0 (by omega) ((lo : Int) / 16777216) (by omega)
  have b1 := and255_ (lo / 65536) d1 e1 (by omega) ((lo : Int) / 65536) (by omega)
  have b2 := and255_ (lo / 256) d2 e2 (by omega) ((lo : Int) / 256) (by omega)
  have b3 := and255_ lo d3 e3 (by omega) (lo : Int) rfl
  have hmk : ∀ W : World, (Instr.makeSlice 91 (.int .i64 4) (.int .i64 4)).run Tryz.prog W = .ok (.slice (some ⟨W.heap.size, 0, none⟩) 4 4) (W.alloc (.cells #[.string (⟨#[]⟩ : ByteArray), .string (⟨#[]⟩ : ByteArray), .string (⟨#[]⟩ : ByteArray), .string (⟨#[]⟩ : ByteArray)] 9)) := fun W => (print_make_of 91 9 (.string (⟨#[]⟩ : ByteArray)) 16 (by kernel_rfl) (by kernel_rfl) rfl (by decide) 4 (by decide) W).trans (by rw [made4_])
  clear hLD hv hs0 hs1 hs2 hs3 hj e0 e1 e2 e3 hlo
  go_enter Tryz.func58, Tryz.ntmps58
  go_wp2_with fail
  refine (addr_Valid.calls false a1 (lo : Int) true _ HV.out).mono ?_
  rintro e w1 ⟨rfl, hb⟩
  have hw : Below w.heap.size w w1 := Below.trans (below_alloc (Below.refl _ _) _) (pr_below_mono_ hb (by simp))
  have hbx : w1.heap[w.heap.size]? = some (.cells #[.bool false, .int .u64 a1, .int .u64 (lo : Int)] 24 (0, 0)) := blk_below (blk_new _ _) hb
  have hlt : w.heap.size < w1.heap.size := blk_lt hbx
  have HW := Aside0.mk hw
  have HBX := Aside0.mk hbx
  have HSL := Aside0.mk (Nat.le_of_lt hlt)
  clear hw hb
  have c0 : w1.cell? ⟨w.heap.size, 0, none⟩ = some (.bool false) := (blk_cell hbx 0).trans rfl
  have c2 : w1.cell? ⟨w.heap.size, 2, none⟩ = some (.int .u64 (lo : Int)) := (blk_cell hbx 2).trans rfl
  clear hbx
  have hsl : w.heap.size ≠ w1.heap.size := by omega
  have V0 := Aside0.mk (show Below w.heap.size w (w1.alloc (.cells #[.string (⟨#[]⟩ : ByteArray), .string (⟨#[]⟩ : ByteArray), .string (⟨#[]⟩ : ByteArray), .string (⟨#[]⟩ : ByteArray)] 9)) from below_alloc HW.out _)
  have S0 := Aside0.mk (show (w1.alloc (.cells #[.string (⟨#[]⟩ : ByteArray), .string (⟨#[]⟩ : ByteArray), .string (⟨#[]⟩ : ByteArray), .string (⟨#[]⟩ : ByteArray)] 9)).heap[w1.heap.size]? = some (.cells #[.string (⟨#[]⟩ : ByteArray), .string (⟨#[]⟩ : ByteArray), .string (⟨#[]⟩ : ByteArray), .string (⟨#[]⟩ : ByteArray)] 9 (0, 0)) from blk_new _ _)
  have X0 := Aside0.mk (show (w1.alloc (.cells #[.string (⟨#[]⟩ : ByteArray), .string (⟨#[]⟩ : ByteArray), .string (⟨#[]⟩ : ByteArray), .string (⟨#[]⟩ : ByteArray)] 9)).heap[w.heap.size]? = some (.cells #[.bool false, .int .u64 a1, .int .u64 (lo : Int)] 24 (0, 0)) from blk_alloc HBX.out _)
  go_wp2_with fail
  refine wp_loop_rounds 5 ?_
  rw [rounds_succ]
  go_wp2_with fail
  refine (strconv_FormatUint.calls (d0 : Int) 10 s0 _ (HLD.out.below V0.out) HS0.out).mono ?_
  rintro e u0 ⟨rfl, hb⟩
  have hw : Below w.heap.size w u0 := Below.trans V0.out (pr_below_mono_ hb V0.out.size)
  have hs : u0.heap[w1.heap.size]? = some (.cells #[.string (⟨#[]⟩ : ByteArray), .string (⟨#[]⟩ : ByteArray), .string (⟨#[]⟩ : ByteArray), .string (⟨#[]⟩ : ByteArray)] 9 (0, 0)) := blk_below S0.out hb
  have hx : u0.heap[w.heap.size]? = some (.cells #[.bool false, .int .u64 a1, .int .u64 (lo : Int)] 24 (0, 0)) := blk_below X0.out hb
  have V1 := Aside0.mk (show Below w.heap.size w (u0.setCell ⟨w1.heap.size, 0, none⟩ (.string s0)) from below_set hw HSL.out)
  have S1 := Aside0.mk (show (u0.setCell ⟨w1.heap.size, 0, none⟩ (.string s0)).heap[w1.heap.size]? = some (.cells #[.string s0, .string (⟨#[]⟩ : ByteArray), .string (⟨#[]⟩ : ByteArray), .string (⟨#[]⟩ : ByteArray)] 9 (0, 0)) from blk_put hs 0 _ rfl)
  have X1 := Aside0.mk (show (u0.setCell ⟨w1.heap.size, 0, none⟩ (.string s0)).heap[w.heap.size]? = some (.cells #[.bool false, .int .u64 a1, .int .u64 (lo : Int)] 24 (0, 0)) from blk_far hx hsl _)
  have cc0 : u0.cell? ⟨w1.heap.size, 0, none⟩ = some (.string (⟨#[]⟩ : ByteArray)) := (blk_cell hs 0).trans rfl
  have cf0 := blk_frozen hs 0
  have cx0 : (u0.setCell ⟨w1.heap.size, 0, none⟩ (.string s0)).cell? ⟨w.heap.size, 2, none⟩ = some (.int .u64 (lo : Int)) := (blk_cell X1.out 2).trans rfl
  clear hw hs hx hb
  go_wp2_with fail
  rw [rounds_succ]
  go_wp2_with fail
  refine (strconv_FormatUint.calls (d1 : Int) 10 s1 _ (HLD.out.below V1.out) HS1.out).mono ?_
  rintro e u1 ⟨rfl, hb⟩
  have hw : Below w.heap.size w u1 := Below.trans V1.out (pr_below_mono_ hb V1.out.size)
  have hs : u1.heap[w1.heap.size]? = some (.cells #[.string s0, .string (⟨#[]⟩ : ByteArray), .string (⟨#[]⟩ : ByteArray), .string (⟨#[]⟩ : ByteArray)] 9 (0, 0)) := blk_below S1.out hb
  have hx : u1.heap[w.heap.size]? = some (.cells #[.bool false, .int .u64 a1, .int .u64 (lo : Int)] 24 (0, 0)) := blk_below X1.out hb
  have V2 := Aside0.mk (show Below w.heap.size w (u1.setCell ⟨w1.heap.size, 1, none⟩ (.string s1)) from below_set hw HSL.out)
  have S2 := Aside0.mk (show (u1.setCell ⟨w1.heap.size, 1, none⟩ (.string s1)).heap[w1.heap.size]? = some (.cells #[.string s0, .string s1, .string (⟨#[]⟩ : ByteArray), .string (⟨#[]⟩ : ByteArray)] 9 (0, 0)) from blk_put hs 1 _ rfl)
  have X2 := Aside0.mk (show (u1.setCell ⟨w1.heap.size, 1, none⟩ (.string s1)).heap[w.heap.size]? = some (.cells #[.bool false, .int .u64 a1, .int .u64 (lo : Int)] 24 (0, 0)) from blk_far hx hsl _)
  have cc1 : u1.cell? ⟨w1.heap.size, 1, none⟩ = some (.string (⟨#[]⟩ : ByteArray)) := (blk_cell hs 1).trans rfl
  have cf1 := blk_frozen hs 1
  have cx1 : (u1.setCell ⟨w1.heap.size, 1, none⟩ (.string s1)).cell? ⟨w.heap.size, 2, none⟩ = some (.int .u64 (lo : Int)) := (blk_cell X2.out 2).trans rfl
  clear hw hs hx hb
  go_wp2_with fail
  rw [rounds_succ]
  go_wp2_with fail
  refine (strconv_FormatUint.calls (d2 : Int) 10 s2 _ (HLD.out.below V2.out) HS2.out).mono ?_
  rintro e u2 ⟨rfl, hb⟩
  have hw : Below w.heap.size w u2 := Below.trans V2.out (pr_below_mono_ hb V2.out.size)
  have hs : u2.heap[w1.heap.size]? = some (.cells #[.string s0, .string s1, .string (⟨#[]⟩ : ByteArray), .string (⟨#[]⟩ : ByteArray)] 9 (0, 0)) := blk_below S2.out hb
  have hx : u2.heap[w.heap.size]? = some (.cells #[.bool false, .int .u64 a1, .int .u64 (lo : Int)] 24 (0, 0)) := blk_below X2.out hb
  have V3 := Aside0.mk (show Below w.heap.size w (u2.setCell ⟨w1.heap.size, 2, none⟩ (.string s2)) from below_set hw HSL.out)
  have S3 := Aside0.mk (show (u2.setCell ⟨w1.heap.size, 2, none⟩ (.string s2)).heap[w1.heap.size]? = some (.cells #[.string s0, .string s1, .string s2, .string (⟨#[]⟩ : ByteArray)] 9 (0, 0)) from blk_put hs 2 _ rfl)
  have X3 := Aside0.mk (show (u2.setCell ⟨w1.heap.size, 2, none⟩ (.string s2)).heap[w.heap.size]? = some (.cells #[.bool false, .int .u64 a1, .int .u64 (lo : Int)] 24 (0, 0)) from blk_far hx hsl _)
  have cc2 : u2.cell? ⟨w1.heap.size, 2, none⟩ = some (.string (⟨#[]⟩ : ByteArray)) := (blk_cell hs 2).trans rfl
  have cf2 := blk_frozen hs 2
  have cx2 : (u2.setCell ⟨w1.heap.size, 2, none⟩ (.string s2)).cell? ⟨w.heap.size, 2, none⟩ = some (.int .u64 (lo : Int)) := (blk_cell X3.out 2).trans rfl
  clear hw hs hx hb
  go_wp2_with fail
  rw [rounds_succ]
  go_wp2_with fail
  refine (strconv_FormatUint.calls (d3 : Int) 10 s3 _ (HLD.out.below V3.out) HS3.out).mono ?_
  rintro e u3 ⟨rfl, hb⟩
  have hw : Below w.heap.size w u3 := Below.trans V3.out (pr_below_mono_ hb V3.out.size)
  have hs : u3.heap[w1.heap.size]? = some (.cells #[.string s0, .string s1, .string s2, .string (⟨#[]⟩ : ByteArray)] 9 (0, 0)) := blk_below S3.out hb
  have hx : u3.heap[w.heap.size]? = some (.cells #[.bool false, .int .u64 a1, .int .u64 (lo : Int)] 24 (0, 0)) := blk_below X3.out hb
  have V4 := Aside0.mk (show Below w.heap.size w (u3.setCell ⟨w1.heap.size, 3, none⟩ (.string s3)) from below_set hw HSL.out)
  have S4 := Aside0.mk (show (u3.setCell ⟨w1.heap.size, 3, none⟩ (.string s3)).heap[w1.heap.size]? = some (.cells #[.string s0, .string s1, .string s2, .string s3] 9 (0, 0)) from blk_put hs 3 _ rfl)
  have X4 := Aside0.mk (show (u3.setCell ⟨w1.heap.size, 3, none⟩ (.string s3)).heap[w.heap.size]? = some (.cells #[.bool false, .int .u64 a1, .int .u64 (lo : Int)] 24 (0, 0)) from blk_far hx hsl _)
  have cc3 : u3.cell? ⟨w1.heap.size, 3, none⟩ = some (.string (⟨#[]⟩ : ByteArray)) := (blk_cell hs 3).trans rfl
  have cf3 := blk_frozen hs 3
  have cx3 : (u3.setCell ⟨w1.heap.size, 3, none⟩ (.string s3)).cell? ⟨w.heap.size, 2, none⟩ = some (.int .u64 (lo : Int)) := (blk_cell X4.out 2).trans rfl
  clear hw hs hx hb
  go_wp2_with fail
  rw [rounds_succ]
  go_wp2_with fail
  refine (strings_Join.calls (some ⟨w1.heap.size, 0, none⟩) 4 [s0, s1, s2, s3] (⟨#[46]⟩ : ByteArray) r _ (kdC_str4 S4.out) (Nat.le_refl 4) HJ.out).mono ?_
  rintro e w9 ⟨rfl, hb⟩
  have HW9 := Aside0.mk (Below.trans V4.out (pr_below_mono_ hb V4.out.size))
  clear hb
  go_wp2_with fail
  refine bodyPost_ret (v := .tuple #[.string r, .int .i64 0]) (by simp [results, Tryz.results58, go_sem]) rfl ⟨rfl, HW9.out⟩
theorem kdC_u16 {w : World} {g off n : Nat} {G : List Int} (h : w.heap[g]? = some (.cells (nums .u16 G).toArray 95 (0, 0))) (hoff : off + n ≤ G.length) (h8 : G.length = 8) : Kd.C (Kd.int .u16) w (some ⟨g, off, none⟩) n ((G.drop off).take n) := by
  refine ⟨by rw [List.length_take, List.length_drop]; omega, by omega, fun _ => ⟨_, rfl, fun j p hp => ⟨[.int .u16 p], rfl, rfl, fun i u hu => ?_⟩⟩⟩
  have hi : i = 0 := by
    have := (List.getElem?_eq_some_iff.1 hu).1
    simpa using this
  subst hi
  have hu' : u = .int .u16 p := by simpa using hu.symm
  subst hu'
  show w.cell? ((⟨g, off, none⟩ : Addr).add (j * 1 + 0)) = _
  rw [Lib.add_plain, blk_cell h]
  have hj : j < n := by
    have := (List.getElem?_eq_some_iff.1 hp).1
    rw [List.length_take] at this
    omega
  rw [List.getElem?_take_of_lt hj, List.getElem?_drop] at hp
  simp only [nums, Nat.mul_one, Nat.add_zero, List.getElem?_toArray, List.getElem?_map, hp, Option.map_some]
theorem text_calls' (k : Nat) (A0 : Option Addr) (n c0 : Nat) (l0 : List Int) (hn : l0.length = n) (r : ByteArray) (w : World) (hr0 : Kd.C (Kd.int .u16) w A0 n l0) (hc0 : n ≤ c0) (hLD : Laid w) (h : addr_text.f k l0 = some r) :
    Calls Tryz.prog 81 #[.slice A0 n c0] w fun e w' => e = .returned (.string r) ∧ Below w.heap.size w w' := by
  subst hn
  exact addr_text.calls k A0 c0 l0 r w hr0 hc0 hLD h
theorem longest_grp (hi lo : Int) (p q : Nat) (hp : longest (grp8 hi lo) = (p, q)) (w : World) :
    Calls Tryz.prog 80 #[.agg #[.int .u16 (IntKind.u16.wrap (hi / 281474976710656)), .int .u16 (IntKind.u16.wrap (hi / 4294967296)), .int .u16 (IntKind.u16.wrap (hi / 65536)), .int .u16 (IntKind.u16.wrap hi), .int .u16 (IntKind.u16.wrap (lo / 281474976710656)), .int .u16 (IntKind.u16.wrap (lo / 4294967296)), .int .u16 (IntKind.u16.wrap (lo / 65536)), .int .u16 (IntKind.u16.wrap lo)]] w fun e w' => e = .returned (.tuple #[.int .i64 (p : Int), .int .i64 (q : Int)]) ∧ Below w.heap.size w w' := by
  refine (longest_calls _ _ _ _ _ _ _ _ w).mono ?_
  rintro e w' ⟨rfl, hb⟩
  refine ⟨?_, hb⟩
  have h1 : (longest (grp8 hi lo)).1 = p := by rw [hp]
  have h2 : (longest (grp8 hi lo)).2 = q := by rw [hp]
  show Ending.returned (.tuple #[.int .i64 ((longest (grp8 hi lo)).1 : Int), .int .i64 ((longest (grp8 hi lo)).2 : Int)]) = _
  rw [h1, h2]
set_option maxRecDepth 100000 in
theorem sl_h_ (g p : Nat) (hp : p ≤ 8) : ∀ W : World, (Instr.sliceAt 95 (.pointer (some ⟨g, 0, none⟩)) none (some (.int .i64 (p : Int))) none).run Tryz.prog W = .ok (.slice (some ⟨g, 0, none⟩) p 8) W := fun W => by
  have hal : Tryz.prog.arrayLen 95 = 8 := by kernel_rfl
  have hund : Tryz.prog.underlying 95 = some (.array 8 93) := by kernel_rfl
  rw [run_sliceAt_array_h W 95 ⟨g, 0, none⟩ hund .i64 (p : Int) (by omega) (by rw [hal]; omega)]
  go_simp
set_option maxRecDepth 100000 in
theorem sl_l_ (g o n : Nat) (ho : o + n = 8) : ∀ W : World, (Instr.sliceAt 95 (.pointer (some ⟨g, 0, none⟩)) (some (.int .i64 (o : Int))) none none).run Tryz.prog W = (.ok (.slice (some ⟨g, if o = 8 then 0 else o, none⟩) n n) W) := fun W => by
  have hal : Tryz.prog.arrayLen 95 = 8 := by kernel_rfl
  have hund : Tryz.prog.underlying 95 = some (.array 8 93) := by kernel_rfl
  rw [run_sliceAt_array_l W 95 ⟨g, 0, none⟩ hund .i64 (o : Int) (by omega) (by rw [hal]; omega)]
  have : n = 8 - o := by omega
  subst this
  by_cases h8 : o = 8
  · subst h8
    go_simp
  · rw [if_neg h8]
    have h8' : ¬ 8 = o := fun h => h8 h.symm
    go_simp
theorem kdC_drop {w : World} {g o n : Nat} {G : List Int} (h : w.heap[g]? = some (.cells (nums .u16 G).toArray 95 (0, 0))) (hon : o + n = 8) (h8 : G.length = 8) : Kd.C (Kd.int .u16) w (some ⟨g, if o = 8 then 0 else o, none⟩) n (G.drop o) := by
  by_cases h : o = 8
  · subst h
    have hn : n = 0 := by omega
    subst hn
    rw [if_pos rfl, List.drop_of_length_le (by omega)]
    exact ⟨rfl, by decide, fun h => absurd h (Nat.lt_irrefl _)⟩
  · rw [if_neg h]
    have h1 := kdC_u16 (off := o) (n := n) (by assumption) (by omega) h8
    rwa [List.take_of_length_le (by rw [List.length_drop]; omega)] at h1
set_option maxHeartbeats 4000000 in
set_option maxRecDepth 100000 in
theorem Print_v6a (k : Nat) (hi lo : Int) (p q : Nat) (hp : longest (grp8 hi lo) = (p, q)) (hq : q < 2) (r : ByteArray) (ht : addr_text.f k (grp8 hi lo) = some r) (w : World) (hLD : Laid w) (hv : addr_Valid.f true hi lo = some true) :
    Calls Tryz.prog 58 #[.agg #[.bool true, .int .u64 hi, .int .u64 lo]] w fun e w' => e = .returned (.tuple #[.string r, .int .i64 0]) ∧ Below w.heap.size w w' := by
  have huA_ := Tryz.underlying24
  have huG_ := Tryz.underlying95
  have HLD := Aside0.mk hLD
  have HV := Aside0.mk hv
  have HP := Aside0.mk hp
  clear hLD hv hp
  have HT := Aside0.mk ht
  clear ht
  have hqI : (q : Int) < 2 := by omega
  go_enter Tryz.func58, Tryz.ntmps58
  go_wp2_with fail
  refine (addr_Valid.calls true hi lo true _ HV.out).mono ?_
  rintro e w1 ⟨rfl, hb⟩
  have hw : Below w.heap.size w w1 := Below.trans (below_alloc (Below.refl _ _) _) (pr_below_mono_ hb (by simp))
  have hbx : w1.heap[w.heap.size]? = some (.cells #[.bool true, .int .u64 hi, .int .u64 lo] 24 (0, 0)) := blk_below (blk_new _ _) hb
  have HW := Aside0.mk hw
  clear hw hb
  have c0 : w1.cell? ⟨w.heap.size, 0, none⟩ = some (.bool true) := (blk_cell hbx 0).trans rfl
  have c1 : w1.cell? ⟨w.heap.size, 1, none⟩ = some (.int .u64 hi) := (blk_cell hbx 1).trans rfl
  have c2 : w1.cell? ⟨w.heap.size, 2, none⟩ = some (.int .u64 lo) := (blk_cell hbx 2).trans rfl
  clear hbx
  go_wp2_with fail
  refine (groupsOf_calls true hi lo _).mono ?_
  rintro e w2 ⟨rfl, hb⟩
  have W2 := Aside0.mk (Below.trans HW.out (pr_below_mono_ hb HW.out.size))
  clear hb c0 c1 c2
  go_wp2_with fail
  refine (longest_grp hi lo p q HP.out _).mono ?_
  rintro e w3 ⟨rfl, hb⟩
  have W3 := Aside0.mk (Below.trans (below_alloc W2.out _) (pr_below_mono_ hb (below_alloc W2.out _).size))
  have G3 := Aside0.mk (show w3.heap[w2.heap.size]? = some (.cells (nums .u16 (grp8 hi lo)).toArray 95 (0, 0)) from blk_below (blk_new _ _) hb)
  clear hb
  go_wp2_with fail
  refine (text_calls' k (some ⟨w2.heap.size, 0, none⟩) 8 8 (grp8 hi lo) rfl r _ (show Kd.C (Kd.int .u16) _ _ 8 (((grp8 hi lo).drop 0).take 8) from kdC_u16 G3.out (Nat.le_refl 8) rfl) (Nat.le_refl _) (HLD.out.below W3.out) HT.out).mono ?_
  rintro e w4 ⟨rfl, hb⟩
  have W9 := Aside0.mk (Below.trans W3.out (pr_below_mono_ hb W3.out.size))
  clear hb
  go_wp2_with fail
  refine bodyPost_ret (v := .tuple #[.string r, .int .i64 0]) (by simp [results, Tryz.results58, go_sem]) rfl ⟨rfl, W9.out⟩

set_option maxHeartbeats 4000000 in
set_option maxRecDepth 100000 in
theorem Print_v6b (k : Nat) (hi lo : Int) (p q : Nat) (hp : longest (grp8 hi lo) = (p, q)) (hq : 2 ≤ q) (hpq : p + q ≤ 8) (s t : ByteArray) (ht : addr_text.f k ((grp8 hi lo).take p) = some s) (hu : addr_text.f k ((grp8 hi lo).drop (p + q)) = some t) (hz1 : s.size + 2 ≤ 9223372036854775807) (hz2 : (s ++ (⟨#[58, 58]⟩ : ByteArray)).size + t.size ≤ 9223372036854775807) (w : World) (hLD : Laid w) (hv : addr_Valid.f true hi lo = some true) :
    Calls Tryz.prog 58 #[.agg #[.bool true, .int .u64 hi, .int .u64 lo]] w fun e w' => e = .returned (.tuple #[.string ((s ++ (⟨#[58, 58]⟩ : ByteArray)) ++ t), .int .i64 0]) ∧ Below w.heap.size w w' := by
  have huA_ := Tryz.underlying24
  have huG_ := Tryz.underlying95
  have HLD := Aside0.mk hLD
  have HV := Aside0.mk hv
  have HP := Aside0.mk hp
  clear hLD hv hp
  have HT := Aside0.mk ht
  have HU := Aside0.mk hu
  clear ht hu
  have hqI : ¬ (q : Int) < 2 := by omega
  have hwq : wrap64 ((p : Int) + (q : Int)) = ((p + q : Nat) : Int) := by unfold wrap64; omega
  obtain ⟨n, hn⟩ : ∃ n, p + q + n = 8 := ⟨8 - (p + q), by omega⟩
  obtain ⟨o, ho⟩ : ∃ o, o = p + q := ⟨_, rfl⟩
  rw [← ho] at hwq hn hpq
  have HO := Aside0.mk ho
  have HN := Aside0.mk hn
  have HPQ := Aside0.mk hpq
  have h1 : (9223372036854775807 < s.size + 2) = False := eq_false (Nat.not_lt.2 hz1)
  have hz3 : s.size + 2 + t.size ≤ 9223372036854775807 := by have := hz2; rw [ByteArray.size_append] at this; exact this
  have h2 : (9223372036854775807 < s.size + 2 + t.size) = False := eq_false (Nat.not_lt.2 hz3)
  clear hq ho hn hpq
  go_enter Tryz.func58, Tryz.ntmps58
  go_wp2_with fail
  refine (addr_Valid.calls true hi lo true _ HV.out).mono ?_
  rintro e w1 ⟨rfl, hb⟩
  have hw : Below w.heap.size w w1 := Below.trans (below_alloc (Below.refl _ _) _) (pr_below_mono_ hb (by simp))
  have hbx : w1.heap[w.heap.size]? = some (.cells #[.bool true, .int .u64 hi, .int .u64 lo] 24 (0, 0)) := blk_below (blk_new _ _) hb
  have HW := Aside0.mk hw
  clear hw hb
  have c0 : w1.cell? ⟨w.heap.size, 0, none⟩ = some (.bool true) := (blk_cell hbx 0).trans rfl
  have c1 : w1.cell? ⟨w.heap.size, 1, none⟩ = some (.int .u64 hi) := (blk_cell hbx 1).trans rfl
  have c2 : w1.cell? ⟨w.heap.size, 2, none⟩ = some (.int .u64 lo) := (blk_cell hbx 2).trans rfl
  clear hbx
  go_wp2_with fail
  refine (groupsOf_calls true hi lo _).mono ?_
  rintro e w2 ⟨rfl, hb⟩
  have W2 := Aside0.mk (Below.trans HW.out (pr_below_mono_ hb HW.out.size))
  clear hb c0 c1 c2
  go_wp2_with fail
  refine (longest_grp hi lo p q HP.out _).mono ?_
  rintro e w3 ⟨rfl, hb⟩
  have W3 := Aside0.mk (Below.trans (below_alloc W2.out _) (pr_below_mono_ hb (below_alloc W2.out _).size))
  have G3 := Aside0.mk (show w3.heap[w2.heap.size]? = some (.cells (nums .u16 (grp8 hi lo)).toArray 95 (0, 0)) from blk_below (blk_new _ _) hb)
  clear hb
  have f1 := sl_h_ w2.heap.size p (by have := HPQ.out; have := HO.out; omega)
  have f2 := sl_l_ w2.heap.size o n HN.out
  have K2 : Aside0 (∀ W : World, W.heap[w2.heap.size]? = some (.cells (nums .u16 (grp8 hi lo)).toArray 95 (0, 0)) → Kd.C (Kd.int .u16) W (some ⟨w2.heap.size, if o = 8 then 0 else o, none⟩) n ((grp8 hi lo).drop (p + q))) := Aside0.mk (fun W h => by rw [← HO.out]; exact kdC_drop h HN.out rfl)
  generalize (if o = 8 then 0 else o) = o2 at f2 K2
  go_wp2_with fail
  refine start_ (n := 12) (S := fun _ => True) (ds := []) #[false, false, false, false, false, false, false, false, false, false, false, false] (by kernel_rfl) rfl rfl trivial (fun hHeld => ?_)
  have W4 := Aside0.mk (below_drew1 W3.out)
  have G4 := Aside0.mk (blk_drew G3.out)
  clear W3 G3
  generalize w3.drew = w4 at W4 G4 hHeld ⊢
  refine pure_ (i := 0) (N := some 48) (v := ?_) (a' := ?_) #[true, false, false, false, false, false, false, false, false, false, false, false] rfl rfl (by kernel_rfl) (fun _ _ _ h => h) (Or.inl ⟨by rfl, ?_⟩) ?_ ?_
  rotate_left
  · intro w'
    go_simp
    with_reducible rfl
  rotate_left
  · simp only [Act.put, List.setIfInBounds_toArray, List.set_cons_zero, List.set_cons_succ, i64_w, i32_w]
    rfl
  refine pure_ (i := 1) (N := some 49) (v := ?_) (a' := ?_) #[true, true, false, false, false, false, false, false, false, false, false, false] rfl rfl (by kernel_rfl) (fun _ _ _ h => h) (Or.inl ⟨by rfl, ?_⟩) ?_ ?_
  rotate_left
  · intro w'
    go_simp
    with_reducible rfl
  rotate_left
  · simp only [Act.put, List.setIfInBounds_toArray, List.set_cons_zero, List.set_cons_succ, i64_w, i32_w]
    rfl
  refine pure_ (i := 4) (N := some 52) (v := ?_) (a' := ?_) #[true, true, false, false, true, false, false, false, false, false, false, false] rfl rfl (by kernel_rfl) (fun _ _ _ h => h) (Or.inl ⟨by rfl, ?_⟩) ?_ ?_
  rotate_left
  · intro w'
    go_simp
    with_reducible rfl
  rotate_left
  · simp only [Act.put, List.setIfInBounds_toArray, List.set_cons_zero, List.set_cons_succ, i64_w, i32_w]
    rfl
  refine pure_ (i := 5) (N := some 53) (v := ?_) (a' := ?_) #[true, true, false, false, true, true, false, false, false, false, false, false] rfl rfl (by kernel_rfl) (fun _ _ _ h => h) (Or.inl ⟨by rfl, ?_⟩) ?_ ?_
  rotate_left
  · intro w'
    go_simp
    with_reducible rfl
  rotate_left
  · simp only [Act.put, List.setIfInBounds_toArray, List.set_cons_zero, List.set_cons_succ, i64_w, i32_w]
    rfl
  refine pure_ (i := 6) (N := some 54) (v := ?_) (a' := ?_) #[true, true, false, false, true, true, true, false, false, false, false, false] rfl rfl (by kernel_rfl) (fun _ _ _ h => h) (Or.inl ⟨by rfl, ?_⟩) ?_ ?_
  rotate_left
  · intro w'
    go_simp
    with_reducible rfl
  rotate_left
  · simp only [Act.put, List.setIfInBounds_toArray, List.set_cons_zero, List.set_cons_succ, i64_w, i32_w]
    rfl
  refine pure_ (i := 7) (N := some 55) (v := ?_) (a' := ?_) #[true, true, false, false, true, true, true, true, false, false, false, false] rfl rfl (by kernel_rfl) (fun _ _ _ h => h) (Or.inl ⟨by rfl, ?_⟩) ?_ ?_
  rotate_left
  · intro w'
    go_simp
    with_reducible rfl
  rotate_left
  · simp only [Act.put, List.setIfInBounds_toArray, List.set_cons_zero, List.set_cons_succ, i64_w, i32_w]
    rfl
  refine one_ (i := 2) (N := some 50) #[true, true, true, false, true, true, true, true, false, false, false, false] rfl rfl (by kernel_rfl) (by decide) (fun K hK => ?_)
  refine goes_ Tryz.func81 (by kernel_rfl) rfl #[.slice (some ⟨w2.heap.size, 0, none⟩) p 8] (by rfl) rfl rfl (by (try simp only [List.map_toArray, List.map_cons, List.map_nil]); first | done | rfl) ?_
  refine (text_calls' k (some ⟨w2.heap.size, 0, none⟩) p 8 ((grp8 hi lo).take p) (by rw [List.length_take]; have := HPQ.out; have := HO.out; show min p 8 = p; omega) s _ (show Kd.C (Kd.int .u16) _ _ p (((grp8 hi lo).drop 0).take p) from kdC_u16 G4.out (by have := HPQ.out; have := HO.out; show 0 + p ≤ 8; omega) rfl) (by have := HPQ.out; have := HO.out; omega) (HLD.out.below W4.out) HT.out).mono ?_
  rintro e w5 ⟨rfl, hb⟩
  refine ⟨_, rfl, ?_⟩
  refine hK.out _ _ trivial (fun hHeld => ?_)
  clear hK K
  refine norm_ (a' := ?_) ?_ ?_
  rotate_left
  · show Act.put _ (some 50) _ = _
    simp only [Act.put, List.setIfInBounds_toArray, List.set_cons_zero, List.set_cons_succ, i64_w, i32_w]
    rfl
  have W5 := Aside0.mk (Below.trans W4.out (pr_below_mono_ hb W4.out.size))
  have G5 := Aside0.mk (blk_below G4.out hb)
  clear hb
  refine pure_ (i := 3) (N := some 51) (v := ?_) (a' := ?_) #[true, true, true, true, true, true, true, true, false, false, false, false] rfl rfl (by kernel_rfl) (fun _ _ _ h => h) (Or.inl ⟨by rfl, ?_⟩) ?_ ?_
  rotate_left
  · intro w'
    go_simp
    with_reducible rfl
  rotate_left
  · simp only [Act.put, List.setIfInBounds_toArray, List.set_cons_zero, List.set_cons_succ, i64_w, i32_w]
    rfl
  refine one_ (i := 8) (N := some 56) #[true, true, true, true, true, true, true, true, true, false, false, false] rfl rfl (by kernel_rfl) (by decide) (fun K hK => ?_)
  refine goes_ Tryz.func81 (by kernel_rfl) rfl #[.slice (some ⟨w2.heap.size, o2, none⟩) n n] (by rfl) rfl rfl (by (try simp only [List.map_toArray, List.map_cons, List.map_nil]); first | done | rfl) ?_
  refine (text_calls' k (some ⟨w2.heap.size, o2, none⟩) n n ((grp8 hi lo).drop (p + q)) (by rw [List.length_drop]; have := HN.out; have := HO.out; show 8 - (p + q) = n; omega) t _ (K2.out _ G5.out) (Nat.le_refl _) (HLD.out.below W5.out) HU.out).mono ?_
  rintro e w6 ⟨rfl, hb⟩
  refine ⟨_, rfl, ?_⟩
  refine hK.out _ _ trivial (fun hHeld => ?_)
  clear hK K
  refine norm_ (a' := ?_) ?_ ?_
  rotate_left
  · show Act.put _ (some 56) _ = _
    simp only [Act.put, List.setIfInBounds_toArray, List.set_cons_zero, List.set_cons_succ, i64_w, i32_w]
    rfl
  have W9 := Aside0.mk (Below.trans W5.out (pr_below_mono_ hb W5.out.size))
  clear hb
  refine pure_ (i := 9) (N := some 57) (v := ?_) (a' := ?_) #[true, true, true, true, true, true, true, true, true, true, false, false] rfl rfl (by kernel_rfl) (fun _ _ _ h => h) (Or.inl ⟨by rfl, ?_⟩) ?_ ?_
  rotate_left
  · intro w'
    go_simp
    with_reducible rfl
  rotate_left
  · simp only [Act.put, List.setIfInBounds_toArray, List.set_cons_zero, List.set_cons_succ, i64_w, i32_w]
    rfl
  refine pure_ (i := 10) (N := some 2) (v := ?_) (a' := ?_) #[true, true, true, true, true, true, true, true, true, true, true, false] rfl rfl (by kernel_rfl) (fun _ _ _ h => h) (Or.inl ⟨by rfl, ?_⟩) ?_ ?_
  rotate_left
  · intro w'
    go_simp
    with_reducible rfl
  rotate_left
  · simp only [Act.put, List.setIfInBounds_toArray, List.set_cons_zero, List.set_cons_succ, i64_w, i32_w]
    rfl
  refine pure_ (i := 11) (N := some 3) (v := ?_) (a' := ?_) #[true, true, true, true, true, true, true, true, true, true, true, true] rfl rfl (by kernel_rfl) (fun _ _ _ h => h) (Or.inl ⟨by rfl, ?_⟩) ?_ ?_
  rotate_left
  · intro w'
    go_simp
    with_reducible rfl
  rotate_left
  · simp only [Act.put, List.setIfInBounds_toArray, List.set_cons_zero, List.set_cons_succ, i64_w, i32_w]
    rfl
  refine done_ (by kernel_rfl) ?_
  go_wp2_with fail
  refine bodyPost_ret (v := .tuple #[.string ((s ++ (⟨#[58, 58]⟩ : ByteArray)) ++ t), .int .i64 0]) (by simp [results, Tryz.results58, go_sem]) rfl ⟨rfl, W9.out⟩

theorem lfold_le (g : List Int) (hg : g.length = 8) : ∀ (l : List Nat) (p : Nat × Nat), (∀ i, i ∈ l → i ≤ 8) → p.1 + p.2 ≤ 8 → (l.foldl (lstep g) p).1 + (l.foldl (lstep g) p).2 ≤ 8
  | [], p, _, h => h
  | i :: l, p, hl, h => by
    rw [List.foldl_cons]
    refine lfold_le g hg l _ (fun j hj => hl j (List.mem_cons_of_mem _ hj)) ?_
    unfold lstep
    by_cases hz : zr g i > p.2
    · rw [if_pos hz]
      have h1 : zr g i ≤ (g.drop i).length := List.Sublist.length_le (List.takeWhile_sublist _)
      rw [List.length_drop] at h1
      have := hl i List.mem_cons_self
      show i + zr g i ≤ 8
      omega
    · rw [if_neg hz]
      exact h
theorem longest_le (g : List Int) (hg : g.length = 8) : (longest g).1 + (longest g).2 ≤ 8 := lfold_le g hg (List.range 8) (0, 0) (fun i hi => by have := List.mem_range.1 hi; omega) (by decide)
set_option maxHeartbeats 4000000 in
set_option maxRecDepth 100000 in
theorem Print_bad (b : Bool) (hi lo : Int) (w : World) (hv : addr_Valid.f b hi lo = some false) :
    Calls Tryz.prog 58 #[.agg #[.bool b, .int .u64 hi, .int .u64 lo]] w fun e w' => e = .returned (.tuple #[.string (⟨#[]⟩ : ByteArray), .int .i64 3]) ∧ Below w.heap.size w w' := by
  have huA_ := Tryz.underlying24
  have HV := Aside0.mk hv
  clear hv
  go_enter Tryz.func58, Tryz.ntmps58
  go_wp2_with fail
  refine (addr_Valid.calls b hi lo false _ HV.out).mono ?_
  rintro e w1 ⟨rfl, hb⟩
  have HW := Aside0.mk (show Below w.heap.size w w1 from Below.trans (below_alloc (Below.refl _ _) _) (pr_below_mono_ hb (by simp)))
  clear hb
  go_wp2_with fail
  refine bodyPost_ret (v := .tuple #[.string (⟨#[]⟩ : ByteArray), .int .i64 3]) (by simp [results, Tryz.results58, go_sem]) rfl ⟨rfl, HW.out⟩
def prV6 (k : Nat) (g : List Int) : Option (ByteArray × Int) := if (longest g).2 < 2 then (addr_text.f k g).bind fun s => some (s, 0) else (addr_text.f k (g.take (longest g).1)).bind fun s => (addr_text.f k (g.drop ((longest g).1 + (longest g).2))).bind fun t => if s.size + 2 ≤ 9223372036854775807 then (if (s ++ (⟨#[58, 58]⟩ : ByteArray)).size + t.size ≤ 9223372036854775807 then some ((s ++ (⟨#[58, 58]⟩ : ByteArray)) ++ t, 0) else none) else none
def addr_Print.f (k : Nat) (a0_0 : Bool) (a0_1 : Int) (a0_2 : Int) : Option (ByteArray × Int) := (addr_Valid.f a0_0 a0_1 a0_2).bind fun v => if v = true then (if a0_0 = true then prV6 k (grp8 a0_1 a0_2) else (if 0 ≤ a0_2 ∧ a0_2 < 18446744073709551616 then (strings_Join.f (dec4 a0_2.toNat) (⟨#[46]⟩ : ByteArray)).bind fun s => some (s, 0) else none)) else some ((⟨#[]⟩ : ByteArray), 3)
theorem LeO_bind_ {α β : Type} {x y : Option α} {f g : α → Option β} (h : LeO x y) (hf : ∀ a, LeO (f a) (g a)) : LeO (x.bind f) (y.bind g) := by
  intro r hr
  obtain ⟨a, ha, hr⟩ := Option.bind_eq_some_iff.mp hr
  exact Option.bind_eq_some_iff.mpr ⟨a, h a ha, hf a r hr⟩
theorem LeO_refl_ {α : Type} (x : Option α) : LeO x x := fun _ h => h
theorem prV6_mono (g : List Int) (k : Nat) : LeO (prV6 k g) (prV6 (k + 1) g) := by
  unfold prV6
  by_cases h : (longest g).2 < 2
  · rw [if_pos h, if_pos h]
    exact LeO_bind_ (addr_text.mono g k) (fun _ => LeO_refl_ _)
  · rw [if_neg h, if_neg h]
    exact LeO_bind_ (addr_text.mono _ k) (fun _ => LeO_bind_ (addr_text.mono _ k) (fun _ => LeO_refl_ _))
theorem addr_Print.mono : ∀ a0 a1 a2 k, LeO (addr_Print.f k a0 a1 a2) (addr_Print.f (k + 1) a0 a1 a2) := by
  intro a0 a1 a2 k
  unfold addr_Print.f
  refine LeO_bind_ (LeO_refl_ _) (fun v => ?_)
  by_cases h : v = true
  · rw [if_pos h, if_pos h]
    by_cases h1 : a0 = true
    · rw [if_pos h1, if_pos h1]
      exact prV6_mono _ k
    · rw [if_neg h1, if_neg h1]
      exact LeO_refl_ _
  · rw [if_neg h, if_neg h]
    exact LeO_refl_ _
theorem addr_Print.calls (k : Nat) (a0_0 : Bool) (a0_1 : Int) (a0_2 : Int) (r1 : ByteArray) (r2 : Int) (w : World) (hLD : Laid w) (h : addr_Print.f k a0_0 a0_1 a0_2 = some (r1, r2)) :
    Calls Tryz.prog 58 #[.agg #[.bool a0_0, .int .u64 a0_1, .int .u64 a0_2]] w fun e w' => e = .returned (.tuple #[.string r1, .int .i64 r2]) ∧ Below w.heap.size w w' := by
  unfold addr_Print.f at h
  obtain ⟨v, hv, h⟩ := Option.bind_eq_some_iff.mp h
  by_cases h0 : v = true
  · subst h0
    rw [if_pos rfl] at h
    by_cases h1 : a0_0 = true
    · subst h1
      rw [if_pos rfl] at h
      unfold prV6 at h
      have hle := longest_le (grp8 a0_1 a0_2) rfl
      by_cases h2 : (longest (grp8 a0_1 a0_2)).2 < 2
      · rw [if_pos h2] at h
        obtain ⟨s, hs, h⟩ := Option.bind_eq_some_iff.mp h
        simp only [Option.some.injEq, Prod.mk.injEq] at h
        obtain ⟨rfl, rfl⟩ := h
        exact Print_v6a k a0_1 a0_2 (longest (grp8 a0_1 a0_2)).1 (longest (grp8 a0_1 a0_2)).2 rfl h2 s hs w hLD hv
      · rw [if_neg h2] at h
        obtain ⟨s, hs, h⟩ := Option.bind_eq_some_iff.mp h
        obtain ⟨t, ht, h⟩ := Option.bind_eq_some_iff.mp h
        by_cases h3 : s.size + 2 ≤ 9223372036854775807
        · rw [if_pos h3] at h
          by_cases h4 : (s ++ (⟨#[58, 58]⟩ : ByteArray)).size + t.size ≤ 9223372036854775807
          · rw [if_pos h4] at h
            simp only [Option.some.injEq, Prod.mk.injEq] at h
            obtain ⟨rfl, rfl⟩ := h
            exact Print_v6b k a0_1 a0_2 (longest (grp8 a0_1 a0_2)).1 (longest (grp8 a0_1 a0_2)).2 rfl (by omega) hle s t hs ht h3 h4 w hLD hv
          · rw [if_neg h4] at h; cases h
        · rw [if_neg h3] at h; cases h
    · have h1' : a0_0 = false := by cases a0_0 <;> simp_all
      subst h1'
      rw [if_neg (by decide)] at h
      by_cases h2 : 0 ≤ a0_2 ∧ a0_2 < 18446744073709551616
      · rw [if_pos h2] at h
        obtain ⟨s, hs, h⟩ := Option.bind_eq_some_iff.mp h
        simp only [Option.some.injEq, Prod.mk.injEq] at h
        obtain ⟨rfl, rfl⟩ := h
        obtain ⟨lo, rfl⟩ : ∃ lo : Nat, a0_2 = lo := ⟨a0_2.toNat, by omega⟩
        rw [Int.toNat_natCast] at hs
        exact Print_v4 a0_1 lo _ _ _ _ _ _ _ _ s (by omega) rfl rfl rfl rfl (fuf10 _ (by omega)) (fuf10 _ (by omega)) (fuf10 _ (by omega)) (fuf10 _ (by omega)) hs w hLD hv
      · rw [if_neg h2] at h; cases h
  · have h0' : v = false := by cases v <;> simp_all
    subst h0'
    rw [if_neg (by decide)] at h
    simp only [Option.some.injEq, Prod.mk.injEq] at h
    obtain ⟨rfl, rfl⟩ := h
    exact Print_bad a0_0 a0_1 a0_2 w hv

/-! ### prefix_Print: function 22 -/
def prefix_Print.f (k : Nat) (a0_0 : Bool) (a0_1 : Int) (a0_2 : Int) (a0_3 : Int) : Option (ByteArray × Int) := (prefix_Valid.f a0_0 a0_1 a0_2 a0_3).bind fun t259 => (if t259 = true then ((addr_Print.f k a0_0 a0_1 a0_2).bind fun bt260 => (if bt260.1.size + 1 ≤ 9223372036854775807 then ((strconv_Itoa.f a0_3).bind fun t262 => (if (bt260.1 ++ (⟨#[47]⟩ : ByteArray)).size + t262.size ≤ 9223372036854775807 then (some ((bt260.1 ++ (⟨#[47]⟩ : ByteArray)) ++ t262, bt260.2)) else (none))) else (none))) else (some ((⟨#[]⟩ : ByteArray), 3)))
theorem prefix_Print.mono : ∀ a0 a1 a2 a3 k, LeO (prefix_Print.f k a0 a1 a2 a3) (prefix_Print.f (k + 1) a0 a1 a2 a3) := by
 intro a0 a1 a2 a3 k
 unfold prefix_Print.f
 repeat' with_reducible first | exact addr_Print.mono _ _ _ _ | exact LeO.refl _ | exact LeO.none _ | refine LeO.ite ?_ ?_ | refine LeO.bind ?_ (fun _ => ?_)
set_option maxHeartbeats 40000000 in
set_option maxRecDepth 100000 in
theorem prefix_Print.calls (k : Nat) (a0_0 : Bool) (a0_1 : Int) (a0_2 : Int) (a0_3 : Int) (r1 : ByteArray) (r2 : Int) (w : World) (hLD : Laid w) (h : prefix_Print.f k a0_0 a0_1 a0_2 a0_3 = some (r1, r2)) :
 Calls Tryz.prog 22 #[.agg #[.bool a0_0, .int .u64 a0_1, .int .u64 a0_2, .int .i64 a0_3]] w fun e w' => e = .returned (.tuple #[.string r1, .int .i64 r2]) ∧ Below w.heap.size w w' := by
 have hu26 := Tryz.underlying26
 have hu24 := Tryz.underlying24
 have HLD := Aside0.mk hLD
 clear hLD
 have HB := Aside0.mk (Below.refl w.heap.size w)
 have H : ((prefix_Valid.f a0_0 a0_1 a0_2 a0_3).bind fun t259 => (if t259 = true then ((addr_Print.f k a0_0 a0_1 a0_2).bind fun bt260 => (if bt260.1.size + 1 ≤ 9223372036854775807 then ((strconv_Itoa.f a0_3).bind fun t262 => (if (bt260.1 ++ (⟨#[47]⟩ : ByteArray)).size + t262.size ≤ 9223372036854775807 then (some ((bt260.1 ++ (⟨#[47]⟩ : ByteArray)) ++ t262, bt260.2)) else (none))) else (none))) else (some ((⟨#[]⟩ : ByteArray), 3)))) = some (r1, r2) := h
 clear h
 replace H := Option.bind_eq_some_iff.mp H
 obtain ⟨t259, A20, H⟩ := H
 have A2 := Aside0.mk A20
 clear A20
 by_cases c3 : t259 = true
 ·
  subst c3
  have H1 : ((addr_Print.f k a0_0 a0_1 a0_2).bind fun bt260 => (if bt260.1.size + 1 ≤ 9223372036854775807 then ((strconv_Itoa.f a0_3).bind fun t262 => (if (bt260.1 ++ (⟨#[47]⟩ : ByteArray)).size + t262.size ≤ 9223372036854775807 then (some ((bt260.1 ++ (⟨#[47]⟩ : ByteArray)) ++ t262, bt260.2)) else (none))) else (none))) = some (r1, r2) := by rw [if_pos rfl] at H; exact H
  clear H
  have H := H1
  clear H1
  replace H := Option.bind_eq_some_iff.mp H
  obtain ⟨⟨t260, t261⟩, A40, H⟩ := H
  replace H : (if t260.size + 1 ≤ 9223372036854775807 then ((strconv_Itoa.f a0_3).bind fun t262 => (if (t260 ++ (⟨#[47]⟩ : ByteArray)).size + t262.size ≤ 9223372036854775807 then (some ((t260 ++ (⟨#[47]⟩ : ByteArray)) ++ t262, t261)) else (none))) else (none)) = some (r1, r2) := H
  have A4 := Aside0.mk A40
  clear A40
  by_cases c5 : t260.size + 1 ≤ 9223372036854775807
  ·
   rw [if_pos c5] at H
   have c5b0 := eq_true c5
   have c5b1 := decide_eq_true c5
   try have c5b2 : (9223372036854775807 < t260.size + 1) = False := eq_false (Nat.not_lt.2 c5)
   replace H := Option.bind_eq_some_iff.mp H
   obtain ⟨t262, A60, H⟩ := H
   have A6 := Aside0.mk A60
   clear A60
   by_cases c7 : (t260 ++ (⟨#[47]⟩ : ByteArray)).size + t262.size ≤ 9223372036854775807
   ·
    rw [if_pos c7] at H
    have c7b0 := eq_true c7
    have c7b1 := decide_eq_true c7
    try have c7b2 : (9223372036854775807 < (t260 ++ (⟨#[47]⟩ : ByteArray)).size + t262.size) = False := eq_false (Nat.not_lt.2 c7)
    try have c7b2z := c7b2
    try simp only [go_sem, List.size_toArray, List.length_cons, List.length_nil, Nat.zero_add, Nat.reduceAdd] at c7b2z
    simp only [Option.some.injEq, Prod.mk.injEq] at H
    obtain ⟨rfl, rfl⟩ := H
    go_enter Tryz.func22, Tryz.ntmps22
    go_wp2_with (first | ((with_reducible refine gate_dst (N := 1) rfl ?_); refine boxA (N := 1) (cs := #[.bool a0_0, .int .u64 a0_1, .int .u64 a0_2, .int .i64 a0_3]) (t := 26) ?_; intro gb258 hg w8 hbox hb; have BK258 := Aside0.mk (hbox); have GE258 := (pZ HB hg); replace HB := (pS HB hb); clear hb hbox hg; obtain ⟨hcz9_0, hcz9_1, hcz9_2, hcz9_3, hfz9_0, hfz9_1, hfz9_2, hfz9_3⟩ := pC4 BK258) | ((with_reducible refine gate_callee (f := 26) rfl ?_); refine goesA (some 7) Tryz.func26 #[.agg #[.bool a0_0, .int .u64 a0_1, .int .u64 a0_2, .int .i64 a0_3]] ?_; (with_reducible refine (prefix_Valid.calls a0_0 a0_1 a0_2 a0_3 true _ A2.out).mono ?_); rintro e w10 ⟨rfl, hb⟩; refine ⟨_, rfl, ?_⟩; replace BK258 := (pB BK258 hb); replace HB := (pS HB hb); (try clear hb); obtain ⟨hcz11_0, hcz11_1, hcz11_2, hcz11_3, hfz11_0, hfz11_1, hfz11_2, hfz11_3⟩ := pC4 BK258) | ((with_reducible refine gate_callee (f := 58) rfl ?_); refine goesA (some 12) Tryz.func58 #[.agg #[.bool a0_0, .int .u64 a0_1, .int .u64 a0_2]] ?_; (with_reducible refine (addr_Print.calls k a0_0 a0_1 a0_2 t260 t261 _ ?side1 A4.out).mono ?_); (case side1 => exact Laid.below HLD.out (pE HB)); rintro e w12 ⟨rfl, hb⟩; refine ⟨_, rfl, ?_⟩; replace BK258 := (pB BK258 hb); replace HB := (pS HB hb); (try clear hb); obtain ⟨hcz13_0, hcz13_1, hcz13_2, hcz13_3, hfz13_0, hfz13_1, hfz13_2, hfz13_3⟩ := pC4 BK258) | ((with_reducible refine gate_callee (f := 39) rfl ?_); refine goesA (some 19) Tryz.func39 #[.int .i64 a0_3] ?_; (with_reducible refine (strconv_Itoa.calls a0_3 t262 _ ?side1 A6.out).mono ?_); (case side1 => exact Laid.below HLD.out (pE HB)); rintro e w14 ⟨rfl, hb⟩; refine ⟨_, rfl, ?_⟩; replace BK258 := (pB BK258 hb); replace HB := (pS HB hb); (try clear hb)))
    go_ret2
    exact pR (pE HB)
   ·
    rw [if_neg c7] at H
    exact absurd H (by simp)
  ·
   rw [if_neg c5] at H
   exact absurd H (by simp)
 ·
  replace c3 := Bool.eq_false_iff.mpr c3
  subst c3
  rw [if_neg (show ¬ (false = true) by decide)] at H
  simp only [Option.some.injEq, Prod.mk.injEq] at H
  obtain ⟨rfl, rfl⟩ := H
  go_enter Tryz.func22, Tryz.ntmps22
  go_wp2_with (first | ((with_reducible refine gate_dst (N := 1) rfl ?_); refine boxA (N := 1) (cs := #[.bool a0_0, .int .u64 a0_1, .int .u64 a0_2, .int .i64 a0_3]) (t := 26) ?_; intro gb258 hg w15 hbox hb; have BK258 := Aside0.mk (hbox); have GE258 := (pZ HB hg); replace HB := (pS HB hb); clear hb hbox hg; obtain ⟨hcz16_0, hcz16_1, hcz16_2, hcz16_3, hfz16_0, hfz16_1, hfz16_2, hfz16_3⟩ := pC4 BK258) | ((with_reducible refine gate_callee (f := 26) rfl ?_); refine goesA (some 7) Tryz.func26 #[.agg #[.bool a0_0, .int .u64 a0_1, .int .u64 a0_2, .int .i64 a0_3]] ?_; (with_reducible refine (prefix_Valid.calls a0_0 a0_1 a0_2 a0_3 false _ A2.out).mono ?_); rintro e w17 ⟨rfl, hb⟩; refine ⟨_, rfl, ?_⟩; replace BK258 := (pB BK258 hb); replace HB := (pS HB hb); (try clear hb)))
  go_ret2
  exact pR (pE HB)

/-! ### ddilaw03_four: function 42 -/
def ddilaw03_four.f (a0 : Int) (a1 : Int) : Option (Bool × Int × Int × Int) := some (false, 0, a0, a1)
set_option maxHeartbeats 40000000 in
set_option maxRecDepth 100000 in
theorem ddilaw03_four.calls (a0 : Int) (a1 : Int) (r1 : Bool) (r2 : Int) (r3 : Int) (r4 : Int) (w : World) (h : ddilaw03_four.f a0 a1 = some (r1, r2, r3, r4)) :
 Calls Tryz.prog 42 #[.int .u64 a0, .int .i64 a1] w fun e w' => e = .returned (.agg #[.bool r1, .int .u64 r2, .int .u64 r3, .int .i64 r4]) ∧ Below w.heap.size w w' := by
 have hu26 := Tryz.underlying26
 have hu24 := Tryz.underlying24
 have HB := Aside0.mk (Below.refl w.heap.size w)
 have H : (some (false, 0, a0, a1)) = some (r1, r2, r3, r4) := h
 clear h
 simp only [Option.some.injEq, Prod.mk.injEq] at H
 obtain ⟨rfl, rfl, rfl, rfl⟩ := H
 go_enter Tryz.func42, Tryz.ntmps42
 go_wp2_with (first | ((with_reducible refine gate_dst (N := 4) rfl ?_); refine boxA (N := 4) (cs := #[.bool false, .int .u64 0, .int .u64 0, .int .i64 0]) (t := 26) ?_; intro gb263 hg w3 hbox hb; have BK263 := Aside0.mk (hbox); have GE263 := (pZ HB hg); replace HB := (pS HB hb); clear hb hbox hg; obtain ⟨hcz4_0, hcz4_1, hcz4_2, hcz4_3, hfz4_0, hfz4_1, hfz4_2, hfz4_3⟩ := pC4 BK263))
 refine bodyPost_ret (results_cell_row rfl _ _ gb263 26 #[.bool false, .int .u64 0, .int .u64 a0, .int .i64 a1] (0, 0) _ rfl (pP (pP (pP (pP (pM BK263))))) Tryz.underlying26 rfl (by kernel_rfl)) rfl ?_
 exact pR (pE HB)
end Go.Proofs.YteflcmmandlknaaGreatDoor.PA
