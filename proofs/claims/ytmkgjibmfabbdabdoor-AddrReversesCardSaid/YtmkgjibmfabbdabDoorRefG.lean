/-
  Domain names of addresses: what the reference's Reverse and FromReverse answer. Conditions: none beyond the numbers' kinds.
-/
import Derived.Test.YtmkgjibmfabbdabDoorRevF
import Derived.Test.YtmkgjibmfabbdabDoorAdX
import Derived.Test.YtmkgjibmfabbdabDoorAddrRf
import Derived.Test.YtmkgjibmfabbdabDoorPAx4
import Derived.Test.YtmkgjibmfabbdabDoorPAx8
namespace Go.Proofs.YtmkgjibmfabbdabDoor.Rv
open Go.RowKit Go.Proofs.YtmkgjibmfabbdabDoorW.PrintWords Go.Proofs.YtmkgjibmfabbdabDoorW.PrintLast Go.Proofs.YtmkgjibmfabbdabDoor.Num Go.Proofs.YtmkgjibmfabbdabDoor.Str Go.Proofs.YtmkgjibmfabbdabDoor.Flds Go.Proofs.YtmkgjibmfabbdabDoor.PA Go.Proofs.YtmkgjibmfabbdabDoor.AddrP Go.Proofs.YtmkgjibmfabbdabDoor.Qs Go.Proofs.YtmkgjibmfabbdabDoor.AdW Go.Proofs.YtmkgjibmfabbdabDoor.AdX Go.Proofs.YtmkgjibmfabbdabDoor.AddrR
set_option linter.unusedVariables false
set_option linter.unusedSimpArgs false

theorem hex_all : ∀ i : Fin 16, ddiref02_hex.f (i.val : Int) = some (bs [hexd i.val]) := by decide +kernel
theorem hex_at (n : Nat) (h : n < 16) : ddiref02_hex.f (n : Int) = some (bs [hexd n]) := hex_all ⟨n, h⟩
theorem rdec_all : ∀ i : Fin 256, ddiref02_decimal.f (i.val : Int) = some (bs (dd i.val)) := by decide +kernel
theorem rdec_at (n : Nat) (h : n < 256) : ddiref02_decimal.f (n : Int) = some (bs (dd n)) := rdec_all ⟨n, h⟩
theorem tdiv_nat (a b : Nat) : Int.tdiv (a : Int) (b : Int) = ((a / b : Nat) : Int) := by
  rw [Int.tdiv_eq_ediv_of_nonneg (by omega)]
  rfl
theorem tmod_nat (a b : Nat) : Int.tmod (a : Int) (b : Int) = ((a % b : Nat) : Int) := by
  rw [Int.tmod_eq_emod_of_nonneg (by omega)]
  rfl
theorem wrap_nat (a : Nat) (h : a < 18446744073709551616) : IntKind.u64.wrap (a : Int) = (a : Int) := wrap_u64_id ⟨by omega, by omega⟩
theorem ref_l0 (v : Bool) (hi lo : Int) (w : ByteArray) (L : List Nat) (hw : Low w L) (hL : L.length ≤ 16) (hb : ∀ b, b ∈ L → b < 256) : ∀ (d i : Nat) (O : List UInt8), i + d = L.length → O.length ≤ 4 * i →
    Ev (fun k => ddiref02_Reverse.l0 k (bs O) w ((d : Int) - 1) v hi lo) (bs (O ++ (dots (flds v (L.drop i)) ++ tl v)), 0)
  | 0, i, O, hi_, hO => by
    have hd : L.drop i = [] := List.drop_of_length_le (by omega)
    refine Ev.step (fun k => by rw [ddiref02_Reverse.l0]) (ev_if_neg (by omega) ?_)
    rw [hd]
    cases v with
    | true =>
      refine ev_if_pos rfl (ev_if_pos (by rw [bs_size]; omega) ?_)
      rw [show (⟨#[105, 112, 54, 46, 97, 114, 112, 97, 46]⟩ : ByteArray) = bs tail6 from rfl, bs_app]
      exact Ev.now _
    | false =>
      refine ev_if_neg (by decide) (ev_if_pos (by rw [bs_size]; omega) ?_)
      rw [show (⟨#[105, 110, 45, 97, 100, 100, 114, 46, 97, 114, 112, 97, 46]⟩ : ByteArray) = bs tail4 from rfl, bs_app]
      exact Ev.now _
  | d + 1, i, O, hi_, hO => by
    have hlt : i < L.length := by omega
    have hbi := hw.2 i hlt
    have hb' := hb L[i] (List.getElem_mem hlt)
    have hdrop : L.drop i = L[i] :: L.drop (i + 1) := List.drop_eq_getElem_cons hlt
    have hfl : flds v (L.drop i) = fl v L[i] ++ flds v (L.drop (i + 1)) := by
      rw [hdrop]
      unfold flds
      rw [List.map_cons, List.flatten_cons]
    have hidx : (((d + 1 : Nat) : Int) - 1) = ((L.length - 1 - i : Nat) : Int) := by omega
    have hnx : wrap64 (((L.length - 1 - i : Nat) : Int) - 1) = (d : Int) - 1 := by rw [wrap64_id (by omega) (by omega)]; omega
    have hsz := hw.1
    have e46 : (⟨#[46]⟩ : ByteArray) = bs [46] := rfl
    have hlen := fl_len v L[i]
    rw [hidx, hfl, dots_app]
    have ih := ref_l0 v hi lo w L hw hL hb d (i + 1) (O ++ dots (fl v L[i])) (by omega) (by rw [List.length_append]; omega)
    rw [← hnx, List.append_assoc, ← List.append_assoc (dots (fl v L[i]))] at ih
    refine Ev.step (fun k => by rw [ddiref02_Reverse.l0]) (ev_if_pos (by omega) ?_)
    rw [hbi]
    cases v with
    | true =>
      have q1 : IntKind.u64.wrap (Int.tmod (L[i] : Int) 16) = ((L[i] % 16 : Nat) : Int) := by
        rw [show (16 : Int) = ((16 : Nat) : Int) from rfl, tmod_nat, wrap_nat _ (by omega)]
      have q2 : Int.tdiv (L[i] : Int) 16 % 256 = ((L[i] / 16 : Nat) : Int) := by
        rw [show (16 : Int) = ((16 : Nat) : Int) from rfl, tdiv_nat]
        omega
      have ef : dots (fl true L[i]) = [hexd (L[i] % 16)] ++ ([46] ++ ([hexd (L[i] / 16)] ++ [46])) := by
        unfold fl dots
        simp
      rw [q1, q2]
      refine ev_if_pos rfl (ev_if_pos (by omega) (ev_if_pos (by omega) ?_))
      refine ev_bind_const (hex_at _ (by omega)) (ev_if_pos (by rw [bs_size]; simp) ?_)
      refine ev_bind_const (hex_at _ (by omega)) ?_
      rw [e46, bs_app, bs_app, bs_app, bs_app]
      refine ev_if_pos (by rw [bs_size, bs_size]; simp) (ev_if_pos (by rw [bs_size]; simp) (ev_if_pos (by rw [bs_size, bs_size]; simp only [List.length_append, List.length_cons, List.length_nil]; omega) ?_))
      rw [ef] at ih ⊢
      simp only [List.append_assoc] at ih ⊢
      exact ih
    | false =>
      have ef : dots (fl false L[i]) = dd L[i] ++ [46] := by
        unfold fl dots
        simp
      have hdd := dd_len L[i]
      refine ev_if_neg (by decide) (ev_if_pos (by omega) (ev_if_pos (by omega) ?_))
      rw [wrap_nat _ (by omega)]
      refine ev_bind_const (rdec_at _ hb') (ev_if_pos (by rw [bs_size]; omega) ?_)
      rw [e46, bs_app, bs_app]
      refine ev_if_pos (by rw [bs_size, bs_size]; simp only [List.length_append, List.length_cons, List.length_nil]; omega) ?_
      rw [ef] at ih ⊢
      simp only [List.append_assoc] at ih ⊢
      exact ih
theorem ref_Reverse_ev {v : Bool} {hi lo : Int} (h1 : U64 hi) (h2 : U64 lo) : Ev (fun k => ddiref02_Reverse.f k v hi lo) (RevS v hi lo) := by
  unfold ddiref02_Reverse.f RevS
  refine ev_bind_const (ref_Valid_eq v hi lo) ?_
  cases hv : vld v hi lo with
  | false =>
    rw [if_neg (by decide)]
    refine ev_if_neg (by decide) ?_
    exact Ev.now _
  | true =>
    obtain ⟨e0, hl⟩ := wire_low h1 h2 hv
    rw [if_pos rfl]
    have hlen := lowB_len v hi lo
    have hrev := ref_l0 v hi lo _ _ hl hlen (lowB_lt v hi lo) (lowB v hi lo).length 0 [] (by omega) (by simp)
    have hsz := hl.1
    rw [List.drop_zero, List.nil_append] at hrev
    refine ev_if_pos rfl (Ev.bind (ref_Wire_ev h1 h2) ?_)
    have hw : wrap64 (((wireS v hi lo).1.size : Int) - 1) = ((lowB v hi lo).length : Int) - 1 := by rw [wrap64_id (by omega) (by omega), hsz]
    rw [hw]
    exact hrev
/-- A digit as guess takes it. -/
def gd (c : Int) : Nat := if dg c < 0 then 0 else (dg c).toNat
theorem gd_lt (c : Int) : gd c < 16 := by
  have := dg_le c
  unfold gd
  split <;> omega
theorem gd_mod (c : Int) : Int.tmod (if dg c < 0 then 16 else dg c) 16 = (gd c : Int) := by
  have := dg_le c
  unfold gd
  by_cases h : dg c < 0
  · rw [if_pos h, if_pos h]; rfl
  · rw [if_neg h, if_neg h, Int.tmod_eq_emod_of_nonneg (by omega)]
    omega
/-- Sixteen digits of the text, the lowest first: those at o, o + 2 and on. -/
def dgt (s : ByteArray) (o : Nat) : List Nat := (List.range 16).map (fun j => gd (bt s ((o + 2 * j : Nat) : Int)))
theorem dgt_len (s : ByteArray) (o : Nat) : (dgt s o).length = 16 := by simp [dgt]
theorem dgt_get (s : ByteArray) (o j : Nat) (h : j < 16) : (dgt s o)[j]'(by rw [dgt_len]; exact h) = gd (bt s ((o + 2 * j : Nat) : Int)) := by simp [dgt]
theorem val_lt16 : ∀ D : List Nat, (∀ d, d ∈ D → d < 16) → val 16 D < 16 ^ D.length
  | [], _ => by decide
  | d :: D, h => by
    have ih := val_lt16 D (fun x hx => h x (by simp [hx]))
    have hd := h d (by simp)
    rw [val, List.length_cons, Nat.pow_succ]
    omega
theorem dgt_lt (s : ByteArray) (o : Nat) : ∀ d, d ∈ dgt s o → d < 16 := by
  intro d hd
  unfold dgt at hd
  obtain ⟨j, _, rfl⟩ := List.mem_map.1 hd
  exact gd_lt _
theorem drop_val (D : List Nat) (h : D.length = 16) (i : Nat) (hi : i < 16) : val 16 (D.drop (16 - (i + 1))) = D[15 - i]'(by omega) + 16 * val 16 (D.drop (16 - i)) := by
  rw [show 16 - (i + 1) = 15 - i by omega, List.drop_eq_getElem_cons (by omega : 15 - i < D.length), val, show 15 - i + 1 = 16 - i by omega]
theorem val_drop_lt (D : List Nat) (hD : ∀ d, d ∈ D → d < 16) (h : D.length = 16) (i : Nat) (hi : i ≤ 16) : val 16 (D.drop (16 - i)) < 16 ^ i := by
  have := val_lt16 (D.drop (16 - i)) (fun d hd => hD d (List.mem_of_mem_drop hd))
  rw [List.length_drop, h, show 16 - (16 - i) = i by omega] at this
  exact this
theorem guess_l0 (s : ByteArray) (hs : s.size = 73) : ∀ (d i : Nat), i + d = 16 →
    Ev (fun k => ddiref02_guess.l0 k s (i : Int) true ((val 16 ((dgt s 32).drop (16 - i)) : Nat) : Int) ((val 16 ((dgt s 0).drop (16 - i)) : Nat) : Int)) (true, ((val 16 (dgt s 32) : Nat) : Int), ((val 16 (dgt s 0) : Nat) : Int))
  | 0, i, hd => by
    have hi : i = 16 := by omega
    subst hi
    refine Ev.step (fun k => by rw [ddiref02_guess.l0]) (ev_if_neg (by decide) ?_)
    exact Ev.now _
  | d + 1, i, hd => by
    have hi : i < 16 := by omega
    have ih := guess_l0 s hs d (i + 1) (by omega)
    have a1 : wrap64 (62 - wrap64 (2 * (i : Int))) = ((32 + 2 * (15 - i) : Nat) : Int) := by
      rw [wrap64_id (x := 2 * (i : Int)) (by omega) (by omega), wrap64_id (by omega) (by omega)]
      omega
    have a2 : wrap64 (30 - wrap64 (2 * (i : Int))) = ((0 + 2 * (15 - i) : Nat) : Int) := by
      rw [wrap64_id (x := 2 * (i : Int)) (by omega) (by omega), wrap64_id (by omega) (by omega)]
      omega
    have a3 : wrap64 ((i : Int) + 1) = ((i + 1 : Nat) : Int) := by
      rw [wrap64_id (by omega) (by omega)]
      omega
    have b1 := bt_range s ((32 + 2 * (15 - i) : Nat) : Int)
    have b2 := bt_range s ((0 + 2 * (15 - i) : Nat) : Int)
    have g1 := dgt_get s 32 (15 - i) (by omega)
    have g2 := dgt_get s 0 (15 - i) (by omega)
    have l1 := val_drop_lt (dgt s 32) (dgt_lt s 32) (dgt_len s 32) i (by omega)
    have l2 := val_drop_lt (dgt s 0) (dgt_lt s 0) (dgt_len s 0) i (by omega)
    have hp : 16 ^ i ≤ 16 ^ 15 := Nat.pow_le_pow_right (by decide) (by omega)
    have hp' : (16 : Nat) ^ 15 = 1152921504606846976 := by decide
    have d1 := drop_val (dgt s 32) (dgt_len s 32) i hi
    have d2 := drop_val (dgt s 0) (dgt_len s 0) i hi
    have q1 := gd_lt (bt s ((32 + 2 * (15 - i) : Nat) : Int))
    have q2 := gd_lt (bt s ((0 + 2 * (15 - i) : Nat) : Int))
    rw [g1] at d1
    rw [g2] at d2
    rw [d1, d2] at ih
    generalize val 16 ((dgt s 32).drop (16 - i)) = H at ih l1 ⊢
    generalize val 16 ((dgt s 0).drop (16 - i)) = K at ih l2 ⊢
    refine Ev.step (fun k => by rw [ddiref02_guess.l0]) (ev_if_pos (by omega) ?_)
    rw [a1, a2, a3]
    refine ev_if_pos (by omega) (ev_if_pos (by omega) ?_)
    refine Ev.bind (ref_digit_ev b1.1 b1.2) (ev_if_pos (by omega) (ev_if_pos (by omega) ?_))
    refine Ev.bind (ref_digit_ev b2.1 b2.2) ?_
    rw [gd_mod, gd_mod]
    have w1 : IntKind.u64.wrap (IntKind.u64.wrap ((H : Int) * 16) + (gd (bt s ((32 + 2 * (15 - i) : Nat) : Int)) : Int)) = ((gd (bt s ((32 + 2 * (15 - i) : Nat) : Int)) + 16 * H : Nat) : Int) := by
      rw [wrap_u64, wrap_u64]
      omega
    have w2 : IntKind.u64.wrap (IntKind.u64.wrap ((K : Int) * 16) + (gd (bt s ((0 + 2 * (15 - i) : Nat) : Int)) : Int)) = ((gd (bt s ((0 + 2 * (15 - i) : Nat) : Int)) + 16 * K : Nat) : Int) := by
      rw [wrap_u64, wrap_u64]
      omega
    rw [w1, w2]
    exact ih
theorem or8q {x d : Int} (h0 : 0 ≤ d) (h1 : d ≤ 255) : Go.bits .or .u64 (IntKind.u64.wrap (x * 256)) d = (x * 256) % 18446744073709551616 + d := or8' h0 h1
theorem fourL_one (f : List UInt8) (fs : List (List UInt8)) (lo r : Int) (h : fourL (f :: fs) lo = some r) : ∃ d : Int, 0 ≤ d ∧ d ≤ 255 ∧ fourL fs ((lo * 256) % 18446744073709551616 + d) = some r := by
  unfold fourL at h
  split at h
  · rename_i hd
    have hr := dec_range (l := f)
    refine ⟨(dec f).1, hr.1, hr.2 hd, ?_⟩
    rw [← or8' hr.1 (hr.2 hd)]
    exact h
  · cases h
theorem four_rg {l : List UInt8} {r : Int} (h : fourV l = some r) : 0 ≤ r ∧ r ≤ 4294967295 := by
  unfold fourV at h
  split at h
  · rename_i h4
    match hF : splitC 46 l, h4 with
    | [a, b, c, d], _ =>
      rw [hF] at h
      obtain ⟨x1, p1, q1, h⟩ := fourL_one _ _ _ _ h
      obtain ⟨x2, p2, q2, h⟩ := fourL_one _ _ _ _ h
      obtain ⟨x3, p3, q3, h⟩ := fourL_one _ _ _ _ h
      obtain ⟨x4, p4, q4, h⟩ := fourL_one _ _ _ _ h
      simp only [fourL, Option.some.injEq] at h
      omega
  · cases h
/-- The bytes turned. -/
def turnB (x : Int) : Int := x % 256 * 16777216 + x / 256 % 256 * 65536 + x / 65536 % 256 * 256 + x / 16777216
theorem turn_eq {x : Int} (h0 : 0 ≤ x) (h1 : x ≤ 4294967295) : IntKind.u64.wrap ((IntKind.u64.wrap ((IntKind.u64.wrap ((IntKind.u64.wrap ((Int.tmod x 256) * 16777216)) + (IntKind.u64.wrap ((Int.tmod (IntKind.u64.wrap (Int.tdiv x 256)) 256) * 65536)))) + (IntKind.u64.wrap ((Int.tmod (IntKind.u64.wrap (Int.tdiv x 65536)) 256) * 256)))) + (IntKind.u64.wrap (Int.tdiv x 16777216))) = turnB x := by
  unfold turnB
  rw [Int.tmod_eq_emod_of_nonneg h0, Int.tdiv_eq_ediv_of_nonneg h0, Int.tdiv_eq_ediv_of_nonneg h0, Int.tdiv_eq_ediv_of_nonneg h0]
  rw [wrap_u64_id (x := x / 256) ⟨by omega, by omega⟩, wrap_u64_id (x := x / 65536) ⟨by omega, by omega⟩, wrap_u64_id (x := x / 16777216) ⟨by omega, by omega⟩]
  rw [Int.tmod_eq_emod_of_nonneg (by omega), Int.tmod_eq_emod_of_nonneg (by omega)]
  simp only [wrap_u64]
  omega
def four0 (l : List UInt8) : Int := match fourV l with
  | some x => x
  | none => 0
theorem four0_rg (l : List UInt8) : 0 ≤ four0 l ∧ four0 l ≤ 4294967295 := by
  unfold four0
  split
  · rename_i x hx
    exact four_rg hx
  · exact ⟨by decide, by decide⟩
/-- What guess answers. -/
def guessV (s : ByteArray) : Bool × Int × Int := if s.size = 73 then (true, ((val 16 (dgt s 32) : Nat) : Int), ((val 16 (dgt s 0) : Nat) : Int)) else if s.size < 14 ∨ s.size > 29 then (false, 0, 0) else (false, 0, turnB (four0 ((by_ s).take (s.size - 14))))
theorem guess_ev (s : ByteArray) (hs : s.size ≤ 1000) : Ev (fun k => ddiref02_guess.f k s) (guessV s) := by
  unfold ddiref02_guess.f guessV
  by_cases h73 : s.size = 73
  · rw [if_pos h73]
    refine ev_if_pos (by omega) ?_
    have h := guess_l0 s h73 16 0 rfl
    have e : ∀ o, val 16 ((dgt s o).drop (16 - 0)) = 0 := fun o => by
      rw [List.drop_of_length_le (by rw [dgt_len]; omega)]
      rfl
    rw [e, e] at h
    exact h
  · rw [if_neg h73]
    refine ev_if_neg (by omega) ?_
    by_cases h14 : s.size < 14
    · rw [if_pos (Or.inl h14)]
      refine ev_if_pos (by omega) ?_
      exact Ev.now _
    · refine ev_if_neg (by omega) ?_
      by_cases h29 : s.size > 29
      · rw [if_pos (Or.inr h29)]
        refine ev_if_pos (by omega) ?_
        exact Ev.now _
      · rw [if_neg (by omega)]
        refine ev_if_neg (by omega) ?_
        have e : wrap64 ((s.size : Int) - 14) = ((s.size - 14 : Nat) : Int) := by
          rw [wrap64_id (by omega) (by omega)]
          omega
        rw [e]
        refine ev_if_pos (by omega) (ev_if_pos (by omega) ?_)
        rw [Int.toNat_natCast]
        have hb : by_ (s.extract 0 (s.size - 14)) = (by_ s).take (s.size - 14) := by
          rw [AddrR.by_extract, List.drop_zero, Nat.sub_zero]
        have h4 := ref_four_ev (s.extract 0 (s.size - 14)) (by rw [ByteArray.size_extract]; omega)
        rw [hb] at h4
        refine Ev.bind h4 ?_
        have hr := four0_rg ((by_ s).take (s.size - 14))
        have e4 : (pkf (fourV ((by_ s).take (s.size - 14)))).2.2.1 = four0 ((by_ s).take (s.size - 14)) := by
          unfold four0 pkf
          cases fourV ((by_ s).take (s.size - 14)) <;> rfl
        rw [e4, turn_eq hr.1 hr.2]
        exact Ev.now _
theorem guess_ok (s : ByteArray) : U64 (guessV s).2.1 ∧ U64 (guessV s).2.2 ∧ vld (guessV s).1 (guessV s).2.1 (guessV s).2.2 = true := by
  have hv : ∀ o, val 16 (dgt s o) < 18446744073709551616 := fun o => by
    have := val_lt16 (dgt s o) (dgt_lt s o)
    rw [dgt_len] at this
    exact Nat.lt_of_lt_of_le this (by decide)
  unfold guessV
  split
  · have h1 := hv 32
    have h2 := hv 0
    exact ⟨⟨by simp only; omega, by simp only; omega⟩, ⟨by simp only; omega, by simp only; omega⟩, rfl⟩
  · split
    · exact ⟨⟨by decide, by decide⟩, ⟨by decide, by decide⟩, rfl⟩
    · have hr := four0_rg ((by_ s).take (s.size - 14))
      generalize four0 ((by_ s).take (s.size - 14)) = x at hr ⊢
      have t0 : 0 ≤ turnB x := by unfold turnB; omega
      have t1 : turnB x < 4294967296 := by unfold turnB; omega
      refine ⟨⟨Int.le_refl 0, by show (0 : Int) < 18446744073709551616; decide⟩, ⟨t0, by simp only; omega⟩, ?_⟩
      unfold vld
      simp only
      rw [decide_eq_true t1]
      rfl
theorem ref_no (n : ByteArray) (hn : n.size ≤ 1000) (h : Nobody n) : Ev (fun k => ddiref02_FromReverse.f k n) (false, 0, 0, false) := by
  unfold ddiref02_FromReverse.f
  obtain ⟨u1, u2, u3⟩ := guess_ok n
  refine Ev.bind (guess_ev n hn) (Ev.bind (ref_Reverse_ev u1 u2) ?_)
  have hc := h.chk (v := (guessV n).1) u1 u2
  refine ev_if_neg (fun e => hc ⟨?_, e⟩) ?_
  · rw [RevS_yes u3]
  · exact Ev.now _
theorem ref_of_guess {v : Bool} {hi lo : Int} (h1 : U64 hi) (h2 : U64 lo) (hv : vld v hi lo = true) (hg : guessV (bs (revT v (lowB v hi lo))) = (v, hi, lo)) : Ev (fun k => ddiref02_FromReverse.f k (bs (revT v (lowB v hi lo)))) (v, hi, lo, true) := by
  have hlen := revT_len v (lowB v hi lo) (lowB_len v hi lo)
  unfold ddiref02_FromReverse.f
  have h := guess_ev (bs (revT v (lowB v hi lo))) (by rw [bs_size]; omega)
  rw [hg] at h
  have hr := ref_Reverse_ev (v := v) h1 h2
  rw [RevS_yes hv] at hr
  refine Ev.bind h (Ev.bind hr (ev_if_pos rfl ?_))
  exact Ev.now _
theorem dots_single : ∀ (D : List Nat) (t : List UInt8) (j : Nat) (h : j < D.length), (dots (D.map fun d => [hexd d]) ++ t)[2 * j]? = some (hexd D[j])
  | [], t, j, h => by simp at h
  | d :: D, t, 0, _ => by simp [dots]
  | d :: D, t, j + 1, h => by
    have ih := dots_single D t j (by simpa using h)
    unfold dots at ih ⊢
    rw [List.map_cons, List.map_cons, List.flatten_cons, show 2 * (j + 1) = 2 * j + 1 + 1 by omega]
    simpa using ih
theorem bt_of {s : ByteArray} {i : Nat} {c : UInt8} (h : (by_ s)[i]? = some c) : bt s (i : Int) = (c.toNat : Int) := by
  obtain ⟨hlt, hc⟩ := List.getElem?_eq_some_iff.1 h
  have := (bt_drop (s := s) (i := i) (c := c) (r := (by_ s).drop (i + 1)) (by rw [List.drop_eq_getElem_cons hlt, hc])).2.1
  exact this
theorem gd_hexd : ∀ i : Fin 16, gd ((hexd i.val).toNat : Int) = i.val := by decide +kernel
theorem dots_len2 : ∀ D : List Nat, (dots (D.map fun d => [hexd d])).length = 2 * D.length
  | [] => rfl
  | d :: D => by
    have ih := dots_len2 D
    unfold dots at ih ⊢
    rw [List.map_cons, List.map_cons, List.flatten_cons, List.length_append, ih]
    simp
    omega
theorem nibs_len : ∀ L : List Nat, (nibs L).length = 2 * L.length
  | [] => rfl
  | b :: L => by
    have ih := nibs_len L
    unfold nibs at ih ⊢
    rw [List.map_cons, List.flatten_cons, List.length_append, ih]
    simp
    omega
theorem nibs_app (a b : List Nat) : nibs (a ++ b) = nibs a ++ nibs b := by
  unfold nibs
  rw [List.map_append, List.flatten_append]
theorem guess_six {hi lo : Int} (h1 : U64 hi) (h2 : U64 lo) : guessV (bs (revT true (lowB true hi lo))) = (true, hi, lo) := by
  have a0 := h1.1
  have a1 := h1.2
  have b0 := h2.1
  have b1 := h2.2
  have hlow : lowB true hi lo = digs 256 8 lo.toNat ++ digs 256 8 hi.toNat := if_pos rfl
  have hb := lowB_lt true hi lo
  have hn := nibs_lt _ hb
  have hnl : (nibs (lowB true hi lo)).length = 32 := by rw [nibs_len, hlow, List.length_append, digs_len, digs_len]
  have hT : revT true (lowB true hi lo) = dots ((nibs (lowB true hi lo)).map fun d => [hexd d]) ++ tail6 := by
    unfold revT
    rw [flds6]
    rfl
  have hsz : (bs (revT true (lowB true hi lo))).size = 73 := by
    rw [bs_size, hT, List.length_append, dots_len2, hnl]
    decide
  have hby : by_ (bs (revT true (lowB true hi lo))) = dots ((nibs (lowB true hi lo)).map fun d => [hexd d]) ++ tail6 := by
    rw [show by_ (bs (revT true (lowB true hi lo))) = revT true (lowB true hi lo) from bs_list _, hT]
  have hG : ∀ j, (hj : j < 32) → gd (bt (bs (revT true (lowB true hi lo))) ((2 * j : Nat) : Int)) = (nibs (lowB true hi lo))[j]'(by omega) := fun j hj => by
    have h := dots_single (nibs (lowB true hi lo)) tail6 j (by omega)
    rw [← hby] at h
    rw [bt_of h]
    exact gd_hexd ⟨_, hn _ (List.getElem_mem _)⟩
  have e1 : dgt (bs (revT true (lowB true hi lo))) 0 = nibs (digs 256 8 lo.toNat) := by
    apply List.ext_getElem
    · rw [dgt_len, nibs_len, digs_len]
    · intro j hj hj'
      rw [dgt_len] at hj
      rw [dgt_get _ _ _ hj, show 0 + 2 * j = 2 * j by omega, hG j (by omega)]
      simp only [hlow, nibs_app]
      rw [List.getElem_append_left (by rw [nibs_len, digs_len]; omega)]
  have e2 : dgt (bs (revT true (lowB true hi lo))) 32 = nibs (digs 256 8 hi.toNat) := by
    apply List.ext_getElem
    · rw [dgt_len, nibs_len, digs_len]
    · intro j hj hj'
      rw [dgt_len] at hj
      rw [dgt_get _ _ _ hj, show 32 + 2 * j = 2 * (16 + j) by omega, hG (16 + j) (by omega)]
      simp only [hlow, nibs_app]
      rw [List.getElem_append_right (by rw [nibs_len, digs_len]; omega)]
      congr 1
      rw [nibs_len, digs_len]
      omega
  unfold guessV
  rw [if_pos hsz, e1, e2, val_nibs, val_nibs, val_digs 256 (by decide) 8 _ (by show _ < 18446744073709551616; omega), val_digs 256 (by decide) 8 _ (by show _ < 18446744073709551616; omega)]
  rw [show ((hi.toNat : Nat) : Int) = hi by omega, show ((lo.toNat : Nat) : Int) = lo by omega]
theorem fourL_dd (n : Nat) (h : n < 256) (fs : List (List UInt8)) (lo : Int) : fourL (dd n :: fs) lo = fourL fs ((lo * 256) % 18446744073709551616 + n) := by
  have := dec_dd ⟨n, h⟩
  simp only at this
  rw [fourL, this, if_pos rfl, or8' (by simp only; omega) (by simp only; omega)]
theorem turn_dig (b0 b1 b2 b3 : Nat) (h0 : b0 < 256) (h1 : b1 < 256) (h2 : b2 < 256) (h3 : b3 < 256) : turnB ((((b0 * 256 + b1) * 256 + b2) * 256 + b3 : Nat) : Int) = ((b0 + 256 * b1 + 65536 * b2 + 16777216 * b3 : Nat) : Int) := by
  unfold turnB
  omega
theorem guess_four {lo : Int} (h2 : U64 lo) (hl : lo < 4294967296) : guessV (bs (revT false (lowB false 0 lo))) = (false, 0, lo) := by
  have b0 := h2.1
  have hlow : lowB false 0 lo = digs 256 4 lo.toNat := if_neg (by decide)
  have hne := flds_ne false 0 lo
  have hT := revT_eq false _ hne
  have hF : flds false (lowB false 0 lo) = [dd (lo.toNat % 256), dd (lo.toNat / 256 % 256), dd (lo.toNat / 256 / 256 % 256), dd (lo.toNat / 256 / 256 / 256 % 256)] := by
    rw [flds4, hlow]
    rfl
  have hfree : ∀ p, p ∈ flds false (lowB false 0 lo) → (46 : UInt8) ∉ p := by
    rw [flds4]
    intro p hp
    obtain ⟨b, hb', rfl⟩ := List.mem_map.1 hp
    exact dd_free ⟨b, lowB_lt false 0 lo b hb'⟩
  have hX : (joinC 46 (flds false (lowB false 0 lo))).length ≤ 15 := by
    rw [hF]
    have l0 := dd_len (lo.toNat % 256)
    have l1 := dd_len (lo.toNat / 256 % 256)
    have l2 := dd_len (lo.toNat / 256 / 256 % 256)
    have l3 := dd_len (lo.toNat / 256 / 256 / 256 % 256)
    simp only [joinC, List.length_append, List.length_cons]
    omega
  have hsz : (bs (revT false (lowB false 0 lo))).size = (joinC 46 (flds false (lowB false 0 lo))).length + 14 := by
    rw [bs_size, hT, List.length_append]
    rfl
  have hby : by_ (bs (revT false (lowB false 0 lo))) = joinC 46 (flds false (lowB false 0 lo)) ++ (46 :: tl false) := by
    rw [show by_ (bs (revT false (lowB false 0 lo))) = revT false (lowB false 0 lo) from bs_list _, hT]
  unfold guessV
  rw [if_neg (by omega), if_neg (by omega), hby, hsz, Nat.add_sub_cancel, List.take_left]
  have h4 : fourV (joinC 46 (flds false (lowB false 0 lo))) = some (((((lo.toNat % 256) * 256 + lo.toNat / 256 % 256) * 256 + lo.toNat / 256 / 256 % 256) * 256 + lo.toNat / 256 / 256 / 256 % 256 : Nat) : Int) := by
    unfold fourV
    rw [split_join 46 _ hne hfree, hF, if_pos (by rfl), fourL_dd _ (by omega), fourL_dd _ (by omega), fourL_dd _ (by omega), fourL_dd _ (by omega), fourL]
    congr 1
    omega
  have e : four0 (joinC 46 (flds false (lowB false 0 lo))) = (((((lo.toNat % 256) * 256 + lo.toNat / 256 % 256) * 256 + lo.toNat / 256 / 256 % 256) * 256 + lo.toNat / 256 / 256 / 256 % 256 : Nat) : Int) := by
    unfold four0
    rw [h4]
  rw [e]
  have : turnB (((((lo.toNat % 256) * 256 + lo.toNat / 256 % 256) * 256 + lo.toNat / 256 / 256 % 256) * 256 + lo.toNat / 256 / 256 / 256 % 256 : Nat) : Int) = lo := by
    have hd := turn_dig (lo.toNat % 256) (lo.toNat / 256 % 256) (lo.toNat / 256 / 256 % 256) (lo.toNat / 256 / 256 / 256 % 256) (by omega) (by omega) (by omega) (by omega)
    rw [hd]
    omega
  rw [this]
theorem ref_yes {v : Bool} {hi lo : Int} (h1 : U64 hi) (h2 : U64 lo) (hv : vld v hi lo = true) : Ev (fun k => ddiref02_FromReverse.f k (bs (revT v (lowB v hi lo)))) (v, hi, lo, true) := by
  refine ref_of_guess h1 h2 hv ?_
  cases v with
  | true => exact guess_six h1 h2
  | false =>
    have h3 : hi = 0 ∧ lo < 4294967296 := by
      rcases vld_true hv with h | h
      · cases h
      · exact h.2
    obtain ⟨rfl, h4⟩ := h3
    exact guess_four h2 h4
end Go.Proofs.YtmkgjibmfabbdabDoor.Rv
