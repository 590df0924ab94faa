/-
  Domain names of addresses: what the reference's Reverse answers. Conditions: none beyond the numbers' kinds.
-/
import Derived.Test.YteflcmmandlknaaGreatDoorRevS
import Derived.Test.YteflcmmandlknaaGreatDoorAdX
import Derived.Test.YteflcmmandlknaaGreatDoorPAx12
import Derived.Test.YteflcmmandlknaaGreatDoorPAx18
namespace Go.Proofs.YteflcmmandlknaaGreatDoor.Rv
open Go.RowKit Go.Proofs.YteflcmmandlknaaGreatDoorW.PrintWords Go.Proofs.YteflcmmandlknaaGreatDoorW.PrintLast Go.Proofs.YteflcmmandlknaaGreatDoor.Num Go.Proofs.YteflcmmandlknaaGreatDoor.Str Go.Proofs.YteflcmmandlknaaGreatDoor.Flds Go.Proofs.YteflcmmandlknaaGreatDoor.PA Go.Proofs.YteflcmmandlknaaGreatDoor.AddrP Go.Proofs.YteflcmmandlknaaGreatDoor.Qs Go.Proofs.YteflcmmandlknaaGreatDoor.AdW Go.Proofs.YteflcmmandlknaaGreatDoor.AdX
set_option linter.unusedVariables false
set_option linter.unusedSimpArgs false

theorem hex_all : ∀ i : Fin 16, ddiref02_hex.f (i.val : Int) = some (bs [hexd i.val]) := by decide +kernel
theorem hex_at (n : Nat) (h : n < 16) : ddiref02_hex.f (n : Int) = some (bs [hexd n]) := hex_all ⟨n, h⟩
theorem rdec_all : ∀ i : Fin 256, ddiref02_decimal.f (i.val : Int) = some (bs (dd i.val)) := by decide +kernel
theorem rdec_at (n : Nat) (h : n < 256) : ddiref02_decimal.f (n : Int) = some (bs (dd n)) := rdec_all ⟨n, h⟩
theorem tdiv_nat (a b : Nat) : Int.tdiv (a : Int) (b : Int) = ((a / b : Nat) : Int) := by
  rw [Int.tdiv_eq_ediv_of_nonneg (by omega)]
  rfl
theorem tmod_nat (a b : Nat) : Int.tmod (a : Int) (b : Int) = ((a % b : Nat) : Int) := by
  rw [Int.tmod_eq_emod_of_nonneg (by omega)]
  rfl
theorem wrap_nat (a : Nat) (h : a < 18446744073709551616) : IntKind.u64.wrap (a : Int) = (a : Int) := wrap_u64_id ⟨by omega, by omega⟩
theorem ref_l0 (v : Bool) (hi lo : Int) (w : ByteArray) (L : List Nat) (hw : Low w L) (hL : L.length ≤ 16) (hb : ∀ b, b ∈ L → b < 256) : ∀ (d i : Nat) (O : List UInt8), i + d = L.length → O.length ≤ 4 * i →
    Ev (fun k => ddiref02_Reverse.l0 k (bs O) w ((d : Int) - 1) v hi lo) (bs (O ++ (dots (flds v (L.drop i)) ++ tl v)), 0)
  | 0, i, O, hi_, hO => by
    have hd : L.drop i = [] := List.drop_of_length_le (by omega)
    refine Ev.step (fun k => by rw [ddiref02_Reverse.l0]) (ev_if_neg (by omega) ?_)
    rw [hd]
    cases v with
    | true =>
      refine ev_if_pos rfl (ev_if_pos (by rw [bs_size]; omega) ?_)
      rw [show (⟨#[105, 112, 54, 46, 97, 114, 112, 97, 46]⟩ : ByteArray) = bs tail6 from rfl, bs_app]
      exact Ev.now _
    | false =>
      refine ev_if_neg (by decide) (ev_if_pos (by rw [bs_size]; omega) ?_)
      rw [show (⟨#[105, 110, 45, 97, 100, 100, 114, 46, 97, 114, 112, 97, 46]⟩ : ByteArray) = bs tail4 from rfl, bs_app]
      exact Ev.now _
  | d + 1, i, O, hi_, hO => by
    have hlt : i < L.length := by omega
    have hbi := hw.2 i hlt
    have hb' := hb L[i] (List.getElem_mem hlt)
    have hdrop : L.drop i = L[i] :: L.drop (i + 1) := List.drop_eq_getElem_cons hlt
    have hfl : flds v (L.drop i) = fl v L[i] ++ flds v (L.drop (i + 1)) := by
      rw [hdrop]
      unfold flds
      rw [List.map_cons, List.flatten_cons]
    have hidx : (((d + 1 : Nat) : Int) - 1) = ((L.length - 1 - i : Nat) : Int) := by omega
    have hnx : wrap64 (((L.length - 1 - i : Nat) : Int) - 1) = (d : Int) - 1 := by rw [wrap64_id (by omega) (by omega)]; omega
    have hsz := hw.1
    have e46 : (⟨#[46]⟩ : ByteArray) = bs [46] := rfl
    have hlen := fl_len v L[i]
    rw [hidx, hfl, dots_app]
    have ih := ref_l0 v hi lo w L hw hL hb d (i + 1) (O ++ dots (fl v L[i])) (by omega) (by rw [List.length_append]; omega)
    rw [← hnx, List.append_assoc, ← List.append_assoc (dots (fl v L[i]))] at ih
    refine Ev.step (fun k => by rw [ddiref02_Reverse.l0]) (ev_if_pos (by omega) ?_)
    rw [hbi]
    cases v with
    | true =>
      have q1 : IntKind.u64.wrap (Int.tmod (L[i] : Int) 16) = ((L[i] % 16 : Nat) : Int) := by
        rw [show (16 : Int) = ((16 : Nat) : Int) from rfl, tmod_nat, wrap_nat _ (by omega)]
      have q2 : Int.tdiv (L[i] : Int) 16 % 256 = ((L[i] / 16 : Nat) : Int) := by
        rw [show (16 : Int) = ((16 : Nat) : Int) from rfl, tdiv_nat]
        omega
      have ef : dots (fl true L[i]) = [hexd (L[i] % 16)] ++ ([46] ++ ([hexd (L[i] / 16)] ++ [46])) := by
        unfold fl dots
        simp
      rw [q1, q2]
      refine ev_if_pos rfl (ev_if_pos (by omega) (ev_if_pos (by omega) ?_))
      refine ev_bind_const (hex_at _ (by omega)) (ev_if_pos (by rw [bs_size]; simp) ?_)
      refine ev_bind_const (hex_at _ (by omega)) ?_
      rw [e46, bs_app, bs_app, bs_app, bs_app]
      refine ev_if_pos (by rw [bs_size, bs_size]; simp) (ev_if_pos (by rw [bs_size]; simp) (ev_if_pos (by rw [bs_size, bs_size]; simp only [List.length_append, List.length_cons, List.length_nil]; omega) ?_))
      rw [ef] at ih ⊢
      simp only [List.append_assoc] at ih ⊢
      exact ih
    | false =>
      have ef : dots (fl false L[i]) = dd L[i] ++ [46] := by
        unfold fl dots
        simp
      have hdd := dd_len L[i]
      refine ev_if_neg (by decide) (ev_if_pos (by omega) (ev_if_pos (by omega) ?_))
      rw [wrap_nat _ (by omega)]
      refine ev_bind_const (rdec_at _ hb') (ev_if_pos (by rw [bs_size]; omega) ?_)
      rw [e46, bs_app, bs_app]
      refine ev_if_pos (by rw [bs_size, bs_size]; simp only [List.length_append, List.length_cons, List.length_nil]; omega) ?_
      rw [ef] at ih ⊢
      simp only [List.append_assoc] at ih ⊢
      exact ih
theorem ref_Reverse_ev {v : Bool} {hi lo : Int} (h1 : U64 hi) (h2 : U64 lo) : Ev (fun k => ddiref02_Reverse.f k v hi lo) (RevS v hi lo) := by
  unfold ddiref02_Reverse.f RevS
  refine ev_bind_const (ref_Valid_eq v hi lo) ?_
  cases hv : vld v hi lo with
  | false =>
    rw [if_neg (by decide)]
    refine ev_if_neg (by decide) ?_
    exact Ev.now _
  | true =>
    obtain ⟨e0, hl⟩ := wire_low h1 h2 hv
    rw [if_pos rfl]
    have hlen := lowB_len v hi lo
    have hrev := ref_l0 v hi lo _ _ hl hlen (lowB_lt v hi lo) (lowB v hi lo).length 0 [] (by omega) (by simp)
    have hsz := hl.1
    rw [List.drop_zero, List.nil_append] at hrev
    refine ev_if_pos rfl (Ev.bind (ref_Wire_ev h1 h2) ?_)
    have hw : wrap64 (((wireS v hi lo).1.size : Int) - 1) = ((lowB v hi lo).length : Int) - 1 := by rw [wrap64_id (by omega) (by omega), hsz]
    rw [hw]
    exact hrev
end Go.Proofs.YteflcmmandlknaaGreatDoor.Rv
