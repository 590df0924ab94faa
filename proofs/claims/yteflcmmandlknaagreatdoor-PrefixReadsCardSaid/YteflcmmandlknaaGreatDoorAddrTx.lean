/-
  What Parse answers: the numbers are in range. Conditions: each theorem's own.
-/
import Derived.Test.YteflcmmandlknaaGreatDoorAddrPb
namespace Go.Proofs.YteflcmmandlknaaGreatDoor.Tx
open Go.RowKit Go.Proofs.YteflcmmandlknaaGreatDoorW.PrintWords Go.Proofs.YteflcmmandlknaaGreatDoor.Num Go.Proofs.YteflcmmandlknaaGreatDoor.Str Go.Proofs.YteflcmmandlknaaGreatDoor.Flds Go.Proofs.YteflcmmandlknaaGreatDoor.PA Go.Proofs.YteflcmmandlknaaGreatDoor.AddrP
set_option linter.unusedVariables false
set_option linter.unusedSimpArgs false

def Rg (x : Int) : Prop := 0 ≤ x ∧ x < 65536
theorem or8 {x d : Int} (h0 : 0 ≤ d) (h1 : d ≤ 255) : Go.bits .or .u64 (IntKind.u64.wrap (x * 256)) d = IntKind.u64.wrap (IntKind.u64.wrap (x * 256) + d) := by
  rw [wrap_u64, wrap_u64, or_u64 8 (by omega) (by omega) (by omega) h0 (by omega) (by omega)]
  omega
theorem sh_val {x d : Int} (hx : 0 ≤ x) (hx1 : x < 281474976710656) (h : Rg d) : shift16 x d = x * 65536 + d := by
  have h0 := h.1
  have h1 := h.2
  unfold shift16
  rw [wrap_u64, wrap_u64, or_u64 16 (by omega) (by omega) (by omega) (by omega) (by omega) (by omega)]
  omega
theorem num4_val {a b c d : Int} (ha : Rg a) (hb : Rg b) (hc : Rg c) (hd : Rg d) : num4 a b c d = ((a * 65536 + b) * 65536 + c) * 65536 + d := by
  have a0 := ha.1
  have a1 := ha.2
  have b0 := hb.1
  have b1 := hb.2
  have c0 := hc.1
  have c1 := hc.2
  unfold num4
  have e : Go.bits .or .u64 0 (IntKind.u64.wrap a) = a := by
    rw [wrap_u64, or_u64 16 (by omega) (by omega) (by omega) (by omega) (by omega) (by omega)]
    omega
  rw [e, sh_val a0 (by omega) hb, sh_val (by omega) (by omega) hc, sh_val (by omega) (by omega) hd]
theorem w16 (x : Int) : IntKind.u16.wrap x = x % 65536 := rfl
theorem rg16 (x : Int) : Rg (IntKind.u16.wrap x) := by
  rw [w16]
  exact ⟨by omega, by omega⟩
def Vl (v : Bool) (hi lo : Int) : Prop := U64 hi ∧ U64 lo ∧ (v = true ∨ (hi = 0 ∧ lo ≤ 4294967295))
theorem vals_rg : ∀ (fs : List (List UInt8)) (v : List Int), vals grp fs = some v → ∀ x, x ∈ v → Rg x
  | [], v, h => by simp [vals] at h; subst h; simp
  | f :: fs, v, h => by
    unfold vals at h
    split at h
    · cases h
    · rename_i n hn
      obtain ⟨v', h', rfl⟩ := Option.map_eq_some_iff.1 h
      intro x hx
      rcases List.mem_cons.1 hx with rfl | hx
      · exact AddrP.grp_range hn
      · exact vals_rg fs v' h' x hx
theorem lst_rg {l : List UInt8} {v : List Int} (h : lst l = some v) : ∀ x, x ∈ v → Rg x := by
  unfold lst at h
  split at h
  · simp only [Option.some.injEq] at h; subst h; simp
  · rw [listL_eq grp _ [] (by simp)] at h
    obtain ⟨w, hw, h⟩ := Option.bind_eq_some_iff.1 h
    split at h
    · simp only [List.nil_append, Option.some.injEq] at h
      subst h
      exact vals_rg _ _ hw
    · cases h
theorem six_rg {l : List UInt8} {v : List Int} (h : sixV l = some v) : v.length = 8 ∧ ∀ x, x ∈ v → Rg x := by
  unfold sixV at h
  split at h
  · split at h
    · rename_i u hu
      split at h
      · rename_i h8
        simp only [Option.some.injEq] at h
        subst h
        exact ⟨h8, lst_rg hu⟩
      · cases h
    · cases h
  · split at h
    · rename_i a b ha hb
      split at h
      · rename_i h7
        simp only [Option.some.injEq] at h
        subst h
        refine ⟨by simp [six8]; omega, fun x hx => ?_⟩
        unfold six8 at hx
        rcases List.mem_append.1 hx with hx | hx
        · exact lst_rg ha x hx
        · rcases List.mem_append.1 hx with hx | hx
          · rw [(List.mem_replicate.1 hx).2]; exact ⟨by decide, by decide⟩
          · exact lst_rg hb x hx
      · cases h
    · cases h
theorem rd_at8 (g : List Int) (i : Nat) (h : i < g.length) : rd g (i : Int) = g[i] := by
  unfold rd
  rw [Int.toNat_natCast, List.getD_eq_getElem?_getD, List.getElem?_eq_getElem h]
  rfl
theorem rd_rg {v : List Int} (h8 : v.length = 8) (h : ∀ x, x ∈ v → Rg x) (i : Nat) (hi : i < 8) : Rg (rd v (i : Int)) := by
  rw [rd_at8 v i (by omega)]
  exact h _ (List.getElem_mem _)
theorem num4_u64 {a b c d : Int} (ha : Rg a) (hb : Rg b) (hc : Rg c) (hd : Rg d) : U64 (num4 a b c d) := by
  rw [num4_val ha hb hc hd]
  have a0 := ha.1
  have a1 := ha.2
  have b0 := hb.1
  have b1 := hb.2
  have c0 := hc.1
  have c1 := hc.2
  have d0 := hd.1
  have d1 := hd.2
  exact ⟨by omega, by omega⟩
theorem fourL_one (f : List UInt8) (fs : List (List UInt8)) (lo r : Int) (h : fourL (f :: fs) lo = some r) : ∃ d : Int, 0 ≤ d ∧ d ≤ 255 ∧ fourL fs (IntKind.u64.wrap (IntKind.u64.wrap (lo * 256) + d)) = some r := by
  unfold fourL at h
  split at h
  · rename_i hd
    have hr := dec_range (l := f)
    refine ⟨(dec f).1, hr.1, hr.2 hd, ?_⟩
    rw [← or8 hr.1 (hr.2 hd)]
    exact h
  · cases h
theorem four_rg {l : List UInt8} {r : Int} (h : fourV l = some r) : 0 ≤ r ∧ r ≤ 4294967295 := by
  unfold fourV at h
  split at h
  · rename_i h4
    match hF : splitC 46 l, h4 with
    | [a, b, c, d], _ =>
      rw [hF] at h
      obtain ⟨x1, p1, q1, h⟩ := fourL_one _ _ _ _ h
      obtain ⟨x2, p2, q2, h⟩ := fourL_one _ _ _ _ h
      obtain ⟨x3, p3, q3, h⟩ := fourL_one _ _ _ _ h
      obtain ⟨x4, p4, q4, h⟩ := fourL_one _ _ _ _ h
      simp only [fourL, Option.some.injEq, wrap_u64] at h
      omega
  · cases h
theorem parse_ok {l : List UInt8} {v : Bool} {hi lo e : Int} (h : parseS l = (v, hi, lo, e)) : (e = 0 ∧ Vl v hi lo) ∨ (e = 3 ∧ v = false ∧ hi = 0 ∧ lo = 0) := by
  unfold parseS at h
  split at h
  · simp only [Prod.mk.injEq] at h
    obtain ⟨rfl, rfl, rfl, rfl⟩ := h
    exact Or.inr ⟨rfl, rfl, rfl, rfl⟩
  · split at h
    · rename_i r hr
      have h4 := four_rg hr
      simp only [Prod.mk.injEq] at h
      obtain ⟨rfl, rfl, rfl, rfl⟩ := h
      exact Or.inl ⟨rfl, ⟨by decide, by decide⟩, ⟨h4.1, by omega⟩, Or.inr ⟨rfl, h4.2⟩⟩
    · split at h
      · rename_i w hw
        obtain ⟨h8, hrg⟩ := six_rg hw
        simp only [Prod.mk.injEq] at h
        obtain ⟨rfl, rfl, rfl, rfl⟩ := h
        exact Or.inl ⟨rfl, num4_u64 (rd_rg h8 hrg 0 (by decide)) (rd_rg h8 hrg 1 (by decide)) (rd_rg h8 hrg 2 (by decide)) (rd_rg h8 hrg 3 (by decide)), num4_u64 (rd_rg h8 hrg 4 (by decide)) (rd_rg h8 hrg 5 (by decide)) (rd_rg h8 hrg 6 (by decide)) (rd_rg h8 hrg 7 (by decide)), Or.inl rfl⟩
      · simp only [Prod.mk.injEq] at h
        obtain ⟨rfl, rfl, rfl, rfl⟩ := h
        exact Or.inr ⟨rfl, rfl, rfl, rfl⟩
end Go.Proofs.YteflcmmandlknaaGreatDoor.Tx
