/-
  What the reference's Parse answers: numbers, groups, IPv4 texts. Conditions: each theorem's own.
-/
import Derived.Test.YteflcmmandlknaaGreatDoorPAx16
import Derived.Test.YteflcmmandlknaaGreatDoorPAx17
import Derived.Test.YteflcmmandlknaaGreatDoorPAx18
import Derived.Test.YteflcmmandlknaaGreatDoorAddrPb
namespace Go.Proofs.YteflcmmandlknaaGreatDoor.AddrP
open Go.RowKit Go.Proofs.YteflcmmandlknaaGreatDoorW.PrintWords Go.Proofs.YteflcmmandlknaaGreatDoor.Num Go.Proofs.YteflcmmandlknaaGreatDoor.Str Go.Proofs.YteflcmmandlknaaGreatDoor.Flds Go.Proofs.YteflcmmandlknaaGreatDoor.PA
set_option linter.unusedVariables false
set_option linter.unusedSimpArgs false
theorem by_extract (s : ByteArray) (i j : Nat) : by_ (s.extract i j) = ((by_ s).drop i).take (j - i) := by
  unfold by_
  rw [ByteArray.data_extract, Array.toList_extract]
theorem ref_digit_ev {c : Int} (h0 : 0 ≤ c) (h1 : c ≤ 255) : Ev (fun k => ddiref02_digit.f k c) (if dg c < 0 then 16 else dg c) := by
  refine ev_of_eq 2 (fun k => ?_)
  unfold dg
  by_cases a1 : 48 ≤ c <;> by_cases a2 : c ≤ 57 <;> by_cases a3 : 97 ≤ c <;> by_cases a4 : c ≤ 102 <;> by_cases a5 : 65 ≤ c <;> by_cases a6 : c ≤ 70 <;> first | (exfalso; omega) | (simp [ddiref02_digit.f, ddiref02_digit.j0, ddiref02_digit.j1, a1, a2, a3, a4, a5, a6]; try omega)
def pkg (o : Option Int) : Int × Bool := match o with
  | some m => (m, true)
  | none => (0, false)
theorem ref_group_l0 (s : ByteArray) (hs : s.size ≤ 1000) : ∀ (r : List UInt8) (i : Nat) (n : Int), (by_ s).drop i = r → bnd n r → Ev (fun k => ddiref02_group.l0 k s n (i : Int)) (pkg (grpL r n))
  | [], i, n, hd, hb => by
    have hi := drop_nil hd
    refine Ev.step (fun k => by rw [ddiref02_group.l0]) ?_
    refine ev_if_neg (by omega) ?_
    exact Ev.now _
  | c :: r, i, n, hd, hb => by
    obtain ⟨h1, h2, h3⟩ := bt_drop hd
    have hc := u8_range c
    have hn := bnd_lt hb
    have hn0 := hb.1
    have hle := dg_le c.toNat
    have e1 : wrap64 ((i : Int) + 1) = ((i + 1 : Nat) : Int) := by unfold wrap64; omega
    refine Ev.step (fun k => by rw [ddiref02_group.l0]) (ev_if_pos (by omega) (ev_if_pos (by omega) ?_))
    rw [h2]
    refine Ev.bind (ref_digit_ev hc.1 hc.2) ?_
    unfold grpL
    by_cases hz : dg c.toNat < 0
    · simp only [if_pos hz]
      refine ev_if_pos trivial ?_
      exact Ev.now _
    · simp only [if_neg hz]
      refine ev_if_neg (by omega) ?_
      refine Ev.bind (ref_digit_ev hc.1 hc.2) ?_
      simp only [if_neg hz]
      have e2 : IntKind.u64.wrap (IntKind.u64.wrap (n * 16) + dg c.toNat) = 16 * n + dg c.toNat := by rw [wrap_u64, wrap_u64]; omega
      rw [e1, e2]
      exact ref_group_l0 s hs r (i + 1) _ h3 (bnd_step hb (by omega) hle)
theorem ref_group_ev (s : ByteArray) : Ev (fun k => ddiref02_group.f k s) (pkg (grp (by_ s))) := by
  have hl := by_length s
  have bad : Ev (fun k => ddiref02_group.j0 k s true) (0, false) := Ev.step (fun k => by rw [ddiref02_group.j0]) (ev_if_pos rfl (Ev.now _))
  unfold ddiref02_group.f grp
  by_cases h1 : s.size < 1
  · rw [if_pos (by omega)]; exact ev_if_pos (by omega) bad
  · refine ev_if_neg (by omega) ?_
    by_cases h4 : s.size > 4
    · rw [if_pos (by omega), show decide ((s.size : Int) > 4) = true from decide_eq_true (by omega)]; exact bad
    · rw [if_neg (by omega), show decide ((s.size : Int) > 4) = false from decide_eq_false (by omega)]
      refine Ev.step (fun k => by rw [ddiref02_group.j0]) (ev_if_neg (by simp) ?_)
      exact ref_group_l0 s (by omega) (by_ s) 0 0 rfl (bnd_0 (by omega))
theorem number_l0 (s : ByteArray) (hs : s.size ≤ 3) : ∀ (r : List UInt8) (i : Nat) (n : Int), (by_ s).drop i = r → Ev (fun k => ddiref02_number.l0 k s n (i : Int)) (decL r n)
  | [], i, n, hd => by
    have hi := drop_nil hd
    refine Ev.step (fun k => by rw [ddiref02_number.l0]) ?_
    refine ev_if_neg (by omega) ?_
    exact Ev.now _
  | c :: r, i, n, hd => by
    obtain ⟨h1, h2, h3⟩ := bt_drop hd
    have e1 : wrap64 ((i : Int) + 1) = ((i + 1 : Nat) : Int) := by unfold wrap64; omega
    refine Ev.step (fun k => by rw [ddiref02_number.l0]) (ev_if_pos (by omega) (ev_if_pos (by omega) ?_))
    rw [h2]
    unfold decL
    by_cases a1 : (c.toNat : Int) < 48
    · rw [if_pos a1]; refine ev_if_pos a1 ?_; exact Ev.now _
    · rw [if_neg a1]
      refine ev_if_neg a1 ?_
      by_cases a2 : (c.toNat : Int) > 57
      · rw [if_pos a2]; refine ev_if_pos a2 ?_; exact Ev.now _
      · rw [if_neg a2]
        refine ev_if_neg a2 ?_
        rw [e1, Int.mul_comm n 10]
        exact number_l0 s hs r (i + 1) _ h3
theorem ref_number_ev (s : ByteArray) : Ev (fun k => ddiref02_number.f k s) (dec (by_ s)) := by
  have hl := by_length s
  have bad : Ev (fun k => ddiref02_number.j0 k s true) (0, false) := Ev.step (fun k => by rw [ddiref02_number.j0]) (ev_if_pos rfl (Ev.now _))
  unfold ddiref02_number.f dec
  by_cases h1 : s.size < 1
  · rw [if_pos (by omega)]; exact ev_if_pos (by omega) bad
  · refine ev_if_neg (by omega) ?_
    by_cases h3 : s.size > 3
    · rw [if_pos (by omega)]; exact ev_if_pos (by omega) bad
    · refine ev_if_neg (by omega) ?_
      have good : Ev (fun k => ddiref02_number.j0 k s false) (decL (by_ s) 0) := by
        refine Ev.step (fun k => by rw [ddiref02_number.j0]) (ev_if_neg (by simp) ?_)
        exact number_l0 s (by omega) (by_ s) 0 0 rfl
      by_cases h2 : s.size > 1
      · refine ev_if_pos (by omega) (ev_if_pos (by omega) ?_)
        by_cases hz : bt s 0 = 48
        · have hh := (bt_zero (by omega)).1 hz
          rw [if_pos (.inr (.inr ⟨hh, by omega⟩)), show (bt s 0 == 48) = true from beq_iff_eq.2 hz]; exact bad
        · have hh : ¬ (by_ s).head? = some 48 := fun c => hz ((bt_zero (by omega)).2 c)
          rw [if_neg (by
            intro c
            rcases c with c | c | c
            · omega
            · omega
            · exact hh c.1), show (bt s 0 == 48) = false from beq_eq_false_iff_ne.2 hz]
          exact good
      · refine ev_if_neg (by omega) ?_
        rw [if_neg (by omega)]
        exact good
/-- The reference's loop over an IPv4 text's fields. -/
def fourR : List (List UInt8) → Int → Nat → Option Int
  | [], lo, n => if n = 4 then some lo else none
  | p :: ps, lo, n => if (dec p).2 = true then (if n = 4 then none else fourR ps (IntKind.u64.wrap (IntKind.u64.wrap (lo * 256) + (dec p).1)) (n + 1)) else none
theorem or8 {x d : Int} (h0 : 0 ≤ d) (h1 : d ≤ 255) : Go.bits .or .u64 (IntKind.u64.wrap (x * 256)) d = IntKind.u64.wrap (IntKind.u64.wrap (x * 256) + d) := by
  rw [wrap_u64, wrap_u64, or_u64 8 (by omega) (by omega) (by omega) h0 (by omega) (by omega)]
  omega
theorem fourR_eq : ∀ (F : List (List UInt8)) (lo : Int) (n : Nat), n ≤ 4 → fourR F lo n = if F.length + n = 4 then fourL F lo else none
  | [], lo, n, h => by simp [fourR, fourL]
  | p :: ps, lo, n, h => by
    unfold fourR fourL
    by_cases hd : (dec p).2 = true
    · rw [if_pos hd]
      have hr := dec_range (l := p)
      by_cases h4 : n = 4
      · rw [if_pos h4, if_neg (by simp; omega)]
      · rw [if_neg h4, fourR_eq ps _ (n + 1) (by omega), if_pos hd, or8 hr.1 (hr.2 hd)]
        rw [List.length_cons, show ps.length + 1 + n = ps.length + (n + 1) by omega]
    · rw [if_neg hd, if_neg hd]; split <;> rfl
def pkf (o : Option Int) : Bool × Int × Int × Int := match o with
  | some lo => (false, 0, lo, 0)
  | none => (false, 0, 0, 3)
theorem drop_add {s : ByteArray} {a : Nat} {q r : List UInt8} (h : (by_ s).drop a = q ++ r) : (by_ s).drop (a + q.length) = r := by
  rw [← List.drop_drop, h]; simp
theorem ref_four_l0 (s : ByteArray) (hs : s.size ≤ 1000) : ∀ (r : List UInt8) (i st : Nat) (q : List UInt8) (lo : Int) (n : Nat), st + q.length = i → i ≤ s.size → (by_ s).drop st = q ++ r → (46 : UInt8) ∉ q → n ≤ 4 →
    Ev (fun k => ddiref02_four.l0 k s lo (n : Int) (st : Int) (i : Int)) (pkf (fourR (splitC 46 (q ++ r)) lo n))
  | [], i, st, q, lo, n, hi, his, hd, hq, hn => by
    have hdi := drop_add hd
    rw [hi] at hdi
    have hsz := drop_nil hdi
    have e1 : wrap64 ((i : Int) + 1) = ((i + 1 : Nat) : Int) := by unfold wrap64; omega
    refine Ev.step (fun k => by rw [ddiref02_four.l0]) (ev_if_pos (by omega) (ev_if_neg (by omega) ?_))
    refine Ev.step (fun k => by rw [ddiref02_four.j1]) (ev_if_neg (by simp) (ev_if_pos (by omega) (ev_if_pos (by omega) (ev_if_pos (by omega) ?_))))
    have hb : by_ (s.extract (st : Int).toNat (i : Int).toNat) = q := by
      rw [by_extract, Int.toNat_natCast, Int.toNat_natCast, hd, List.append_nil, List.take_of_length_le (by omega)]
    refine Ev.bind (ref_number_ev _) ?_
    rw [hb, List.append_nil, splitC_last 46 q hq]
    unfold fourR
    by_cases hdq : (dec q).2 = true
    · rw [if_pos hdq]
      refine ev_if_pos hdq ?_
      by_cases h4 : n = 4
      · rw [if_pos h4]
        refine ev_if_pos (by omega) ?_
        exact Ev.now _
      · rw [if_neg h4]
        refine ev_if_neg (by omega) ?_
        refine Ev.step (fun k => by rw [ddiref02_four.l0]) (ev_if_neg (by rw [e1]; omega) ?_)
        have e2 : wrap64 ((n : Int) + 1) = ((n + 1 : Nat) : Int) := by unfold wrap64; omega
        rw [e2]
        unfold fourR
        by_cases h5 : n + 1 = 4
        · rw [if_pos h5]; refine ev_if_pos (by omega) ?_; exact Ev.now _
        · rw [if_neg h5]; refine ev_if_neg (by omega) ?_; exact Ev.now _
    · rw [if_neg hdq]
      refine ev_if_neg hdq ?_
      exact Ev.now _
  | c :: r, i, st, q, lo, n, hi, his, hd, hq, hn => by
    have hdi := drop_add hd
    rw [hi] at hdi
    obtain ⟨h1, h2, h3⟩ := bt_drop hdi
    have hc := u8_range c
    have e1 : wrap64 ((i : Int) + 1) = ((i + 1 : Nat) : Int) := by unfold wrap64; omega
    refine Ev.step (fun k => by rw [ddiref02_four.l0]) (ev_if_pos (by omega) (ev_if_pos (by omega) (ev_if_pos (by omega) ?_)))
    rw [h2]
    by_cases hdot : c = 46
    · subst hdot
      have : (((46 : UInt8).toNat : Int) != 46) = false := rfl
      rw [this]
      refine Ev.step (fun k => by rw [ddiref02_four.j1]) (ev_if_neg (by simp) (ev_if_pos (by omega) (ev_if_pos (by omega) (ev_if_pos (by omega) ?_))))
      have hb : by_ (s.extract (st : Int).toNat (i : Int).toNat) = q := by
        rw [by_extract, Int.toNat_natCast, Int.toNat_natCast, hd, List.take_append_of_le_length (by omega), List.take_of_length_le (by omega)]
      refine Ev.bind (ref_number_ev _) ?_
      rw [hb, splitC_piece 46 q r hq]
      unfold fourR
      by_cases hdq : (dec q).2 = true
      · rw [if_pos hdq]
        refine ev_if_pos hdq ?_
        by_cases h4 : n = 4
        · rw [if_pos h4]
          refine ev_if_pos (by omega) ?_
          exact Ev.now _
        · rw [if_neg h4]
          refine ev_if_neg (by omega) ?_
          have e2 : wrap64 ((n : Int) + 1) = ((n + 1 : Nat) : Int) := by unfold wrap64; omega
          rw [e1, e2]
          exact ref_four_l0 s hs r (i + 1) (i + 1) [] _ (n + 1) (by simp) (by omega) h3 (by simp) (by omega)
      · rw [if_neg hdq]
        refine ev_if_neg hdq ?_
        exact Ev.now _
    · have : ((c.toNat : Int) != 46) = true := by
        refine bne_iff_ne.2 (fun e => hdot ?_)
        have h46 : (46 : UInt8).toNat = 46 := rfl
        exact UInt8.toNat_inj.1 (by omega)
      rw [this]
      refine Ev.step (fun k => by rw [ddiref02_four.j1]) (ev_if_pos rfl ?_)
      rw [e1]
      have := ref_four_l0 s hs r (i + 1) st (q ++ [c]) lo n (by simp; omega) (by omega) (by rw [hd]; simp) (by
        intro hm
        rcases List.mem_append.1 hm with hm | hm
        · exact hq hm
        · exact hdot (List.mem_singleton.1 hm).symm) hn
      rwa [List.append_assoc, List.singleton_append] at this
theorem ref_four_ev (s : ByteArray) (hs : s.size ≤ 900) : Ev (fun k => ddiref02_four.f k s) (pkf (fourV (by_ s))) := by
  have := ref_four_l0 s (by omega) (by_ s) 0 0 [] 0 0 rfl (by omega) rfl (by simp) (by omega)
  rw [List.nil_append, fourR_eq _ _ _ (by omega)] at this
  exact this
end Go.Proofs.YteflcmmandlknaaGreatDoor.AddrP
