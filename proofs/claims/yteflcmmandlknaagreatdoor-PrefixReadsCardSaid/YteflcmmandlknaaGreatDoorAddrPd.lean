/-
  What the reference's reader of IPv6 texts answers. Conditions: each theorem's own.
-/
import Derived.Test.YteflcmmandlknaaGreatDoorAddrPc
namespace Go.Proofs.YteflcmmandlknaaGreatDoor.AddrP
open Go.RowKit Go.Proofs.YteflcmmandlknaaGreatDoorW.PrintWords Go.Proofs.YteflcmmandlknaaGreatDoor.Num Go.Proofs.YteflcmmandlknaaGreatDoor.Str Go.Proofs.YteflcmmandlknaaGreatDoor.Flds Go.Proofs.YteflcmmandlknaaGreatDoor.PA
set_option linter.unusedVariables false
set_option linter.unusedSimpArgs false
/-- The groups that a list with a gap stands for. -/
def vg (L : List Int) (g : Int) : List Int := if g < 0 then L else six8 (L.take g.toNat) (L.drop g.toNat)
def finS (o : Option (List Int × Int)) : Bool × Int × Int × Int := match o with
  | none => (false, 0, 0, 3)
  | some (L, g) => if (g < 0 ∧ L.length ≠ 8) ∨ (0 ≤ g ∧ L.length > 7) then (false, 0, 0, 3)
    else (true, num4 (rd (vg L g) 0) (rd (vg L g) 1) (rd (vg L g) 2) (rd (vg L g) 3), num4 (rd (vg L g) 4) (rd (vg L g) 5) (rd (vg L g) 6) (rd (vg L g) 7), 0)
theorem rd_nat (L : List Int) (j : Nat) : rd L (j : Int) = L.getD j 0 := by simp [rd]
def sh (x d : Int) : Int := IntKind.u64.wrap (IntKind.u64.wrap (x * 65536) + d)
/-- One round of the loop over the eight groups. -/
theorem l2_step (L : List Int) (g : Int) (v : Bool) (hi lo : Int) (j : Nat) (hj : j < 8) (hL : if g < 0 then L.length = 8 else L.length ≤ 7) (hg : g ≤ L.length) (res : Bool × Int × Int × Int)
    (h : Ev (fun k => ddiref02_six.l2 k L g ((j + 1 : Nat) : Int) v (if j < 4 then sh hi (rd (vg L g) j) else hi) (if j < 4 then lo else sh lo (rd (vg L g) j))) res) :
    Ev (fun k => ddiref02_six.l2 k L g (j : Int) v hi lo) res := by
  have e1 : wrap64 ((j : Int) + 1) = ((j + 1 : Nat) : Int) := by unfold wrap64; omega
  have fin : ∀ (x : Int), rd (vg L g) j = x → Ev (fun k => if (j : Int) < 4 then ddiref02_six.l2 k L g (wrap64 ((j : Int) + 1)) v (IntKind.u64.wrap (IntKind.u64.wrap (hi * 65536) + x)) lo else ddiref02_six.l2 k L g (wrap64 ((j : Int) + 1)) v hi (IntKind.u64.wrap (IntKind.u64.wrap (lo * 65536) + x))) res := by
    intro x hx
    rw [hx] at h
    rw [e1]
    by_cases h4 : j < 4
    · simp only [if_pos h4] at h
      exact ev_if_pos (by omega) h
    · simp only [if_neg h4] at h
      exact ev_if_neg (by omega) h
  refine Ev.step (fun k => by rw [ddiref02_six.l2]) (ev_if_pos (by omega) ?_)
  by_cases hg0 : g < 0
  · rw [if_pos hg0] at hL
    refine ev_if_pos hg0 ?_
    refine Ev.step (fun k => by rw [ddiref02_six.j11]) (ev_if_pos rfl (ev_if_pos (by omega) (ev_if_pos (by omega) ?_)))
    exact fin _ (by unfold vg; rw [if_pos hg0])
  · rw [if_neg hg0] at hL
    refine ev_if_neg hg0 ?_
    obtain ⟨n, rfl⟩ : ∃ n : Nat, g = n := ⟨g.toNat, by omega⟩
    have hv : vg L (n : Int) = six8 (L.take n) (L.drop n) := by unfold vg; rw [if_neg hg0]; simp
    have ht : (L.take n).length = n := by simp; omega
    have hdl : (L.drop n).length = L.length - n := by simp
    by_cases hjn : j < n
    · rw [show decide ((j : Int) < (n : Int)) = true from decide_eq_true (by omega)]
      refine Ev.step (fun k => by rw [ddiref02_six.j11]) (ev_if_pos rfl (ev_if_pos (by omega) (ev_if_pos (by omega) ?_)))
      refine fin _ ?_
      rw [hv, rd_nat, rd_nat]
      unfold six8
      rw [List.getD_eq_getElem?_getD, List.getD_eq_getElem?_getD, List.getElem?_append_left (by omega), List.getElem?_take, if_pos hjn]
    · rw [show decide ((j : Int) < (n : Int)) = false from decide_eq_false (by omega)]
      refine Ev.step (fun k => by rw [ddiref02_six.j11]) (ev_if_neg (by simp) ?_)
      have w1 : wrap64 (8 - wrap64 ((L.length : Int) - (n : Int))) = 8 - ((L.length : Int) - n) := by unfold wrap64; omega
      have w2 : wrap64 ((j : Int) - wrap64 (8 - (L.length : Int))) = (j : Int) - (8 - (L.length : Int)) := by unfold wrap64; omega
      rw [w1, w2]
      by_cases hjt : (j : Int) ≥ 8 - ((L.length : Int) - n)
      · refine ev_if_pos hjt (ev_if_pos (by omega) (ev_if_pos (by omega) ?_))
        refine fin _ ?_
        obtain ⟨i, hi'⟩ : ∃ i : Nat, (j : Int) - (8 - (L.length : Int)) = i := ⟨((j : Int) - (8 - (L.length : Int))).toNat, by omega⟩
        rw [hv, hi', rd_nat, rd_nat]
        unfold six8
        rw [List.getD_eq_getElem?_getD, List.getD_eq_getElem?_getD, List.getElem?_append_right (by omega), List.getElem?_append_right (by simp; omega)]
        simp only [List.length_replicate, ht, hdl, List.getElem?_drop]
        congr 2
        omega
      · refine ev_if_neg hjt ?_
        refine fin _ ?_
        rw [hv, rd_nat]
        unfold six8
        rw [List.getD_eq_getElem?_getD, List.getElem?_append_right (by omega), List.getElem?_append_left (by simp; omega), List.getElem?_replicate]
        split <;> rfl
theorem sh_eq {x d : Int} (h0 : 0 ≤ d) (h1 : d < 65536) : shift16 x d = sh x d := by
  unfold shift16 sh
  rw [wrap_u64_id (show U64 d by unfold U64; omega), wrap_u64, wrap_u64, or_u64 16 (by omega) (by omega) (by omega) h0 (by omega) (by omega)]
  omega
theorem num4_eq {a b c d : Int} (ha : 0 ≤ a ∧ a < 65536) (hb : 0 ≤ b ∧ b < 65536) (hc : 0 ≤ c ∧ c < 65536) (hd : 0 ≤ d ∧ d < 65536) : sh (sh (sh (sh 0 a) b) c) d = num4 a b c d := by
  unfold num4
  rw [sh_eq hb.1 hb.2, sh_eq hc.1 hc.2, sh_eq hd.1 hd.2]
  have : Go.bits .or .u64 0 (IntKind.u64.wrap a) = sh 0 a := by
    unfold sh
    rw [wrap_u64_id (show U64 a by unfold U64; omega), or_u64 16 (by omega) (by omega) (by omega) ha.1 (by omega) (by omega)]
    rw [wrap_u64, wrap_u64]; omega
  rw [this]
theorem l2_ev (L : List Int) (g : Int) (hL : if g < 0 then L.length = 8 else L.length ≤ 7) (hg : g ≤ L.length) (hr : ∀ i : Int, 0 ≤ rd (vg L g) i ∧ rd (vg L g) i < 65536) :
    Ev (fun k => ddiref02_six.l2 k L g 0 true 0 0) (true, num4 (rd (vg L g) 0) (rd (vg L g) 1) (rd (vg L g) 2) (rd (vg L g) 3), num4 (rd (vg L g) 4) (rd (vg L g) 5) (rd (vg L g) 6) (rd (vg L g) 7), 0) := by
  rw [← num4_eq (hr 0) (hr 1) (hr 2) (hr 3), ← num4_eq (hr 4) (hr 5) (hr 6) (hr 7)]
  refine l2_step L g true 0 0 0 (by omega) hL hg _ ?_
  refine l2_step L g true _ _ 1 (by omega) hL hg _ ?_
  refine l2_step L g true _ _ 2 (by omega) hL hg _ ?_
  refine l2_step L g true _ _ 3 (by omega) hL hg _ ?_
  refine l2_step L g true _ _ 4 (by omega) hL hg _ ?_
  refine l2_step L g true _ _ 5 (by omega) hL hg _ ?_
  refine l2_step L g true _ _ 6 (by omega) hL hg _ ?_
  refine l2_step L g true _ _ 7 (by omega) hL hg _ ?_
  refine Ev.step (fun k => by rw [ddiref02_six.l2]) (ev_if_neg (by omega) ?_)
  exact Ev.now _
theorem fin_ev (s : ByteArray) (L : List Int) (g i : Int) (hg : g = -1 ∨ 0 ≤ g) (hgl : g ≤ L.length) (hr : ∀ i : Int, 0 ≤ rd (vg L g) i ∧ rd (vg L g) i < 65536) :
    Ev (fun k => ddiref02_six.l0 k s L g i false) (finS (some (L, g))) := by
  simp only [finS]
  have bad : Ev (fun k => ddiref02_six.j9 k L g true) (false, 0, 0, 3) := Ev.step (fun k => by rw [ddiref02_six.j9]) (ev_if_pos rfl (Ev.now _))
  refine Ev.step (fun k => by rw [ddiref02_six.l0]) (ev_if_neg (by simp) ?_)
  by_cases hg0 : g < 0
  · refine ev_if_pos hg0 ?_
    by_cases h8 : L.length = 8
    · rw [if_neg (by omega)]
      refine ev_if_pos (by omega) (ev_if_neg (by omega) ?_)
      refine Ev.step (fun k => by rw [ddiref02_six.j9]) (ev_if_neg (by simp) ?_)
      exact l2_ev L g (by rw [if_pos hg0]; exact h8) hgl hr
    · rw [if_pos (.inl ⟨hg0, h8⟩)]
      exact ev_if_neg (by omega) bad
  · refine ev_if_neg hg0 (ev_if_pos (by omega) ?_)
    by_cases h7 : L.length > 7
    · rw [if_pos (.inr ⟨by omega, h7⟩), show decide ((L.length : Int) > 7) = true from decide_eq_true (by omega)]
      exact bad
    · rw [if_neg (by omega), show decide ((L.length : Int) > 7) = false from decide_eq_false (by omega)]
      refine Ev.step (fun k => by rw [ddiref02_six.j9]) (ev_if_neg (by simp) ?_)
      exact l2_ev L g (by rw [if_neg hg0]; omega) hgl hr
end Go.Proofs.YteflcmmandlknaaGreatDoor.AddrP
