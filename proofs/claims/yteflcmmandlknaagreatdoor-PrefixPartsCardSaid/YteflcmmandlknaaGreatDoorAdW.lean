/-
  The bytes of addresses: what addr.Wire answers, in plain words. Conditions: the numbers are of uint64.
-/
import Derived.Test.YteflcmmandlknaaGreatDoorPAx4
import Derived.Test.YteflcmmandlknaaGreatDoorPAx7
import Derived.Test.YteflcmmandlknaaGreatDoorNum
namespace Go.Proofs.YteflcmmandlknaaGreatDoor.AdW
open Go.RowKit Go.Proofs.YteflcmmandlknaaGreatDoorW.PrintWords Go.Proofs.YteflcmmandlknaaGreatDoorW.PrintLast Go.Proofs.YteflcmmandlknaaGreatDoorW.PrintMore Go.Proofs.YteflcmmandlknaaGreatDoor.Num Go.Proofs.YteflcmmandlknaaGreatDoor.PA
set_option linter.unusedVariables false
set_option linter.unusedSimpArgs false
/-- Is it an address? -/
def vld (v : Bool) (hi lo : Int) : Bool := v || (hi == 0 && decide (lo < 4294967296))
theorem addr_Valid_eq (v : Bool) (hi lo : Int) : addr_Valid.f v hi lo = some (vld v hi lo) := by
  unfold addr_Valid.f vld
  cases v
  · by_cases h : hi = 0
    · simp [h]; omega
    · simp [h]
  · simp
theorem vld_true {v : Bool} {hi lo : Int} (h : vld v hi lo = true) : v = true ∨ (v = false ∧ hi = 0 ∧ lo < 4294967296) := by
  unfold vld at h; cases v <;> simp_all
theorem vld_false {v : Bool} {hi lo : Int} (h : vld v hi lo = false) : v = false ∧ (hi ≠ 0 ∨ 4294967296 ≤ lo) := by
  unfold vld at h
  cases v
  · by_cases h0 : hi = 0
    · simp [h0] at h; exact ⟨rfl, Or.inr h⟩
    · exact ⟨rfl, Or.inl h0⟩
  · simp at h

/-- The n low bytes of a number, the most significant one first. -/
def octF : Nat → Int → List Int
  | 0, _ => []
  | n + 1, v => (v / 256 ^ n % 256) :: octF n v
theorem octF_length (n : Nat) (v : Int) : (octF n v).length = n := by
  induction n with
  | zero => rfl
  | succ n ih => simp [octF, ih]
theorem addr_bytes_ev {x : Int} (h : U64 x) : Ev (fun k => addr_bytes.f k x) (octF 8 x) := by
  refine ev_of_eq 9 (fun k => ?_)
  unfold addr_bytes.f
  simp [addr_bytes.l0, wrap64, shr, octF, IntKind.bits]
def wireS (v : Bool) (hi lo : Int) : ByteArray × Int :=
  if vld v hi lo = true then (if v = true then (strOfNums (octF 8 hi) ++ strOfNums (octF 8 lo), 0) else (strOfNums (octF 4 lo), 0)) else ((⟨#[]⟩ : ByteArray), 3)
theorem addr_Wire_ev {v : Bool} {hi lo : Int} (h1 : U64 hi) (h2 : U64 lo) : Ev (fun k => addr_Wire.f k v hi lo) (wireS v hi lo) := by
  unfold addr_Wire.f wireS
  refine ev_bind_const (addr_Valid_eq v hi lo) ?_
  cases hv : vld v hi lo
  · exact ev_if_neg (by simp) (Ev.now _)
  · refine ev_if_pos rfl ?_
    rw [if_pos rfl]
    cases v
    · refine ev_if_neg (by simp) ?_
      rw [if_neg (by simp)]
      refine Ev.bind (addr_bytes_ev h2) (ev_if_pos (by rw [octF_length]; omega) ?_)
      exact Ev.now _
    · refine ev_if_pos rfl ?_
      rw [if_pos rfl]
      refine Ev.bind (addr_bytes_ev h1) (Ev.bind (addr_bytes_ev h2) (ev_if_pos ?_ (Ev.now _)))
      rw [strOfNums_size, strOfNums_size, octF_length, octF_length]; omega
end Go.Proofs.YteflcmmandlknaaGreatDoor.AdW
