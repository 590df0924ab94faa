/-
  The loop over fields, step by step. Conditions: each theorem's own.
-/
import Derived.Test.YteflcmmandlknaaGreatDoorPair
namespace Go.Proofs.YteflcmmandlknaaGreatDoor.Flds
open Go.RowKit Go.Proofs.YteflcmmandlknaaGreatDoorW.PrintWords Go.Proofs.YteflcmmandlknaaGreatDoor.Num Go.Proofs.YteflcmmandlknaaGreatDoor.Str
set_option linter.unusedVariables false
set_option linter.unusedSimpArgs false
section
variable {α : Type} (g : List α → Option Int) (f : List α) (l : List Int) (p n : Int)
theorem runF_bad (fs : List (List α)) (h : g f = none) : runF g (f :: fs) l p = none := by unfold runF; rw [h]
theorem runF_full (fs : List (List α)) (h8 : l.length = 8) : runF g (f :: fs) l p = none := by
  unfold runF
  cases g f with
  | none => rfl
  | some m => simp [h8]
theorem runF_one (h : g f = some n) (h8 : ¬ l.length = 8) : runF g [f] l p = some (l ++ [n], p) := by unfold runF; rw [h]; simp [h8]
theorem runF_end (h : g f = some n) (h8 : ¬ l.length = 8) : runF g [f, []] l p = none := by unfold runF; rw [h]; simp [h8]
theorem runF_next (q : List α) (qs : List (List α)) (h : g f = some n) (h8 : ¬ l.length = 8) (hq : q ≠ []) : runF g (f :: q :: qs) l p = runF g (q :: qs) (l ++ [n]) p := by
  rw [runF, h]
  simp only [if_neg h8]
  cases q with
  | nil => exact absurd rfl hq
  | cons x q => cases qs <;> simp
theorem runF_pair (r : List α) (qs : List (List α)) (h : g f = some n) (h8 : ¬ l.length = 8) (hp : p ≥ 0) : runF g (f :: [] :: r :: qs) l p = none := by
  rw [runF, h]
  simp [h8, hp]
theorem runF_gap_end (h : g f = some n) (h8 : ¬ l.length = 8) (hp : ¬ p ≥ 0) : runF g [f, [], []] l p = some (l ++ [n], ((l ++ [n]).length : Int)) := by
  rw [runF, h]
  simp only [if_neg h8, List.isEmpty_nil, if_true, if_neg hp]
  simp
theorem runF_gap_on (r : List α) (qs : List (List α)) (h : g f = some n) (h8 : ¬ l.length = 8) (hp : ¬ p ≥ 0) (hr : ¬ isE (r :: qs) = true) : runF g (f :: [] :: r :: qs) l p = runF g (r :: qs) (l ++ [n]) ((l ++ [n]).length : Int) := by
  rw [runF, h]
  simp only [if_neg h8, List.isEmpty_nil, if_true, if_neg hp]
  rw [if_neg (fun hh => hr ((isE_cons r qs).2 hh))]
end
theorem isE_split {s : List UInt8} : isE (splitC 58 s) = true ↔ s = [] := by
  constructor
  · intro h
    have hj := join_split 58 s
    cases hs : splitC 58 s with
    | nil => exact absurd hs (splitC_ne _ _)
    | cons p ps =>
      rw [hs] at h hj
      obtain ⟨h1, h2⟩ := (isE_cons p ps).1 h
      rw [List.isEmpty_iff] at h1 h2
      subst h1 h2
      exact hj.symm
  · rintro rfl; rfl
end Go.Proofs.YteflcmmandlknaaGreatDoor.Flds
