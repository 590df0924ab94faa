/-
  Fields of a text between colons, and what two readers of groups tell of them. Conditions: each theorem's own.
-/
import Derived.Test.YteflcmmandlknaaGreatDoorStr
namespace Go.Proofs.YteflcmmandlknaaGreatDoor.Flds
open Go.RowKit Go.Proofs.YteflcmmandlknaaGreatDoorW.PrintWords Go.Proofs.YteflcmmandlknaaGreatDoor.Num Go.Proofs.YteflcmmandlknaaGreatDoor.Str
set_option linter.unusedVariables false
set_option linter.unusedSimpArgs false
/-- One empty field alone: the empty text. -/
def isE {α : Type} : List (List α) → Bool
  | [[]] => true
  | _ => false
theorem isE_cons {α : Type} (r : List α) (qs : List (List α)) : isE (r :: qs) = true ↔ (qs.isEmpty ∧ r.isEmpty) := by
  cases r <;> cases qs <;> simp [isE]
section
variable {α : Type} (g : List α → Option Int)
/-- All fields' numbers. -/
def vals : List (List α) → Option (List Int)
  | [] => some []
  | f :: fs => match g f with
    | none => none
    | some n => (vals fs).map (n :: ·)
/-- The numbers behind l, at most eight. -/
def listL : List (List α) → List Int → Option (List Int)
  | [], l => some l
  | f :: fs, l => if l.length = 8 then none else match g f with
    | none => none
    | some n => listL fs (l ++ [n])
theorem listL_cons (f : List α) (fs : List (List α)) (l : List Int) : listL g (f :: fs) l = if l.length = 8 then none else match g f with
    | none => none
    | some n => listL g fs (l ++ [n]) := rfl
theorem vals_length : ∀ {fs : List (List α)} {v : List Int}, vals g fs = some v → v.length = fs.length
  | [], v, h => by simp [vals] at h; subst h; rfl
  | f :: fs, v, h => by
    unfold vals at h
    split at h
    · cases h
    · obtain ⟨v', h', rfl⟩ := Option.map_eq_some_iff.1 h
      simp [vals_length h']
theorem listL_eq : ∀ (fs : List (List α)) (l : List Int), l.length ≤ 8 → listL g fs l = (vals g fs).bind fun v => if l.length + v.length ≤ 8 then some (l ++ v) else none
  | [], l, h => by simp [listL, vals, h]
  | f :: fs, l, h => by
    unfold listL vals
    by_cases h8 : l.length = 8
    · rw [if_pos h8]
      cases hg : g f with
      | none => rfl
      | some n =>
        dsimp only
        cases hv : vals g fs with
        | none => rfl
        | some v =>
          simp only [Option.map_some, Option.bind_some, List.length_cons]
          rw [if_neg (by omega)]
    · rw [if_neg h8]
      cases hg : g f with
      | none => rfl
      | some n =>
        dsimp only
        rw [listL_eq fs (l ++ [n]) (by simp; omega)]
        cases hv : vals g fs with
        | none => rfl
        | some v =>
          simp only [Option.map_some, Option.bind_some, List.length_cons, List.length_append, List.length_nil, List.append_assoc, List.singleton_append]
          rw [show l.length + (0 + 1) + v.length = l.length + (v.length + 1) by omega]
/-- The loop over the fields: the numbers so far, where the gap is. -/
def runF : List (List α) → List Int → Int → Option (List Int × Int)
  | [], l, p => some (l, p)
  | f :: fs, l, p => match g f with
    | none => none
    | some n => if l.length = 8 then none else match fs with
      | [] => some (l ++ [n], p)
      | [q] => if q.isEmpty then none else runF [q] (l ++ [n]) p
      | q :: r :: qs => if q.isEmpty then (if p ≥ 0 then none else if qs.isEmpty ∧ r.isEmpty then some (l ++ [n], ((l ++ [n]).length : Int)) else runF (r :: qs) (l ++ [n]) ((l ++ [n]).length : Int)) else runF (q :: r :: qs) (l ++ [n]) p
termination_by fs => fs.length
variable (hg : g [] = none)
include hg
theorem runF_gap : ∀ (k : Nat) (fs : List (List α)) (l : List Int) (p : Int), fs.length ≤ k → fs ≠ [] → 0 ≤ p → runF g fs l p = (listL g fs l).map (·, p)
  | 0, fs, l, p, hk, hne, hp => absurd (List.eq_nil_of_length_eq_zero (by omega)) hne
  | k + 1, [], l, p, hk, hne, hp => absurd rfl hne
  | k + 1, f :: fs, l, p, hk, hne, hp => by
    unfold runF listL
    cases hf : g f with
    | none => simp
    | some n =>
      dsimp only
      by_cases h8 : l.length = 8
      · rw [if_pos h8, if_pos h8]; rfl
      · rw [if_neg h8, if_neg h8]
        match fs, hk with
        | [], _ => simp [listL]
        | [q], hk =>
          dsimp only
          cases q with
          | nil => simp [listL, hg]
          | cons x q => rw [if_neg (by simp)]; exact runF_gap k _ _ p (by simp at hk ⊢; omega) (by simp) hp
        | q :: r :: qs, hk =>
          dsimp only
          cases q with
          | nil => simp [listL, hg, hp]
          | cons x q => rw [if_neg (by simp)]; exact runF_gap k _ _ p (by simp at hk ⊢; omega) (by simp) hp
omit hg
/-- The fields ahead of the first pair of colons and behind it. -/
def cutF : List (List α) → Option (List (List α) × List (List α))
  | [] => none
  | [p] => none
  | [p, q] => none
  | p :: q :: r :: qs => if q.isEmpty then some ([p], r :: qs) else (cutF (q :: r :: qs)).map fun c => (p :: c.1, c.2)
include hg
theorem runF_none : ∀ (k : Nat) (fs : List (List α)) (l : List Int), fs.length ≤ k → fs ≠ [] → cutF fs = none → runF g fs l (-1) = (listL g fs l).map (·, -1)
  | 0, fs, l, hk, hne, hc => absurd (List.eq_nil_of_length_eq_zero (by omega)) hne
  | k + 1, [], l, hk, hne, hc => absurd rfl hne
  | k + 1, f :: fs, l, hk, hne, hc => by
    unfold runF listL
    cases hf : g f with
    | none => simp
    | some n =>
      dsimp only
      by_cases h8 : l.length = 8
      · rw [if_pos h8, if_pos h8]; rfl
      · rw [if_neg h8, if_neg h8]
        match fs, hk, hc with
        | [], _, _ => simp [listL]
        | [q], hk, _ =>
          dsimp only
          cases q with
          | nil => simp [listL, hg]
          | cons x q => rw [if_neg (by simp)]; exact runF_none k _ _ (by simp at hk ⊢; omega) (by simp) rfl
        | q :: r :: qs, hk, hc =>
          dsimp only
          cases q with
          | nil => simp [cutF] at hc
          | cons x q =>
            rw [if_neg (by simp)]
            refine runF_none k _ _ (by simp at hk ⊢; omega) (by simp) ?_
            simpa [cutF] using hc
theorem runF_some : ∀ (k : Nat) (fs h t : List (List α)) (l : List Int), fs.length ≤ k → cutF fs = some (h, t) → l.length ≤ 8 → runF g fs l (-1) = (listL g h l).bind fun a => if isE t = true then some (a, (a.length : Int)) else (listL g t a).map (·, (a.length : Int))
  | 0, fs, h, t, l, hk, hc, hl => by
    obtain rfl : fs = [] := List.eq_nil_of_length_eq_zero (by omega)
    simp [cutF] at hc
  | k + 1, [], h, t, l, hk, hc, hl => by simp [cutF] at hc
  | k + 1, [p], h, t, l, hk, hc, hl => by simp [cutF] at hc
  | k + 1, [p, q], h, t, l, hk, hc, hl => by simp [cutF] at hc
  | k + 1, p :: q :: r :: qs, h, t, l, hk, hc, hl => by
    unfold runF
    cases q with
    | nil =>
      simp only [cutF, List.isEmpty_nil, if_pos, Option.some.injEq, Prod.mk.injEq] at hc
      obtain ⟨rfl, rfl⟩ := hc
      unfold listL
      cases hf : g p with
      | none => simp
      | some n =>
        dsimp only
        by_cases h8 : l.length = 8
        · rw [if_pos h8, if_pos h8]; rfl
        · rw [if_neg h8, if_neg h8]
          simp only [listL, Option.bind_some, List.isEmpty_nil, if_pos]
          rw [if_neg (by decide)]
          by_cases ht : isE (r :: qs) = true
          · rw [if_pos ht, if_pos ((isE_cons r qs).1 ht)]
          · rw [if_neg ht, if_neg (fun hh => ht ((isE_cons r qs).2 hh))]
            exact runF_gap g hg (qs.length + 1) _ _ _ (by simp) (by simp) (by omega)
    | cons x q =>
      simp only [cutF, List.isEmpty_cons] at hc
      rw [if_neg (by simp)] at hc
      obtain ⟨⟨h', t'⟩, hc', e⟩ := Option.map_eq_some_iff.1 hc
      simp only [Prod.mk.injEq] at e
      obtain ⟨rfl, rfl⟩ := e
      rw [listL_cons g p h' l]
      cases hf : g p with
      | none => simp
      | some n =>
        dsimp only
        by_cases h8 : l.length = 8
        · rw [if_pos h8, if_pos h8]; rfl
        · rw [if_neg h8, if_neg h8, if_neg (by simp)]
          exact runF_some k _ h' t' (l ++ [n]) (by simp at hk ⊢; omega) hc' (by simp; omega)
end
/-- The text of fields. -/
def joinC (c : UInt8) : List (List UInt8) → List UInt8
  | [] => []
  | [p] => p
  | p :: q :: qs => p ++ c :: joinC c (q :: qs)
theorem join_split (c : UInt8) : ∀ (s : List UInt8), joinC c (splitC c s) = s
  | [] => rfl
  | x :: s => by
    have ih := join_split c s
    by_cases hx : x = c
    · subst hx
      unfold splitC
      rw [if_pos rfl]
      cases hs : splitC x s with
      | nil => exact absurd hs (splitC_ne _ _)
      | cons p ps => rw [hs] at ih; simp [joinC, ih]
    · cases hs : splitC c s with
      | nil => exact absurd hs (splitC_ne _ _)
      | cons p ps =>
        rw [splitC_cons_ne hx hs]
        rw [hs] at ih
        cases ps with
        | nil => simp [joinC] at ih ⊢; exact ih
        | cons q qs => simp only [joinC] at ih ⊢; rw [← ih]; rfl
theorem split_free (c : UInt8) : ∀ (s : List UInt8), ∀ p ∈ splitC c s, c ∉ p
  | [], p, hp => by simp [splitC] at hp; subst hp; simp
  | x :: s, p, hp => by
    have ih := split_free c s
    by_cases hx : x = c
    · subst hx
      unfold splitC at hp
      rw [if_pos rfl] at hp
      rcases List.mem_cons.1 hp with rfl | hp
      · simp
      · exact ih p hp
    · cases hs : splitC c s with
      | nil => exact absurd hs (splitC_ne _ _)
      | cons q qs =>
        rw [splitC_cons_ne hx hs] at hp
        rw [hs] at ih
        rcases List.mem_cons.1 hp with rfl | hp
        · intro hc
          rcases List.mem_cons.1 hc with e | e
          · exact hx e.symm
          · exact ih q (by simp) e
        · exact ih p (by simp [hp])
theorem split_join (c : UInt8) : ∀ (fs : List (List UInt8)), fs ≠ [] → (∀ p ∈ fs, c ∉ p) → splitC c (joinC c fs) = fs
  | [], h, _ => absurd rfl h
  | [p], _, hf => by simp only [joinC]; exact splitC_last c p (hf p (by simp))
  | p :: q :: qs, _, hf => by
    simp only [joinC]
    rw [splitC_piece c p _ (hf p (by simp)), split_join c (q :: qs) (by simp) (fun x hx => hf x (by simp [hx]))]
theorem cutF_ne : ∀ (fs h t : List (List UInt8)), cutF fs = some (h, t) → h ≠ [] ∧ t ≠ [] ∧ (∀ p ∈ h, p ∈ fs) ∧ (∀ p ∈ t, p ∈ fs)
  | [], h, t, hc => by simp [cutF] at hc
  | [p], h, t, hc => by simp [cutF] at hc
  | [p, q], h, t, hc => by simp [cutF] at hc
  | p :: q :: r :: qs, h, t, hc => by
    unfold cutF at hc
    split at hc
    · simp only [Option.some.injEq, Prod.mk.injEq] at hc
      obtain ⟨rfl, rfl⟩ := hc
      refine ⟨by simp, by simp, fun x hx => by simp at hx; simp [hx], fun x hx => by simp at hx ⊢; rcases hx with h | h <;> simp [h]⟩
    · obtain ⟨⟨h', t'⟩, hc', e⟩ := Option.map_eq_some_iff.1 hc
      simp only [Prod.mk.injEq] at e
      obtain ⟨rfl, rfl⟩ := e
      obtain ⟨h1, h2, h3, h4⟩ := cutF_ne _ _ _ hc'
      exact ⟨by simp, h2, fun x hx => by
        rcases List.mem_cons.1 hx with rfl | hx
        · simp
        · exact List.mem_cons_of_mem _ (h3 x hx), fun x hx => List.mem_cons_of_mem _ (h4 x hx)⟩
end Go.Proofs.YteflcmmandlknaaGreatDoor.Flds
