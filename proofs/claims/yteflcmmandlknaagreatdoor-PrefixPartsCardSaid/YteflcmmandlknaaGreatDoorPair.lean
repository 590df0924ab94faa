/-
  The first pair of colons in a text, told by its fields. Conditions: each theorem's own.
-/
import Derived.Test.YteflcmmandlknaaGreatDoorFlds
namespace Go.Proofs.YteflcmmandlknaaGreatDoor.Flds
open Go.RowKit Go.Proofs.YteflcmmandlknaaGreatDoorW.PrintWords Go.Proofs.YteflcmmandlknaaGreatDoor.Num Go.Proofs.YteflcmmandlknaaGreatDoor.Str
set_option linter.unusedVariables false
set_option linter.unusedSimpArgs false
/-- No pair of colons. -/
def np : List UInt8 → Bool
  | [] => true
  | x :: r => (x != 58 || r.head? != some 58) && np r
theorem np_free : ∀ (p : List UInt8), (58 : UInt8) ∉ p → np p = true
  | [], _ => rfl
  | x :: p, h => by
    have hx : x ≠ 58 := fun e => h (by simp [e])
    simp [np, hx, np_free p (fun hc => h (List.mem_cons_of_mem _ hc))]
theorem np_app : ∀ (p u : List UInt8), (58 : UInt8) ∉ p → np u = true → u.head? ≠ some 58 → np (p ++ 58 :: u) = true
  | [], u, _, hu, hh => by simp [np, hu, hh]
  | x :: p, u, h, hu, hh => by
    have hx : x ≠ 58 := fun e => h (by simp [e])
    simp [np, hx, np_app p u (fun hc => h (List.mem_cons_of_mem _ hc)) hu hh]
theorem np_drop : ∀ (l : List UInt8) (j : Nat), np l = true → np (l.drop j) = true
  | l, 0, h => by simpa using h
  | [], j + 1, h => by simp [np]
  | x :: l, j + 1, h => by
    simp only [np, Bool.and_eq_true] at h
    simpa using np_drop l j h.2
theorem np_prefix (l : List UInt8) (h : np l = true) : ([58, 58] : List UInt8).isPrefixOf l = false := by
  match l, h with
  | [], _ => rfl
  | [x], _ => simp [List.isPrefixOf]
  | x :: y :: r, h =>
    simp only [np, Bool.and_eq_true, Bool.or_eq_true, bne_iff_ne, List.head?_cons, ne_eq, Option.some.injEq] at h
    show ((58 == x && (58 == y && List.isPrefixOf [] r)) = false)
    rcases h.1 with e | e
    · have : ((58 : UInt8) == x) = false := beq_eq_false_iff_ne.2 (Ne.symm e)
      simp [this]
    · have : ((58 : UInt8) == y) = false := beq_eq_false_iff_ne.2 (Ne.symm e)
      simp [this]
theorem np_first : ∀ (a b : List UInt8) (j : Nat), np (a ++ [58]) = true → j < a.length → ([58, 58] : List UInt8).isPrefixOf ((a ++ 58 :: 58 :: b).drop j) = false
  | [], b, j, _, hj => by simp at hj
  | x :: a, b, 0, h, _ => by
    simp only [List.cons_append, np, Bool.and_eq_true, Bool.or_eq_true, bne_iff_ne, ne_eq] at h
    have hh : (a ++ 58 :: 58 :: b).head? = (a ++ [58]).head? := by cases a <;> rfl
    cases ha : a ++ 58 :: 58 :: b with
    | nil => simp at ha
    | cons y r =>
      rw [ha] at hh
      simp only [List.cons_append, ha, List.drop_zero]
      show ((58 == x && (58 == y && List.isPrefixOf [] r)) = false)
      rcases h.1 with e | e
      · have : ((58 : UInt8) == x) = false := beq_eq_false_iff_ne.2 (Ne.symm e)
        simp [this]
      · rw [← hh] at e
        have : ((58 : UInt8) == y) = false := beq_eq_false_iff_ne.2 (fun c => e (by rw [← c]; rfl))
        simp [this]
  | x :: a, b, j + 1, h, hj => by
    simp only [List.cons_append, np, Bool.and_eq_true] at h
    simpa using np_first a b j h.2 (by simpa using hj)
theorem index_np {s : List UInt8} (h : np s = true) : Lib.index s [58, 58] = -1 := Lib.index_none (fun j hj => by unfold Lib.occAt; exact np_prefix _ (np_drop s j h))
theorem index_pair {a b : List UInt8} (h : np (a ++ [58]) = true) : Lib.index (a ++ 58 :: 58 :: b) [58, 58] = a.length := by
  refine Lib.index_first (by simp) ?_ (fun j hj => ?_)
  · simp [Lib.occAt]
  · unfold Lib.occAt
    exact np_first a b j h hj
theorem join_head {p : List UInt8} {ps : List (List UInt8)} {x : UInt8} {q : List UInt8} (h : p = x :: q) : (joinC 58 (p :: ps)).head? = some x := by
  subst h
  cases ps <;> simp [joinC]
theorem cutF_none_np : ∀ (fs : List (List UInt8)), (∀ p ∈ fs, (58 : UInt8) ∉ p) → cutF fs = none → np (joinC 58 fs) = true
  | [], _, _ => rfl
  | [p], hf, _ => by simp only [joinC]; exact np_free p (hf p (by simp))
  | [p, q], hf, _ => by
    simp only [joinC]
    refine np_app p q (hf p (by simp)) (np_free q (hf q (by simp))) (fun hh => hf q (by simp) ?_)
    cases q with
    | nil => simp at hh
    | cons y r => simp only [List.head?_cons, Option.some.injEq] at hh; simp [hh]
  | p :: q :: r :: qs, hf, hc => by
    cases q with
    | nil => simp [cutF] at hc
    | cons y q =>
      have ih := cutF_none_np ((y :: q) :: r :: qs) (fun x hx => hf x (List.mem_cons_of_mem _ hx)) (by simpa [cutF] using hc)
      have hj : joinC 58 (p :: (y :: q) :: r :: qs) = p ++ 58 :: joinC 58 ((y :: q) :: r :: qs) := rfl
      rw [hj]
      refine np_app p _ (hf p (by simp)) ih ?_
      rw [join_head rfl]
      intro e
      simp only [Option.some.injEq] at e
      exact hf (y :: q) (by simp) (by simp [e])
theorem cutF_some_np : ∀ (fs h t : List (List UInt8)), (∀ p ∈ fs, (58 : UInt8) ∉ p) → cutF fs = some (h, t) → joinC 58 fs = joinC 58 h ++ 58 :: 58 :: joinC 58 t ∧ np (joinC 58 h ++ [58]) = true ∧ h.head? = fs.head?
  | [], h, t, _, hc => by simp [cutF] at hc
  | [p], h, t, _, hc => by simp [cutF] at hc
  | [p, q], h, t, _, hc => by simp [cutF] at hc
  | p :: q :: r :: qs, h, t, hf, hc => by
    cases q with
    | nil =>
      simp only [cutF, List.isEmpty_nil, if_pos, Option.some.injEq, Prod.mk.injEq] at hc
      obtain ⟨rfl, rfl⟩ := hc
      refine ⟨by simp [joinC], ?_, rfl⟩
      simp only [joinC]
      exact np_app p [] (hf p (by simp)) rfl (by simp)
    | cons y q =>
      simp only [cutF, List.isEmpty_cons] at hc
      rw [if_neg (by simp)] at hc
      obtain ⟨⟨h', t'⟩, hc', e⟩ := Option.map_eq_some_iff.1 hc
      simp only [Prod.mk.injEq] at e
      obtain ⟨rfl, rfl⟩ := e
      obtain ⟨e1, e2, e3⟩ := cutF_some_np ((y :: q) :: r :: qs) h' t' (fun x hx => hf x (List.mem_cons_of_mem _ hx)) hc'
      cases h' with
      | nil => simp at e3
      | cons p' ps =>
        simp only [List.head?_cons, Option.some.injEq] at e3
        have hj : joinC 58 (p :: (y :: q) :: r :: qs) = p ++ 58 :: joinC 58 ((y :: q) :: r :: qs) := rfl
        have hj2 : joinC 58 (p :: p' :: ps) = p ++ 58 :: joinC 58 (p' :: ps) := rfl
        refine ⟨by rw [hj, hj2, e1]; simp, ?_, rfl⟩
        rw [hj2]
        simp only [List.append_assoc, List.cons_append]
        refine np_app p _ (hf p (by simp)) e2 ?_
        have hd : (joinC 58 (p' :: ps)).head? = some y := join_head e3
        intro hh
        cases hjj : joinC 58 (p' :: ps) with
        | nil => rw [hjj] at hd; simp at hd
        | cons z zs =>
          rw [hjj] at hd hh
          simp only [List.head?_cons, Option.some.injEq, List.cons_append] at hd hh
          exact hf (y :: q) (by simp) (by simp [← hd, hh])
/-- strings.Cut at a pair of colons. -/
theorem cut_none {s : List UInt8} (h : cutF (splitC 58 s) = none) : Lib.cut s [58, 58] = (s, [], false) := by
  have hi : Lib.index s [58, 58] = -1 := by
    have := cutF_none_np (splitC 58 s) (split_free 58 s) h
    rw [join_split] at this
    exact index_np this
  unfold Lib.cut
  rw [hi, if_neg (by decide)]
theorem cut_some {s : List UInt8} {h t : List (List UInt8)} (hc : cutF (splitC 58 s) = some (h, t)) : Lib.cut s [58, 58] = (joinC 58 h, joinC 58 t, true) := by
  obtain ⟨e1, e2, _⟩ := cutF_some_np (splitC 58 s) h t (split_free 58 s) hc
  rw [join_split] at e1
  unfold Lib.cut
  rw [e1, index_pair e2, if_pos (by omega)]
  simp
end Go.Proofs.YteflcmmandlknaaGreatDoor.Flds
