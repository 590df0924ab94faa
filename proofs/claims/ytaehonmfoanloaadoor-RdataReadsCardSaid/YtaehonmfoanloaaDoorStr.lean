/-
  Strings as lists of bytes: splitting at one byte, cutting. Conditions: each theorem's own.
-/
import Derived.Test.YtaehonmfoanloaaDoorNum
import Derived.Lib.Split
import Derived.Lib.SplitLaws
import Derived.Lib.CountLaws
import Derived.Lib.CutLaws
namespace Go.Proofs.YtaehonmfoanloaaDoor.Str
open Go.RowKit Go.Proofs.YtaehonmfoanloaaDoorW.PrintWords Go.Proofs.YtaehonmfoanloaaDoor.Num
set_option linter.unusedVariables false
set_option linter.unusedSimpArgs false

/-- The pieces between the bytes c. -/
def splitC (c : UInt8) : List UInt8 → List (List UInt8)
  | [] => [[]]
  | x :: r => if x = c then [] :: splitC c r else match splitC c r with
    | [] => [[x]]
    | p :: ps => (x :: p) :: ps
theorem splitC_ne (c : UInt8) (s : List UInt8) : splitC c s ≠ [] := by
  cases s with
  | nil => simp [splitC]
  | cons x r =>
    unfold splitC
    split
    · simp
    · split <;> simp
theorem splitC_cons_ne {c x : UInt8} {r p : List UInt8} {ps : List (List UInt8)} (hx : ¬ x = c) (h : splitC c r = p :: ps) : splitC c (x :: r) = (x :: p) :: ps := by
  rw [splitC, if_neg hx, h]
/-- No byte c in p: it is one piece's beginning. -/
theorem splitC_piece (c : UInt8) : ∀ (p r : List UInt8), c ∉ p → splitC c (p ++ c :: r) = p :: splitC c r
  | [], r, _ => by simp [splitC]
  | x :: p, r, h => by
    have hx : ¬ x = c := fun e => h (by simp [e])
    exact splitC_cons_ne hx (splitC_piece c p r (fun hc => h (List.mem_cons_of_mem _ hc)))
theorem splitC_last (c : UInt8) : ∀ (p : List UInt8), c ∉ p → splitC c p = [p]
  | [], _ => rfl
  | x :: p, h => by
    have hx : ¬ x = c := fun e => h (by simp [e])
    exact splitC_cons_ne hx (splitC_last c p (fun hc => h (List.mem_cons_of_mem _ hc)))
theorem first_of {c : UInt8} : ∀ {s : List UInt8}, c ∈ s → ∃ p r, s = p ++ c :: r ∧ c ∉ p
  | [], h => by simp at h
  | x :: s, h => by
    by_cases hx : x = c
    · exact ⟨[], s, by simp [hx], by simp⟩
    · have h' : c ∈ s := by
        rcases List.mem_cons.1 h with e | e
        · exact absurd e.symm hx
        · exact e
      obtain ⟨p, r, hs, hp⟩ := first_of h'
      refine ⟨x :: p, r, by rw [hs]; rfl, fun hc => ?_⟩
      rcases List.mem_cons.1 hc with e | e
      · exact hx e.symm
      · exact hp e
theorem occ_no {c : UInt8} {l : List UInt8} (h : ∀ t, l ≠ c :: t) : [c].isPrefixOf l = false := by
  cases l with
  | nil => rfl
  | cons y t =>
    have : ¬ c = y := fun e => h t (by rw [e])
    simp [List.isPrefixOf, this]
theorem index_one (c : UInt8) (s : List UInt8) : (Lib.index s [c] = -1 ∧ c ∉ s) ∨ ∃ p r, s = p ++ c :: r ∧ c ∉ p ∧ Lib.index s [c] = p.length := by
  by_cases h : c ∈ s
  · right
    obtain ⟨p, r, rfl, hp⟩ := first_of h
    refine ⟨p, r, rfl, hp, ?_⟩
    refine Lib.index_first (by simp) ?_ (fun j hj => ?_)
    · simp [Lib.occAt]
    · unfold Lib.occAt
      rw [List.drop_append_of_le_length (by omega)]
      refine occ_no (fun t e => ?_)
      cases hd : p.drop j with
      | nil => have := congrArg List.length hd; simp at this; omega
      | cons y t' =>
        rw [hd] at e
        simp only [List.cons_append, List.cons.injEq] at e
        exact hp (e.1 ▸ List.mem_of_mem_drop (i := j) (by rw [hd]; simp))
  · left
    refine ⟨Lib.index_none (fun j hj => ?_), h⟩
    unfold Lib.occAt
    refine occ_no (fun t e => ?_)
    exact h (List.mem_of_mem_drop (i := j) (by rw [e]; simp))
theorem splitK_one (c : UInt8) : ∀ (n : Nat) (s : List UInt8), s.length ≤ n → Lib.splitK [c] 0 (Lib.count s [c]) s = splitC c s := by
  intro n
  induction n with
  | zero =>
    intro s hs
    have : s = [] := List.eq_nil_of_length_eq_zero (by omega)
    subst this
    rcases index_one c [] with ⟨h, _⟩ | ⟨p, r, h, _⟩
    · rw [Lib.count_miss h]; rfl
    · simp at h
  | succ n ih =>
    intro s hs
    rcases index_one c s with ⟨h, hc⟩ | ⟨p, r, rfl, hp, h⟩
    · rw [Lib.count_miss h, splitC_last c s hc]; rfl
    · rw [Lib.count_hit (by simp) h, Nat.add_comm 1, splitC_piece c p r hp]
      unfold Lib.splitK
      have hn : ¬ (Lib.index (p ++ c :: r) [c] == -1) = true := by rw [h]; simp
      have ht : (Lib.index (p ++ c :: r) [c]).toNat = p.length := by rw [h]; simp
      rw [if_neg hn, ht]
      have e1 : (p ++ c :: r).take (p.length + 0) = p := by simp
      have e2 : (p ++ c :: r).drop (p.length + [c].length) = r := by
        rw [← List.drop_drop]; simp
      have e3 : Lib.count ((p ++ c :: r).drop (p.length + [c].length)) [c] = Lib.count r [c] := by rw [e2]
      simp only [e1, e2]
      rw [ih r (by simp at hs; omega)]
end Go.Proofs.YtaehonmfoanloaaDoor.Str
