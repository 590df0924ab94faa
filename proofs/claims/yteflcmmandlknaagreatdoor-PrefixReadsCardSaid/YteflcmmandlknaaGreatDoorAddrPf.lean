/-
  Both readers of addresses answer alike. Conditions: each theorem's own.
-/
import Derived.Test.YteflcmmandlknaaGreatDoorPAx5
import Derived.Test.YteflcmmandlknaaGreatDoorPAx18
import Derived.Test.YteflcmmandlknaaGreatDoorAddrPe
namespace Go.Proofs.YteflcmmandlknaaGreatDoor.AddrP
open Go.RowKit Go.Proofs.YteflcmmandlknaaGreatDoorW.PrintWords Go.Proofs.YteflcmmandlknaaGreatDoor.Num Go.Proofs.YteflcmmandlknaaGreatDoor.Str Go.Proofs.YteflcmmandlknaaGreatDoor.Flds Go.Proofs.YteflcmmandlknaaGreatDoor.PA
set_option linter.unusedVariables false
set_option linter.unusedSimpArgs false
def pkr (o : Option (List Int)) : Bool × Int × Int × Int := match o with
  | some v => (true, num4 (rd v 0) (rd v 1) (rd v 2) (rd v 3), num4 (rd v 4) (rd v 5) (rd v 6) (rd v 7), 0)
  | none => (false, 0, 0, 3)
theorem lst_ne {l : List UInt8} (h : l ≠ []) : lst l = listL grp (splitC 58 l) [] := if_neg h
theorem listL_len {fs : List (List UInt8)} {v : List Int} (h : listL grp fs [] = some v) : v.length ≤ 8 := by
  rw [listL_eq grp fs [] (by simp)] at h
  obtain ⟨w, _, hw⟩ := Option.bind_eq_some_iff.1 h
  split at hw
  · rename_i hle
    simp only [List.nil_append, Option.some.injEq] at hw
    subst hw
    simpa using hle
  · cases hw
theorem fin_gap {a b : List Int} (ha : a.length ≤ 8) : finS (some (a ++ b, (a.length : Int))) = pkr (if a.length + b.length ≤ 7 then some (six8 a b) else none) := by
  simp only [finS]
  by_cases h : a.length + b.length ≤ 7
  · rw [if_neg (by rw [List.length_append]; omega), if_pos h]
    have : vg (a ++ b) (a.length : Int) = six8 a b := by unfold vg; rw [if_neg (by omega)]; simp
    rw [this]; rfl
  · rw [if_pos (by rw [List.length_append]; omega), if_neg h]; rfl
theorem six_same (l : List UInt8) : finS (refV l) = pkr (sixV l) := by
  unfold refV
  by_cases h2 : l.take 2 = [58, 58]
  · rw [if_pos h2]
    have hl : l = 58 :: 58 :: l.drop 2 := by
      have := List.take_append_drop 2 l
      rw [h2] at this
      exact this.symm
    generalize hr : l.drop 2 = r at hl
    obtain ⟨q, qs, hq⟩ : ∃ q qs, splitC 58 r = q :: qs := by
      cases hh : splitC 58 r with
      | nil => exact absurd hh (splitC_ne _ _)
      | cons q qs => exact ⟨q, qs, rfl⟩
    have hF : splitC 58 l = [] :: [] :: q :: qs := by
      rw [hl, splitC, if_pos rfl, splitC, if_pos rfl, hq]
    have hc : cutF (splitC 58 l) = some ([[]], q :: qs) := by rw [hF]; rfl
    have hj : joinC 58 (q :: qs) = r := by rw [← hq]; exact join_split 58 r
    have hs : sixV l = match lst r with | some b => if ([] : List Int).length + b.length ≤ 7 then some (six8 [] b) else none | none => none := by
      unfold sixV
      rw [hc]
      dsimp only
      rw [hj, show lst (joinC 58 [[]]) = some [] from rfl]
      cases lst r <;> rfl
    rw [hs]
    by_cases hr0 : r = []
    · rw [if_pos hr0, hr0, show lst [] = some [] from rfl]
      exact fin_gap (a := []) (b := []) (by simp)
    · rw [if_neg hr0, runF_gap grp grp_nil (splitC 58 r).length _ _ 0 (Nat.le_refl _) (splitC_ne _ _) (by omega), lst_ne hr0]
      cases hb : listL grp (splitC 58 r) [] with
      | none => rfl
      | some b => exact fin_gap (a := []) (b := b) (by simp)
  · rw [if_neg h2]
    cases hc : cutF (splitC 58 l) with
    | none =>
      rw [runF_none grp grp_nil (splitC 58 l).length _ _ (Nat.le_refl _) (splitC_ne _ _) hc]
      have hs : sixV l = match lst l with | some v => if v.length = 8 then some v else none | none => none := by
        unfold sixV
        rw [hc]
        dsimp only
        cases lst l <;> rfl
      rw [hs]
      by_cases hl0 : l = []
      · subst hl0; rfl
      · rw [lst_ne hl0]
        cases hb : listL grp (splitC 58 l) [] with
        | none => rfl
        | some v =>
          simp only [Option.map_some, finS]
          by_cases h8 : v.length = 8
          · rw [if_neg (by omega), if_pos h8]
            rfl
          · rw [if_pos (.inl ⟨by omega, h8⟩), if_neg h8]
            rfl
    | some c =>
      obtain ⟨h, t⟩ := c
      rw [runF_some grp grp_nil (splitC 58 l).length _ h t [] (Nat.le_refl _) hc (by simp)]
      obtain ⟨n1, n2, n3, n4⟩ := cutF_ne _ h t hc
      have hfr := split_free 58 l
      have e1 := (cutF_some_np (splitC 58 l) h t hfr hc).1
      rw [join_split] at e1
      have hsh : splitC 58 (joinC 58 h) = h := split_join 58 h n1 (fun p hp => hfr p (n3 p hp))
      have hst : splitC 58 (joinC 58 t) = t := split_join 58 t n2 (fun p hp => hfr p (n4 p hp))
      have hh0 : joinC 58 h ≠ [] := by
        intro e
        rw [e, List.nil_append] at e1
        exact h2 (by rw [e1]; rfl)
      have hlh : lst (joinC 58 h) = listL grp h [] := by rw [lst_ne hh0, hsh]
      have hs : sixV l = match listL grp h [], lst (joinC 58 t) with | some a, some b => if a.length + b.length ≤ 7 then some (six8 a b) else none | _, _ => none := by
        unfold sixV
        rw [hc]
        dsimp only
        rw [hlh]
        cases listL grp h [] <;> cases lst (joinC 58 t) <;> rfl
      rw [hs]
      cases ha : listL grp h [] with
      | none => rfl
      | some a =>
        have hal := listL_len ha
        simp only [Option.bind_some]
        by_cases ht : isE t = true
        · have htj : joinC 58 t = [] := isE_split.1 (by rw [hst]; exact ht)
          rw [if_pos ht, htj, show lst [] = some [] from rfl]
          have := fin_gap (a := a) (b := []) hal
          rw [List.append_nil] at this
          exact this
        · have htj : joinC 58 t ≠ [] := fun e => ht (by rw [← hst]; exact isE_split.2 e)
          rw [if_neg ht, lst_ne htj, hst, listL_eq grp t a hal, listL_eq grp t [] (by simp)]
          cases hv : vals grp t with
          | none => rfl
          | some b =>
            simp only [Option.bind_some, List.nil_append, List.length_nil, Nat.zero_add]
            by_cases hb8 : b.length ≤ 8
            · rw [if_pos hb8]
              by_cases hab : a.length + b.length ≤ 8
              · rw [if_pos hab]
                exact fin_gap hal
              · rw [if_neg hab]
                simp only [Option.map_none]
                rw [if_neg (by omega)]
                rfl
            · rw [if_neg hb8, if_neg (by omega)]
              rfl
theorem mem_split {c x : UInt8} (hx : x ≠ c) : ∀ {l : List UInt8}, x ∈ l → ∃ p ∈ splitC c l, x ∈ p
  | [], h => by simp at h
  | y :: l, h => by
    by_cases hy : y = c
    · subst hy
      have h' : x ∈ l := by
        rcases List.mem_cons.1 h with e | e
        · exact absurd e hx
        · exact e
      obtain ⟨p, hp, hxp⟩ := mem_split hx h'
      exact ⟨p, by rw [splitC, if_pos rfl]; exact List.mem_cons_of_mem _ hp, hxp⟩
    · cases hs : splitC c l with
      | nil => exact absurd hs (splitC_ne _ _)
      | cons q qs =>
        rw [splitC_cons_ne hy hs]
        rcases List.mem_cons.1 h with e | e
        · exact ⟨y :: q, by simp, by simp [e]⟩
        · obtain ⟨p, hp, hxp⟩ := mem_split hx e
          rw [hs] at hp
          rcases List.mem_cons.1 hp with rfl | hp
          · exact ⟨y :: p, by simp, by simp [hxp]⟩
          · exact ⟨p, by simp [hp], hxp⟩
theorem fourL_bad : ∀ {F : List (List UInt8)} (lo : Int) {p : List UInt8}, p ∈ F → (dec p).2 = false → fourL F lo = none
  | [], lo, p, h, _ => by simp at h
  | f :: fs, lo, p, h, hd => by
    unfold fourL
    split
    · rename_i hf
      rcases List.mem_cons.1 h with rfl | h
      · rw [hd] at hf; cases hf
      · exact fourL_bad _ h hd
    · rfl
theorem four_colon {l : List UInt8} (h : (58 : UInt8) ∈ l) : fourV l = none := by
  unfold fourV
  split
  · obtain ⟨p, hp, hx⟩ := mem_split (c := 46) (x := 58) (by decide) h
    exact fourL_bad 0 hp (dec_bad (x := 58) (by decide) hx)
  · rfl
theorem six_plain {l : List UInt8} (h : (58 : UInt8) ∉ l) : sixV l = none := by
  unfold sixV
  rw [splitC_last 58 l h]
  show (match lst l with | some v => if v.length = 8 then some v else none | none => none) = none
  by_cases hl : l = []
  · subst hl; rfl
  · rw [lst_ne hl, splitC_last 58 l h, listL_eq grp _ [] (by simp)]
    cases hv : vals grp [l] with
    | none => rfl
    | some v =>
      have := vals_length grp hv
      simp only [List.length_singleton] at this
      simp [this]
theorem ref_Parse_l0 (s : ByteArray) (hs : s.size ≤ 900) : ∀ (r : List UInt8) (i : Nat), (by_ s).drop i = r → Ev (fun k => ddiref02_Parse.l0 k s (i : Int)) (if (58 : UInt8) ∈ r then finS (refV (by_ s)) else pkf (fourV (by_ s)))
  | [], i, hd => by
    have := drop_nil hd
    rw [if_neg (by simp)]
    refine Ev.step (fun k => by rw [ddiref02_Parse.l0]) (ev_if_neg (by omega) ?_)
    refine Ev.bind (ref_four_ev s hs) ?_
    exact Ev.now _
  | c :: r, i, hd => by
    obtain ⟨h1, h2, h3⟩ := bt_drop hd
    have h58 : (58 : UInt8).toNat = 58 := rfl
    have e1 : wrap64 ((i : Int) + 1) = ((i + 1 : Nat) : Int) := by unfold wrap64; omega
    refine Ev.step (fun k => by rw [ddiref02_Parse.l0]) (ev_if_pos (by omega) (ev_if_pos (by omega) ?_))
    rw [h2]
    by_cases hc : c = 58
    · subst hc
      rw [if_pos (by simp)]
      refine ev_if_pos rfl ?_
      refine Ev.bind (ref_six_ev s hs) ?_
      exact Ev.now _
    · refine ev_if_neg (fun e => hc (UInt8.toNat_inj.1 (by omega))) ?_
      rw [e1]
      have := ref_Parse_l0 s hs r (i + 1) h3
      have hm : (58 : UInt8) ∈ c :: r ↔ (58 : UInt8) ∈ r := by simp [Ne.symm hc]
      simp only [hm]
      exact this
theorem ref_Parse_ev (s : ByteArray) : Ev (fun k => ddiref02_Parse.f k s) (parseS (by_ s)) := by
  have hl := by_length s
  unfold ddiref02_Parse.f parseS
  by_cases h : s.size > 39
  · rw [if_pos (by omega)]
    refine ev_if_pos (by omega) ?_
    exact Ev.now _
  · rw [if_neg (by omega)]
    refine ev_if_neg (by omega) ?_
    have h0 := ref_Parse_l0 s (by omega) (by_ s) 0 rfl
    by_cases hm : (58 : UInt8) ∈ by_ s
    · rw [if_pos hm, six_same] at h0
      rw [four_colon hm]
      exact h0
    · rw [if_neg hm] at h0
      rw [six_plain hm]
      have e : pkf (fourV (by_ s)) = (match fourV (by_ s) with | some lo => (false, 0, lo, 0) | none => (false, 0, 0, 3)) := rfl
      rw [e] at h0
      exact h0
theorem valid_same (v : Bool) (hi lo : Int) : addr_Valid.f v hi lo = ddiref02_Valid.f v hi lo ∧ ∃ b, ddiref02_Valid.f v hi lo = some b := by
  unfold addr_Valid.f ddiref02_Valid.f
  constructor
  · have : decide (lo ≤ 4294967295) = decide (lo < 4294967296) := by
      by_cases h : lo < 4294967296
      · rw [decide_eq_true h, decide_eq_true (by omega)]
      · rw [decide_eq_false h, decide_eq_false (by omega)]
    rw [this]
  · (repeat' split) <;> exact ⟨_, rfl⟩
end Go.Proofs.YteflcmmandlknaaGreatDoor.AddrP
