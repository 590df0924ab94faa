/-
  The reference's reader of IPv6 texts, whole, and both readers side by side. Conditions: each theorem's own.
-/
import Derived.Test.YteflcmmandlknaaGreatDoorAddrPd
import Derived.Test.YteflcmmandlknaaGreatDoorRuns
namespace Go.Proofs.YteflcmmandlknaaGreatDoor.AddrP
open Go.RowKit Go.Proofs.YteflcmmandlknaaGreatDoorW.PrintWords Go.Proofs.YteflcmmandlknaaGreatDoor.Num Go.Proofs.YteflcmmandlknaaGreatDoor.Str Go.Proofs.YteflcmmandlknaaGreatDoor.Flds Go.Proofs.YteflcmmandlknaaGreatDoor.PA
set_option linter.unusedVariables false
set_option linter.unusedSimpArgs false
/-- Groups in their range. -/
def okL (L : List Int) : Prop := ∀ x ∈ L, 0 ≤ x ∧ x < 65536
theorem okL_rd {L : List Int} (h : okL L) (i : Int) : 0 ≤ rd L i ∧ rd L i < 65536 := by
  unfold rd
  rw [List.getD_eq_getElem?_getD]
  cases e : L[i.toNat]? with
  | none => simp
  | some x => exact h x (List.mem_of_getElem? e)
theorem okL_vg {L : List Int} (h : okL L) (g : Int) : okL (vg L g) := by
  unfold vg
  split
  · exact h
  · intro x hx
    unfold six8 at hx
    rcases List.mem_append.1 hx with hx | hx
    · exact h x (List.mem_of_mem_take hx)
    · rcases List.mem_append.1 hx with hx | hx
      · have := List.eq_of_mem_replicate hx; subst this; omega
      · exact h x (List.mem_of_mem_drop hx)
theorem okL_snoc {L : List Int} {m : Int} (h : okL L) (h0 : 0 ≤ m) (h1 : m < 65536) : okL (L ++ [m]) := by
  intro x hx
  rcases List.mem_append.1 hx with hx | hx
  · exact h x hx
  · rw [List.mem_singleton.1 hx]; exact ⟨h0, h1⟩
/-- The scan to the next colon. -/
theorem six_l1 (s : ByteArray) (hs : s.size ≤ 1000) (L : List Int) (g : Int) (i : Nat) (p rest : List UInt8) (hd : (by_ s).drop i = p ++ rest) (hp : (58 : UInt8) ∉ p) (hrest : rest = [] ∨ ∃ r, rest = 58 :: r) (hi : i ≤ s.size) (res : Bool × Int × Int × Int)
    (h : Ev (fun k => ddiref02_six.j5 k s L g (i : Int) ((i + p.length : Nat) : Int)) res) : ∀ (d t : Nat), t + d = p.length → Ev (fun k => ddiref02_six.l1 k s L g (i : Int) ((i + t : Nat) : Int)) res
  | 0, t, ht => by
    obtain rfl : t = p.length := by omega
    have hdp := drop_add hd
    rcases hrest with rfl | ⟨r, rfl⟩
    · have := drop_nil hdp
      exact Ev.step (fun k => by rw [ddiref02_six.l1]) (ev_if_neg (by omega) h)
    · obtain ⟨h1, h2, _⟩ := bt_drop hdp
      exact Ev.step (fun k => by rw [ddiref02_six.l1]) (ev_if_pos (by omega) (ev_if_pos (by omega) (ev_if_pos (by rw [h2]; rfl) h)))
  | d + 1, t, ht => by
    have hlt : t < p.length := by omega
    have hdt : (by_ s).drop (i + t) = p[t] :: (p.drop (t + 1) ++ rest) := by
      rw [← List.drop_drop, hd, List.drop_append_of_le_length (by omega), List.drop_eq_getElem_cons hlt, List.cons_append]
    obtain ⟨h1, h2, _⟩ := bt_drop hdt
    have hne : ¬ bt s ((i + t : Nat) : Int) = 58 := by
      rw [h2]
      intro e
      have h58 : (58 : UInt8).toNat = 58 := rfl
      have : p[t] = 58 := UInt8.toNat_inj.1 (by omega)
      exact hp (this ▸ List.getElem_mem hlt)
    have e1 : wrap64 (((i + t : Nat) : Int) + 1) = ((i + (t + 1) : Nat) : Int) := by unfold wrap64; omega
    refine Ev.step (fun k => by rw [ddiref02_six.l1]) (ev_if_pos (by omega) (ev_if_pos (by omega) (ev_if_neg hne ?_)))
    rw [e1]
    exact six_l1 s hs L g i p rest hd hp hrest hi res h d (t + 1) (by omega)
theorem split_cases (r : List UInt8) : ∃ p rest, r = p ++ rest ∧ (58 : UInt8) ∉ p ∧ ((rest = [] ∧ splitC 58 r = [p]) ∨ ∃ r2, rest = 58 :: r2 ∧ splitC 58 r = p :: splitC 58 r2) := by
  by_cases h : (58 : UInt8) ∈ r
  · obtain ⟨p, r2, e, hp⟩ := first_of h
    exact ⟨p, 58 :: r2, e, hp, .inr ⟨r2, rfl, by rw [e]; exact splitC_piece 58 p r2 hp⟩⟩
  · exact ⟨r, [], by simp, h, .inl ⟨rfl, splitC_last 58 r h⟩⟩
theorem grp_nil : grp [] = none := rfl
def SixAt (s : ByteArray) (r : List UInt8) : Prop := ∀ (i : Nat) (L : List Int) (g : Int), (by_ s).drop i = r → i ≤ s.size → L.length ≤ 8 → okL L → (g = -1 ∨ 0 ≤ g) → g ≤ L.length →
    Ev (fun k => ddiref02_six.l0 k s L g (i : Int) true) (finS (runF grp (splitC 58 r) L g))
theorem neB {a b : Int} (h : a ≠ b) : (a == b) = false := beq_eq_false_iff_ne.2 h
/-- Behind a colon. -/
theorem six_colon (s : ByteArray) (hs : s.size ≤ 900) (r2 : List UInt8) (ih : ∀ r', r'.length ≤ r2.length → SixAt s r') (p : List UInt8) (j : Nat) (L : List Int) (g m : Int)
    (hj : j < s.size) (hd : (by_ s).drop (j + 1) = r2) (hm : grp p = some m) (h8 : ¬ L.length = 8) (hL : L.length ≤ 8) (hok : okL (L ++ [m])) (hg : g = -1 ∨ 0 ≤ g) (hgl : g ≤ L.length) :
    Ev (fun k => ddiref02_six.j7 k s (L ++ [m]) g ((j + 1 : Nat) : Int) true (((j + 1 : Nat) : Int) == (s.size : Int))) (finS (runF grp (p :: splitC 58 r2) L g)) := by
  have hl' : (L ++ [m]).length = L.length + 1 := by simp
  cases r2 with
  | nil =>
    have hsz := drop_nil hd
    rw [show splitC 58 ([] : List UInt8) = [[]] from rfl, runF_end grp p L g m hm h8, show (((j + 1 : Nat) : Int) == (s.size : Int)) = true from beq_iff_eq.2 (by omega)]
    refine Ev.step (fun k => by rw [ddiref02_six.j7]) (ev_if_pos rfl ?_)
    exact Ev.now _
  | cons c r3 =>
    obtain ⟨h4, h5, h6⟩ := bt_drop hd
    rw [neB (show ((j + 1 : Nat) : Int) ≠ (s.size : Int) by omega)]
    refine Ev.step (fun k => by rw [ddiref02_six.j7]) (ev_if_neg (by simp) (ev_if_pos rfl (ev_if_pos (by omega) (ev_if_pos (by omega) ?_))))
    rw [h5]
    by_cases hc : c = 58
    · subst hc
      rw [show (((58 : UInt8).toNat : Int) == 58) = true from rfl]
      refine Ev.step (fun k => by rw [ddiref02_six.j8]) (ev_if_pos rfl ?_)
      have hs2 : splitC 58 (58 :: r3) = [] :: splitC 58 r3 := by rw [splitC, if_pos rfl]
      obtain ⟨q, qs, hq⟩ : ∃ q qs, splitC 58 r3 = q :: qs := by
        cases hh : splitC 58 r3 with
        | nil => exact absurd hh (splitC_ne _ _)
        | cons q qs => exact ⟨q, qs, rfl⟩
      by_cases hg0 : g ≥ 0
      · rw [hs2, hq, runF_pair grp p L g m q qs hm h8 hg0]
        refine ev_if_pos hg0 ?_
        exact Ev.now _
      · refine ev_if_neg hg0 ?_
        have e2 : wrap64 (((j + 1 : Nat) : Int) + 1) = ((j + 1 + 1 : Nat) : Int) := by unfold wrap64; omega
        rw [e2]
        by_cases h3 : r3 = []
        · subst h3
          have hsz := drop_nil h6
          rw [hs2, show splitC 58 ([] : List UInt8) = [[]] from rfl, runF_gap_end grp p L g m hm h8 hg0, show decide (((j + 1 + 1 : Nat) : Int) < (s.size : Int)) = false from decide_eq_false (by omega)]
          exact fin_ev s _ _ _ (.inr (by omega)) (Int.le_refl _) (okL_rd (okL_vg hok _))
        · have hne : ¬ isE (q :: qs) = true := fun hh => h3 (isE_split.1 (by rw [hq]; exact hh))
          have h7 : j + 1 + 1 < s.size := by
            cases r3 with
            | nil => exact absurd rfl h3
            | cons c2 r4 => exact (bt_drop h6).1
          rw [hs2, hq, runF_gap_on grp p L g m q qs hm h8 hg0 hne, ← hq, show decide (((j + 1 + 1 : Nat) : Int) < (s.size : Int)) = true from decide_eq_true (by omega)]
          exact ih r3 (by simp) (j + 1 + 1) (L ++ [m]) _ h6 (by omega) (by omega) hok (.inr (by omega)) (Int.le_refl _)
    · rw [neB (show (c.toNat : Int) ≠ 58 by
        intro e
        have h58 : (58 : UInt8).toNat = 58 := rfl
        exact hc (UInt8.toNat_inj.1 (by omega)))]
      refine Ev.step (fun k => by rw [ddiref02_six.j8]) (ev_if_neg (by simp) ?_)
      obtain ⟨q, qs, hq⟩ : ∃ q qs, splitC 58 r3 = q :: qs := by
        cases hh : splitC 58 r3 with
        | nil => exact absurd hh (splitC_ne _ _)
        | cons q qs => exact ⟨q, qs, rfl⟩
      have hs2 : splitC 58 (c :: r3) = (c :: q) :: qs := splitC_cons_ne hc hq
      rw [hs2, runF_next grp p L g m (c :: q) qs hm h8 (by simp), ← hs2]
      exact ih (c :: r3) (Nat.le_refl _) (j + 1) (L ++ [m]) g hd (by omega) (by omega) hok hg (by omega)
theorem six_main (s : ByteArray) (hs : s.size ≤ 900) : ∀ (N : Nat) (r : List UInt8), r.length < N → SixAt s r := by
  intro N
  induction N with
  | zero => intro r hN; omega
  | succ N ih =>
    intro r hN i L g hd hi hL hok hg hgl
    obtain ⟨p, rest, hr, hp, hcase⟩ := split_cases r
    have hd' : (by_ s).drop i = p ++ rest := by rw [hd, hr]
    have hrest : rest = [] ∨ ∃ r, rest = 58 :: r := by
      rcases hcase with h | ⟨r2, h, _⟩
      · exact .inl h.1
      · exact .inr ⟨r2, h⟩
    have hlen := by_length s
    have hle : i + p.length ≤ s.size := by
      have := congrArg List.length hd'
      rw [List.length_drop, List.length_append] at this
      omega
    have hF : ∃ ps, splitC 58 r = p :: ps := by
      rcases hcase with h | ⟨r2, _, h⟩
      · exact ⟨_, h.2⟩
      · exact ⟨_, h⟩
    refine Ev.step (fun k => by rw [ddiref02_six.l0]) (ev_if_pos rfl ?_)
    refine six_l1 s (by omega) L g i p rest hd' hp hrest hi _ ?_ p.length 0 (by omega)
    refine Ev.step (fun k => by rw [ddiref02_six.j5]) (ev_if_pos (by omega) (ev_if_pos (by omega) (ev_if_pos (by omega) ?_)))
    have hb : by_ (s.extract (i : Int).toNat ((i + p.length : Nat) : Int).toNat) = p := by
      rw [by_extract, Int.toNat_natCast, Int.toNat_natCast, hd', List.take_append_of_le_length (by omega), List.take_of_length_le (by omega)]
    refine Ev.bind (ref_group_ev _) ?_
    rw [hb]
    have bad : Ev (fun k => ddiref02_six.j6 k s L g ((i + p.length : Nat) : Int) (pkg (grp p)).1 true) (false, 0, 0, 3) := Ev.step (fun k => by rw [ddiref02_six.j6]) (ev_if_pos rfl (Ev.now _))
    obtain ⟨ps, hps⟩ := hF
    cases hm : grp p with
    | none =>
      rw [hm] at bad
      rw [hps, runF_bad grp p L g ps hm]
      exact ev_if_neg (by simp [pkg]) bad
    | some m =>
      have hmr := grp_range hm
      rw [hm] at bad
      refine ev_if_pos rfl ?_
      by_cases h8 : L.length = 8
      · rw [hps, runF_full grp p L g ps h8, show ((L.length : Int) == 8) = true from beq_iff_eq.2 (by omega)]
        exact bad
      · rw [neB (show (L.length : Int) ≠ 8 by omega)]
        have hok' := okL_snoc hok hmr.1 hmr.2
        have hl' : (L ++ [m]).length = L.length + 1 := by simp
        refine Ev.step (fun k => by rw [ddiref02_six.j6]) (ev_if_neg (by simp) (ev_if_pos (by omega) ?_))
        refine ev_bind_const (a := L ++ [m]) rfl ?_
        rcases hcase with ⟨hz, hsp⟩ | ⟨r2, hz, hsp⟩
        · rw [hz] at hd'
          have hsz : s.size ≤ i + p.length := drop_nil (drop_add hd')
          have hnl : ¬ ((i + p.length : Nat) : Int) < (s.size : Int) := fun c => absurd (Int.ofNat_lt.1 c) (Nat.not_lt.2 hsz)
          have hgl' : g ≤ ((L ++ [m]).length : Int) := by rw [hl']; clear hsz hnl; omega
          rw [hsp, runF_one grp p L g m hm h8, decide_eq_false hnl]
          refine ev_if_neg hnl ?_
          refine Ev.step (fun k => by rw [ddiref02_six.j7]) (ev_if_neg (by simp) (ev_if_neg (by simp) ?_))
          refine Ev.step (fun k => by rw [ddiref02_six.j8]) (ev_if_neg (by simp) ?_)
          exact fin_ev s _ g _ hg hgl' (okL_rd (okL_vg hok' g))
        · rw [hz] at hd' hr
          obtain ⟨h1, _, h3⟩ := bt_drop (drop_add hd')
          have hrl : r2.length < r.length := by rw [hr, List.length_append, List.length_cons]; omega
          have hlt : ((i + p.length : Nat) : Int) < (s.size : Int) := Int.ofNat_lt.2 h1
          have e1 : wrap64 (((i + p.length : Nat) : Int) + 1) = ((i + p.length + 1 : Nat) : Int) := by unfold wrap64; omega
          rw [hsp, decide_eq_true hlt, e1]
          refine ev_if_pos hlt ?_
          exact six_colon s hs r2 (fun r' hr' => ih r' (by omega)) p (i + p.length) L g m h1 h3 hm h8 hL hok' hg hgl
/-- What the reference's reader of IPv6 texts comes to. -/
def refV (l : List UInt8) : Option (List Int × Int) :=
  if l.take 2 = [58, 58] then (if l.drop 2 = [] then some ([], 0) else runF grp (splitC 58 (l.drop 2)) [] 0) else runF grp (splitC 58 l) [] (-1)
theorem okL_nil : okL [] := by intro x hx; simp at hx
theorem ref_six_ev (s : ByteArray) (hs : s.size ≤ 900) : Ev (fun k => ddiref02_six.f k s) (finS (refV (by_ s))) := by
  have hl := by_length s
  have plain : Ev (fun k => ddiref02_six.j0 k s [] (-1) 0 false) (finS (runF grp (splitC 58 (by_ s)) [] (-1))) := by
    have h := six_main s hs ((by_ s).length + 1) (by_ s) (by omega) 0 [] (-1) rfl (by omega) (by simp) okL_nil (.inl rfl) (by simp)
    refine Ev.step (fun k => by rw [ddiref02_six.j0]) (ev_if_neg (by simp) ?_)
    refine Ev.step (fun k => by rw [ddiref02_six.j1]) ?_
    by_cases h0 : (0 : Int) < (s.size : Int)
    · refine ev_if_pos h0 ?_
      exact Ev.step (fun k => by rw [ddiref02_six.j2]; rfl) h
    · refine ev_if_neg h0 ?_
      exact Ev.step (fun k => by rw [ddiref02_six.j2]; rfl) h
  unfold ddiref02_six.f refV
  match hb : by_ s with
  | [] =>
    rw [hb] at hl plain
    rw [if_neg (by simp)]
    exact ev_if_neg (by simp at hl; omega) plain
  | [a] =>
    rw [hb] at hl plain
    rw [if_neg (by simp)]
    exact ev_if_neg (by simp at hl; omega) plain
  | a :: b :: r =>
    rw [hb] at hl plain
    simp only [List.length_cons] at hl
    obtain ⟨h1, h2, h3⟩ := bt_drop (s := s) (i := 0) (by rw [hb]; rfl)
    obtain ⟨h4, h5, h6⟩ := bt_drop (s := s) (i := 1) h3
    have hb0 : bt s 0 = (a.toNat : Int) := h2
    have hb1 : bt s 1 = (b.toNat : Int) := h5
    have h58 : (58 : UInt8).toNat = 58 := rfl
    refine ev_if_pos (by omega) (ev_if_pos (by omega) ?_)
    rw [hb0, hb1]
    by_cases ha : a = 58
    · refine ev_if_pos (by rw [ha]; rfl) (ev_if_pos (by omega) ?_)
      by_cases hbb : b = 58
      · subst ha hbb
        rw [show (((58 : UInt8).toNat : Int) == 58) = true from rfl, if_pos (by rfl)]
        refine Ev.step (fun k => by rw [ddiref02_six.j0]) (ev_if_pos rfl ?_)
        refine Ev.step (fun k => by rw [ddiref02_six.j1]) ?_
        have hd2 : (by_ s).drop 2 = r := by rw [hb]; rfl
        show Ev _ (finS (if r = [] then some ([], 0) else runF grp (splitC 58 r) [] 0))
        by_cases hr : r = []
        · rw [if_pos hr]
          subst hr
          simp only [List.length_nil] at hl
          refine ev_if_neg (by omega) ?_
          refine Ev.step (fun k => by rw [ddiref02_six.j2]) ?_
          exact fin_ev s [] 0 2 (.inr (by omega)) (by simp) (okL_rd (okL_vg okL_nil 0))
        · rw [if_neg hr]
          have hsz : 2 < s.size := by
            cases r with
            | nil => exact absurd rfl hr
            | cons c r => simp at hl; omega
          refine ev_if_pos (by omega) ?_
          refine Ev.step (fun k => by rw [ddiref02_six.j2]) ?_
          exact six_main s hs (r.length + 1) r (by omega) 2 [] 0 hd2 (by omega) (by simp) okL_nil (.inr (by omega)) (by simp)
      · rw [neB (show (b.toNat : Int) ≠ 58 from fun e => hbb (UInt8.toNat_inj.1 (by omega))), if_neg (by simp [hbb])]
        exact plain
    · refine ev_if_neg (fun e => ha (UInt8.toNat_inj.1 (by omega))) ?_
      rw [if_neg (by simp [ha])]
      exact plain
end Go.Proofs.YteflcmmandlknaaGreatDoor.AddrP
