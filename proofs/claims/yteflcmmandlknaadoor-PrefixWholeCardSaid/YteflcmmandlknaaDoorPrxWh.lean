/-
  The law PrefixWhole, told with numbers. Conditions: each theorem's own.
-/
import Derived.Test.YteflcmmandlknaaDoorPAx13
import Derived.Test.YteflcmmandlknaaDoorPAx18
import Derived.Test.YteflcmmandlknaaDoorPrxCv
import Derived.Test.YteflcmmandlknaaDoorPrxH
namespace Go.Proofs.YteflcmmandlknaaDoor.PrxWh
open Go.RowKit Go.Proofs.YteflcmmandlknaaDoorW.PrintWords Go.Proofs.YteflcmmandlknaaDoor.Num Go.Proofs.YteflcmmandlknaaDoor.PrxN Go.Proofs.YteflcmmandlknaaDoor.PrxS Go.Proofs.YteflcmmandlknaaDoor.PrxT Go.Proofs.YteflcmmandlknaaDoor.PrxH Go.Proofs.YteflcmmandlknaaDoor.PrxCv Go.Proofs.YteflcmmandlknaaDoor.PA
set_option linter.unusedVariables false
set_option linter.unusedSimpArgs false
set_option maxRecDepth 100000

/-- Where block i begins, and where the last one ends. -/
def pos (R : Nat) : List (Nat × Nat) → Nat → Nat
  | [], _ => R + 1
  | p :: _, 0 => p.1
  | _ :: t, i + 1 => pos R t i
theorem cov_head {l R N : Nat} {t : List (Nat × Nat)} (h : Cov l R N t) : pos R t 0 = N := by cases h <;> rfl
theorem cov_end {R : Nat} : ∀ (t : List (Nat × Nat)), pos R t t.length = R + 1
  | [] => rfl
  | _ :: t => cov_end t
theorem pos_get {R : Nat} : ∀ (t : List (Nat × Nat)) (i : Nat) (p : Nat × Nat), t[i]? = some p → pos R t i = p.1
  | [], i, p, h => by simp at h
  | q :: t, 0, p, h => by simp at h; subst h; rfl
  | q :: t, i + 1, p, h => by
    simp only [List.getElem?_cons_succ] at h
    exact pos_get t i p h
theorem cov_at {l R : Nat} : ∀ {N : Nat} {t : List (Nat × Nat)}, Cov l R N t → ∀ (i : Nat) (p : Nat × Nat), t[i]? = some p → Blk l R p.1 p.2 ∧ p.1 + 2 ^ p.2 = pos R t (i + 1) ∧ N ≤ p.1 ∧ (i ≠ 0 → N < p.1)
  | _, _, .last (N := N) (j := j) b e, i, p, h => by
    cases i with
    | zero =>
      simp at h
      subst h
      exact ⟨b, e, Nat.le_refl _, fun h => absurd rfl h⟩
    | succ i => simp at h
  | _, _, .cons (N := N) (j := j) (t := t) b e hc, i, p, h => by
    have hp : 0 < 2 ^ j := Nat.pow_pos (by decide)
    cases i with
    | zero =>
      simp at h
      subst h
      exact ⟨b, (cov_head hc).symm, Nat.le_refl _, fun h => absurd rfl h⟩
    | succ i =>
      simp only [List.getElem?_cons_succ] at h
      obtain ⟨h1, h2, h3, _⟩ := cov_at hc i p h
      exact ⟨h1, h2, by omega, fun _ => by omega⟩
theorem rd_at (v : Bool) (t : List (Nat × Nat)) (i : Nat) (p : Nat × Nat) (h : t[i]? = some p) : rd_T26 (t.map (pf v)) (i : Int) = pf v p := by
  unfold rd_T26
  simp [rdOf, List.getElem?_map, h]
section
variable {K0 : Nat} (haw : ∀ m, K0 ≤ m → ddilaw03_awake.f m = some true)
include haw
theorem j2_ev (c : Int) (b : Bool) (h : c = if b = true then 1 else 0) : Ev (fun k => ddilaw03_PrefixWhole.j2 k c b) true := by
  have he : Ev (fun k => ddilaw03_awake.f k) true := ⟨K0, haw⟩
  refine Ev.step (fun k => by rw [ddilaw03_PrefixWhole.j2]) ?_
  cases b
  · exact ev_if_neg (by decide) (ev_if_pos h (Ev.bind he (Ev.now _)))
  · exact ev_if_pos rfl (ev_if_pos h (Ev.bind he (Ev.now _)))
/-- The end of the loop. -/
theorem end_ev (l : List S26) (c i : Int) (hi : ¬ i < (l.length : Int)) (v : Bool) (F : Nat) (v' : Bool) (R : Nat) (va : Bool) (A : Nat) (g : F < M128) (g' : R < M128) (ga : A < M128)
    (h : c = if (F < 2 ^ L v ∧ R < 2 ^ L v' ∧ A < 2 ^ L va ∧ v = va ∧ v' = va ∧ F ≤ A ∧ A ≤ R) then 1 else 0) : Ev (fun k => ddilaw03_PrefixWhole.l0 k l c i v (iH F) (iL F) v' (iH R) (iL R) va (iH A) (iL A)) true := by
  have no : ¬ (F < 2 ^ L v ∧ R < 2 ^ L v' ∧ A < 2 ^ L va ∧ v = va ∧ v' = va ∧ F ≤ A ∧ A ≤ R) → Ev (fun k => ddilaw03_PrefixWhole.j2 k c false) true := fun q => j2_ev haw c false (by rw [h, if_neg q]; rfl)
  refine Ev.step (fun k => by rw [ddilaw03_PrefixWhole.l0]) (ev_if_neg hi ?_)
  refine ev_bind_const (addr_Valid_eq v F g) ?_
  by_cases c1 : F < 2 ^ L v
  · refine ev_if_pos (decide_eq_true c1) (ev_bind_const (addr_Valid_eq v' R g') ?_)
    by_cases c2 : R < 2 ^ L v'
    · refine ev_if_pos (decide_eq_true c2) (ev_bind_const (addr_Valid_eq va A ga) ?_)
      by_cases c3 : A < 2 ^ L va
      · refine ev_if_pos (decide_eq_true c3) ?_
        by_cases c4 : v = va
        · refine ev_if_pos (by simpa using c4) ?_
          by_cases c5 : v' = va
          · refine ev_if_pos (by simpa using c5) ?_
            subst c4
            subst c5
            have hc1 : ∀ k, addr_Compare.f (k + 1) v' (iH F) (iL F) v' (iH A) (iL A) = some (cmpA v' F v' A) := fun k => cmpA_eq k _ _ _ _
            have hc2 : ∀ k, addr_Compare.f (k + 1) v' (iH A) (iL A) v' (iH R) (iL R) = some (cmpA v' A v' R) := fun k => cmpA_eq k _ _ _ _
            have le : ∀ x y : Nat, cmpA v' x v' y ≤ 0 ↔ x ≤ y := fun x y => by
              unfold cmpA
              rw [if_pos rfl]
              by_cases w : x < y
              · rw [if_pos w]; exact ⟨fun _ => by omega, fun _ => by decide⟩
              · rw [if_neg w]
                by_cases w2 : y < x
                · rw [if_pos w2]; exact ⟨fun q => absurd q (by decide), fun _ => by omega⟩
                · rw [if_neg w2]; exact ⟨fun _ => by omega, fun _ => by decide⟩
            refine Ev.bind (ev_of_eq 1 hc1) ?_
            by_cases c6 : F ≤ A
            · refine ev_if_pos ((le _ _).mpr c6) (Ev.bind (ev_of_eq 1 hc2) ?_)
              by_cases c7 : A ≤ R
              · rw [decide_eq_true ((le _ _).mpr c7)]
                exact j2_ev haw c true (by rw [h, if_pos ⟨c1, c2, c3, rfl, rfl, c6, c7⟩]; rfl)
              · rw [decide_eq_false (fun q => c7 ((le _ _).mp q))]
                exact no (fun q => c7 q.2.2.2.2.2.2)
            · exact ev_if_neg (fun q => c6 ((le _ _).mp q)) (no (fun q => c6 q.2.2.2.2.2.1))
          · exact ev_if_neg (by simpa using c5) (no (fun q => c5 q.2.2.2.2.1))
        · exact ev_if_neg (by simpa using c4) (no (fun q => c4 q.2.2.2.1))
      · exact ev_if_neg (by rw [decide_eq_false c3]; decide) (no (fun q => c3 q.2.2.1))
    · exact ev_if_neg (by rw [decide_eq_false c2]; decide) (no (fun q => c2 q.2.1))
  · exact ev_if_neg (by rw [decide_eq_false c1]; decide) (no (fun q => c1 q.1))
/-- How many of the first blocks have the address. -/
def cnt (v va : Bool) (F A P : Nat) : Int := if v = va ∧ F ≤ A ∧ A < P then 1 else 0
omit haw in
theorem wh_vp {v : Bool} {R N j : Nat} (hR : R < 2 ^ L v) (b : Blk (L v) R N j) : VP v N ((L v - j : Nat) : Int) ∧ L v - ((L v - j : Nat) : Int).toNat = j := by
  have hp : 0 < 2 ^ j := Nat.pow_pos (by decide)
  have h1 := b.le
  have h2 := b.fit
  have e : L v - ((L v - j : Nat) : Int).toNat = j := by omega
  exact ⟨⟨by omega, by omega, by omega, by rw [e]; exact b.al⟩, e⟩
omit haw in
theorem div_in {A N j : Nat} (h : N % 2 ^ j = 0) : A / 2 ^ j = N / 2 ^ j ↔ N ≤ A ∧ A < N + 2 ^ j := by
  have hp : 0 < 2 ^ j := Nat.pow_pos (by decide)
  obtain ⟨q, rfl⟩ := Nat.dvd_of_mod_eq_zero h
  rw [Nat.mul_div_cancel_left _ hp]
  generalize 2 ^ j = p at *
  rw [Nat.div_eq_iff hp, Nat.mul_comm q p]
  constructor <;> intro h <;> omega
omit haw in
theorem wh_ct {v : Bool} {R N j : Nat} (hR : R < 2 ^ L v) (b : Blk (L v) R N j) (va : Bool) (A : Nat) : CT v N ((L v - j : Nat) : Int) va A ↔ v = va ∧ N ≤ A ∧ A < N + 2 ^ j := by
  obtain ⟨h1, h2⟩ := wh_vp hR b
  have hf := b.fit
  rw [ct_iff h1, h2, div_in b.al]
  constructor
  · rintro ⟨a, _, c⟩; exact ⟨a, c⟩
  · rintro ⟨a, c⟩; exact ⟨a, by omega, c⟩
omit haw in
/-- One round's end: what follows the first block. -/
theorem j1_ev (v : Bool) (F R : Nat) (va : Bool) (A : Nat) (hR : R < 2 ^ L v) (hF : F ≤ R) (t : List (Nat × Nat)) (hc : Cov (L v) R F t) (hlen : t.length ≤ 257) (c : Int) (i : Nat) (p : Nat × Nat) (hp : t[i]? = some p)
    (h : Ev (fun k => ddilaw03_PrefixWhole.l0 k (t.map (pf v)) c ((i : Int) + 1) v (iH F) (iL F) v (iH R) (iL R) va (iH A) (iL A)) true) :
    Ev (fun k => ddilaw03_PrefixWhole.j1 k (t.map (pf v)) c (i : Int) v (iH F) (iL F) v (iH R) (iL R) va (iH A) (iL A)) true := by
  have hi : i < t.length := (List.getElem?_eq_some_iff.mp hp).1
  have ew : wrap64 ((i : Int) + 1) = (i : Int) + 1 := wrap64_id (by omega) (by omega)
  refine Ev.step (fun k => by rw [ddilaw03_PrefixWhole.j1]) ?_
  rw [ew]
  by_cases h0 : i = 0
  · subst h0
    exact ev_if_pos rfl h
  · obtain ⟨i, rfl⟩ : ∃ m, i = m + 1 := ⟨i - 1, by omega⟩
    obtain ⟨⟨N, j⟩, hq⟩ : ∃ q, t[i]? = some q := ⟨t[i], List.getElem?_eq_getElem (by omega)⟩
    obtain ⟨M, j'⟩ := p
    obtain ⟨b1, e1, f1, _⟩ := cov_at hc i _ hq
    obtain ⟨b2, e2, f2, f3⟩ := cov_at hc (i + 1) _ hp
    simp only at b1 e1 f1 b2 e2 f2 f3
    have hM : N + 2 ^ j = M := by rw [e1, pos_get t (i + 1) _ hp]
    have hp1 : 0 < 2 ^ j := Nat.pow_pos (by decide)
    have hp2 : 0 < 2 ^ j' := Nat.pow_pos (by decide)
    have hL := L_le v
    have hM8 := pow_L v
    have fit1 := b1.fit
    have fit2 := b2.fit
    have hj' : j' < L v := by
      rcases Nat.lt_or_ge j' (L v) with w | w
      · exact w
      · have hh : j' = L v := by have := b2.le; omega
        have := b2.al
        rw [hh, Nat.mod_eq_of_lt (by omega)] at this
        omega
    have g1 : N < M128 := by omega
    have g2 : M < M128 := by omega
    have ew2 : wrap64 (((i + 1 : Nat) : Int) - 1) = (i : Int) := by rw [wrap64_id (by omega) (by omega)]; omega
    have r1 : rd_T26 (t.map (pf v)) (i : Int) = pf v (N, j) := rd_at v t i _ hq
    have r2 : rd_T26 (t.map (pf v)) ((i + 1 : Nat) : Int) = pf v (M, j') := rd_at v t (i + 1) _ hp
    have hlt : ((i + 1 : Nat) : Int) < ((t.map (pf v)).length : Int) := by rw [List.length_map]; omega
    have hlt' : (i : Int) < ((t.map (pf v)).length : Int) := by rw [List.length_map]; omega
    rw [r2, ew2, r1]
    have eb : wrap64 (((L v - j' : Nat) : Int) - 1) = ((L v - (j' + 1) : Nat) : Int) := by
      rw [wrap64_id (by omega) (by omega)]
      omega
    show Ev (fun k => if ((i + 1 : Nat) : Int) = 0 then _ else if (0 : Int) ≤ ((i + 1 : Nat) : Int) then if ((i + 1 : Nat) : Int) < ((t.map (pf v)).length : Int) then ((prefix_Of.f v (iH M) (iL M) (wrap64 (((L v - j' : Nat) : Int) - 1))).bind fun bt => _) else none else none) true
    refine ev_if_neg (by omega) (ev_if_pos (by omega) (ev_if_pos hlt ?_))
    rw [eb]
    have ho := Of_eq v M ((L v - (j' + 1) : Nat) : Int) g2
    have e3 : L v - ((L v - (j' + 1) : Nat) : Int).toNat = j' + 1 := by omega
    have ho' : OfS v M ((L v - (j' + 1) : Nat) : Int) = (v, iH (M - M % 2 ^ (j' + 1)), iL (M - M % 2 ^ (j' + 1)), ((L v - (j' + 1) : Nat) : Int), true) := by
      have : OfS v M ((L v - (j' + 1) : Nat) : Int) = _ := if_pos ⟨by omega, by omega, by omega⟩
      rw [this, e3]
    rw [ho'] at ho
    refine ev_bind_const ho ?_
    have hU : VP v (M - M % 2 ^ (j' + 1)) ((L v - (j' + 1) : Nat) : Int) := by
      refine ⟨by omega, by omega, by omega, ?_⟩
      rw [e3]
      have := Nat.div_add_mod M (2 ^ (j' + 1))
      rw [show M - M % 2 ^ (j' + 1) = 2 ^ (j' + 1) * (M / 2 ^ (j' + 1)) by omega]
      exact Nat.mul_mod_right _ _
    have hh : ∀ k, prefix_Halves.f (k + 2) v (iH (M - M % 2 ^ (j' + 1))) (iL (M - M % 2 ^ (j' + 1))) ((L v - (j' + 1) : Nat) : Int) = some (v, iH (M - M % 2 ^ (j' + 1)), iL (M - M % 2 ^ (j' + 1)), ((L v - (j' + 1) : Nat) : Int) + 1, v, iH (halfN v (M - M % 2 ^ (j' + 1)) ((L v - (j' + 1) : Nat) : Int) 1), iL (halfN v (M - M % 2 ^ (j' + 1)) ((L v - (j' + 1) : Nat) : Int) 1), ((L v - (j' + 1) : Nat) : Int) + 1, true) := fun k => by
      rw [Halves_eq k v _ _ (by omega)]
      congr 1
      exact if_pos ⟨hU, by omega⟩
    refine Ev.bind (ev_of_eq 2 hh) (ev_if_pos (by omega) (ev_if_pos hlt' ?_))
    have hcp : ∀ k, prefix_Compare.f (k + 1) v (iH N) (iL N) ((L v - j : Nat) : Int) v (iH M) (iL M) ((L v - j' : Nat) : Int) = some (-1) := fun k => by
      have hA : cmpA v N v M = -1 := by
        unfold cmpA
        rw [if_pos rfl, if_pos (by omega)]
      rw [cmpP_eq]
      unfold cmpP
      rw [hA]
      rfl
    refine Ev.bind (ev_of_eq 1 hcp) (ev_if_neg (by decide) ?_)
    obtain ⟨V1, E1⟩ := wh_vp hR b1
    obtain ⟨V2, E2⟩ := wh_vp hR b2
    have no1 : ¬ WI v N ((L v - j : Nat) : Int) v M ((L v - j' : Nat) : Int) := fun w => by
      rw [wi_iff V1 V2, E2, div_in b2.al] at w
      omega
    have no2 : ¬ WI v M ((L v - j' : Nat) : Int) v N ((L v - j : Nat) : Int) := fun w => by
      rw [wi_iff V2 V1, E1, div_in b1.al] at w
      omega
    have hov := Overlap_eq v N ((L v - j : Nat) : Int) v M ((L v - j' : Nat) : Int) g1 g2
    rw [decide_eq_false (fun w => w.elim no1 no2)] at hov
    refine ev_bind_const hov (ev_if_neg (by decide) (ev_if_pos rfl (ev_if_neg ?_ h)))
    show ¬ ((v == v && (iH (M - M % 2 ^ (j' + 1)) == iH N && (iL (M - M % 2 ^ (j' + 1)) == iL N))) && (((L v - (j' + 1) : Nat) : Int) + 1 == ((L v - j : Nat) : Int))) = true
    rw [eqB]
    intro w
    obtain ⟨_, w1, w2⟩ := of_decide_eq_true w
    have hjj : j = j' := by have := b1.le; omega
    subst hjj
    refine b1.max ⟨?_, by omega, ?_⟩
    · have := hU.2.2.2
      rw [e3, w1] at this
      exact this
    · rw [Nat.pow_succ]
      omega
theorem loop_ev (v : Bool) (F R : Nat) (va : Bool) (A : Nat) (ga : A < M128) (hR : R < 2 ^ L v) (hF : F ≤ R) (t : List (Nat × Nat)) (hc : Cov (L v) R F t) (hlen : t.length ≤ 257) : ∀ (d i : Nat), i + d = t.length →
    Ev (fun k => ddilaw03_PrefixWhole.l0 k (t.map (pf v)) (cnt v va F A (pos R t i)) (i : Int) v (iH F) (iL F) v (iH R) (iL R) va (iH A) (iL A)) true
  | 0, i, hi => by
    have hM8 := pow_L v
    have : i = t.length := by omega
    subst this
    rw [cov_end]
    refine end_ev haw _ _ _ (by rw [List.length_map]; omega) v F v R va A (by omega) (by omega) ga ?_
    unfold cnt
    have hpv := pow_L va
    by_cases w : v = va ∧ F ≤ A ∧ A < R + 1
    · rw [if_pos w, if_pos]
      obtain ⟨rfl, w2, w3⟩ := w
      exact ⟨by omega, hR, by omega, rfl, rfl, w2, by omega⟩
    · rw [if_neg w, if_neg]
      rintro ⟨_, _, _, a, _, b, c⟩
      exact w ⟨a, b, by omega⟩
  | d + 1, i, hi => by
    have hM8 := pow_L v
    obtain ⟨⟨N, j⟩, hq⟩ : ∃ q, t[i]? = some q := ⟨t[i], List.getElem?_eq_getElem (by omega)⟩
    obtain ⟨b1, e1, f1, _⟩ := cov_at hc i _ hq
    simp only at b1 e1 f1
    have hp1 : 0 < 2 ^ j := Nat.pow_pos (by decide)
    have fit1 := b1.fit
    have hpos := pos_get (R := R) t i _ hq
    simp only at hpos
    have ih := loop_ev v F R va A ga hR hF t hc hlen d (i + 1) (by omega)
    have r1 : rd_T26 (t.map (pf v)) (i : Int) = pf v (N, j) := rd_at v t i _ hq
    have hj : ∀ c, c = cnt v va F A (pos R t (i + 1)) → Ev (fun k => ddilaw03_PrefixWhole.j1 k (t.map (pf v)) c (i : Int) v (iH F) (iL F) v (iH R) (iL R) va (iH A) (iL A)) true := fun c e => by
      subst e
      refine j1_ev v F R va A hR hF t hc hlen _ i _ hq ?_
      rwa [show ((i : Int) + 1) = ((i + 1 : Nat) : Int) by omega]
    refine Ev.step (fun k => by rw [ddilaw03_PrefixWhole.l0]) (ev_if_pos (by rw [List.length_map]; omega) (ev_if_pos (by omega) ?_))
    rw [r1]
    have hct := Contains_eq v N ((L v - j : Nat) : Int) va A (by omega) ga
    refine ev_bind_const hct ?_
    have hiff := wh_ct hR b1 va A
    rw [hpos]
    by_cases w : CT v N ((L v - j : Nat) : Int) va A
    · refine ev_if_pos (decide_eq_true w) (hj _ ?_)
      obtain ⟨w1, w2, w3⟩ := hiff.mp w
      unfold cnt
      rw [if_neg (by omega), if_pos ⟨w1, by omega, by omega⟩, wrap64_id (by decide) (by decide)]
      rfl
    · refine ev_if_neg (by rw [decide_eq_false w]; decide) (hj _ ?_)
      unfold cnt
      by_cases w2 : v = va ∧ F ≤ A ∧ A < N
      · rw [if_pos w2, if_pos ⟨w2.1, w2.2.1, by omega⟩]
      · rw [if_neg w2, if_neg]
        rintro ⟨a, b, c⟩
        rcases Nat.lt_or_ge A N with q | q
        · exact w2 ⟨a, b, q⟩
        · exact w (hiff.mpr ⟨a, q, by omega⟩)
theorem whole_ev (v : Bool) (F : Nat) (v' : Bool) (R : Nat) (va : Bool) (A : Nat) (g : F < M128) (g' : R < M128) (ga : A < M128) : Ev (fun k => ddilaw03_PrefixWhole.f k v (iH F) (iL F) v' (iH R) (iL R) va (iH A) (iL A)) true := by
  unfold ddilaw03_PrefixWhole.f
  by_cases c : v = v' ∧ F ≤ R ∧ R < 2 ^ L v
  · obtain ⟨rfl, c2, c3⟩ := c
    obtain ⟨t, h1, h2, h3⟩ := cover_yes c3 c2
    refine Ev.bind h3 ?_
    have hl := loop_ev haw v F R va A ga c3 c2 t h1 h2 t.length 0 (by omega)
    rw [cov_head h1] at hl
    have : cnt v va F A F = 0 := if_neg (by omega)
    rw [this] at hl
    exact hl
  · refine Ev.bind (cover_no g g' c) ?_
    refine end_ev haw _ _ _ (by simp) v F v' R va A g g' ga ?_
    rw [if_neg]
    rintro ⟨a1, a2, a3, a4, a5, a6, a7⟩
    subst a4
    subst a5
    exact c ⟨rfl, by omega, a2⟩
end
end Go.Proofs.YteflcmmandlknaaDoor.PrxWh
