/-
  The reference reads a prefix as the program does. Conditions: each theorem's own.
-/
import Derived.Test.YteflcmmandlknaaGreatDoorPAx5
import Derived.Test.YteflcmmandlknaaGreatDoorPAx6
import Derived.Test.YteflcmmandlknaaGreatDoorPAx12
import Derived.Test.YteflcmmandlknaaGreatDoorPAx18
import Derived.Test.YteflcmmandlknaaGreatDoorPAx19
import Derived.Lib.AtoiAllCases
import Derived.Test.YteflcmmandlknaaGreatDoorAddrPf
import Derived.Test.YteflcmmandlknaaGreatDoorAddrTx
import Derived.Test.YteflcmmandlknaaGreatDoorPrxR
namespace Go.Proofs.YteflcmmandlknaaGreatDoor.PrxRd
open Go.RowKit Go.Proofs.YteflcmmandlknaaGreatDoorW.PrintWords Go.Proofs.YteflcmmandlknaaGreatDoor.Num Go.Proofs.YteflcmmandlknaaGreatDoor.AddrP Go.Proofs.YteflcmmandlknaaGreatDoor.PrxN Go.Proofs.YteflcmmandlknaaGreatDoor.PrxS Go.Proofs.YteflcmmandlknaaGreatDoor.PrxT Go.Proofs.YteflcmmandlknaaGreatDoor.PrxR Go.Proofs.YteflcmmandlknaaGreatDoor.PA
set_option linter.unusedVariables false
set_option linter.unusedSimpArgs false
set_option maxRecDepth 100000

def bs (l : List UInt8) : ByteArray := ⟨l.toArray⟩
theorem by_bs (l : List UInt8) : by_ (bs l) = l := by simp [by_, bs]
theorem bs_size (l : List UInt8) : (bs l).size = l.length := by simp [bs, ByteArray.size]
theorem bs_by (s : ByteArray) : bs (by_ s) = s := by
  apply ByteArray.ext
  simp [by_, bs]
/-- The value of decimal digits. -/
def numL : List UInt8 → Nat → Int × Bool
  | [], n => ((n : Int), true)
  | c :: r, n => if c.toNat < 48 then (0, false) else if c.toNat > 57 then (0, false) else numL r (10 * n + (c.toNat - 48))
def numS (l : List UInt8) : Int × Bool := if l.length < 1 ∨ l.length > 3 ∨ (l.head? = some 48 ∧ l.length > 1) then (0, false) else numL l 0
theorem number_l0 (s : ByteArray) (hs : s.size ≤ 3) : ∀ (r : List UInt8) (i n : Nat), (by_ s).drop i = r → n < 10 ^ i → Ev (fun k => ddiref03_number.l0 k s (n : Int) (i : Int)) (numL r n)
  | [], i, n, h, _ => by
    have := drop_nil h
    refine Ev.step (fun k => by rw [ddiref03_number.l0]) ?_
    refine ev_if_neg (by omega) ?_
    exact Ev.now _
  | c :: r, i, n, h, hn => by
    obtain ⟨h1, h2, h3⟩ := bt_drop h
    have hc := u8_range c
    have c1 : (i : Int) < (s.size : Int) := by omega
    have c2 : (0 : Int) ≤ (i : Int) := by omega
    have ew : wrap64 ((i : Int) + 1) = ((i + 1 : Nat) : Int) := by rw [wrap64_id (by omega) (by omega)]; omega
    have h100 : 10 ^ i ≤ 10 ^ 2 := Nat.pow_le_pow_right (by decide) (by omega)
    have e100 : (10 : Nat) ^ 2 = 100 := by decide
    refine Ev.step (fun k => by rw [ddiref03_number.l0]) ?_
    refine ev_if_pos c1 (ev_if_pos c2 ?_)
    rw [h2]
    unfold numL
    by_cases d1 : c.toNat < 48
    · rw [if_pos d1]
      exact ev_if_pos (by omega) (Ev.now _)
    · rw [if_neg d1]
      refine ev_if_neg (by omega) ?_
      by_cases d2 : c.toNat > 57
      · rw [if_pos d2]
        exact ev_if_pos (by omega) (Ev.now _)
      · rw [if_neg d2]
        refine ev_if_neg (by omega) ?_
        have e9 : wrap64 (wrap64 (10 * (n : Int)) + ((c.toNat : Int) - 48) % 256) = ((10 * n + (c.toNat - 48) : Nat) : Int) := by
          rw [wrap64_id (x := 10 * (n : Int)) (by omega) (by omega), wrap64_id (by omega) (by omega)]
          omega
        rw [e9, ew]
        exact number_l0 s hs r (i + 1) _ h3 (by rw [Nat.pow_succ]; omega)
theorem number_ev (s : ByteArray) : Ev (fun k => ddiref03_number.f k s) (numS (by_ s)) := by
  have hl := by_length s
  have hbad : Ev (fun k => ddiref03_number.j0 k s true) (0, false) := by
    refine Ev.step (fun k => by rw [ddiref03_number.j0]) ?_
    exact ev_if_pos rfl (Ev.now _)
  have hgood : s.size ≤ 3 → Ev (fun k => ddiref03_number.j0 k s false) (numL (by_ s) 0) := fun h => by
    refine Ev.step (fun k => by rw [ddiref03_number.j0]) ?_
    refine ev_if_neg (by decide) ?_
    exact number_l0 s h (by_ s) 0 0 (by simp) (by decide)
  unfold ddiref03_number.f numS
  by_cases c1 : (s.size : Int) < 1
  · rw [if_pos (Or.inl (by omega))]
    exact ev_if_pos c1 hbad
  · refine ev_if_neg c1 ?_
    by_cases c2 : (s.size : Int) > 3
    · rw [if_pos (Or.inr (Or.inl (by omega)))]
      exact ev_if_pos c2 hbad
    · refine ev_if_neg c2 (ev_if_pos (by omega) ?_)
      have hz := bt_zero (s := s) (by omega)
      by_cases c3 : bt s 0 = 48
      · refine ev_if_pos c3 ?_
        by_cases c4 : (s.size : Int) > 1
        · rw [decide_eq_true c4, if_pos (Or.inr (Or.inr ⟨hz.mp c3, by omega⟩))]
          exact hbad
        · rw [decide_eq_false c4, if_neg]
          · exact hgood (by omega)
          · rintro (q | q | ⟨_, q⟩) <;> omega
      · rw [if_neg]
        · exact ev_if_neg c3 (hgood (by omega))
        · rintro (q | q | ⟨q, _⟩)
          · omega
          · omega
          · exact c3 (hz.mpr q)
theorem itoa_num : ∀ i : Fin 129, numS (Lib.itoa (i.val : Int)) = ((i.val : Int), true) ∧ Lib.atoiAll (Lib.itoa (i.val : Int)) = .ok (i.val : Int) := by decide +kernel
/-- Digits that are a number up to 128 are its decimal text. -/
theorem num_itoa {d : List UInt8} {n : Nat} (hn : n ≤ 128) (h : numS d = ((n : Int), true)) : d = Lib.itoa (n : Int) := by
  unfold numS at h
  by_cases c : d.length < 1 ∨ d.length > 3 ∨ (d.head? = some 48 ∧ d.length > 1)
  · rw [if_pos c] at h
    simp at h
  · rw [if_neg c] at h
    have hc1 : ¬ d.length < 1 := fun q => c (Or.inl q)
    have hc2 : ¬ d.length > 3 := fun q => c (Or.inr (Or.inl q))
    have hc3 : ¬ (d.head? = some 48 ∧ d.length > 1) := fun q => c (Or.inr (Or.inr q))
    rw [Lib.itoa_nonneg]
    have u8 : ∀ (x : UInt8) (m : Nat), x.toNat = m → m < 256 → UInt8.ofNat m = x := fun x m e _ => by
      subst e
      exact UInt8.ofNat_toNat
    match d, hc1, hc2, hc3, h with
    | [], h1, _, _, _ => exact absurd (by simp) h1
    | [a], _, _, _, h =>
      simp only [numL] at h
      by_cases a1 : a.toNat < 48
      · rw [if_pos a1] at h; simp at h
      · rw [if_neg a1] at h
        by_cases a2 : a.toNat > 57
        · rw [if_pos a2] at h; simp at h
        · rw [if_neg a2] at h
          simp only [Prod.mk.injEq, and_true] at h
          rw [Lib.decDigits_one (show n < 10 by omega), u8 a (48 + n) (by omega) (by omega)]
    | [a, b], _, _, h3, h =>
      simp only [numL] at h
      by_cases a1 : a.toNat < 48
      · rw [if_pos a1] at h; simp at h
      · rw [if_neg a1] at h
        by_cases a2 : a.toNat > 57
        · rw [if_pos a2] at h; simp at h
        · rw [if_neg a2] at h
          by_cases b1 : b.toNat < 48
          · rw [if_pos b1] at h; simp at h
          · rw [if_neg b1] at h
            by_cases b2 : b.toNat > 57
            · rw [if_pos b2] at h; simp at h
            · rw [if_neg b2] at h
              simp only [Prod.mk.injEq, and_true] at h
              have ha : a.toNat ≠ 48 := fun q => h3 ⟨by simp [← UInt8.toNat_inj, q], by simp⟩
              rw [Lib.decDigits_two (show ¬ n < 10 by omega) (show n < 100 by omega), u8 a (48 + n / 10) (by omega) (by omega), u8 b (48 + n % 10) (by omega) (by omega)]
    | [a, b, e], _, _, h3, h =>
      simp only [numL] at h
      by_cases a1 : a.toNat < 48
      · rw [if_pos a1] at h; simp at h
      · rw [if_neg a1] at h
        by_cases a2 : a.toNat > 57
        · rw [if_pos a2] at h; simp at h
        · rw [if_neg a2] at h
          by_cases b1 : b.toNat < 48
          · rw [if_pos b1] at h; simp at h
          · rw [if_neg b1] at h
            by_cases b2 : b.toNat > 57
            · rw [if_pos b2] at h; simp at h
            · rw [if_neg b2] at h
              by_cases e1 : e.toNat < 48
              · rw [if_pos e1] at h; simp at h
              · rw [if_neg e1] at h
                by_cases e2 : e.toNat > 57
                · rw [if_pos e2] at h; simp at h
                · rw [if_neg e2] at h
                  simp only [Prod.mk.injEq, and_true] at h
                  have ha : a.toNat ≠ 48 := fun q => h3 ⟨by simp [← UInt8.toNat_inj, q], by simp⟩
                  rw [Lib.decDigits, dif_neg (show ¬ n < 10 by omega), Lib.decDigits_two (show ¬ n / 10 < 10 by omega) (show n / 10 < 100 by omega), u8 a (48 + n / 10 / 10) (by omega) (by omega), u8 b (48 + n / 10 % 10) (by omega) (by omega), u8 e (48 + n % 10) (by omega) (by omega)]
                  rfl
    | _ :: _ :: _ :: _ :: _, _, h2, _, _ => exact absurd (by simp) h2
/-- What is read behind the address. -/
def restS (d : List UInt8) (v : Bool) (N : Nat) : Bool × Int × Int × Int × Int :=
  if (numS d).2 = true ∧ VP v N (numS d).1 then (v, iH N, iL N, (numS d).1, 0) else (false, 0, 0, 0, 3)
theorem rest_eq (d : List UInt8) (v : Bool) (N : Nat) (h : N < M128) : pfx_rest (bs d) v (iH N) (iL N) 0 = some (restS d v N) := by
  have hL := L_le v
  have hd : (bs d).data.toList = d := by simp [bs]
  unfold pfx_rest restS
  rw [if_pos rfl, hd]
  -- a good text
  by_cases c : (numS d).2 = true ∧ VP v N (numS d).1
  · rw [if_pos c]
    obtain ⟨c1, c2⟩ := c
    obtain ⟨n, hn⟩ : ∃ n : Nat, (numS d).1 = (n : Int) := ⟨(numS d).1.toNat, by have := c2.2.1; omega⟩
    rw [hn] at c2 ⊢
    have hn8 : n ≤ 128 := by have := c2.2.2.1; omega
    have e : numS d = ((n : Int), true) := by rw [← hn, ← c1]
    have hdt := num_itoa hn8 e
    obtain ⟨i1, i2⟩ := itoa_num ⟨n, by omega⟩
    simp only at i1 i2
    rw [← hdt] at i2
    rw [i2]
    have hi : strconv_Itoa.f (n : Int) = some (bs d) := by
      unfold strconv_Itoa.f
      rw [if_pos (by omega), ← hdt]
      rfl
    have hv := Valid_eq v N (n : Int) h
    rw [decide_eq_true c2] at hv
    simp only [hi, Option.bind_some, if_true, hv]
  · rw [if_neg c]
    cases ha : Lib.atoiAll d with
    | range => rfl
    | ok b =>
      have hbd := Lib.atoiAll_bounds ha
      have hi : strconv_Itoa.f b = some (bs (Lib.itoa b)) := by
        unfold strconv_Itoa.f
        rw [if_pos hbd]
        rfl
      simp only [hi, Option.bind_some]
      by_cases e : (bs (Lib.itoa b)).toList = (bs d).toList
      · rw [if_pos e]
        rw [ByteArray.toList_eq, ByteArray.toList_eq, hd] at e
        have e2 : Lib.itoa b = d := by
          have : (bs (Lib.itoa b)).data.toList = Lib.itoa b := by simp [bs]
          rw [← this]
          exact e
        have hv := Valid_eq v N b h
        have hno : ¬ VP v N b := fun q => by
          obtain ⟨n, rfl⟩ : ∃ n : Nat, b = (n : Int) := ⟨b.toNat, by have := q.2.1; omega⟩
          have hn8 : n ≤ 128 := by have := q.2.2.1; omega
          obtain ⟨i1, _⟩ := itoa_num ⟨n, by omega⟩
          simp only at i1
          rw [e2] at i1
          apply c
          rw [i1]
          exact ⟨rfl, q⟩
        rw [decide_eq_false hno] at hv
        simp only [hv, Option.bind_some, Bool.false_eq_true, if_false]
      · rw [if_neg e]
    | _ => rfl
theorem rest_bad (d : List UInt8) (v : Bool) (hi lo e : Int) (h : e ≠ 0) : pfx_rest (bs d) v hi lo e = some (false, 0, 0, 0, 3) := by
  unfold pfx_rest
  rw [if_neg h]
/-- What both answer. -/
def readS (s : List UInt8) : Bool × Int × Int × Int × Int :=
  if (Lib.cut s [47]).2.2 = true then
    (if (parseS (Lib.cut s [47]).1).2.2.2 = 0 then restS (Lib.cut s [47]).2.1 (parseS (Lib.cut s [47]).1).1 ((parseS (Lib.cut s [47]).1).2.1.toNat * 18446744073709551616 + (parseS (Lib.cut s [47]).1).2.2.1.toNat) else (false, 0, 0, 0, 3))
  else (false, 0, 0, 0, 3)
theorem cut_len (s : List UInt8) : (Lib.cut s [47]).2.1.length ≤ s.length := by
  unfold Lib.cut
  split
  · simp
  · simp
theorem words_of {v : Bool} {hi lo : Int} (h : Tx.Vl v hi lo) : hi = iH (hi.toNat * 18446744073709551616 + lo.toNat) ∧ lo = iL (hi.toNat * 18446744073709551616 + lo.toNat) ∧ hi.toNat * 18446744073709551616 + lo.toNat < M128 := by
  obtain ⟨h1, h2, _⟩ := h
  unfold U64 at h1 h2
  unfold iH iL M128
  omega
theorem parse_ev (s : ByteArray) (hs : s.size ≤ 140737488355328) : Ev (fun k => prefix_Parse.f k s) (readS (by_ s)) := by
  unfold prefix_Parse.f readS
  have hc := cut_len (by_ s)
  rw [by_length] at hc
  have hsz : (bs (Lib.cut (by_ s) [47]).2.1).size ≤ 140737488355328 := by rw [bs_size]; omega
  refine ev_if_pos ⟨hs, hsz⟩ ?_
  by_cases c1 : (Lib.cut (by_ s) [47]).2.2 = true
  · rw [if_pos c1]
    refine ev_if_pos c1 ?_
    have hp := addr_Parse_ev (bs (Lib.cut (by_ s) [47]).1)
    rw [by_bs] at hp
    refine Ev.bind hp ?_
    refine ev_const ?_
    obtain ⟨v, hi, lo, e, he⟩ : ∃ v hi lo e, parseS (Lib.cut (by_ s) [47]).1 = (v, hi, lo, e) := ⟨_, _, _, _, rfl⟩
    rw [he]
    show pfx_rest (bs (Lib.cut (by_ s) [47]).2.1) v hi lo e = _
    rcases Tx.parse_ok he with ⟨rfl, hv⟩ | ⟨rfl, _⟩
    · obtain ⟨w1, w2, w3⟩ := words_of hv
      rw [if_pos rfl]
      have := rest_eq (Lib.cut (by_ s) [47]).2.1 v _ w3
      rw [← w1, ← w2] at this
      exact this
    · rw [if_neg (by show ¬ ((3 : Int) = 0); decide)]
      exact rest_bad _ _ _ _ _ (by decide)
  · rw [if_neg c1]
    exact ev_if_neg c1 (Ev.now _)
theorem rj1 (s : ByteArray) (hs : s.size ≤ 140737488355328) (i : Nat) (hi : i ≤ s.size) (hfree : (47 : UInt8) ∉ (by_ s).take i) (hat : i < s.size → ∃ r, (by_ s).drop i = 47 :: r) : Ev (fun k => ddiref03_Parse.j1 k s (i : Int)) (readS (by_ s)) := by
  have hl := by_length s
  refine Ev.step (fun k => by rw [ddiref03_Parse.j1]) ?_
  by_cases c0 : (i : Int) = (s.size : Int)
  · have hall : (by_ s).take i = by_ s := List.take_of_length_le (by omega)
    rw [hall] at hfree
    have hcut : Lib.cut (by_ s) [47] = (by_ s, [], false) := by
      rcases Str.index_one 47 (by_ s) with ⟨h, _⟩ | ⟨p, r, h, _, _⟩
      · unfold Lib.cut
        rw [h, if_neg (by decide)]
      · exact absurd (by rw [h]; simp) hfree
    have : readS (by_ s) = (false, 0, 0, 0, 3) := by
      unfold readS
      rw [hcut, if_neg (by show ¬ (false = true); decide)]
    rw [this]
    exact ev_if_pos c0 (Ev.now _)
  · obtain ⟨r, hr⟩ := hat (by omega)
    have hS : by_ s = (by_ s).take i ++ 47 :: r := by rw [← hr, List.take_append_drop]
    have hcut : Lib.cut (by_ s) [47] = ((by_ s).take i, r, true) := by
      have hi2 : Lib.index ((by_ s).take i ++ 47 :: r) [47] = ((by_ s).take i).length := by
        refine Lib.index_first (by simp) ?_ (fun j hj => ?_)
        · simp [Lib.occAt]
        · unfold Lib.occAt
          rw [List.drop_append_of_le_length (by omega)]
          refine Str.occ_no (fun q e => ?_)
          cases hd : ((by_ s).take i).drop j with
          | nil => have := congrArg List.length hd; rw [List.length_drop, List.length_nil] at this; omega
          | cons y z =>
            rw [hd] at e
            simp only [List.cons_append, List.cons.injEq] at e
            exact hfree (e.1 ▸ List.mem_of_mem_drop (i := j) (by rw [hd]; simp))
      have hlen : ((by_ s).take i).length = i := by rw [List.length_take]; omega
      have hcc : Lib.cut ((by_ s).take i ++ 47 :: r) [47] = ((by_ s).take i, r, true) := by
        unfold Lib.cut
        rw [hi2, if_pos (by omega)]
        generalize (by_ s).take i = A
        have e1 : (A ++ 47 :: r).drop (A.length + 1) = r := by
          rw [← List.drop_drop, List.drop_left]
          rfl
        have e2 : (A ++ 47 :: r).take A.length = A := List.take_left
        show ((A ++ 47 :: r).take ((A.length : Int).toNat), (A ++ 47 :: r).drop ((A.length : Int).toNat + 1), true) = _
        rw [Int.toNat_natCast, e1, e2]
      rwa [← hS] at hcc
    have c1 : (0 : Int) ≤ (i : Int) := by omega
    have c2 : (i : Int) ≤ (s.size : Int) := by omega
    have ew : wrap64 ((i : Int) + 1) = ((i + 1 : Nat) : Int) := by rw [wrap64_id (by omega) (by omega)]; omega
    have ha : by_ (s.extract 0 i) = (by_ s).take i := by
      show (s.extract 0 i).data.toList = _
      rw [ByteArray.data_extract, Array.toList_extract]
      simp [List.extract, by_]
    have hb : by_ (s.extract (i + 1) s.size) = r := by
      show (s.extract (i + 1) s.size).data.toList = _
      rw [ByteArray.data_extract, Array.toList_extract]
      unfold List.extract
      have : (by_ s).drop (i + 1) = r := by
        rw [← List.drop_drop, hr]
        rfl
      show ((by_ s).drop (i + 1)).take (s.size - (i + 1)) = r
      rw [this, List.take_of_length_le]
      have := congrArg List.length hr
      rw [List.length_drop, List.length_cons] at this
      omega
    have hpar := ref_Parse_ev (s.extract 0 i)
    rw [ha] at hpar
    have hnum := number_ev (s.extract (i + 1) s.size)
    rw [hb] at hnum
    refine ev_if_neg c0 (ev_if_pos c1 (ev_if_pos c2 ?_))
    rw [Int.toNat_natCast]
    refine Ev.bind hpar ?_
    rw [ew]
    refine ev_if_pos (by omega) (ev_if_pos (by omega) ?_)
    rw [Int.toNat_natCast]
    refine Ev.bind hnum ?_
    have hrd : readS (by_ s) = if (parseS ((by_ s).take i)).2.2.2 = 0 then restS r (parseS ((by_ s).take i)).1 ((parseS ((by_ s).take i)).2.1.toNat * 18446744073709551616 + (parseS ((by_ s).take i)).2.2.1.toNat) else (false, 0, 0, 0, 3) := by
      unfold readS
      rw [hcut, if_pos rfl]
    rw [hrd]
    obtain ⟨v, hi', lo, e, he⟩ : ∃ v hi lo e, parseS ((by_ s).take i) = (v, hi, lo, e) := ⟨_, _, _, _, rfl⟩
    rw [he]
    rcases Tx.parse_ok he with ⟨rfl, hv⟩ | ⟨rfl, _⟩
    · obtain ⟨w1, w2, w3⟩ := words_of hv
      rw [if_pos rfl]
      refine ev_if_pos rfl ?_
      show Ev _ (restS r v (hi'.toNat * 18446744073709551616 + lo.toNat))
      by_cases d1 : (numS r).2 = true
      · refine ev_if_pos d1 ?_
        have hval := RValid_ev v _ (numS r).1 w3
        rw [← w1, ← w2] at hval
        refine Ev.bind hval ?_
        by_cases d2 : VP v (hi'.toNat * 18446744073709551616 + lo.toNat) (numS r).1
        · have q : restS r v (hi'.toNat * 18446744073709551616 + lo.toNat) = _ := if_pos ⟨d1, d2⟩
          rw [q, ← w1, ← w2]
          exact ev_if_pos (decide_eq_true d2) (Ev.now _)
        · have q : restS r v (hi'.toNat * 18446744073709551616 + lo.toNat) = _ := if_neg (fun q => d2 q.2)
          rw [q]
          exact ev_if_neg (by rw [decide_eq_false d2]; decide) (Ev.now _)
      · have q : restS r v (hi'.toNat * 18446744073709551616 + lo.toNat) = _ := if_neg (fun q => d1 q.1)
        rw [q]
        exact ev_if_neg d1 (Ev.now _)
    · rw [if_neg (by show ¬ ((3 : Int) = 0); decide)]
      exact ev_if_neg (by show ¬ ((3 : Int) = 0); decide) (Ev.now _)
theorem rparse_l0 (s : ByteArray) (hs : s.size ≤ 140737488355328) : ∀ (d i : Nat), i + d = s.size → (47 : UInt8) ∉ (by_ s).take i → Ev (fun k => ddiref03_Parse.l0 k s (i : Int)) (readS (by_ s))
  | 0, i, h, hf => by
    refine Ev.step (fun k => by rw [ddiref03_Parse.l0]) ?_
    refine ev_if_neg (by omega) ?_
    exact rj1 s hs i (by omega) hf (fun q => by omega)
  | d + 1, i, h, hf => by
    have hl := by_length s
    obtain ⟨c, r, hr⟩ : ∃ c r, (by_ s).drop i = c :: r := by
      have hlt : i < (by_ s).length := by omega
      exact ⟨_, _, List.drop_eq_getElem_cons hlt⟩
    obtain ⟨h1, h2, h3⟩ := bt_drop hr
    have c1 : (i : Int) < (s.size : Int) := by omega
    have ew : wrap64 ((i : Int) + 1) = ((i + 1 : Nat) : Int) := by rw [wrap64_id (by omega) (by omega)]; omega
    refine Ev.step (fun k => by rw [ddiref03_Parse.l0]) ?_
    refine ev_if_pos c1 (ev_if_pos (by omega) ?_)
    rw [h2]
    by_cases e : c = 47
    · subst e
      refine ev_if_pos (by decide) ?_
      exact rj1 s hs i (by omega) hf (fun _ => ⟨r, hr⟩)
    · have hne : ¬ (c.toNat : Int) = 47 := fun q => e (by
        apply UInt8.toNat_inj.mp
        show c.toNat = 47
        omega)
      refine ev_if_neg hne ?_
      rw [ew]
      refine rparse_l0 s hs d (i + 1) (by omega) (fun q => ?_)
      have hlt : i < (by_ s).length := by omega
      rw [List.take_succ_eq_append_getElem hlt] at q
      rcases List.mem_append.mp q with q | q
      · exact hf q
      · have : (by_ s)[i] = c := by
          have := List.drop_eq_getElem_cons hlt
          rw [hr] at this
          exact (List.cons.inj this).1.symm
        rw [this] at q
        simp only [List.mem_cons, List.not_mem_nil, or_false] at q
        exact e q.symm
theorem reads_ev {K0 : Nat} (haw : ∀ m, K0 ≤ m → ddilaw03_awake.f m = some true) (s : ByteArray) (hs : s.size ≤ 140737488355328) : Ev (fun k => ddilaw03_PrefixReads.f k s) true := by
  have he : Ev (fun k => ddilaw03_awake.f k) true := ⟨K0, haw⟩
  have hr : Ev (fun k => ddiref03_Parse.f k s) (readS (by_ s)) := by
    have := rparse_l0 s hs s.size 0 (Nat.zero_add _) (by simp)
    exact this
  unfold ddilaw03_PrefixReads.f
  refine Ev.bind (parse_ev s hs) (Ev.bind hr (ev_if_pos (by simp) (ev_if_pos rfl ?_)))
  exact Ev.bind he (Ev.now _)
end Go.Proofs.YteflcmmandlknaaGreatDoor.PrxRd
