/-
  What addr.Parse answers: the texts whole. Conditions: each theorem's own.
-/
import Derived.Test.YteflcmmandlknaaGreatDoorAddrPa
namespace Go.Proofs.YteflcmmandlknaaGreatDoor.AddrP
open Go.RowKit Go.Proofs.YteflcmmandlknaaGreatDoorW.PrintWords Go.Proofs.YteflcmmandlknaaGreatDoor.Num Go.Proofs.YteflcmmandlknaaGreatDoor.Str Go.Proofs.YteflcmmandlknaaGreatDoor.Flds Go.Proofs.YteflcmmandlknaaGreatDoor.PA
set_option linter.unusedVariables false
set_option linter.unusedSimpArgs false
/-- The number of decimal digits behind n, and whether it is one. -/
def decL : List UInt8 → Int → Int × Bool
  | [], n => (n, decide (n ≤ 255))
  | c :: r, n => if (c.toNat : Int) < 48 then (0, false) else if (c.toNat : Int) > 57 then (0, false) else decL r (IntKind.u64.wrap ((IntKind.u64.wrap (10 * n)) + ((c.toNat : Int) - 48) % 256))
def dec (l : List UInt8) : Int × Bool := if l.length < 1 ∨ l.length > 3 ∨ (l.head? = some 48 ∧ l.length > 1) then (0, false) else decL l 0
theorem decL_range : ∀ (r : List UInt8) (n : Int), 0 ≤ n → 0 ≤ (decL r n).1 ∧ ((decL r n).2 = true → (decL r n).1 ≤ 255)
  | [], n, h => by simp [decL, h]
  | c :: r, n, h => by
    unfold decL
    split
    · simp
    · split
      · simp
      · exact decL_range r _ (by rw [wrap_u64]; omega)
theorem dec_range {l : List UInt8} : 0 ≤ (dec l).1 ∧ ((dec l).2 = true → (dec l).1 ≤ 255) := by
  unfold dec
  split
  · simp
  · exact decL_range l 0 (by omega)
/-- A byte that is no digit. -/
theorem decL_bad (x : UInt8) (hx : (x.toNat : Int) > 57) : ∀ (r : List UInt8) (n : Int), x ∈ r → (decL r n).2 = false
  | [], n, h => by simp at h
  | c :: r, n, h => by
    unfold decL
    split
    · rfl
    · split
      · rfl
      · rename_i h1 h2
        rcases List.mem_cons.1 h with e | e
        · subst e; omega
        · exact decL_bad x hx r _ e
theorem dec_bad {x : UInt8} (hx : (x.toNat : Int) > 57) {l : List UInt8} (h : x ∈ l) : (dec l).2 = false := by
  unfold dec
  split
  · rfl
  · exact decL_bad x hx l 0 h
theorem decimal_l0 (s : ByteArray) (hs : s.size ≤ 3) : ∀ (r : List UInt8) (i : Nat) (n : Int), (by_ s).drop i = r → Ev (fun k => addr_decimal.l0 k s n (s.size : Int) (i : Int)) (decL r n)
  | [], i, n, hd => by
    have hi := drop_nil hd
    refine Ev.step (fun k => by rw [addr_decimal.l0]) ?_
    refine ev_if_neg (by omega) ?_
    exact Ev.now _
  | c :: r, i, n, hd => by
    obtain ⟨h1, h2, h3⟩ := bt_drop hd
    have e1 : wrap64 ((i : Int) + 1) = ((i + 1 : Nat) : Int) := by unfold wrap64; omega
    refine Ev.step (fun k => by rw [addr_decimal.l0]) (ev_if_pos (by omega) (ev_if_pos (by omega) (ev_if_pos (by omega) ?_)))
    rw [h2]
    unfold decL
    by_cases a1 : (c.toNat : Int) < 48
    · rw [if_pos a1]; refine ev_if_pos a1 ?_; exact Ev.now _
    · rw [if_neg a1]
      refine ev_if_neg a1 ?_
      by_cases a2 : (c.toNat : Int) > 57
      · rw [if_pos a2]; refine ev_if_pos a2 ?_; exact Ev.now _
      · rw [if_neg a2]
        refine ev_if_neg a2 ?_
        rw [e1]
        exact decimal_l0 s hs r (i + 1) _ h3
theorem bt_zero {s : ByteArray} (h : 0 < s.size) : bt s 0 = 48 ↔ (by_ s).head? = some 48 := by
  have hl := by_length s
  cases hb : by_ s with
  | nil => rw [hb] at hl; simp at hl; omega
  | cons c r =>
    obtain ⟨_, h2, _⟩ := bt_drop (s := s) (i := 0) (by rw [List.drop_zero]; exact hb)
    rw [show (0 : Int) = ((0 : Nat) : Int) from rfl, h2]
    simp only [List.head?_cons, Option.some.injEq]
    constructor
    · intro e
      have h48 : (48 : UInt8).toNat = 48 := rfl
      have : c.toNat = (48 : UInt8).toNat := by omega
      exact UInt8.toNat_inj.1 this
    · intro e; subst e; rfl
theorem addr_decimal_ev (s : ByteArray) : Ev (fun k => addr_decimal.f k s) (dec (by_ s)) := by
  have hl := by_length s
  have bad : Ev (fun k => addr_decimal.j0 k s true) (0, false) := Ev.step (fun k => by rw [addr_decimal.j0]) (ev_if_pos rfl (Ev.now _))
  unfold addr_decimal.f dec
  by_cases h1 : s.size < 1
  · rw [if_pos (by omega)]; exact ev_if_pos (by omega) bad
  · refine ev_if_neg (by omega) ?_
    by_cases h3 : s.size > 3
    · rw [if_pos (by omega)]; exact ev_if_pos (by omega) bad
    · refine ev_if_neg (by omega) (ev_if_pos (by omega) ?_)
      have good : Ev (fun k => addr_decimal.j0 k s false) (decL (by_ s) 0) := by
        refine Ev.step (fun k => by rw [addr_decimal.j0]) (ev_if_neg (by simp) ?_)
        exact decimal_l0 s (by omega) (by_ s) 0 0 rfl
      by_cases hz : bt s 0 = 48
      · refine ev_if_pos hz ?_
        have hh := (bt_zero (by omega)).1 hz
        by_cases h2 : s.size > 1
        · have : decide ((s.size : Int) > 1) = true := decide_eq_true (by omega)
          rw [if_pos (.inr (.inr ⟨hh, by omega⟩)), this]; exact bad
        · have : decide ((s.size : Int) > 1) = false := decide_eq_false (by omega)
          rw [if_neg (by omega), this]; exact good
      · refine ev_if_neg hz ?_
        have hh : ¬ (by_ s).head? = some 48 := fun c => hz ((bt_zero (by omega)).2 c)
        rw [if_neg (by
          intro c
          rcases c with c | c | c
          · omega
          · omega
          · exact hh c.1)]
        exact good
def fourL : List (List UInt8) → Int → Option Int
  | [], lo => some lo
  | f :: fs, lo => if (dec f).2 = true then fourL fs (Go.bits .or .u64 (IntKind.u64.wrap (lo * 256)) (dec f).1) else none
def pk4 (o : Option Int) : Bool × Int × Int × Bool := match o with
  | some lo => (false, 0, lo, true)
  | none => (false, 0, 0, false)
def fourV (l : List UInt8) : Option Int := if (splitC 46 l).length = 4 then fourL (splitC 46 l) 0 else none
theorem four_l0 (F : List ByteArray) (hF : F.length ≤ 1000) : ∀ (fs : List ByteArray) (j : Nat) (lo : Int), F.drop j = fs →
    Ev (fun k => addr_four.l0 k F (F.length : Int) (j : Int) false 0 lo) (pk4 (fourL (fs.map by_) lo))
  | [], j, lo, hd => by
    have hj : F.length ≤ j := by have := congrArg List.length hd; simp at this; omega
    refine Ev.step (fun k => by rw [addr_four.l0]) ?_
    refine ev_if_neg (by omega) ?_
    exact Ev.now _
  | f :: fs, j, lo, hd => by
    obtain ⟨h1, h2, h3⟩ := rdOf_drop hd
    have e1 : wrap64 ((j : Int) + 1) = ((j + 1 : Nat) : Int) := by unfold wrap64; omega
    refine Ev.step (fun k => by rw [addr_four.l0]) (ev_if_pos (by omega) (ev_if_pos (by omega) (ev_if_pos (by omega) ?_)))
    rw [h2, List.map_cons]
    refine Ev.bind (addr_decimal_ev f) ?_
    unfold fourL
    by_cases hd2 : (dec (by_ f)).2 = true
    · rw [if_pos hd2]
      refine ev_if_pos hd2 ?_
      rw [e1]
      exact four_l0 F hF fs (j + 1) _ h3
    · rw [if_neg hd2]
      refine ev_if_neg hd2 ?_
      exact Ev.now _
theorem addr_four_ev (s : ByteArray) (hs : s.size ≤ 900) : Ev (fun k => addr_four.f k s) (pk4 (fourV (by_ s))) := by
  unfold addr_four.f fourV
  have hf := split_fields 46 s
  refine ev_bind_const (a := Lib.splitB (⟨#[46]⟩ : ByteArray) 0 (Lib.countB s (⟨#[46]⟩ : ByteArray)) s) (by unfold strings_Split.f; rw [if_pos (by omega), if_pos (by decide)]) ?_
  rw [← hf, List.length_map]
  by_cases h4 : (Lib.splitB (⟨#[46]⟩ : ByteArray) 0 (Lib.countB s (⟨#[46]⟩ : ByteArray)) s).length = 4
  · rw [if_pos h4]
    refine ev_if_pos (by omega) ?_
    exact four_l0 _ (by omega) _ 0 0 rfl
  · rw [if_neg h4]
    refine ev_if_neg (by omega) ?_
    exact Ev.now _
theorem lst_length {l : List UInt8} {v : List Int} (h : lst l = some v) : v.length ≤ 8 := by
  unfold lst at h
  split at h
  · simp only [Option.some.injEq] at h; subst h; simp
  · rw [listL_eq grp _ [] (by simp)] at h
    obtain ⟨w, _, hw⟩ := Option.bind_eq_some_iff.1 h
    split at hw
    · simp only [List.nil_append, Option.some.injEq] at hw; subst hw; simp at *; omega
    · cases hw
/-- The eight groups of an IPv6 text. -/
def sixV (l : List UInt8) : Option (List Int) := match cutF (splitC 58 l) with
  | none => match lst l with
    | some v => if v.length = 8 then some v else none
    | none => none
  | some (h, t) => match lst (joinC 58 h), lst (joinC 58 t) with
    | some a, some b => if a.length + b.length ≤ 7 then some (six8 a b) else none
    | _, _ => none
def pk6 (o : Option (List Int)) : Bool × Int × Int × Bool := match o with
  | some v => (true, num4 (rd v 0) (rd v 1) (rd v 2) (rd v 3), num4 (rd v 4) (rd v 5) (rd v 6) (rd v 7), true)
  | none => (false, 0, 0, false)
theorem six8_nil {v : List Int} (h : v.length = 8) : six8 v [] = v := by simp [six8, h]
theorem by_mk (l : List UInt8) : by_ (⟨l.toArray⟩ : ByteArray) = l := by simp [by_]
theorem size_mk (l : List UInt8) : (⟨l.toArray⟩ : ByteArray).size = l.length := by rw [← by_length, by_mk]
theorem addr_list_mk (l : List UInt8) (h : l.length ≤ 900) : Ev (fun k => addr_list.f k (⟨l.toArray⟩ : ByteArray)) (pk (lst l)) := by
  have := addr_list_ev (⟨l.toArray⟩ : ByteArray) (by rw [size_mk]; exact h)
  rwa [by_mk] at this
theorem addr_six_ev (s : ByteArray) (hs : s.size ≤ 900) : Ev (fun k => addr_six.f k s) (pk6 (sixV (by_ s))) := by
  unfold addr_six.f
  have hl := by_length s
  refine ev_bind_const (a := ((⟨(Lib.cut (by_ s) [58, 58]).1.toArray⟩ : ByteArray), (⟨(Lib.cut (by_ s) [58, 58]).2.1.toArray⟩ : ByteArray), (Lib.cut (by_ s) [58, 58]).2.2)) (by unfold strings_Cut.f; rw [if_pos (by omega)]; rfl) ?_
  unfold sixV
  cases hc : cutF (splitC 58 (by_ s)) with
  | none =>
    rw [cut_none hc]
    refine Ev.bind (addr_list_mk (by_ s) (by omega)) ?_
    refine Ev.bind (addr_list_mk [] (by simp)) ?_
    rw [show lst [] = some [] from rfl]
    cases hv : lst (by_ s) with
    | none => exact ev_const rfl
    | some v =>
      dsimp only
      refine ev_const ?_
      simp only [sixOf, pk]
      by_cases h8 : v.length = 8
      · simp [h8, pk6, six8_nil h8]
      · simp [h8, pk6]
  | some c =>
    obtain ⟨h, t⟩ := c
    have hcut := cut_some hc
    have e1 := (cutF_some_np (splitC 58 (by_ s)) h t (split_free 58 (by_ s)) hc).1
    rw [join_split] at e1
    have hlen := congrArg List.length e1
    simp only [List.length_append, List.length_cons] at hlen
    rw [hcut]
    refine Ev.bind (addr_list_mk (joinC 58 h) (by omega)) ?_
    refine Ev.bind (addr_list_mk (joinC 58 t) (by omega)) ?_
    cases hx : lst (joinC 58 h) with
    | none => exact ev_const (by simp [sixOf, pk, pk6, hx])
    | some a =>
      cases hy : lst (joinC 58 t) with
      | none => exact ev_const (by simp [sixOf, pk, pk6, hx, hy])
      | some b =>
        refine ev_const ?_
        have la := lst_length hx
        have lb := lst_length hy
        simp only [sixOf, pk]
        by_cases h7 : a.length + b.length ≤ 7
        · simp [h7, pk6, hx, hy]
        · simp [h7, pk6, hx, hy, show a.length + b.length < 1000 by omega]
/-- What Parse answers. -/
def parseS (l : List UInt8) : Bool × Int × Int × Int :=
  if l.length > 39 then (false, 0, 0, 3) else match fourV l with
  | some lo => (false, 0, lo, 0)
  | none => match sixV l with
    | some v => (true, num4 (rd v 0) (rd v 1) (rd v 2) (rd v 3), num4 (rd v 4) (rd v 5) (rd v 6) (rd v 7), 0)
    | none => (false, 0, 0, 3)
theorem addr_Parse_ev (s : ByteArray) : Ev (fun k => addr_Parse.f k s) (parseS (by_ s)) := by
  have hl := by_length s
  unfold addr_Parse.f parseS
  by_cases h : s.size > 39
  · rw [if_pos (by omega)]
    refine ev_if_pos (by omega) ?_
    exact Ev.now _
  · rw [if_neg (by omega)]
    refine ev_if_neg (by omega) (Ev.bind (addr_four_ev s (by omega)) ?_)
    cases h4 : fourV (by_ s) with
    | some lo => exact ev_if_pos rfl (Ev.now _)
    | none =>
      refine ev_if_neg (by simp [pk4]) (Ev.bind (addr_six_ev s (by omega)) ?_)
      cases h6 : sixV (by_ s) with
      | some v => exact ev_if_pos rfl (Ev.now _)
      | none => exact ev_if_neg (by simp [pk6]) (Ev.now _)
end Go.Proofs.YteflcmmandlknaaGreatDoor.AddrP
