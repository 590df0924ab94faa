/-
  Plain facts on data and their bytes: what is written is read again, what is read was written, a cut is short. Conditions: each theorem's own.
  Plain facts on data and their bytes, all fields in one: the laws Back, Again, Cut and Order without a program. Conditions: each theorem's own.
  What the callees of the laws on data return (shown elsewhere). Conditions: none.
  Strings as lists of bytes: cutting, splitting, single bytes. Conditions: each theorem's own.
  What was read is data of the reach. Conditions: each theorem's own.
-/
import Derived.Test.YtaehonmfoanloaaDoorRdHand
import Derived.Test.YtaehonmfoanloaaDoorHandB
import Derived.Test.YtaehonmfoanloaaDoorHand
import Derived.Test.YtaehonmfoanloaaDoorBits
namespace Go.Proofs.YtaehonmfoanloaaDoor.Hand
open Go.RowKit Go.Proofs.YtaehonmfoanloaaDoorW.PrintWords Go.Proofs.YtaehonmfoanloaaDoor.RdW Go.Proofs.YtaehonmfoanloaaDoor.Str
set_option maxRecDepth 100000
set_option linter.all false
/-! ### names -/
theorem nameOf_split : ∀ l : List UInt8, nameOf (splitC 46 l) = l ++ [46]
  | [] => by simp [splitC, nameOf]
  | c :: r => by
    have ih := nameOf_split r
    unfold splitC
    split
    · rename_i h; rw [nameOf_cons, ih, h]; simp
    · cases hs : splitC 46 r with
      | nil => exact absurd hs (splitC_ne 46 r)
      | cons p ps => rw [hs, nameOf_cons] at ih; simp only [nameOf_cons, List.cons_append, ih]
theorem labelsN_spec {n : List UInt8} {ls : List (List UInt8)} (h : labelsN n = some ls) : labelsOk ls = true ∧ (if ls.isEmpty then [46] else nameOf ls) = n ∧ (nameOf ls).length ≤ 254 := by
  unfold labelsN at h
  split at h
  · rename_i h1
    injection h with h; subst h
    exact ⟨rfl, h1.symm, by simp [nameOf]⟩
  · split at h
    · rename_i h2
      injection h with h; subst h
      have hn : n.dropLast ++ [46] = n := by
        obtain ⟨m, hm⟩ := List.getLast?_eq_some_iff.1 h2.2.1
        rw [hm, List.dropLast_concat]
      have e : (splitC 46 n.dropLast).isEmpty = false := by
        cases hs : splitC 46 n.dropLast with
        | nil => exact absurd hs (splitC_ne _ _)
        | cons p ps => rfl
      refine ⟨h2.2.2, ?_, ?_⟩
      · rw [e, if_neg (by simp), nameOf_split, hn]
      · rw [nameOf_split, hn]; omega
    · cases h
theorem lab_pos {l : List UInt8} (h : ordL l = true ∨ l = [42]) : 0 < l.length ∧ l.length ≤ 63 ∧ 46 ∉ l := by
  rcases h with h | rfl
  · refine ⟨(ordL_pos h).1, (ordL_pos h).2, fun hm => ?_⟩
    unfold ordL at h
    simp only [Bool.and_eq_true] at h
    exact (ok_nodot 46 (List.all_eq_true.1 h.2 46 hm)).1 rfl
  · decide
theorem labelsOk_all {ls : List (List UInt8)} (h : labelsOk ls = true) : ∀ l ∈ ls, ordL l = true ∨ l = [42] := by
  cases ls with
  | nil => intro l hl; cases hl
  | cons x xs =>
    simp only [labelsOk, Bool.and_eq_true, Bool.or_eq_true, beq_iff_eq] at h
    intro l hl
    rcases List.mem_cons.1 hl with rfl | hl
    · exact h.1
    · exact .inl (List.all_eq_true.1 h.2 l hl)
theorem split_nameOf : ∀ ls : List (List UInt8), ls ≠ [] → (∀ l ∈ ls, 46 ∉ l ∧ 0 < l.length) → splitC 46 (nameOf ls).dropLast = ls ∧ (nameOf ls).getLast? = some 46 ∧ 2 ≤ (nameOf ls).length
  | [], h, _ => absurd rfl h
  | [l], _, h => by
    obtain ⟨h1, h2⟩ := h l (by simp)
    refine ⟨?_, ?_, ?_⟩
    · have e : nameOf [l] = l ++ [46] := by simp [nameOf]
      rw [e, List.dropLast_concat]
      exact splitC_last 46 l h1
    · simp [nameOf]
    · simp [nameOf]; omega
  | l :: m :: ls, _, h => by
    obtain ⟨h1, h2⟩ := h l (by simp)
    obtain ⟨i1, i2, i3⟩ := split_nameOf (m :: ls) (by simp) (fun x hx => h x (List.mem_cons_of_mem _ hx))
    have hne : nameOf (m :: ls) ≠ [] := by intro e; rw [e] at i3; simp at i3
    rw [nameOf_cons]
    refine ⟨?_, ?_, ?_⟩
    · rw [List.dropLast_append_of_ne_nil hne, List.append_assoc, List.singleton_append, splitC_piece 46 l _ h1, i1]
    · rw [List.getLast?_append, i2]; rfl
    · simp only [List.length_append, List.length_cons, List.length_nil]; omega
theorem labelsN_of {ls : List (List UInt8)} (h : labelsOk ls = true) (hn : (nameOf ls).length ≤ 254) : labelsN (if ls.isEmpty then [46] else nameOf ls) = some ls := by
  cases ls with
  | nil => rfl
  | cons l ls =>
    have hall := labelsOk_all h
    obtain ⟨i1, i2, i3⟩ := split_nameOf (l :: ls) (by simp) (fun x hx => ⟨(lab_pos (hall x hx)).2.2, (lab_pos (hall x hx)).1⟩)
    show labelsN (nameOf (l :: ls)) = _
    unfold labelsN
    rw [if_neg (by intro e; rw [e] at i3; simp at i3), i1, if_pos ⟨by omega, i2, h⟩]
theorem readName_wire {n : List UInt8} (h : (labelsN n).isSome = true) (r : List UInt8) : readName (wireN n ++ r) = .ok (n, r) := by
  obtain ⟨ls, hl⟩ := Option.isSome_iff_exists.1 h
  obtain ⟨h1, h2, h3⟩ := labelsN_spec hl
  unfold wireN
  rw [hl, Option.getD_some, readName_labels ls r h1 h3, h2]
theorem readName_inv {r n q : List UInt8} (h : readName r = .ok (n, q)) : ∃ m, r = m ++ q ∧ (m.all (fun c => !cap c) = true → m = wireN n) ∧ (labelsN n).isSome = true := by
  obtain ⟨ls, ms, _, h2, h3, h4, h5, h6⟩ := rName_inv _ _ _ _ _ h
  have h6 := h6 (by simp)
  simp only [List.nil_append, List.length_nil, Nat.zero_add] at h3 h6
  have he : (nameOf ls).isEmpty = ls.isEmpty := by
    cases ls with
    | nil => rfl
    | cons l ls => rw [nameOf_cons]; cases l <;> rfl
  rw [he] at h3
  have hl := labelsN_of h2 h6
  rw [← h3] at hl
  refine ⟨ms, h4, fun hc => ?_, by rw [hl]; rfl⟩
  rw [h5 hc]; unfold wireN; rw [hl]; rfl
theorem readName_cut {n : List UInt8} (h : (labelsN n).isSome = true) (j : Nat) (hj : j < (wireN n).length) : readName ((wireN n).take j) = .error 6 := by
  obtain ⟨ls, hl⟩ := Option.isSome_iff_exists.1 h
  obtain ⟨h1, h2, h3⟩ := labelsN_spec hl
  unfold wireN at hj ⊢
  rw [hl, Option.getD_some] at hj ⊢
  exact rName_cut ls [] _ j (by simpa using h1) (by simpa using h3) hj
/-! ### one field -/
/-- What a field has to be, to be read as it was written. -/
def goodP (c : UInt8) (x : D) : Prop :=
  if c = 104 then nameB x.host = true else
  if c = 109 then nameB x.mail = true else
  if c = 52 then x.v6 = false ∧ x.hi = 0 ∧ 0 ≤ x.lo ∧ x.lo < 4294967296 else
  if c = 54 then x.v6 = true ∧ 0 ≤ x.hi ∧ x.hi < 18446744073709551616 ∧ 0 ≤ x.lo ∧ x.lo < 18446744073709551616 else
  if c = 116 then x.text.size ≤ 255 else
  if c = 114 then True else
  if c = 115 then True else
  if c = 110 then onlyT x.bits.toNat = true ∧ 0 < x.bits else
  0 ≤ (numOf c x).1 ∧ (numOf c x).1 < 256 ^ (numOf c x).2
/-- One field is taken over. -/
def upd (c : UInt8) (v y : D) : D :=
  if c = 104 then { y with host := v.host } else
  if c = 109 then { y with mail := v.mail } else
  if c = 52 then { y with v6 := v.v6, hi := v.hi, lo := v.lo } else
  if c = 54 then { y with v6 := v.v6, hi := v.hi, lo := v.lo } else
  if c = 116 then { y with text := v.text } else
  if c = 114 then { y with text := v.text } else
  if c = 115 then y else
  if c = 110 then { y with bits := v.bits } else
  if c = 65 then { y with a := v.a } else
  if c = 66 then { y with b := v.b } else
  if c = 67 then { y with c := v.c } else
  if c = 70 then { y with f := v.f } else
  if c = 98 then { y with b := v.b } else
  if c = 99 then { y with c := v.c } else
  if c = 118 then { y with a := v.a } else
  if c = 119 then { y with b := v.b } else
  if c = 120 then { y with c := v.c } else
  if c = 121 then { y with d := v.d } else { y with e := v.e }
/-- Where a field lies. -/
def slot (c : UInt8) : Nat :=
  if c = 104 then 0 else if c = 109 then 1 else if c = 52 then 2 else if c = 54 then 2 else if c = 116 then 3 else if c = 114 then 3 else if c = 115 then 4 else if c = 110 then 5 else
  if c = 65 then 6 else if c = 66 then 7 else if c = 67 then 8 else if c = 70 then 11 else if c = 98 then 7 else if c = 99 then 8 else if c = 118 then 6 else if c = 119 then 7 else if c = 120 then 8 else if c = 121 then 9 else 10
theorem letter_cases {c : UInt8} (h : letters.contains c = true) : c = 104 ∨ c = 109 ∨ c = 52 ∨ c = 54 ∨ c = 116 ∨ c = 114 ∨ c = 115 ∨ c = 110 ∨ c = 65 ∨ c = 66 ∨ c = 67 ∨ c = 70 ∨ c = 98 ∨ c = 99 ∨ c = 118 ∨ c = 119 ∨ c = 120 ∨ c = 121 ∨ c = 122 := by
  simpa [letters] using h
theorem num_app (k : Nat) (n : Int) (r : List UInt8) (h0 : 0 ≤ n) (h1 : n < 256 ^ k) : rNum k 0 (be k n.toNat ++ r) = .ok (n.toNat, r) := by
  have h := rNum_app (be k n.toNat) r 0
  rw [be_length, val_be, Nat.zero_mul, Nat.zero_add] at h
  rw [h, Nat.mod_eq_of_lt]
  have e : ((256 ^ k : Nat) : Int) = 256 ^ k := by simp
  omega
theorem num_cut (k : Nat) (x j : Nat) (hj : j < (be k x).length) : rNum k 0 ((be k x).take j) = .error 6 := by
  rw [be_length] at hj
  exact rNum_short k _ 0 (by rw [List.length_take, be_length]; omega)
theorem num_inv {k : Nat} {r q : List UInt8} {n : Nat} (h : rNum k 0 r = .ok (n, q)) : r = be k n ++ q := by
  rw [rNum_eq] at h
  split at h
  · rename_i hk
    simp only [Except.ok.injEq, Prod.mk.injEq] at h
    have e := be_val (r.take k) 0
    rw [List.length_take, Nat.min_eq_left hk, h.1] at e
    rw [e, ← h.2, List.take_append_drop]
  · cases h
theorem take_app (l r : List UInt8) : rTake l.length (l ++ r) = .ok (l, r) := by
  unfold rTake
  rw [if_pos (by simp)]; simp
theorem take_inv {k : Nat} {r l q : List UInt8} (h : rTake k r = .ok (l, q)) : l.length = k ∧ r = l ++ q := by
  unfold rTake at h
  split at h
  · rename_i hk
    simp only [Except.ok.injEq, Prod.mk.injEq] at h
    rw [← h.1, ← h.2]
    exact ⟨by rw [List.length_take]; omega, (List.take_append_drop _ _).symm⟩
  · cases h
theorem take_cut {k : Nat} {l : List UInt8} {j : Nat} (hl : l.length ≤ k) (hj : j < k) : rTake k (l.take j) = .error 6 := by
  unfold rTake
  rw [if_neg (by rw [List.length_take]; omega)]
theorem val_mod (k n : Nat) (h : n < 256 ^ k) : val (be k n) 0 = n := by rw [val_be, Nat.zero_mul, Nat.zero_add, Nat.mod_eq_of_lt h]
theorem toNat_int {n : Int} (h : 0 ≤ n) : ((n.toNat : Nat) : Int) = n := Int.toNat_of_nonneg h
theorem nump {k : Nat} {n : Int} {c : UInt8} {x y : D} {f : Nat → D} {r : List UInt8} (h1 : rField c (piece c x ++ r) y = mapR (rNum k 0 (be k n.toNat ++ r)) f) (h0 : 0 ≤ n) (hn : n < 256 ^ k) (hf : f n.toNat = upd c x y) : rField c (piece c x ++ r) y = .ok (upd c x y, r) := by
  rw [h1, num_app k n r h0 hn, ← hf]; rfl
theorem numi {k : Nat} {c : UInt8} {y y' : D} {f : Nat → D} {r q : List UInt8} (h : rField c r y = .ok (y', q)) (h1 : rField c r y = mapR (rNum k 0 r) f) (h2 : ∀ n, f n = upd c (f n) y) (h3 : ∀ n : Nat, piece c (f n) = be k n) : y' = upd c y' y ∧ ∃ m, r = m ++ q ∧ ((m.all fun c => !cap c) = true → m = piece c y') := by
  rw [h1] at h
  cases hr : rNum k 0 r with
  | error e => rw [hr] at h; cases h
  | ok v =>
    obtain ⟨n, r'⟩ := v
    rw [hr] at h
    simp only [mapR, Except.ok.injEq, Prod.mk.injEq] at h
    obtain ⟨rfl, rfl⟩ := h
    exact ⟨h2 n, _, num_inv hr, fun _ => (h3 n).symm⟩
theorem numc {k : Nat} {n : Int} {c : UInt8} {x y : D} {f : Nat → D} {j : Nat} (hp : piece c x = be k n.toNat) (h1 : rField c ((be k n.toNat).take j) y = mapR (rNum k 0 ((be k n.toNat).take j)) f) (hj : j < (piece c x).length) : rField c ((piece c x).take j) y = .error 6 := by
  rw [hp] at hj ⊢
  rw [h1, num_cut k _ j hj]; rfl
theorem rField_piece (c : UInt8) (x y : D) (r : List UInt8) (hc : letters.contains c = true) (hg : goodP c x) (hr : c = 114 → r = []) : rField c (piece c x ++ r) y = .ok (upd c x y, r) := by
  rcases letter_cases hc with rfl | rfl | rfl | rfl | rfl | rfl | rfl | rfl | rfl | rfl | rfl | rfl | rfl | rfl | rfl | rfl | rfl | rfl | rfl
  · show mapR (readName (wireN x.host.data.toList ++ r)) _ = _
    rw [readName_wire (by exact hg)]; rfl
  · show mapR (readName (wireN x.mail.data.toList ++ r)) _ = _
    rw [readName_wire (by exact hg)]; rfl
  · obtain ⟨h1, h2, h3, h4⟩ : x.v6 = false ∧ x.hi = 0 ∧ 0 ≤ x.lo ∧ x.lo < 4294967296 := hg
    show mapR (rTake 4 (addrW x ++ r)) _ = _
    unfold addrW
    rw [h1, if_neg (by simp)]
    have ht := take_app (be 4 x.lo.toNat) r
    rw [be_length] at ht
    rw [ht]
    dsimp only [mapR]
    rw [val_mod 4 _ (by omega), toNat_int h3]
    show _ = Except.ok (({ y with v6 := x.v6, hi := x.hi, lo := x.lo } : D), r)
    rw [h1, h2]
  · obtain ⟨h1, h2, h3, h4, h5⟩ : x.v6 = true ∧ 0 ≤ x.hi ∧ x.hi < 18446744073709551616 ∧ 0 ≤ x.lo ∧ x.lo < 18446744073709551616 := hg
    show mapR (rTake 16 (addrW x ++ r)) _ = _
    unfold addrW
    rw [h1, if_pos rfl]
    have ht := take_app (be 8 x.hi.toNat ++ be 8 x.lo.toNat) r
    rw [List.length_append, be_length, be_length] at ht
    rw [ht]
    dsimp only [mapR]
    have e8 : (be 8 x.hi.toNat).length = 8 := be_length _ _
    rw [show (be 8 x.hi.toNat ++ be 8 x.lo.toNat).take 8 = be 8 x.hi.toNat by rw [List.take_append_of_le_length (by omega)]; rw [List.take_of_length_le (by omega)]]
    rw [show (be 8 x.hi.toNat ++ be 8 x.lo.toNat).drop 8 = be 8 x.lo.toNat by rw [List.drop_append_of_le_length (by omega), List.drop_of_length_le (by omega), List.nil_append]]
    rw [val_mod 8 _ (by omega), val_mod 8 _ (by omega), toNat_int h2, toNat_int h4]
    show _ = Except.ok (({ y with v6 := x.v6, hi := x.hi, lo := x.lo } : D), r)
    rw [h1]
  · have h1 : x.text.size ≤ 255 := hg
    show mapR (rTake (UInt8.ofNat x.text.size).toNat (x.text.data.toList ++ r)) _ = _
    have e : (UInt8.ofNat x.text.size).toNat = x.text.data.toList.length := by rw [u8_of, Array.length_toList]; show x.text.size % 256 = x.text.size; omega
    rw [e, take_app]; rfl
  · obtain rfl := hr rfl
    show Except.ok (_, _) = _
    rw [List.append_nil]; rfl
  · rfl
  · obtain ⟨h1, h2⟩ : onlyT x.bits.toNat = true ∧ 0 < x.bits := hg
    show mapR (rBits (wireB x.bits.toNat ++ r)) _ = _
    rw [rBits_wire h1 (by omega)]
    show Except.ok (({ y with bits := (x.bits.toNat : Int) } : D), r) = _
    rw [toNat_int (by omega)]; rfl
  · exact nump (k := 2) (n := x.a) (f := fun n => { y with a := n }) rfl hg.1 hg.2 (by rw [toNat_int (show 0 ≤ x.a from hg.1)]; rfl)
  · exact nump (k := 2) (n := x.b) (f := fun n => { y with b := n }) rfl hg.1 hg.2 (by rw [toNat_int (show 0 ≤ x.b from hg.1)]; rfl)
  · exact nump (k := 2) (n := x.c) (f := fun n => { y with c := n }) rfl hg.1 hg.2 (by rw [toNat_int (show 0 ≤ x.c from hg.1)]; rfl)
  · exact nump (k := 2) (n := x.f) (f := fun n => { y with f := n }) rfl hg.1 hg.2 (by rw [toNat_int (show 0 ≤ x.f from hg.1)]; rfl)
  · exact nump (k := 1) (n := x.b) (f := fun n => { y with b := n }) rfl hg.1 hg.2 (by rw [toNat_int (show 0 ≤ x.b from hg.1)]; rfl)
  · exact nump (k := 1) (n := x.c) (f := fun n => { y with c := n }) rfl hg.1 hg.2 (by rw [toNat_int (show 0 ≤ x.c from hg.1)]; rfl)
  · exact nump (k := 4) (n := x.a) (f := fun n => { y with a := n }) rfl hg.1 hg.2 (by rw [toNat_int (show 0 ≤ x.a from hg.1)]; rfl)
  · exact nump (k := 4) (n := x.b) (f := fun n => { y with b := n }) rfl hg.1 hg.2 (by rw [toNat_int (show 0 ≤ x.b from hg.1)]; rfl)
  · exact nump (k := 4) (n := x.c) (f := fun n => { y with c := n }) rfl hg.1 hg.2 (by rw [toNat_int (show 0 ≤ x.c from hg.1)]; rfl)
  · exact nump (k := 4) (n := x.d) (f := fun n => { y with d := n }) rfl hg.1 hg.2 (by rw [toNat_int (show 0 ≤ x.d from hg.1)]; rfl)
  · exact nump (k := 4) (n := x.e) (f := fun n => { y with e := n }) rfl hg.1 hg.2 (by rw [toNat_int (show 0 ≤ x.e from hg.1)]; rfl)
theorem mapR_inv {α : Type} {r : Rs α} {f : α → D} {y : D} {q : List UInt8} (h : mapR r f = .ok (y, q)) : ∃ a, r = .ok (a, q) ∧ y = f a := by
  cases r with
  | error e => simp [mapR] at h
  | ok v =>
    obtain ⟨a, r'⟩ := v
    simp only [mapR, Except.ok.injEq, Prod.mk.injEq] at h
    exact ⟨a, by rw [h.2], h.1.symm⟩
/-- No letters A to Z. -/
def nocap (l : List UInt8) : Bool := l.all fun c => !cap c
theorem nocap_app {l m : List UInt8} (h : nocap (l ++ m) = true) : nocap l = true ∧ nocap m = true := by
  unfold nocap at h ⊢
  rwa [List.all_append, Bool.and_eq_true] at h
/-- What was read of a field is what it is written as. -/
theorem rField_inv {c : UInt8} {r q : List UInt8} {y y' : D} (hc : letters.contains c = true) (h : rField c r y = .ok (y', q)) : y' = upd c y' y ∧ ∃ m, r = m ++ q ∧ (nocap m = true → m = piece c y') := by
  rcases letter_cases hc with rfl | rfl | rfl | rfl | rfl | rfl | rfl | rfl | rfl | rfl | rfl | rfl | rfl | rfl | rfl | rfl | rfl | rfl | rfl
  · obtain ⟨n, h1, rfl⟩ := mapR_inv (show mapR (readName r) _ = _ from h)
    obtain ⟨m, e1, e2, e3⟩ := readName_inv h1
    exact ⟨rfl, m, e1, fun hm => e2 hm⟩
  · obtain ⟨n, h1, rfl⟩ := mapR_inv (show mapR (readName r) _ = _ from h)
    obtain ⟨m, e1, e2, e3⟩ := readName_inv h1
    exact ⟨rfl, m, e1, fun hm => e2 hm⟩
  · obtain ⟨l, h1, rfl⟩ := mapR_inv (show mapR (rTake 4 r) _ = _ from h)
    obtain ⟨e1, e2⟩ := take_inv h1
    refine ⟨rfl, l, e2, fun _ => ?_⟩
    show l = be 4 ((val l 0 : Nat) : Int).toNat
    have := be_val l 0
    rw [e1] at this
    rw [Int.toNat_natCast, this]
  · obtain ⟨l, h1, rfl⟩ := mapR_inv (show mapR (rTake 16 r) _ = _ from h)
    obtain ⟨e1, e2⟩ := take_inv h1
    refine ⟨rfl, l, e2, fun _ => ?_⟩
    show l = be 8 ((val (l.take 8) 0 : Nat) : Int).toNat ++ be 8 ((val (l.drop 8) 0 : Nat) : Int).toNat
    have t1 := be_val (l.take 8) 0
    have t2 := be_val (l.drop 8) 0
    rw [List.length_take, e1] at t1
    rw [List.length_drop, e1] at t2
    rw [Int.toNat_natCast, Int.toNat_natCast, show be 8 (val (l.take 8) 0) = l.take 8 from t1, show be 8 (val (l.drop 8) 0) = l.drop 8 from t2, List.take_append_drop]
  · cases r with
    | nil => cases h
    | cons b r =>
      obtain ⟨l, h1, rfl⟩ := mapR_inv (show mapR (rTake b.toNat r) _ = _ from h)
      obtain ⟨e1, e2⟩ := take_inv h1
      refine ⟨rfl, b :: l, by rw [e2]; rfl, fun _ => ?_⟩
      show b :: l = UInt8.ofNat (strOf l).size :: l
      rw [strOf_size, e1]; simp
  · simp only [show rField 114 r y = .ok (({ y with text := strOf r } : D), []) from rfl, Except.ok.injEq, Prod.mk.injEq] at h
    obtain ⟨rfl, rfl⟩ := h
    exact ⟨rfl, r, by simp, fun _ => rfl⟩
  · cases r with
    | nil => cases h
    | cons b r =>
      have h3 : (if b = 253 then (.ok (y, r) : Rs D) else .error 7) = .ok (y', q) := h
      by_cases h4 : b = 253
      · rw [if_pos h4] at h3; simp only [Except.ok.injEq, Prod.mk.injEq] at h3
        obtain ⟨rfl, rfl⟩ := h3
        exact ⟨rfl, [b], rfl, fun _ => by rw [h4]; rfl⟩
      · rw [if_neg h4] at h3; cases h3
  · obtain ⟨s, h1, rfl⟩ := mapR_inv (show mapR (rBits r) _ = _ from h)
    obtain ⟨e1, e2, e3⟩ := rBits_inv h1
    exact ⟨rfl, _, e1, fun _ => rfl⟩
  · exact numi (k := 2) (f := fun n => { y with a := n }) h rfl (fun _ => rfl) (fun _ => rfl)
  · exact numi (k := 2) (f := fun n => { y with b := n }) h rfl (fun _ => rfl) (fun _ => rfl)
  · exact numi (k := 2) (f := fun n => { y with c := n }) h rfl (fun _ => rfl) (fun _ => rfl)
  · exact numi (k := 2) (f := fun n => { y with f := n }) h rfl (fun _ => rfl) (fun _ => rfl)
  · exact numi (k := 1) (f := fun n => { y with b := n }) h rfl (fun _ => rfl) (fun _ => rfl)
  · exact numi (k := 1) (f := fun n => { y with c := n }) h rfl (fun _ => rfl) (fun _ => rfl)
  · exact numi (k := 4) (f := fun n => { y with a := n }) h rfl (fun _ => rfl) (fun _ => rfl)
  · exact numi (k := 4) (f := fun n => { y with b := n }) h rfl (fun _ => rfl) (fun _ => rfl)
  · exact numi (k := 4) (f := fun n => { y with c := n }) h rfl (fun _ => rfl) (fun _ => rfl)
  · exact numi (k := 4) (f := fun n => { y with d := n }) h rfl (fun _ => rfl) (fun _ => rfl)
  · exact numi (k := 4) (f := fun n => { y with e := n }) h rfl (fun _ => rfl) (fun _ => rfl)
/-- A field that is cut is short. -/
theorem rField_cut (c : UInt8) (x y : D) (j : Nat) (hc : letters.contains c = true) (hg : goodP c x) (hr : c ≠ 114) (hj : j < (piece c x).length) : rField c ((piece c x).take j) y = .error 6 := by
  rcases letter_cases hc with rfl | rfl | rfl | rfl | rfl | rfl | rfl | rfl | rfl | rfl | rfl | rfl | rfl | rfl | rfl | rfl | rfl | rfl | rfl
  · show mapR (readName ((wireN x.host.data.toList).take j)) _ = _
    rw [readName_cut (by exact hg) j hj]; rfl
  · show mapR (readName ((wireN x.mail.data.toList).take j)) _ = _
    rw [readName_cut (by exact hg) j hj]; rfl
  · obtain ⟨h1, h2, h3, h4⟩ : x.v6 = false ∧ x.hi = 0 ∧ 0 ≤ x.lo ∧ x.lo < 4294967296 := hg
    have hj : j < (addrW x).length := hj
    have hl : (addrW x).length = 4 := by unfold addrW; rw [h1, if_neg (by simp), be_length]
    show mapR (rTake 4 ((addrW x).take j)) _ = _
    rw [take_cut (by omega) (by omega)]; rfl
  · obtain ⟨h1, h2, h3, h4, h5⟩ : x.v6 = true ∧ 0 ≤ x.hi ∧ x.hi < 18446744073709551616 ∧ 0 ≤ x.lo ∧ x.lo < 18446744073709551616 := hg
    have hj : j < (addrW x).length := hj
    have hl : (addrW x).length = 16 := by unfold addrW; rw [h1, if_pos rfl, List.length_append, be_length, be_length]
    show mapR (rTake 16 ((addrW x).take j)) _ = _
    rw [take_cut (by omega) (by omega)]; rfl
  · have h1 : x.text.size ≤ 255 := hg
    cases j with
    | zero => rfl
    | succ j =>
      have hj : j + 1 < (UInt8.ofNat x.text.size :: x.text.data.toList).length := hj
      rw [List.length_cons] at hj
      show mapR (rTake (UInt8.ofNat x.text.size).toNat (x.text.data.toList.take j)) _ = _
      have e : (UInt8.ofNat x.text.size).toNat = x.text.data.toList.length := by rw [u8_of, Array.length_toList]; show x.text.size % 256 = x.text.size; omega
      rw [e, take_cut (by omega) (by omega)]; rfl
  · exact absurd rfl hr
  · have hj : j < ([253] : List UInt8).length := hj
    rw [List.length_singleton] at hj
    obtain rfl : j = 0 := by omega
    rfl
  · obtain ⟨h1, h2⟩ : onlyT x.bits.toNat = true ∧ 0 < x.bits := hg
    show mapR (rBits ((wireB x.bits.toNat).take j)) _ = _
    rw [rBits_cut h1 (by omega) j hj]; rfl
  · exact numc (k := 2) (n := x.a) (f := fun n => { y with a := n }) rfl rfl hj
  · exact numc (k := 2) (n := x.b) (f := fun n => { y with b := n }) rfl rfl hj
  · exact numc (k := 2) (n := x.c) (f := fun n => { y with c := n }) rfl rfl hj
  · exact numc (k := 2) (n := x.f) (f := fun n => { y with f := n }) rfl rfl hj
  · exact numc (k := 1) (n := x.b) (f := fun n => { y with b := n }) rfl rfl hj
  · exact numc (k := 1) (n := x.c) (f := fun n => { y with c := n }) rfl rfl hj
  · exact numc (k := 4) (n := x.a) (f := fun n => { y with a := n }) rfl rfl hj
  · exact numc (k := 4) (n := x.b) (f := fun n => { y with b := n }) rfl rfl hj
  · exact numc (k := 4) (n := x.c) (f := fun n => { y with c := n }) rfl rfl hj
  · exact numc (k := 4) (n := x.d) (f := fun n => { y with d := n }) rfl rfl hj
  · exact numc (k := 4) (n := x.e) (f := fun n => { y with e := n }) rfl rfl hj
end Go.Proofs.YtaehonmfoanloaaDoor.Hand
namespace Go.Proofs.YtaehonmfoanloaaDoor.Hand
open Go.RowKit Go.Proofs.YtaehonmfoanloaaDoorW.PrintWords Go.Proofs.YtaehonmfoanloaaDoor.RdW Go.Proofs.YtaehonmfoanloaaDoor.Str
set_option maxRecDepth 100000
set_option maxHeartbeats 4000000
set_option linter.all false
theorem piece_keep {c c' : UInt8} (hc : letters.contains c = true) (hc' : letters.contains c' = true) (h : slot c ≠ slot c') (v y : D) : piece c (upd c' v y) = piece c y := by
  rcases letter_cases hc with rfl | rfl | rfl | rfl | rfl | rfl | rfl | rfl | rfl | rfl | rfl | rfl | rfl | rfl | rfl | rfl | rfl | rfl | rfl <;>
    rcases letter_cases hc' with rfl | rfl | rfl | rfl | rfl | rfl | rfl | rfl | rfl | rfl | rfl | rfl | rfl | rfl | rfl | rfl | rfl | rfl | rfl <;>
      first | rfl | exact absurd rfl h
theorem wireF_cons (c : UInt8) (cs : List UInt8) (x : D) : wireF (c :: cs) x = piece c x ++ wireF cs x := by unfold wireF; rw [List.map_cons, List.flatten_cons]
def allL (fs : List UInt8) : Prop := ∀ c ∈ fs, letters.contains c = true
def apart (fs : List UInt8) : Prop := fs.Pairwise fun a b => slot a ≠ slot b
theorem readF_cons {c : UInt8} {cs r q : List UInt8} {y x : D} (h : readF (c :: cs) r y = .ok (x, q)) : ∃ z s, rField c r y = .ok (z, s) ∧ readF cs s z = .ok (x, q) := by
  have h2 : (match rField c r y with | .error n => (.error n : Rs D) | .ok (y, q) => readF cs q y) = .ok (x, q) := h
  cases hr : rField c r y with
  | error n => rw [hr] at h2; cases h2
  | ok v => obtain ⟨z, s⟩ := v; rw [hr] at h2; exact ⟨z, s, rfl, h2⟩
theorem readF_ok {c : UInt8} {cs r s : List UInt8} {y z : D} (h : rField c r y = .ok (z, s)) : readF (c :: cs) r y = readF cs s z := by
  show (match rField c r y with | .error n => (.error n : Rs D) | .ok (y, q) => readF cs q y) = _
  rw [h]
theorem readF_no {c : UInt8} {cs r : List UInt8} {y : D} {n : Int} (h : rField c r y = .error n) : readF (c :: cs) r y = .error n := by
  show (match rField c r y with | .error n => (.error n : Rs D) | .ok (y, q) => readF cs q y) = _
  rw [h]
theorem readF_keep : ∀ (fs r : List UInt8) (y x : D) (q : List UInt8), allL fs → readF fs r y = .ok (x, q) → ∀ c, letters.contains c = true → (∀ d ∈ fs, slot c ≠ slot d) → piece c x = piece c y
  | [], r, y, x, q, _, h, c, _, _ => by
    simp only [readF, Except.ok.injEq, Prod.mk.injEq] at h
    rw [h.1]
  | d :: ds, r, y, x, q, ha, h, c, hc, hs => by
    obtain ⟨z, s, h1, h2⟩ := readF_cons h
    have hd := ha d (by simp)
    obtain ⟨e, _⟩ := rField_inv hd h1
    rw [readF_keep ds s z x q (fun d hd => ha d (List.mem_cons_of_mem _ hd)) h2 c hc (fun d hd => hs d (List.mem_cons_of_mem _ hd)), e, piece_keep hc hd (hs d (by simp))]
theorem readF_inv : ∀ (fs r : List UInt8) (y x : D) (q : List UInt8), allL fs → apart fs → readF fs r y = .ok (x, q) → ∃ m, r = m ++ q ∧ (nocap m = true → m = wireF fs x)
  | [], r, y, x, q, _, _, h => by
    simp only [readF, Except.ok.injEq, Prod.mk.injEq] at h
    exact ⟨[], h.2, fun _ => rfl⟩
  | c :: cs, r, y, x, q, ha, hp, h => by
    obtain ⟨z, s, h1, h2⟩ := readF_cons h
    have hc := ha c (by simp)
    have ha' : allL cs := fun d hd => ha d (List.mem_cons_of_mem _ hd)
    obtain ⟨_, m, e1, e2⟩ := rField_inv hc h1
    obtain ⟨m', e3, e4⟩ := readF_inv cs s z x q ha' (List.pairwise_cons.1 hp).2 h2
    have ek := readF_keep cs s z x q ha' h2 c hc (List.pairwise_cons.1 hp).1
    refine ⟨m ++ m', by rw [e1, e3, List.append_assoc], fun hn => ?_⟩
    obtain ⟨n1, n2⟩ := nocap_app hn
    rw [wireF_cons, ek, ← e2 n1, ← e4 n2]
def foldU (fs : List UInt8) (x y : D) : D := fs.foldl (fun y c => upd c x y) y
/-- A text to the end stands last, and nothing behind it. -/
def lastR (r : List UInt8) : List UInt8 → Prop
  | [] => True
  | c :: cs => (c = 114 → cs = [] ∧ r = []) ∧ lastR r cs
theorem readF_piece (r : List UInt8) : ∀ (fs : List UInt8) (x y : D), allL fs → (∀ c ∈ fs, goodP c x) → lastR r fs → readF fs (wireF fs x ++ r) y = .ok (foldU fs x y, r)
  | [], x, y, _, _, _ => rfl
  | c :: cs, x, y, ha, hg, hl => by
    have h1 := rField_piece c x y (wireF cs x ++ r) (ha c (by simp)) (hg c (by simp)) (fun hc => by
      obtain ⟨e1, e2⟩ := hl.1 hc
      rw [e1, e2]; rfl)
    rw [wireF_cons, List.append_assoc, readF_ok h1]
    exact readF_piece r cs x (upd c x y) (fun d hd => ha d (List.mem_cons_of_mem _ hd)) (fun d hd => hg d (List.mem_cons_of_mem _ hd)) hl.2
theorem readF_cut : ∀ (fs : List UInt8) (x y : D) (j : Nat), allL fs → (∀ c ∈ fs, goodP c x) → (∀ c ∈ fs, c ≠ 114) → j < (wireF fs x).length → readF fs ((wireF fs x).take j) y = .error 6
  | [], x, y, j, _, _, _, hj => by simp [wireF] at hj
  | c :: cs, x, y, j, ha, hg, hn, hj => by
    rw [wireF_cons] at hj ⊢
    rw [List.length_append] at hj
    by_cases hlt : j < (piece c x).length
    · rw [List.take_append_of_le_length (by omega)]
      exact readF_no (rField_cut c x y j (ha c (by simp)) (hg c (by simp)) (hn c (by simp)) hlt)
    · rw [List.take_append, List.take_of_length_le (by omega)]
      rw [readF_ok (rField_piece c x y _ (ha c (by simp)) (hg c (by simp)) (fun h => absurd h (hn c (by simp))))]
      exact readF_cut cs x _ _ (fun d hd => ha d (List.mem_cons_of_mem _ hd)) (fun d hd => hg d (List.mem_cons_of_mem _ hd)) (fun d hd => hn d (List.mem_cons_of_mem _ hd)) (by omega)
/-! ### the types -/
theorem KT_all {P : Int → Prop} (h1 : P 1) (h2 : P 2) (h3 : P 5) (h4 : P 6) (h5 : P 12) (h6 : P 15) (h7 : P 16) (h8 : P 28) (h9 : P 33) (h10 : P 39) (h11 : P 43) (h12 : P 46) (h13 : P 47) (h14 : P 48) (t : Int) (hk : knownB t = true) : P t := by
  rw [knownB_iff] at hk
  rcases hk with rfl | rfl | rfl | rfl | rfl | rfl | rfl | rfl | rfl | rfl | rfl | rfl | rfl | rfl <;> assumption
theorem flds_all (t : Int) (hk : knownB t = true) : allL (flds t) := by
  intro c hc
  exact List.all_eq_true.1 (flds_ok t hk).2 c hc
theorem flds_apart (t : Int) (hk : knownB t = true) : apart (flds t) := by
  revert t
  unfold apart
  refine KT_all ?_ ?_ ?_ ?_ ?_ ?_ ?_ ?_ ?_ ?_ ?_ ?_ ?_ ?_ <;> decide +kernel
theorem flds_fold (x : D) (t : Int) (hk : knownB t = true) : foldU (flds t) x D.z = usedD t x := by
  revert t
  refine KT_all ?_ ?_ ?_ ?_ ?_ ?_ ?_ ?_ ?_ ?_ ?_ ?_ ?_ ?_ <;> rfl
theorem flds_last (t : Int) (hk : knownB t = true) : lastR [] (flds t) := by
  revert t
  refine KT_all ?_ ?_ ?_ ?_ ?_ ?_ ?_ ?_ ?_ ?_ ?_ ?_ ?_ ?_ <;> simp [flds, lastR]
theorem flds_no114 (t : Int) (hk : knownB t = true) (h1 : t ≠ 43) (h2 : t ≠ 46) (h3 : t ≠ 48) : ∀ c ∈ flds t, c ≠ 114 := by
  revert h1 h2 h3
  revert t
  refine KT_all ?_ ?_ ?_ ?_ ?_ ?_ ?_ ?_ ?_ ?_ ?_ ?_ ?_ ?_ <;> simp [flds]
theorem last_of_no {r : List UInt8} : ∀ {fs : List UInt8}, (∀ c ∈ fs, c ≠ 114) → lastR r fs
  | [], _ => trivial
  | c :: cs, h => ⟨fun e => absurd e (h c (by simp)), last_of_no fun d hd => h d (List.mem_cons_of_mem _ hd)⟩
theorem inB_iff {x m : Int} (h : inB x m = true) : 0 ≤ x ∧ x ≤ m := by
  unfold inB at h
  simpa using h
theorem host_name {n : ByteArray} (h : hostB n = true) : nameB n = true := by
  unfold hostB at h
  rw [Bool.and_eq_true] at h
  exact h.1
theorem valid_used {t : Int} {x : D} (h : validS t x = true) : knownB t = true ∧ usedD t x = x ∧ fieldsOk t x = true := by
  unfold validS at h
  simp only [Bool.and_eq_true, D.eqb_iff] at h
  exact h
theorem gA {x : D} (h : inB x.a 65535 = true) : goodP 65 x := by obtain ⟨h0, h1⟩ := inB_iff h; show 0 ≤ x.a ∧ x.a < 65536; omega
theorem gB {x : D} (h : inB x.b 65535 = true) : goodP 66 x := by obtain ⟨h0, h1⟩ := inB_iff h; show 0 ≤ x.b ∧ x.b < 65536; omega
theorem gC {x : D} (h : inB x.c 65535 = true) : goodP 67 x := by obtain ⟨h0, h1⟩ := inB_iff h; show 0 ≤ x.c ∧ x.c < 65536; omega
theorem gF {x : D} (h : inB x.f 65535 = true) : goodP 70 x := by obtain ⟨h0, h1⟩ := inB_iff h; show 0 ≤ x.f ∧ x.f < 65536; omega
theorem gb {x : D} (h : inB x.b 255 = true) : goodP 98 x := by obtain ⟨h0, h1⟩ := inB_iff h; show 0 ≤ x.b ∧ x.b < 256; omega
theorem gc {x : D} (h : inB x.c 255 = true) : goodP 99 x := by obtain ⟨h0, h1⟩ := inB_iff h; show 0 ≤ x.c ∧ x.c < 256; omega
theorem gv {x : D} (h : inB x.a 4294967295 = true) : goodP 118 x := by obtain ⟨h0, h1⟩ := inB_iff h; show 0 ≤ x.a ∧ x.a < 4294967296; omega
theorem gw {x : D} (h : inB x.b 2147483647 = true) : goodP 119 x := by obtain ⟨h0, h1⟩ := inB_iff h; show 0 ≤ x.b ∧ x.b < 4294967296; omega
theorem gx {x : D} (h : inB x.c 2147483647 = true) : goodP 120 x := by obtain ⟨h0, h1⟩ := inB_iff h; show 0 ≤ x.c ∧ x.c < 4294967296; omega
theorem gy {x : D} (h : inB x.d 4294967295 = true) : goodP 121 x := by obtain ⟨h0, h1⟩ := inB_iff h; show 0 ≤ x.d ∧ x.d < 4294967296; omega
theorem gz {x : D} (h : inB x.e 4294967295 = true) : goodP 122 x := by obtain ⟨h0, h1⟩ := inB_iff h; show 0 ≤ x.e ∧ x.e < 4294967296; omega
theorem in_mono {x m n : Int} (h : inB x m = true) (hm : m ≤ n) : inB x n = true := by
  obtain ⟨h0, h1⟩ := inB_iff h
  unfold inB; simp; omega
theorem in_known {x : Int} (h : knownB x = true) : inB x 65535 = true := by
  rw [knownB_iff] at h; unfold KT at h; unfold inB; simp; omega
theorem valid_good (x : D) (hx : x.ok) (t : Int) (hk : knownB t = true) : fieldsOk t x = true → ∀ c ∈ flds t, goodP c x := by
  revert t
  refine KT_all ?_ ?_ ?_ ?_ ?_ ?_ ?_ ?_ ?_ ?_ ?_ ?_ ?_ ?_
  · intro h c hc
    have h : (addrB x.v6 x.hi x.lo && !x.v6) = true := h
    obtain rfl : c = 52 := by simpa [flds] using hc
    simp only [Bool.and_eq_true, Bool.not_eq_true'] at h
    obtain ⟨h1, h2⟩ := h
    unfold addrB at h1
    rw [h2] at h1
    simp at h1
    have h3 := hx.lo0
    show x.v6 = false ∧ x.hi = 0 ∧ 0 ≤ x.lo ∧ x.lo < 4294967296
    exact ⟨h2, h1.1, h3, by omega⟩
  · intro h c hc
    obtain rfl : c = 104 := by simpa [flds] using hc
    exact host_name h
  · intro h c hc
    obtain rfl : c = 104 := by simpa [flds] using hc
    exact host_name h
  · intro h c hc
    have h : (hostB x.host && (hostB x.mail && (inB x.a 4294967295 && (inB x.b 2147483647 && (inB x.c 2147483647 && (inB x.d 2147483647 && inB x.e 2147483647)))))) = true := h
    simp only [Bool.and_eq_true] at h
    obtain ⟨h1, h2, h3, h4, h5, h6, h7⟩ := h
    have hc : c = 104 ∨ c = 109 ∨ c = 118 ∨ c = 119 ∨ c = 120 ∨ c = 121 ∨ c = 122 := by simpa [flds] using hc
    rcases hc with rfl | rfl | rfl | rfl | rfl | rfl | rfl
    · exact host_name h1
    · exact host_name h2
    · exact gv h3
    · exact gw h4
    · exact gx h5
    · exact gy (in_mono h6 (by omega))
    · exact gz (in_mono h7 (by omega))
  · intro h c hc
    obtain rfl : c = 104 := by simpa [flds] using hc
    exact host_name h
  · intro h c hc
    have h : (hostB x.host && inB x.a 65535) = true := h
    simp only [Bool.and_eq_true] at h
    have hc : c = 65 ∨ c = 104 := by simpa [flds] using hc
    rcases hc with rfl | rfl
    · exact gA h.2
    · exact host_name h.1
  · intro h c hc
    obtain rfl : c = 116 := by simpa [flds] using hc
    exact of_decide_eq_true (p := x.text.size ≤ 255) h
  · intro h c hc
    obtain rfl : c = 54 := by simpa [flds] using hc
    exact ⟨h, hx.hi0, hx.hi1, hx.lo0, hx.lo1⟩
  · intro h c hc
    have h : (hostB x.host && (inB x.a 65535 && (inB x.b 65535 && inB x.c 65535))) = true := h
    simp only [Bool.and_eq_true] at h
    have hc : c = 65 ∨ c = 66 ∨ c = 67 ∨ c = 104 := by simpa [flds] using hc
    rcases hc with rfl | rfl | rfl | rfl
    · exact gA h.2.1
    · exact gB h.2.2.1
    · exact gC h.2.2.2
    · exact host_name h.1
  · intro h c hc
    obtain rfl : c = 104 := by simpa [flds] using hc
    exact host_name h
  · intro h c hc
    have h : (longB x.text && (inB x.a 65535 && (inB x.b 255 && inB x.c 255))) = true := h
    simp only [Bool.and_eq_true] at h
    have hc : c = 65 ∨ c = 98 ∨ c = 99 ∨ c = 114 := by simpa [flds] using hc
    rcases hc with rfl | rfl | rfl | rfl
    · exact gA h.2.1
    · exact gb h.2.2.1
    · exact gc h.2.2.2
    · exact trivial
  · intro h c hc
    have h : (longB x.text && (hostB x.host && (knownB x.a && ((x.a != 46) && (inB x.b 127 && (inB x.c 2147483647 && (inB x.d 4294967295 && (inB x.e 4294967295 && inB x.f 65535)))))))) = true := h
    simp only [Bool.and_eq_true] at h
    obtain ⟨h1, h2, h3, h4, h5, h6, h7, h8, h9⟩ := h
    have hc : c = 65 ∨ c = 115 ∨ c = 98 ∨ c = 120 ∨ c = 121 ∨ c = 122 ∨ c = 70 ∨ c = 104 ∨ c = 114 := by simpa [flds] using hc
    rcases hc with rfl | rfl | rfl | rfl | rfl | rfl | rfl | rfl | rfl
    · exact gA (in_known h3)
    · exact trivial
    · exact gb (in_mono h5 (by omega))
    · exact gx h6
    · exact gy h7
    · exact gz h8
    · exact gF h9
    · exact host_name h2
    · exact trivial
  · intro h c hc
    have h : (nameB x.host && ((x.bits != 0) && setB x.bits)) = true := h
    simp only [Bool.and_eq_true, bne_iff_ne] at h
    have hc : c = 104 ∨ c = 110 := by simpa [flds] using hc
    rcases hc with rfl | rfl
    · exact h.1
    · have h0 := hx.bits0
      exact ⟨h.2.2, by have := h.2.1; omega⟩
  · intro h c hc
    have h : (longB x.text && ((x.a == 256 || x.a == 257) && ((x.b == 3) && inB x.c 255))) = true := h
    simp only [Bool.and_eq_true, Bool.or_eq_true, beq_iff_eq] at h
    have hc : c = 65 ∨ c = 98 ∨ c = 99 ∨ c = 114 := by simpa [flds] using hc
    rcases hc with rfl | rfl | rfl | rfl
    · exact gA (by have := h.2.1; unfold inB; simp; omega)
    · exact gb (by have := h.2.2.1; unfold inB; simp; omega)
    · exact gc h.2.2.2
    · exact trivial
theorem valid_e (x : D) (t : Int) (hk : knownB t = true) : usedD t x = x → fieldsOk t x = true → 0 ≤ x.e := by
  revert t
  have hz : ∀ {t : Int}, (usedD t x).e = 0 → usedD t x = x → fieldsOk t x = true → 0 ≤ x.e := by
    intro t h0 hu _
    rw [← hu, h0]; decide
  refine KT_all (hz rfl) (hz rfl) (hz rfl) ?_ (hz rfl) (hz rfl) (hz rfl) (hz rfl) (hz rfl) (hz rfl) (hz rfl) ?_ (hz rfl) (hz rfl)
  · intro _ h
    have h : (hostB x.host && (hostB x.mail && (inB x.a 4294967295 && (inB x.b 2147483647 && (inB x.c 2147483647 && (inB x.d 2147483647 && inB x.e 2147483647)))))) = true := h
    simp only [Bool.and_eq_true] at h
    exact (inB_iff h.2.2.2.2.2.2).1
  · intro _ h
    have h : (longB x.text && (hostB x.host && (knownB x.a && ((x.a != 46) && (inB x.b 127 && (inB x.c 2147483647 && (inB x.d 4294967295 && (inB x.e 4294967295 && inB x.f 65535)))))))) = true := h
    simp only [Bool.and_eq_true] at h
    exact (inB_iff h.2.2.2.2.2.2.2.1).1
/-- What Wire asks of the fields. -/
theorem wire_good {t : Int} {x : D} (hx : x.ok) (hv : validS t x = true) : ∀ c ∈ flds t, (c = 52 ∨ c = 54 → addrB x.v6 x.hi x.lo = true) ∧ 0 ≤ (numOf c x).1 := by
  obtain ⟨hk, hu, hf⟩ := valid_used hv
  intro c hc
  have hg := valid_good x hx t hk hf c hc
  have he := valid_e x t hk hu hf
  have hl := flds_all t hk c hc
  rcases letter_cases hl with rfl | rfl | rfl | rfl | rfl | rfl | rfl | rfl | rfl | rfl | rfl | rfl | rfl | rfl | rfl | rfl | rfl | rfl | rfl
  · exact ⟨fun h => absurd h (by decide), he⟩
  · exact ⟨fun h => absurd h (by decide), he⟩
  · obtain ⟨h1, h2, h3, h4⟩ : x.v6 = false ∧ x.hi = 0 ∧ 0 ≤ x.lo ∧ x.lo < 4294967296 := hg
    exact ⟨fun _ => by unfold addrB; rw [h1, h2]; simp; omega, he⟩
  · obtain ⟨h1, _⟩ : x.v6 = true ∧ 0 ≤ x.hi ∧ x.hi < 18446744073709551616 ∧ 0 ≤ x.lo ∧ x.lo < 18446744073709551616 := hg
    exact ⟨fun _ => by unfold addrB; rw [h1]; rfl, he⟩
  · exact ⟨fun h => absurd h (by decide), he⟩
  · exact ⟨fun h => absurd h (by decide), he⟩
  · exact ⟨fun h => absurd h (by decide), he⟩
  · exact ⟨fun h => absurd h (by decide), he⟩
  all_goals exact ⟨fun h => absurd h (by decide), hg.1⟩
/-! ### the laws -/
theorem back_law {t : Int} {x : D} (hx : x.ok) (hv : validS t x = true) : readS t (wireF (flds t) x) = (x, 0) := by
  obtain ⟨hk, hu, hf⟩ := valid_used hv
  have h := readF_piece [] (flds t) x D.z (flds_all t hk) (valid_good x hx t hk hf) (flds_last t hk)
  rw [List.append_nil, flds_fold x t hk, hu] at h
  unfold readS
  rw [if_pos hk, h]
  show (if ([] : List UInt8) = [] then (if validS t x then (x, (0 : Int)) else (D.z, 5)) else (D.z, 8)) = (x, 0)
  rw [if_pos rfl, if_pos hv]
theorem trail_law {t : Int} {x : D} (hx : x.ok) (hv : validS t x = true) (h1 : t ≠ 43) (h2 : t ≠ 46) (h3 : t ≠ 48) (b : UInt8) : readS t (wireF (flds t) x ++ [b]) = (D.z, 8) := by
  obtain ⟨hk, hu, hf⟩ := valid_used hv
  have h := readF_piece [b] (flds t) x D.z (flds_all t hk) (valid_good x hx t hk hf) (last_of_no (flds_no114 t hk h1 h2 h3))
  unfold readS
  rw [if_pos hk, h]
  rfl
theorem cut_law {t : Int} {x : D} (hx : x.ok) (hv : validS t x = true) (h1 : t ≠ 43) (h2 : t ≠ 46) (h3 : t ≠ 48) (j : Nat) (hj : j < (wireF (flds t) x).length) : readS t ((wireF (flds t) x).take j) = (D.z, 6) := by
  obtain ⟨hk, hu, hf⟩ := valid_used hv
  have h := readF_cut (flds t) x D.z j (flds_all t hk) (valid_good x hx t hk hf) (flds_no114 t hk h1 h2 h3) hj
  unfold readS
  rw [if_pos hk, h]
theorem mapR_err {α : Type} {r : Rs α} {f : α → D} {n : Int} (h : mapR r f = .error n) : r = .error n := by
  cases r with
  | error e => simpa [mapR] using h
  | ok v => cases h
theorem rNum_err {k a : Nat} {r : List UInt8} {n : Int} (h : rNum k a r = .error n) : n ≠ 0 := by
  rw [rNum_eq] at h
  split at h
  · cases h
  · injection h with h; rw [← h]; decide
theorem rTake_err {k : Nat} {r : List UInt8} {n : Int} (h : rTake k r = .error n) : n ≠ 0 := by
  unfold rTake at h
  split at h
  · cases h
  · injection h with h; rw [← h]; decide
theorem rChars_err (k : Nat) : ∀ {o r : List UInt8} {n : Int}, rChars k o r = .error n → n ≠ 0 := by
  induction k with
  | zero => intro o r n h; cases h
  | succ k ih =>
    intro o r n h
    cases r with
    | nil => rw [rChars] at h; injection h with h; rw [← h]; decide
    | cons b r =>
      rw [rChars] at h
      split at h
      · exact ih h
      · injection h with h; rw [← h]; decide
theorem rName_err (k : Nat) : ∀ {o r : List UInt8} {n : Int}, rName k o r = .error n → n ≠ 0 := by
  induction k with
  | zero => intro o r n h; rw [rName] at h; injection h with h; rw [← h]; decide
  | succ k ih =>
    intro o r n h
    cases r with
    | nil => rw [rName] at h; injection h with h; rw [← h]; decide
    | cons b r =>
      rw [rName] at h
      split at h
      · injection h with h; rw [← h]; decide
      · split at h
        · cases h
        · split at h
          · injection h with h; rw [← h]; decide
          · split at h
            · rename_i e hl
              injection h with h
              rw [← h]
              unfold rLabel at hl
              split at hl
              · cases hl
              · exact rChars_err _ hl
            · exact ih h
theorem rBits_err {r : List UInt8} {n : Int} (h : rBits r = .error n) : n ≠ 0 := by
  unfold rBits at h
  repeat' split at h
  all_goals first | (cases h; done) | (injection h with h; rw [← h]; decide)
theorem rField_err {c : UInt8} {r : List UInt8} {y : D} {n : Int} (hc : letters.contains c = true) (h : rField c r y = .error n) : n ≠ 0 := by
  rcases letter_cases hc with rfl | rfl | rfl | rfl | rfl | rfl | rfl | rfl | rfl | rfl | rfl | rfl | rfl | rfl | rfl | rfl | rfl | rfl | rfl
  · exact rName_err _ (mapR_err (show mapR (readName r) _ = _ from h))
  · exact rName_err _ (mapR_err (show mapR (readName r) _ = _ from h))
  · exact rTake_err (mapR_err (show mapR (rTake 4 r) _ = _ from h))
  · exact rTake_err (mapR_err (show mapR (rTake 16 r) _ = _ from h))
  · cases r with
    | nil => injection (show (Except.error 6 : Rs D) = .error n from h) with h; rw [← h]; decide
    | cons b r => exact rTake_err (mapR_err (show mapR (rTake b.toNat r) _ = _ from h))
  · cases h
  · cases r with
    | nil => injection (show (Except.error 6 : Rs D) = .error n from h) with h; rw [← h]; decide
    | cons b r =>
      have h3 : (if b = 253 then (.ok (y, r) : Rs D) else .error 7) = .error n := h
      by_cases h4 : b = 253
      · rw [if_pos h4] at h3; cases h3
      · rw [if_neg h4] at h3; injection h3 with h3; rw [← h3]; decide
  · exact rBits_err (mapR_err (show mapR (rBits r) _ = _ from h))
  all_goals exact rNum_err (mapR_err (show mapR (rNum _ 0 r) _ = _ from h))
theorem readF_err : ∀ (fs r : List UInt8) (y : D) (n : Int), allL fs → readF fs r y = .error n → n ≠ 0
  | [], r, y, n, _, h => by cases h
  | c :: cs, r, y, n, ha, h => by
    have h2 : (match rField c r y with | .error n => (.error n : Rs D) | .ok (y, q) => readF cs q y) = .error n := h
    cases hr : rField c r y with
    | error m => rw [hr] at h2; injection h2 with h2; rw [← h2]; exact rField_err (ha c (by simp)) hr
    | ok v => obtain ⟨z, s⟩ := v; rw [hr] at h2; exact readF_err cs s z n (fun d hd => ha d (List.mem_cons_of_mem _ hd)) h2
/-- What Read returns: data that are valid and are written as the bytes, or nothing with an error. -/
theorem again_law (t : Int) (l : List UInt8) : ((readS t l).2 ≠ 0 ∧ (readS t l).1 = D.z) ∨ ((readS t l).2 = 0 ∧ validS t (readS t l).1 = true ∧ (nocap l = true → wireF (flds t) (readS t l).1 = l)) := by
  unfold readS
  by_cases hk : knownB t = true
  · rw [if_pos hk]
    cases hr : readF (flds t) l D.z with
    | error n => exact .inl ⟨readF_err _ _ _ _ (flds_all t hk) hr, rfl⟩
    | ok v =>
      obtain ⟨x, q⟩ := v
      show ((if q = [] then (if validS t x then (x, (0 : Int)) else (D.z, 5)) else (D.z, 8)).2 ≠ 0 ∧ _) ∨ _
      by_cases hq : q = []
      · by_cases hv : validS t x = true
        · right
          simp only [if_pos hq, if_pos hv]
          refine ⟨trivial, hv, fun hn => ?_⟩
          obtain ⟨m, e1, e2⟩ := readF_inv _ _ _ _ _ (flds_all t hk) (flds_apart t hk) hr
          rw [hq, List.append_nil] at e1
          subst e1
          exact (e2 hn).symm
        · left
          simp only [if_pos hq, if_neg hv]
          exact ⟨by decide, trivial⟩
      · left
        simp only [if_neg hq]
        exact ⟨by decide, trivial⟩
  · rw [if_neg hk]
    exact .inl ⟨by decide, rfl⟩
/-- Valid data are told apart by their bytes. -/
theorem wire_inj {t : Int} {x y : D} (hx : x.ok) (hy : y.ok) (vx : validS t x = true) (vy : validS t y = true) (h : wireF (flds t) x = wireF (flds t) y) : x = y := by
  have h1 := back_law hx vx
  rw [h, back_law hy vy] at h1
  exact (congrArg Prod.fst h1).symm
end Go.Proofs.YtaehonmfoanloaaDoor.Hand
namespace Go.Proofs.YtaehonmfoanloaaDoor.Hand
open Go.RowKit Go.Proofs.YtaehonmfoanloaaDoorW.PrintWords Go.Proofs.YtaehonmfoanloaaDoor.RdW
set_option linter.all false
/-- The strings of the data have at most 400 bytes. -/
def shortB (x : D) : Bool := decide (x.host.size ≤ 400) && (decide (x.mail.size ≤ 400) && decide (x.text.size ≤ 400))
/-- The numbers of data are of their types. -/
structure D.wf (x : D) : Prop where
  bits0 : 0 ≤ x.bits
  bits1 : x.bits < 18446744073709551616
  hi0 : 0 ≤ x.hi
  hi1 : x.hi < 18446744073709551616
  lo0 : 0 ≤ x.lo
  lo1 : x.lo < 18446744073709551616
theorem ok_of {x : D} (h : x.wf) (hs : shortB x = true) : x.ok := by
  unfold shortB at hs
  simp only [Bool.and_eq_true, decide_eq_true_eq] at hs
  exact ⟨by omega, by omega, by omega, h.bits0, h.bits1, h.hi0, h.hi1, h.lo0, h.lo1⟩
theorem wireF_length (x : D) (hx : x.ok) : ∀ fs : List UInt8, (wireF fs x).length ≤ fs.length * 100010
  | [] => by simp [wireF]
  | c :: cs => by
    have h := wireF_length x hx cs
    have h2 := piece_len c x hx.host hx.mail hx.text
    rw [wireF_cons, List.length_append, List.length_cons]
    omega
theorem wireF_size (t : Int) (x : D) (hx : x.ok) : (strOf (wireF (flds t) x)).size ≤ 900100 := by
  have h := wireF_length x hx (flds t)
  have h2 : (flds t).length ≤ 9 := by
    by_cases hk : knownB t = true
    · exact (flds_ok t hk).1
    · rw [knownB_iff] at hk
      unfold KT at hk
      simp only [not_or] at hk
      obtain ⟨n1, n2, n3, n4, n5, n6, n7, n8, n9, n10, n11, n12, n13, n14⟩ := hk
      unfold flds
      rw [if_neg n1, if_neg n2, if_neg n3, if_neg n4, if_neg n5, if_neg n6, if_neg n7, if_neg n8, if_neg n9, if_neg n10, if_neg n11, if_neg n12, if_neg n13, if_neg n14]
      simp
  rw [strOf_size]
  have : (flds t).length * 100010 ≤ 9 * 100010 := Nat.mul_le_mul_right _ h2
  omega
structure LSp : Prop where
  wire : ∀ (t : Int) (x : D) (w : World), x.ok → w.ShapedOpen Tryd.prog → Calls Tryd.prog 16 #[.int .i64 t, x.v] w fun e w' => e = .returned (.tuple #[.string (strOf (wireS t x).1), .int .i64 (wireS t x).2]) ∧ Below w.heap.size w w'
  valid : ∀ (t : Int) (x : D) (w : World), x.ok → w.ShapedOpen Tryd.prog → Calls Tryd.prog 13 #[.int .i64 t, x.v] w fun e w' => e = .returned (.bool (validS t x)) ∧ Below w.heap.size w w'
  known : ∀ (t : Int) (w : World), Calls Tryd.prog 20 #[.int .i64 t] w fun e w' => e = .returned (.bool (knownB t)) ∧ Below w.heap.size w w'
  read : ∀ (t : Int) (s : ByteArray) (w : World), s.size ≤ 1000000 → w.ShapedOpen Tryd.prog → Calls Tryd.prog 18 #[.int .i64 t, .string s] w fun e w' => e = .returned (.tuple #[(readS t s.data.toList).1.v, .int .i64 (readS t s.data.toList).2]) ∧ Below w.heap.size w w'
end Go.Proofs.YtaehonmfoanloaaDoor.Hand
namespace Go.Proofs.YtaehonmfoanloaaDoor.Hand
open Go.RowKit Go.Proofs.YtaehonmfoanloaaDoorW.PrintWords Go.Proofs.YtaehonmfoanloaaDoor.Num Go.Proofs.YtaehonmfoanloaaDoor.Bits Go.Proofs.YtaehonmfoanloaaDoor.RdW Go.Proofs.YtaehonmfoanloaaDoor.Str
set_option linter.all false
/-- A text's bytes. -/
def by_ (s : ByteArray) : List UInt8 := s.data.toList
theorem by_length (s : ByteArray) : (by_ s).length = s.size := by show s.data.toList.length = s.data.size; exact Array.length_toList
theorem bt_drop {s : ByteArray} {i : Nat} {c : UInt8} {r : List UInt8} (h : (by_ s).drop i = c :: r) : i < s.size ∧ bt s i = c.toNat ∧ (by_ s).drop (i + 1) = r := by
  have hlt : i < (by_ s).length := by
    have := congrArg List.length h
    simp at this; omega
  rw [List.drop_eq_getElem_cons hlt] at h
  simp only [List.cons.injEq] at h
  have hl := by_length s
  refine ⟨by omega, ?_, h.2⟩
  have hs : (i : Int).toNat < s.size := by simp; omega
  rw [← bt_at s i hs, ← h.1]
  rfl
theorem drop_nil {s : ByteArray} {i : Nat} (h : (by_ s).drop i = []) : s.size ≤ i := by
  have := congrArg List.length h
  have hl := by_length s
  simp at this; omega
theorem rdOf_drop {F : List ByteArray} {j : Nat} {f : ByteArray} {fs : List ByteArray} (h : F.drop j = f :: fs) : j < F.length ∧ rdOf ByteArray.empty F (j : Int) = f ∧ F.drop (j + 1) = fs := by
  have hlt : j < F.length := by
    have := congrArg List.length h
    simp at this; omega
  rw [List.drop_eq_getElem_cons hlt] at h
  simp only [List.cons.injEq] at h
  refine ⟨hlt, ?_, h.2⟩
  unfold rdOf
  rw [← h.1]
  simp [hlt]
theorem toList_by (s : ByteArray) : s.toList = by_ s := ByteArray.toList_eq s
theorem by_strOf (l : List UInt8) : by_ (strOf l) = l := by simp [by_, strOf]
theorem map_by (l : List (List UInt8)) : (l.map strOf).map by_ = l := by
  rw [List.map_map]
  exact (List.map_congr_left (g := id) (fun x _ => by_strOf x)).trans (List.map_id _)
theorem strOf_by (s : ByteArray) : strOf (by_ s) = s := rfl
theorem split_fields (c : UInt8) (s : ByteArray) : Lib.splitB (⟨#[c]⟩ : ByteArray) 0 (Lib.countB s (⟨#[c]⟩ : ByteArray)) s = (splitC c (by_ s)).map strOf := by
  have h := (Lib.splitB_data (⟨#[c]⟩ : ByteArray) 0 (Lib.countB s (⟨#[c]⟩ : ByteArray)) s).trans (splitK_one c s.size s.data.toList (by rw [show s.data.toList = by_ s from rfl, ← by_length]; exact Nat.le_refl _))
  rw [show by_ s = s.data.toList from rfl, ← h, List.map_map]
  symm
  exact (List.map_congr_left (g := id) (fun x _ => rfl)).trans (List.map_id _)
theorem splitC_length (c : UInt8) : ∀ (s : List UInt8), (splitC c s).length ≤ s.length + 1
  | [] => by simp [splitC]
  | x :: s => by
    have ih := splitC_length c s
    by_cases hx : x = c
    · subst hx; unfold splitC; simp; omega
    · cases hs : splitC c s with
      | nil => exact absurd hs (splitC_ne _ _)
      | cons p ps => rw [splitC_cons_ne hx hs]; rw [hs] at ih; simp at ih ⊢; omega
theorem by_extract (s : ByteArray) (a b : Nat) : by_ (s.extract a b) = ((by_ s).take b).drop a := by
  unfold by_
  simp [List.extract_eq_take_drop, List.drop_take]
theorem extract_strOf (l : List UInt8) (a b : Nat) : (strOf l).extract a b = strOf ((l.take b).drop a) := by
  rw [← strOf_by ((strOf l).extract a b), by_extract, by_strOf]
theorem wrap_s {i : Nat} (h : i ≤ 1000000000) : wrap64 ((i : Int) + 1) = ((i + 1 : Nat) : Int) := by rw [wrap64_id (by omega) (by omega)]; omega
theorem okc_iff : ∀ c : UInt8, okc c = true ↔ ((97 ≤ c.toNat ∧ c.toNat ≤ 122) ∨ (48 ≤ c.toNat ∧ c.toNat ≤ 57) ∨ c.toNat = 45 ∨ c.toNat = 95) := byte_all (p := fun c => okc c = true ↔ ((97 ≤ c.toNat ∧ c.toNat ≤ 122) ∨ (48 ≤ c.toNat ∧ c.toNat ≤ 57) ∨ c.toNat = 45 ∨ c.toNat = 95)) (by decide +kernel)
theorem take_dropLast (l : List UInt8) : l.take (l.length - 1) = l.dropLast := (List.dropLast_eq_take).symm
theorem snoc_of {l : List UInt8} (h : 0 < l.length) : ∃ m c, l = m ++ [c] := by
  have hn : l ≠ [] := by intro e; rw [e] at h; simp at h
  obtain ⟨m, hm⟩ := List.getLast?_eq_some_iff.1 (List.getLast?_eq_some_getLast hn)
  exact ⟨m, _, hm⟩
theorem drop_last (l : List UInt8) (h : 0 < l.length) : ∃ c, l.drop (l.length - 1) = [c] ∧ l.getLast? = some c := by
  obtain ⟨m, c, rfl⟩ : ∃ m c, l = m ++ [c] := snoc_of h
  exact ⟨c, by simp, by simp⟩
theorem strOf_inj {l m : List UInt8} (h : strOf l = strOf m) : l = m := by
  have := congrArg by_ h
  rwa [by_strOf, by_strOf] at this
theorem labelsN_len {n : List UInt8} {ls : List (List UInt8)} (h : labelsN n = some ls) : ls.length ≤ 1000 ∧ n.length ≤ 254 := by
  unfold labelsN at h
  split at h
  · rename_i h1
    injection h with h; subst h; rw [h1]; simp
  · split at h
    · rename_i h2
      injection h with h; subst h
      have := splitC_length 46 n.dropLast
      rw [List.length_dropLast] at this
      omega
    · cases h
end Go.Proofs.YtaehonmfoanloaaDoor.Hand
namespace Go.Proofs.YtaehonmfoanloaaDoor.Hand
open Go.RowKit Go.Proofs.YtaehonmfoanloaaDoorW.PrintWords Go.Proofs.YtaehonmfoanloaaDoor.RdW Go.Proofs.YtaehonmfoanloaaDoor.Str
set_option linter.all false
theorem name_size {r n q : List UInt8} (h : readName r = .ok (n, q)) : (strOf n).size ≤ 100000 := by
  obtain ⟨m, _, _, h3⟩ := readName_inv h
  obtain ⟨ls, hl⟩ := Option.isSome_iff_exists.1 h3
  have := (labelsN_len hl).2
  rw [strOf_size]; omega
theorem val_u64 {l : List UInt8} (h : l.length ≤ 8) : ((val l 0 : Nat) : Int) < 18446744073709551616 := by
  have h1 := val_lt l 0
  have h2 : 256 ^ l.length ≤ 256 ^ 8 := Nat.pow_le_pow_right (by omega) h
  have e : (256 : Nat) ^ 8 = 18446744073709551616 := by decide
  omega
theorem rField_ok {c : UInt8} {r q : List UInt8} {x y : D} (hc : letters.contains c = true) (hl : r.length ≤ 100000) (hx : x.ok) (h : rField c r x = .ok (y, q)) : y.ok := by
  obtain ⟨o1, o2, o3, o4, o5, o6, o7, o8, o9⟩ := hx
  rcases letter_cases hc with rfl | rfl | rfl | rfl | rfl | rfl | rfl | rfl | rfl | rfl | rfl | rfl | rfl | rfl | rfl | rfl | rfl | rfl | rfl
  · obtain ⟨n, h1, rfl⟩ := mapR_inv (show mapR (readName r) _ = _ from h)
    exact ⟨name_size h1, o2, o3, o4, o5, o6, o7, o8, o9⟩
  · obtain ⟨n, h1, rfl⟩ := mapR_inv (show mapR (readName r) _ = _ from h)
    exact ⟨o1, name_size h1, o3, o4, o5, o6, o7, o8, o9⟩
  · obtain ⟨l, h1, rfl⟩ := mapR_inv (show mapR (rTake 4 r) _ = _ from h)
    obtain ⟨e1, e2⟩ := take_inv h1
    exact ⟨o1, o2, o3, o4, o5, Int.le_refl 0, (by show (0 : Int) < 18446744073709551616; decide), Int.natCast_nonneg _, val_u64 (by omega)⟩
  · obtain ⟨l, h1, rfl⟩ := mapR_inv (show mapR (rTake 16 r) _ = _ from h)
    obtain ⟨e1, e2⟩ := take_inv h1
    exact ⟨o1, o2, o3, o4, o5, Int.natCast_nonneg _, val_u64 (by rw [List.length_take]; omega), Int.natCast_nonneg _, val_u64 (by rw [List.length_drop]; omega)⟩
  · cases r with
    | nil => cases h
    | cons b r =>
      obtain ⟨l, h1, rfl⟩ := mapR_inv (show mapR (rTake b.toNat r) _ = _ from h)
      obtain ⟨e1, e2⟩ := take_inv h1
      have := b.toNat_lt
      exact ⟨o1, o2, by show (strOf l).size ≤ 100000; rw [strOf_size]; omega, o4, o5, o6, o7, o8, o9⟩
  · simp only [show rField 114 r x = .ok (({ x with text := strOf r } : D), []) from rfl, Except.ok.injEq, Prod.mk.injEq] at h
    obtain ⟨rfl, rfl⟩ := h
    exact ⟨o1, o2, hl, o4, o5, o6, o7, o8, o9⟩
  · cases r with
    | nil => cases h
    | cons b r =>
      have h3 : (if b = 253 then (.ok (x, r) : Rs D) else .error 7) = .ok (y, q) := h
      by_cases h4 : b = 253
      · rw [if_pos h4] at h3; simp only [Except.ok.injEq, Prod.mk.injEq] at h3
        obtain ⟨rfl, rfl⟩ := h3
        exact ⟨o1, o2, o3, o4, o5, o6, o7, o8, o9⟩
      · rw [if_neg h4] at h3; cases h3
  · obtain ⟨s, h1, rfl⟩ := mapR_inv (show mapR (rBits r) _ = _ from h)
    obtain ⟨e1, e2, e3⟩ := rBits_inv h1
    have := onlyT_lt e2
    have e : (2 : Nat) ^ 49 = 562949953421312 := by decide
    exact ⟨o1, o2, o3, Int.natCast_nonneg _, by show (s : Int) < 18446744073709551616; omega, o6, o7, o8, o9⟩
  · obtain ⟨n, h1, rfl⟩ := mapR_inv (show mapR (rNum 2 0 r) (fun n => { x with a := n }) = _ from h)
    exact ⟨o1, o2, o3, o4, o5, o6, o7, o8, o9⟩
  · obtain ⟨n, h1, rfl⟩ := mapR_inv (show mapR (rNum 2 0 r) (fun n => { x with b := n }) = _ from h)
    exact ⟨o1, o2, o3, o4, o5, o6, o7, o8, o9⟩
  · obtain ⟨n, h1, rfl⟩ := mapR_inv (show mapR (rNum 2 0 r) (fun n => { x with c := n }) = _ from h)
    exact ⟨o1, o2, o3, o4, o5, o6, o7, o8, o9⟩
  · obtain ⟨n, h1, rfl⟩ := mapR_inv (show mapR (rNum 2 0 r) (fun n => { x with f := n }) = _ from h)
    exact ⟨o1, o2, o3, o4, o5, o6, o7, o8, o9⟩
  · obtain ⟨n, h1, rfl⟩ := mapR_inv (show mapR (rNum 1 0 r) (fun n => { x with b := n }) = _ from h)
    exact ⟨o1, o2, o3, o4, o5, o6, o7, o8, o9⟩
  · obtain ⟨n, h1, rfl⟩ := mapR_inv (show mapR (rNum 1 0 r) (fun n => { x with c := n }) = _ from h)
    exact ⟨o1, o2, o3, o4, o5, o6, o7, o8, o9⟩
  · obtain ⟨n, h1, rfl⟩ := mapR_inv (show mapR (rNum 4 0 r) (fun n => { x with a := n }) = _ from h)
    exact ⟨o1, o2, o3, o4, o5, o6, o7, o8, o9⟩
  · obtain ⟨n, h1, rfl⟩ := mapR_inv (show mapR (rNum 4 0 r) (fun n => { x with b := n }) = _ from h)
    exact ⟨o1, o2, o3, o4, o5, o6, o7, o8, o9⟩
  · obtain ⟨n, h1, rfl⟩ := mapR_inv (show mapR (rNum 4 0 r) (fun n => { x with c := n }) = _ from h)
    exact ⟨o1, o2, o3, o4, o5, o6, o7, o8, o9⟩
  · obtain ⟨n, h1, rfl⟩ := mapR_inv (show mapR (rNum 4 0 r) (fun n => { x with d := n }) = _ from h)
    exact ⟨o1, o2, o3, o4, o5, o6, o7, o8, o9⟩
  · obtain ⟨n, h1, rfl⟩ := mapR_inv (show mapR (rNum 4 0 r) (fun n => { x with e := n }) = _ from h)
    exact ⟨o1, o2, o3, o4, o5, o6, o7, o8, o9⟩
theorem readF_isok : ∀ (fs r : List UInt8) (x y : D) (q : List UInt8), allL fs → r.length ≤ 100000 → x.ok → readF fs r x = .ok (y, q) → y.ok
  | [], r, x, y, q, _, _, hx, h => by
    simp only [readF, Except.ok.injEq, Prod.mk.injEq] at h
    rw [← h.1]; exact hx
  | c :: cs, r, x, y, q, ha, hl, hx, h => by
    obtain ⟨z, s, h1, h2⟩ := readF_cons h
    have hc := ha c (by simp)
    obtain ⟨_, m, e1, _⟩ := rField_inv hc h1
    have hs : s.length ≤ 100000 := by have := congrArg List.length e1; rw [List.length_append] at this; omega
    exact readF_isok cs s z y q (fun d hd => ha d (List.mem_cons_of_mem _ hd)) hs (rField_ok hc hl hx h1) h2
theorem z_ok : D.z.ok := ⟨by decide, by decide, by decide, by decide, by decide, by decide, by decide, by decide, by decide⟩
theorem readS_ok (t : Int) (l : List UInt8) (hl : l.length ≤ 100000) : (readS t l).1.ok := by
  unfold readS
  by_cases hk : knownB t = true
  · rw [if_pos hk]
    cases hr : readF (flds t) l D.z with
    | error n => exact z_ok
    | ok v =>
      obtain ⟨x, q⟩ := v
      have hx := readF_isok _ _ _ _ _ (flds_all t hk) hl z_ok hr
      show (if q = [] then (if validS t x then (x, (0 : Int)) else (D.z, 5)) else (D.z, 8)).1.ok
      by_cases hq : q = []
      · by_cases hv : validS t x = true
        · rw [if_pos hq, if_pos hv]; exact hx
        · rw [if_pos hq, if_neg hv]; exact z_ok
      · rw [if_neg hq]; exact z_ok
  · rw [if_neg hk]; exact z_ok
end Go.Proofs.YtaehonmfoanloaaDoor.Hand
