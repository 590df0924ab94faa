/-
  Numbers, names and sets of types as bytes, and back: plain words on lists of bytes. Conditions: each theorem's own.
-/
import Derived.Test.YtaehonmfoanloaaDoorStr
namespace Go.Proofs.YtaehonmfoanloaaDoor.RdW
open Go.RowKit Go.Proofs.YtaehonmfoanloaaDoor.Str
set_option linter.all false

abbrev Rs (α : Type) := Except Int (α × List UInt8)

/-! ### numbers -/
def val : List UInt8 → Nat → Nat
  | [], a => a
  | b :: r, a => val r (a * 256 + b.toNat)
def be : Nat → Nat → List UInt8
  | 0, _ => []
  | n + 1, x => UInt8.ofNat (x / 256 ^ n) :: be n x
theorem be_length (n x : Nat) : (be n x).length = n := by
  induction n with
  | zero => rfl
  | succ n ih => simp [be, ih]
theorem u8_of (x : Nat) : (UInt8.ofNat x).toNat = x % 256 := by simp
theorem val_be (n x : Nat) : ∀ a, val (be n x) a = a * 256 ^ n + x % 256 ^ n := by
  induction n with
  | zero => intro a; simp [be, val, Nat.mod_one]
  | succ n ih =>
    intro a
    rw [be, val, ih, u8_of, Nat.pow_succ, Nat.add_mul, Nat.mul_assoc, Nat.mul_comm 256, Nat.add_assoc]
    congr 1
    rw [Nat.mod_mul, Nat.mul_comm (256 ^ n), Nat.add_comm]
theorem val_app (l m : List UInt8) : ∀ a, val (l ++ m) a = val m (val l a) := by
  induction l with
  | nil => intro a; rfl
  | cons b r ih => intro a; simp [val, ih]
theorem val_lt (l : List UInt8) : ∀ a, val l a < (a + 1) * 256 ^ l.length := by
  induction l with
  | nil => intro a; simp [val]
  | cons b r ih =>
    intro a
    have h := ih (a * 256 + b.toNat)
    have hb : b.toNat < 256 := b.toNat_lt
    rw [val, List.length_cons, Nat.pow_succ, Nat.mul_comm (256 ^ r.length), ← Nat.mul_assoc]
    refine Nat.lt_of_lt_of_le h (Nat.mul_le_mul_right _ (by omega))
theorem val_ge (l : List UInt8) : ∀ a, a * 256 ^ l.length ≤ val l a := by
  induction l with
  | nil => intro a; simp [val]
  | cons b r ih =>
    intro a
    have h := ih (a * 256 + b.toNat)
    rw [val, List.length_cons, Nat.pow_succ, Nat.mul_comm (256 ^ r.length), ← Nat.mul_assoc]
    refine Nat.le_trans (Nat.mul_le_mul_right _ (by omega)) h
theorem val_split (l : List UInt8) (a : Nat) : val l a = a * 256 ^ l.length + val l 0 := by
  induction l generalizing a with
  | nil => simp [val]
  | cons b r ih =>
    rw [val, val, ih, ih (0 * 256 + b.toNat), List.length_cons, Nat.pow_succ, Nat.zero_mul, Nat.zero_add, Nat.add_mul, Nat.mul_assoc, Nat.mul_comm 256, Nat.add_assoc]
theorem be_mod (n x y : Nat) (h : x % 256 ^ n = y % 256 ^ n) : be n x = be n y := by
  induction n generalizing x y with
  | zero => rfl
  | succ n ih =>
    have h1 : x % 256 ^ n = y % 256 ^ n := by
      have e : ∀ z, z % 256 ^ (n + 1) % 256 ^ n = z % 256 ^ n := fun z => Nat.mod_mod_of_dvd z ⟨256, by rw [Nat.pow_succ]⟩
      rw [← e x, h, e y]
    have h2 : x / 256 ^ n % 256 = y / 256 ^ n % 256 := by
      rw [← Nat.mod_mul_right_div_self, ← Nat.mod_mul_right_div_self, ← Nat.pow_succ, h]
    rw [be, be, ih x y h1]
    congr 1
    apply UInt8.toNat_inj.1
    rw [u8_of, u8_of, h2]
theorem be_val (l : List UInt8) : ∀ a, be l.length (val l a) = l := by
  induction l with
  | nil => intro a; rfl
  | cons b r ih =>
    intro a
    have hb : b.toNat < 256 := b.toNat_lt
    rw [val, List.length_cons, be, ih]
    congr 1
    apply UInt8.toNat_inj.1
    rw [u8_of]
    have h1 := val_ge r (a * 256 + b.toNat)
    have h2 := val_lt r (a * 256 + b.toNat)
    have hp : 0 < 256 ^ r.length := Nat.pow_pos (by omega)
    have h3 : val r (a * 256 + b.toNat) / 256 ^ r.length = a * 256 + b.toNat := by
      exact Nat.div_eq_of_lt_le h1 h2
    rw [h3]; omega

/-! ### reading -/
def rByte : List UInt8 → Rs UInt8
  | [] => .error 6
  | b :: r => .ok (b, r)
def rTake (n : Nat) (r : List UInt8) : Rs (List UInt8) := if n ≤ r.length then .ok (r.take n, r.drop n) else .error 6
def rNum : Nat → Nat → List UInt8 → Rs Nat
  | 0, a, r => .ok (a, r)
  | _ + 1, _, [] => .error 6
  | n + 1, a, b :: r => rNum n (a * 256 + b.toNat) r
theorem rNum_app (l r : List UInt8) : ∀ a, rNum l.length a (l ++ r) = .ok (val l a, r) := by
  induction l with
  | nil => intro a; rfl
  | cons b l ih => intro a; simp only [List.length_cons, List.cons_append, rNum, val]; exact ih _
theorem rNum_short (n : Nat) : ∀ (l : List UInt8) (a : Nat), l.length < n → rNum n a l = .error 6 := by
  induction n with
  | zero => intro l a h; omega
  | succ n ih =>
    intro l a h
    cases l with
    | nil => rfl
    | cons b r => rw [rNum]; exact ih r _ (by simp at h; omega)
theorem rNum_eq (n : Nat) (l : List UInt8) (a : Nat) : rNum n a l = if n ≤ l.length then .ok (val (l.take n) a, l.drop n) else .error 6 := by
  by_cases h : n ≤ l.length
  · rw [if_pos h]
    have := rNum_app (l.take n) (l.drop n) a
    rw [List.take_append_drop, List.length_take, Nat.min_eq_left h] at this
    exact this
  · rw [if_neg h]; exact rNum_short n l a (by omega)

/-! ### names -/
def low (c : UInt8) : UInt8 := if 65 ≤ c && c ≤ 90 then c + 32 else c
def okc (c : UInt8) : Bool := (97 ≤ c && c ≤ 122) || (48 ≤ c && c ≤ 57) || c == 45 || c == 95
def cap (c : UInt8) : Bool := 65 ≤ c && c ≤ 90
theorem byte_all {p : UInt8 → Prop} [DecidablePred p] (h : ∀ n : Fin 256, p (UInt8.ofNat n.val)) (c : UInt8) : p c := by
  have := h ⟨c.toNat, c.toNat_lt⟩
  simpa using this
theorem low_ok : ∀ c : UInt8, okc c = true → low c = c := byte_all (p := fun c => okc c = true → low c = c) (by decide +kernel)
theorem low_nocap : ∀ c : UInt8, cap c = false → low c = c := byte_all (p := fun c => cap c = false → low c = c) (by decide +kernel)
theorem ok_nodot : ∀ c : UInt8, okc c = true → c ≠ 46 ∧ c ≠ 42 ∧ cap c = false := byte_all (p := fun c => okc c = true → c ≠ 46 ∧ c ≠ 42 ∧ cap c = false) (by decide +kernel)
def rChars : Nat → List UInt8 → List UInt8 → Rs (List UInt8)
  | 0, out, r => .ok (out, r)
  | _ + 1, _, [] => .error 6
  | n + 1, out, b :: r => if okc (low b) then rChars n (out ++ [low b]) r else .error 7
def rLabel (n : Nat) (first : Bool) (r : List UInt8) : Rs (List UInt8) :=
  if first && n == 1 && r.head? == some 42 then .ok ([42], r.tail) else rChars n [] r
def rName : Nat → List UInt8 → List UInt8 → Rs (List UInt8)
  | 0, _, _ => .error 6
  | _ + 1, _, [] => .error 6
  | k + 1, out, b :: r =>
    if b.toNat > 63 then .error 7 else if b = 0 then .ok (if out.isEmpty then [46] else out, r) else
    if out.length + b.toNat + 2 > 255 then .error 9 else
    match rLabel b.toNat out.isEmpty r with
    | .error e => .error e
    | .ok (l, r') => rName k (out ++ l ++ [46]) r'
theorem rChars_len (n : Nat) : ∀ (out r l r' : List UInt8), rChars n out r = .ok (l, r') → r'.length + n = r.length ∧ l.length = out.length + n := by
  induction n with
  | zero => intro out r l r' h; simp only [rChars, Except.ok.injEq, Prod.mk.injEq] at h; rw [← h.1, ← h.2]; simp
  | succ n ih =>
    intro out r l r' h
    cases r with
    | nil => simp [rChars] at h
    | cons b r =>
      rw [rChars] at h
      split at h
      · have := ih _ _ _ _ h; simp at this ⊢; omega
      · cases h
theorem rLabel_len (n : Nat) (first : Bool) (r l r' : List UInt8) (h : rLabel n first r = .ok (l, r')) : r'.length + n = r.length ∧ l.length = n := by
  unfold rLabel at h
  split at h
  · rename_i c
    simp only [Bool.and_eq_true, beq_iff_eq] at c
    simp only [Except.ok.injEq, Prod.mk.injEq] at h
    cases r with
    | nil => simp at c
    | cons b r => rw [← h.1, ← h.2, c.1.2]; simp
  · have := rChars_len _ _ _ _ _ h; simp at this; omega
/-- With as many rounds as bytes the rounds do not matter. -/
theorem rName_fuel : ∀ (k j : Nat) (out r : List UInt8), r.length ≤ k → r.length ≤ j → rName k out r = rName j out r := by
  intro k
  induction k with
  | zero =>
    intro j out r h1 h2
    have : r = [] := List.eq_nil_of_length_eq_zero (by omega)
    subst this
    cases j <;> rfl
  | succ k ih =>
    intro j out r h1 h2
    cases r with
    | nil => cases j <;> rfl
    | cons b r =>
      cases j with
      | zero => simp at h2
      | succ j =>
        simp only [List.length_cons] at h1 h2
        rw [rName, rName]
        split
        · rfl
        · split
          · rfl
          · split
            · rfl
            · cases hl : rLabel b.toNat out.isEmpty r with
              | error e => rfl
              | ok p =>
                obtain ⟨l, r'⟩ := p
                have := rLabel_len _ _ _ _ _ hl
                exact ih j _ r' (by omega) (by omega)
def readName (r : List UInt8) : Rs (List UInt8) := rName r.length [] r

/-- A label: 1 to 63 letters, digits, - or _; the first one may be the star. -/
def ordL (l : List UInt8) : Bool := !l.isEmpty && decide (l.length ≤ 63) && l.all okc
def labelsOk : List (List UInt8) → Bool
  | [] => true
  | l :: ls => (ordL l || l == [42]) && ls.all ordL
/-- The labels of a name. -/
def labelsN (n : List UInt8) : Option (List (List UInt8)) :=
  if n = [46] then some [] else
  if n.length < 255 ∧ n.getLast? = some 46 ∧ labelsOk (splitC 46 n.dropLast) = true then some (splitC 46 n.dropLast) else none
def nameOf (ls : List (List UInt8)) : List UInt8 := (ls.map (· ++ [46])).flatten
def wireL (ls : List (List UInt8)) : List UInt8 := (ls.map fun l => UInt8.ofNat l.length :: l).flatten ++ [0]
/-- The bytes of a name. -/
def wireN (n : List UInt8) : List UInt8 := wireL ((labelsN n).getD [])

theorem rChars_app (l r : List UInt8) (h : l.all okc = true) : ∀ out, rChars l.length out (l ++ r) = .ok (out ++ l, r) := by
  induction l with
  | nil => intro out; simp [rChars]
  | cons b l ih =>
    intro out
    simp only [List.all_cons, Bool.and_eq_true] at h
    simp only [List.length_cons, List.cons_append, rChars]
    rw [low_ok b h.1, if_pos h.1, ih h.2]
    simp
theorem rLabel_ord (l r : List UInt8) (first : Bool) (h : ordL l = true) : rLabel l.length first (l ++ r) = .ok (l, r) := by
  unfold ordL at h
  simp only [Bool.and_eq_true] at h
  unfold rLabel
  have hne : ((l ++ r).head? == some 42) = false := by
    cases l with
    | nil => simp at h
    | cons b l =>
      have hb : okc b = true := by simp only [List.all_cons, Bool.and_eq_true] at h; exact h.2.1
      have := (ok_nodot b hb).2.1
      simp [this]
  rw [hne, Bool.and_false, if_neg (by decide), rChars_app l r h.2]
  simp
theorem ordL_pos {l : List UInt8} (h : ordL l = true) : 0 < l.length ∧ l.length ≤ 63 := by
  unfold ordL at h
  simp only [Bool.and_eq_true, decide_eq_true_eq] at h
  refine ⟨?_, h.1.2⟩
  cases l with
  | nil => simp at h
  | cons b l => simp
theorem nameOf_cons (l : List UInt8) (ls : List (List UInt8)) : nameOf (l :: ls) = l ++ [46] ++ nameOf ls := by simp [nameOf]
theorem wireL_cons (l : List UInt8) (ls : List (List UInt8)) : wireL (l :: ls) = UInt8.ofNat l.length :: l ++ wireL ls := by simp [wireL]
theorem head_len {l : List UInt8} (h : 0 < l.length ∧ l.length ≤ 63) : (UInt8.ofNat l.length).toNat = l.length ∧ UInt8.ofNat l.length ≠ 0 := by
  have e : (UInt8.ofNat l.length).toNat = l.length := by rw [u8_of]; omega
  refine ⟨e, fun c => ?_⟩
  rw [c] at e
  have e0 : (0 : UInt8).toNat = 0 := rfl
  omega
theorem rName_labels (r : List UInt8) : ∀ (ls : List (List UInt8)) (out : List UInt8) (k : Nat), ls.all ordL = true → out ≠ [] ∨ ls = [] → out.length + (nameOf ls).length ≤ 254 → ls.length < k →
    rName k out (wireL ls ++ r) = .ok (if (out ++ nameOf ls).isEmpty then [46] else out ++ nameOf ls, r)
  | [], out, k, _, _, _, hk => by
    obtain ⟨k, rfl⟩ : ∃ j, k = j + 1 := ⟨k - 1, by simp at hk; omega⟩
    simp [wireL, rName, nameOf]
  | l :: ls, out, k, h, ho, hn, hk => by
    obtain ⟨k, rfl⟩ : ∃ j, k = j + 1 := ⟨k - 1, by simp at hk; omega⟩
    simp only [List.all_cons, Bool.and_eq_true] at h
    have hl := ordL_pos h.1
    obtain ⟨e1, e2⟩ := head_len hl
    rw [nameOf_cons] at hn
    simp only [List.length_append, List.length_cons, List.length_nil] at hn
    rw [wireL_cons, List.cons_append, List.cons_append, rName, e1, if_neg (by omega), if_neg e2, if_neg (by omega), List.append_assoc, rLabel_ord l _ _ h.1]
    simp only
    rw [rName_labels r ls (out ++ l ++ [46]) k h.2 (.inl (by simp)) (by simp; omega) (by simp at hk; omega), nameOf_cons]
    simp [List.append_assoc]
theorem readName_labels (ls : List (List UInt8)) (r : List UInt8) (h : labelsOk ls = true) (hn : (nameOf ls).length ≤ 254) : readName (wireL ls ++ r) = .ok (if ls.isEmpty then [46] else nameOf ls, r) := by
  unfold readName
  cases ls with
  | nil => simp [wireL, rName]
  | cons l ls =>
    simp only [labelsOk, Bool.and_eq_true, Bool.or_eq_true, beq_iff_eq] at h
    have hl : 0 < l.length ∧ l.length ≤ 63 := by
      rcases h.1 with g | g
      · exact ordL_pos g
      · rw [g]; decide
    obtain ⟨e1, e2⟩ := head_len hl
    have hlab : rLabel l.length true (l ++ (wireL ls ++ r)) = .ok (l, wireL ls ++ r) := by
      rcases h.1 with g | g
      · exact rLabel_ord l _ _ g
      · rw [g]; simp [rLabel]
    rw [nameOf_cons] at hn
    simp only [List.length_append, List.length_cons, List.length_nil] at hn
    rw [wireL_cons, List.cons_append, List.cons_append, List.length_cons, rName, e1, if_neg (by omega), if_neg e2, if_neg (by rw [List.length_nil]; omega), List.append_assoc]
    simp only [List.isEmpty_nil]
    rw [hlab]
    simp only [List.nil_append]
    have hw : ∀ ls : List (List UInt8), ls.length < (wireL ls).length := by
      intro ls
      induction ls with
      | nil => simp [wireL]
      | cons x xs ih => rw [wireL_cons]; simp only [List.length_append, List.length_cons]; omega
    have := hw ls
    rw [rName_labels r ls (l ++ [46]) _ h.2 (.inl (by simp)) (by simp; omega) (by simp only [List.length_append]; omega), nameOf_cons]
    simp [List.append_assoc]

/-! ### what was read -/
theorem rChars_inv (n : Nat) : ∀ (out r l r' : List UInt8), rChars n out r = .ok (l, r') → ∃ m : List UInt8, m.length = n ∧ r = m ++ r' ∧ l = out ++ m.map low ∧ (m.map low).all okc = true := by
  induction n with
  | zero => intro out r l r' h; simp only [rChars, Except.ok.injEq, Prod.mk.injEq] at h; exact ⟨[], rfl, by simp [h.2], by simp [h.1], rfl⟩
  | succ n ih =>
    intro out r l r' h
    cases r with
    | nil => simp [rChars] at h
    | cons b r =>
      rw [rChars] at h
      by_cases hb : okc (low b) = true
      · rw [if_pos hb] at h
        obtain ⟨m, h1, h2, h3, h4⟩ := ih _ _ _ _ h
        exact ⟨b :: m, by simp [h1], by simp [h2], by simp [h3], by simp [hb, h4]⟩
      · rw [if_neg hb] at h; cases h
/-- What a label is read as: it is one, and its bytes are those that were read, but for capital letters. -/
theorem rLabel_inv {n : Nat} {first : Bool} {r l r' : List UInt8} (h : rLabel n first r = .ok (l, r')) : ∃ m : List UInt8, m.length = n ∧ r = m ++ r' ∧ l = m.map low ∧ (l.all okc = true ∨ (first = true ∧ l = [42])) := by
  unfold rLabel at h
  split at h
  · rename_i c
    simp only [Bool.and_eq_true, beq_iff_eq] at c
    simp only [Except.ok.injEq, Prod.mk.injEq] at h
    cases r with
    | nil => simp at c
    | cons b r =>
      have hb : b = 42 := by simpa using c.2
      subst hb
      refine ⟨[42], by simp [c.1.2], by simp at h; simp [h.2], by rw [← h.1]; decide, .inr ⟨c.1.1, h.1.symm⟩⟩
  · obtain ⟨m, h1, h2, h3, h4⟩ := rChars_inv _ _ _ _ _ h
    exact ⟨m, h1, h2, by simpa using h3, .inl (by rw [List.nil_append] at h3; rw [h3]; exact h4)⟩
theorem rName_inv : ∀ (k : Nat) (out r n r' : List UInt8), rName k out r = .ok (n, r') → ∃ ls : List (List UInt8), ∃ ms : List UInt8,
    (out ≠ [] → ls.all ordL = true) ∧ labelsOk ls = true ∧ n = (if (out ++ nameOf ls).isEmpty then [46] else out ++ nameOf ls) ∧ r = ms ++ r' ∧ (ms.all (fun c => !cap c) = true → ms = wireL ls) ∧ (out.length ≤ 254 → out.length + (nameOf ls).length ≤ 254) := by
  intro k
  induction k with
  | zero => intro out r n r' h; simp [rName] at h
  | succ k ih =>
    intro out r n r' h
    cases r with
    | nil => simp [rName] at h
    | cons b r =>
      rw [rName] at h
      by_cases c1 : b.toNat > 63
      · rw [if_pos c1] at h; cases h
      rw [if_neg c1] at h
      by_cases c2 : b = 0
      · rw [if_pos c2] at h
        simp only [Except.ok.injEq, Prod.mk.injEq] at h
        subst c2
        refine ⟨[], [0], fun _ => rfl, rfl, ?_, by simp [h.2], fun _ => by simp [wireL], fun h => by simpa [nameOf] using h⟩
        rw [← h.1]; simp [nameOf]
      rw [if_neg c2] at h
      by_cases c3 : out.length + b.toNat + 2 > 255
      · rw [if_pos c3] at h; cases h
      rw [if_neg c3] at h
      cases hl : rLabel b.toNat out.isEmpty r with
      | error e => rw [hl] at h; cases h
      | ok p =>
        obtain ⟨l, r1⟩ := p
        rw [hl] at h
        simp only at h
        obtain ⟨m, m1, m2, m3, m4⟩ := rLabel_inv hl
        obtain ⟨ls, ms, i1, i2, i3, i4, i5, i6⟩ := ih _ _ _ _ h
        have hb0 : 0 < b.toNat := by
          rcases Nat.eq_zero_or_pos b.toNat with g | g
          · exact absurd (UInt8.toNat_inj.1 (by simpa using g)) c2
          · exact g
        have hll : l.length = b.toNat := by rw [m3, List.length_map, m1]
        have hall : ls.all ordL = true := i1 (by simp)
        have hord : ordL l = true ∨ (out = [] ∧ l = [42]) := by
          rcases m4 with g | ⟨g1, g2⟩
          · left
            unfold ordL
            simp only [Bool.and_eq_true, decide_eq_true_eq]
            refine ⟨⟨?_, by omega⟩, g⟩
            cases l with
            | nil => simp at hll; omega
            | cons x l => rfl
          · right; exact ⟨by simpa using g1, g2⟩
        refine ⟨l :: ls, b :: (m ++ ms), fun ho => ?_, ?_, ?_, by rw [m2, i4]; simp, fun hc => ?_, fun ho => ?_⟩
        · rcases hord with g | ⟨g, _⟩
          · simp [g, hall]
          · exact absurd g ho
        · rcases hord with g | ⟨_, g⟩
          · simp [labelsOk, g, hall]
          · simp [labelsOk, g, hall]
        · rw [i3, nameOf_cons]; simp [List.append_assoc]
        · simp only [List.all_cons, List.all_append, Bool.and_eq_true] at hc
          have hm : m.map low = m := by
            rw [List.map_congr_left (g := id), List.map_id]
            intro x hx
            have := List.all_eq_true.1 hc.2.1 x hx
            exact low_nocap x (by simpa using this)
          rw [wireL_cons, i5 hc.2.2, m3, hm, m1]
          simp
        · have := i6 (by simp [hll]; omega)
          rw [nameOf_cons]
          simp only [List.length_append, List.length_cons, List.length_nil] at this ⊢
          omega
/-- Nothing but a whole name is read as one. -/
theorem rChars_cut (n : Nat) : ∀ (out l : List UInt8), l.length < n → (∀ x ∈ l, okc (low x) = true) → rChars n out l = .error 6 := by
  induction n with
  | zero => intro out l h; omega
  | succ n ih =>
    intro out l h ha
    cases l with
    | nil => rfl
    | cons b l => rw [rChars, if_pos (ha b (by simp)), ih _ l (by simp at h; omega) (fun x hx => ha x (by simp [hx]))]
theorem rLabel_cut {n : Nat} {l : List UInt8} {j : Nat} (first : Bool) (h : ordL l = true) (hj : j < l.length) (hn : l.length = n) : rLabel n first (l.take j) = .error 6 := by
  unfold rLabel
  have ha : ∀ x ∈ l, okc x = true := by
    unfold ordL at h; simp only [Bool.and_eq_true] at h; exact List.all_eq_true.1 h.2
  have hh : ((l.take j).head? == some 42) = false := by
    cases hc : l.take j with
    | nil => rfl
    | cons x xs =>
      have hx : x ∈ l := List.mem_of_mem_take (i := j) (by rw [hc]; simp)
      have := (ok_nodot x (ha x hx)).2.1
      simp [this]
  rw [hh, Bool.and_false, if_neg (by decide)]
  refine rChars_cut n [] _ (by rw [List.length_take]; omega) (fun x hx => ?_)
  have := ha x (List.mem_of_mem_take hx)
  rw [low_ok x this]; exact this
theorem rName_cut : ∀ (ls : List (List UInt8)) (out : List UInt8) (k j : Nat), (if out = [] then labelsOk ls = true else ls.all ordL = true) → out.length + (nameOf ls).length ≤ 254 → j < (wireL ls).length → rName k out ((wireL ls).take j) = .error 6
  | ls, out, 0, j, _, _, _ => by simp [rName]
  | ls, out, k + 1, 0, _, _, _ => by simp [rName]
  | [], out, k + 1, j + 1, _, _, h => by simp [wireL] at h
  | l :: ls, out, k + 1, j + 1, h, hn, hj => by
    have hlo : (ordL l = true ∨ (out = [] ∧ l = [42])) ∧ ls.all ordL = true := by
      by_cases ho : out = []
      · rw [if_pos ho] at h
        simp only [labelsOk, Bool.and_eq_true, Bool.or_eq_true, beq_iff_eq] at h
        exact ⟨h.1.imp id (fun g => ⟨ho, g⟩), h.2⟩
      · rw [if_neg ho] at h
        simp only [List.all_cons, Bool.and_eq_true] at h
        exact ⟨.inl h.1, h.2⟩
    have hl : 0 < l.length ∧ l.length ≤ 63 := by
      rcases hlo.1 with g | ⟨_, g⟩
      · exact ordL_pos g
      · rw [g]; decide
    obtain ⟨e1, e2⟩ := head_len hl
    rw [nameOf_cons] at hn
    simp only [List.length_append, List.length_cons, List.length_nil] at hn
    rw [wireL_cons] at hj ⊢
    simp only [List.cons_append, List.length_cons, List.length_append] at hj
    rw [List.cons_append, List.take_succ_cons, rName, e1, if_neg (by omega), if_neg e2, if_neg (by omega)]
    by_cases hc : j < l.length
    · rw [List.take_append_of_le_length (by omega)]
      rcases hlo.1 with g | ⟨g1, g2⟩
      · rw [rLabel_cut _ g hc rfl]
      · subst g2
        have : j = 0 := by simp at hc; omega
        subst this
        simp [rLabel, rChars]
    · have hlab : rLabel l.length out.isEmpty ((l ++ wireL ls).take j) = .ok (l, (wireL ls).take (j - l.length)) := by
        rw [List.take_append, List.take_of_length_le (by omega)]
        rcases hlo.1 with g | ⟨g1, g2⟩
        · exact rLabel_ord l _ _ g
        · rw [g1, g2]; simp [rLabel]
      rw [hlab]
      simp only
      exact rName_cut ls (out ++ l ++ [46]) k (j - l.length) (by rw [if_neg (by simp)]; exact hlo.2) (by simp; omega) (by omega)
end Go.Proofs.YtaehonmfoanloaaDoor.RdW
