/-
  The table of record types (layer 5) in plain words: Known, Mnemonic, Type, Single, Set, Types, and their references. Conditions: each theorem's own.
-/
import Derived.Test.YtaehonmfoanloaaPx1
import Derived.Test.YtaehonmfoanloaaPx2
import Derived.Test.YtaehonmfoanloaaPx3
import Derived.Test.YtaehonmfoanloaaBits
namespace Go.Proofs.Ytaehonmfoanloaa.Rd
open Go.RowKit Go.Proofs.YtaehonmfoanloaaW.PrintWords Go.Proofs.YtaehonmfoanloaaW.PrintMore Go.Proofs.Ytaehonmfoanloaa.Num Go.Proofs.Ytaehonmfoanloaa.Bits Go.Proofs.Ytaehonmfoanloaa.P
set_option linter.unusedVariables false
set_option linter.unusedSimpArgs false

/-- The known types, rising. -/
def types : List Int := [1, 2, 5, 6, 12, 15, 16, 28, 33, 39, 43, 46, 47, 48]
def known (t : Int) : Bool := types.contains t
theorem known_iff (t : Int) : known t = true ↔ (t = 1 ∨ t = 2 ∨ t = 5 ∨ t = 6 ∨ t = 12 ∨ t = 15 ∨ t = 16 ∨ t = 28 ∨ t = 33 ∨ t = 39 ∨ t = 43 ∨ t = 46 ∨ t = 47 ∨ t = 48) := by
  unfold known types; simp
theorem known_range {t : Int} (h : known t = true) : 0 < t ∧ t < 49 := by
  rw [known_iff] at h; omega
def mnem (t : Int) : ByteArray :=
  if t = 1 then ⟨#[65]⟩ else if t = 2 then ⟨#[78, 83]⟩ else if t = 5 then ⟨#[67, 78, 65, 77, 69]⟩ else if t = 6 then ⟨#[83, 79, 65]⟩ else if t = 12 then ⟨#[80, 84, 82]⟩ else if t = 15 then ⟨#[77, 88]⟩ else if t = 16 then ⟨#[84, 88, 84]⟩ else
  if t = 28 then ⟨#[65, 65, 65, 65]⟩ else if t = 33 then ⟨#[83, 82, 86]⟩ else if t = 39 then ⟨#[68, 78, 65, 77, 69]⟩ else if t = 43 then ⟨#[68, 83]⟩ else if t = 46 then ⟨#[82, 82, 83, 73, 71]⟩ else if t = 47 then ⟨#[78, 83, 69, 67]⟩ else if t = 48 then ⟨#[68, 78, 83, 75, 69, 89]⟩ else ⟨#[]⟩
def flds (t : Int) : ByteArray :=
  if t = 1 then ⟨#[52]⟩ else if t = 2 then ⟨#[104]⟩ else if t = 5 then ⟨#[104]⟩ else if t = 6 then ⟨#[104, 109, 118, 119, 120, 121, 122]⟩ else if t = 12 then ⟨#[104]⟩ else if t = 15 then ⟨#[65, 104]⟩ else if t = 16 then ⟨#[116]⟩ else
  if t = 28 then ⟨#[54]⟩ else if t = 33 then ⟨#[65, 66, 67, 104]⟩ else if t = 39 then ⟨#[104]⟩ else if t = 43 then ⟨#[65, 98, 99, 114]⟩ else if t = 46 then ⟨#[65, 115, 98, 120, 121, 122, 70, 104, 114]⟩ else if t = 47 then ⟨#[104, 110]⟩ else if t = 48 then ⟨#[65, 98, 99, 114]⟩ else ⟨#[]⟩
theorem known_mem {t : Int} : known t = true ↔ t ∈ types := by unfold known; simp
/-- The program's own table. -/
def kindsL : List S36 := (rdata_kinds.f).getD []
theorem kinds_eq : rdata_kinds.f = some kindsL := rfl
theorem kinds_len : kindsL.length = 14 := by decide +kernel
theorem kinds_nums : kindsL.map (·.f0) = types := by decide +kernel
theorem kinds_names : kindsL.all (fun x => decide (x.f1 = mnem x.f0) && decide (x.f2 = flds x.f0)) = true := by decide +kernel
theorem kinds_mem {x : S36} (h : x ∈ kindsL) : known x.f0 = true ∧ x.f1 = mnem x.f0 ∧ x.f2 = flds x.f0 := by
  have h1 := List.all_eq_true.1 kinds_names x h
  simp only [Bool.and_eq_true, decide_eq_true_eq] at h1
  refine ⟨known_mem.2 ?_, h1⟩
  rw [← kinds_nums]
  exact List.mem_map.2 ⟨x, h, rfl⟩
theorem rd_kind {l : List S36} {i : Nat} {x : S36} {r : List S36} (h : l.drop i = x :: r) : rd_T36 l (i : Int) = x ∧ i < l.length ∧ l.drop (i + 1) = r := by
  have hi : i < l.length := by
    rcases Nat.lt_or_ge i l.length with g | g
    · exact g
    · rw [List.drop_eq_nil_of_le g] at h; cases h
  rw [List.drop_eq_getElem_cons hi] at h
  injection h with h1 h2
  refine ⟨?_, hi, h2⟩
  unfold rd_T36
  simp [hi, h1]
def pickF : Option S36 → Int × ByteArray × ByteArray × Bool
  | none => (0, ⟨#[]⟩, ⟨#[]⟩, false)
  | some x => (x.f0, x.f1, x.f2, true)
theorem find_l0 (t : Int) (l : List S36) (hl : l.length ≤ 1000) (r : List S36) : ∀ (k i : Nat), l.drop i = r → i ≤ l.length → rdata_find.l0 (k + r.length + 1) t l (l.length : Int) (i : Int) = some (pickF (r.find? (fun x => x.f0 == t))) := by
  induction r with
  | nil =>
    intro k i h hi
    have : l.length ≤ i := by
      rcases Nat.lt_or_ge i l.length with g | g
      · rw [List.drop_eq_getElem_cons g] at h; cases h
      · exact g
    simp only [rdata_find.l0]
    rw [if_neg (by omega)]; rfl
  | cons x r ih =>
    intro k i h hi
    obtain ⟨e, hlt, hd⟩ := rd_kind h
    have hi2 := ih k (i + 1) hd (by omega)
    have hk : k + (x :: r).length + 1 = (k + r.length + 1) + 1 := by simp only [List.length_cons]; omega
    rw [hk]
    generalize k + r.length + 1 = m at hi2 ⊢
    simp only [rdata_find.l0]
    rw [if_pos (by omega), if_pos (by omega), if_pos (by omega), e, wrap64_id (by omega) (by omega), show (i : Int) + 1 = ((i + 1 : Nat) : Int) by omega, hi2]
    by_cases c : x.f0 = t
    · rw [if_pos c, List.find?_cons_of_pos (by simp [c])]; rfl
    · rw [if_neg c, List.find?_cons_of_neg (by simp [c])]
theorem find_ev (t : Int) : Ev (fun k => rdata_find.f k t) (if known t then (t, mnem t, flds t, true) else (0, ⟨#[]⟩, ⟨#[]⟩, false)) := by
  refine ev_of_eq 15 (fun k => ?_)
  unfold rdata_find.f
  rw [kinds_eq]
  simp only [Option.bind_some]
  have := find_l0 t kindsL (by rw [kinds_len]; omega) kindsL k 0 rfl (by omega)
  rw [kinds_len] at this
  rw [kinds_len]
  refine this.trans ?_
  cases h : kindsL.find? (fun x => x.f0 == t) with
  | none =>
    have hn : known t = false := by
      rw [← Bool.not_eq_true, known_mem, ← kinds_nums]
      intro g
      obtain ⟨x, hx, e⟩ := List.mem_map.1 g
      have := List.find?_eq_none.1 h x hx
      simp [e] at this
    rw [hn]; rfl
  | some x =>
    have hx := kinds_mem (List.mem_of_find?_eq_some h)
    have e : x.f0 = t := by have := List.find?_some h; simpa using this
    rw [e] at hx
    rw [hx.1, if_pos rfl]
    simp only [pickF]
    rw [hx.2.1, hx.2.2, e]
theorem mnem_other {t : Int} (h : known t = false) : mnem t = ⟨#[]⟩ := by
  have hn : ¬ (t = 1 ∨ t = 2 ∨ t = 5 ∨ t = 6 ∨ t = 12 ∨ t = 15 ∨ t = 16 ∨ t = 28 ∨ t = 33 ∨ t = 39 ∨ t = 43 ∨ t = 46 ∨ t = 47 ∨ t = 48) := by
    rw [← known_iff, h]; simp
  simp only [not_or] at hn
  obtain ⟨n1, n2, n3, n4, n5, n6, n7, n8, n9, n10, n11, n12, n13, n14⟩ := hn
  unfold mnem
  rw [if_neg n1, if_neg n2, if_neg n3, if_neg n4, if_neg n5, if_neg n6, if_neg n7, if_neg n8, if_neg n9, if_neg n10, if_neg n11, if_neg n12, if_neg n13, if_neg n14]
theorem Known_ev (t : Int) : Ev (fun k => rdata_Known.f k t) (known t) := by
  unfold rdata_Known.f
  refine Ev.bind (find_ev t) ?_
  cases h : known t <;> exact Ev.now _
theorem Mnemonic_ev (t : Int) : Ev (fun k => rdata_Mnemonic.f k t) (mnem t) := by
  unfold rdata_Mnemonic.f
  refine Ev.bind (find_ev t) ?_
  cases h : known t
  · rw [mnem_other h]; exact Ev.now _
  · exact Ev.now _
theorem ref_Mnemonic_eq (t : Int) : ddiref05_Mnemonic.f t = some (mnem t) := by
  unfold ddiref05_Mnemonic.f mnem
  simp only [apply_ite some]
theorem mnem_all : types.all (fun t => (mnem t).toList != ([] : List UInt8)) = true := by decide +kernel
theorem mnem_known {t : Int} (h : known t = true) : ((mnem t).toList != ([] : List UInt8)) = true := List.all_eq_true.1 mnem_all t (known_mem.1 h)
theorem ref_Known_eq (t : Int) : ddiref05_Known.f t = some (known t) := by
  unfold ddiref05_Known.f
  rw [ref_Mnemonic_eq]; simp only [Option.bind_some]
  cases h : known t
  · rw [mnem_other h]; decide +kernel
  · rw [mnem_known h]
theorem Single_eq (t : Int) : rdata_Single.f t = ddiref05_Single.f t := by
  unfold rdata_Single.f ddiref05_Single.f; rfl
theorem Single_some (t : Int) : ∃ b, rdata_Single.f t = some b := by
  unfold rdata_Single.f; split
  · exact ⟨_, rfl⟩
  · split <;> exact ⟨_, rfl⟩

/-! ### Type -/
def pickN : Option Int → Int × Bool
  | none => (0, false)
  | some t => (t, true)
/-- The type with a name. -/
def typeS (s : List UInt8) : Int × Bool := pickN (types.find? (fun t => (mnem t).toList == s))
theorem find_named (s : List UInt8) : ∀ l : List S36, (∀ x ∈ l, x.f1 = mnem x.f0) → (l.find? (fun x => x.f1.toList == s)).map (·.f0) = (l.map (·.f0)).find? (fun t => (mnem t).toList == s)
  | [], _ => rfl
  | x :: l, h => by
    have hx := h x (List.mem_cons_self ..)
    rw [List.map_cons]
    by_cases c : (mnem x.f0).toList = s
    · rw [List.find?_cons_of_pos (by simp [hx, c]), List.find?_cons_of_pos (by simp [c])]; rfl
    · rw [List.find?_cons_of_neg (by simp [hx, c]), List.find?_cons_of_neg (by simp [c]), find_named s l (fun y hy => h y (List.mem_cons_of_mem _ hy))]
theorem Type_l0 (s : ByteArray) (l : List S36) (hl : l.length ≤ 1000) (r : List S36) : ∀ (k i : Nat), l.drop i = r → i ≤ l.length → rdata_Type.l0 (k + r.length + 1) s l (l.length : Int) (i : Int) = some (pickN ((r.find? (fun x => x.f1.toList == s.toList)).map (·.f0))) := by
  induction r with
  | nil =>
    intro k i h hi
    have : l.length ≤ i := by
      rcases Nat.lt_or_ge i l.length with g | g
      · rw [List.drop_eq_getElem_cons g] at h; cases h
      · exact g
    simp only [rdata_Type.l0]
    rw [if_neg (by omega)]; rfl
  | cons x r ih =>
    intro k i h hi
    obtain ⟨e, hlt, hd⟩ := rd_kind h
    have hi2 := ih k (i + 1) hd (by omega)
    have hk : k + (x :: r).length + 1 = (k + r.length + 1) + 1 := by simp only [List.length_cons]; omega
    rw [hk]
    generalize k + r.length + 1 = m at hi2 ⊢
    simp only [rdata_Type.l0]
    rw [if_pos (by omega), if_pos (by omega), if_pos (by omega), e, wrap64_id (by omega) (by omega), show (i : Int) + 1 = ((i + 1 : Nat) : Int) by omega, hi2]
    by_cases c : x.f1.toList = s.toList
    · rw [if_pos c, List.find?_cons_of_pos (by simp [c])]; rfl
    · rw [if_neg c, List.find?_cons_of_neg (by simp [c])]
theorem Type_ev (s : ByteArray) : Ev (fun k => rdata_Type.f k s) (typeS s.toList) := by
  refine ev_of_eq 15 (fun k => ?_)
  unfold rdata_Type.f
  rw [kinds_eq]
  simp only [Option.bind_some]
  have := Type_l0 s kindsL (by rw [kinds_len]; omega) kindsL k 0 rfl (by omega)
  rw [kinds_len] at this
  rw [kinds_len]
  refine this.trans ?_
  rw [find_named s.toList kindsL (fun x hx => (kinds_mem hx).2.1), kinds_nums]
  rfl
theorem ref_Type_l0 (s : ByteArray) (d : Nat) : ∀ (k t : Nat), t + d = 49 → ddiref05_Type.l0 (k + d + 1) s (t : Int) = some (if s.toList = [] then (0, false) else pickN (((List.range' t d).map (fun n : Nat => (n : Int))).find? (fun t => known t && (mnem t).toList == s.toList))) := by
  induction d with
  | zero =>
    intro k t h1
    simp only [ddiref05_Type.l0]
    rw [if_neg (by omega)]
    simp [pickN]
  | succ d ih =>
    intro k t h1
    have hi := ih k (t + 1) (by omega)
    have hk : k + (d + 1) + 1 = (k + d + 1) + 1 := by omega
    rw [hk]
    generalize k + d + 1 = m at hi ⊢
    simp only [ddiref05_Type.l0]
    rw [if_pos (by omega), ref_Mnemonic_eq, wrap64_id (by omega) (by omega), show (t : Int) + 1 = ((t + 1 : Nat) : Int) by omega, hi]
    simp only [Option.bind_some]
    by_cases e : s.toList = []
    · rw [if_pos e, if_pos e]; rw [if_pos e]
    · rw [if_neg e, if_neg e, if_neg e, List.range'_succ, List.map_cons]
      cases hn : known (t : Int)
      · rw [mnem_other hn]
        have e2 : ¬ (⟨#[]⟩ : ByteArray).toList = s.toList := fun c => e (by rw [← c]; decide +kernel)
        rw [if_neg e2, List.find?_cons_of_neg (by simp [hn])]
      · by_cases c : (mnem (t : Int)).toList = s.toList
        · rw [if_pos c, List.find?_cons_of_pos (by simp [hn, c])]; rfl
        · rw [if_neg c, List.find?_cons_of_neg (by simp [hn, c])]
theorem numbers_known : ((List.range' 1 48).map (fun n : Nat => (n : Int))).filter known = types := by decide +kernel
theorem typeS_nil : typeS [] = (0, false) := by decide +kernel
theorem ref_Type_ev (s : ByteArray) : Ev (fun k => ddiref05_Type.f k s) (typeS s.toList) := by
  refine ev_of_eq 49 (fun k => ?_)
  unfold ddiref05_Type.f
  have := ref_Type_l0 s 48 k 1 (by decide)
  refine this.trans ?_
  by_cases e : s.toList = []
  · rw [if_pos e, e, typeS_nil]
  · rw [if_neg e]
    unfold typeS
    rw [← numbers_known, List.find?_filter]
    simp only [Bool.decide_and, Bool.decide_eq_true]

/-! ### Types -/
def bitOf (a : Nat) (t : Int) : Bool := a.testBit t.toNat
def typesS (a : Nat) : List Int := types.filter (bitOf a)
theorem known_nat {t : Int} (h : known t = true) : ∃ n : Nat, t = n ∧ 0 < n ∧ n < 49 := by
  have := known_range h
  exact ⟨t.toNat, by omega, by omega, by omega⟩
theorem bit_known {a : Nat} (ha : a < 18446744073709551616) {t : Int} (h0 : 0 ≤ t) (h1 : t < 64) : (Go.bits .and .u64 (shr .u64 (a : Int) t) 1 = 1) ↔ bitOf a t = true := by
  obtain ⟨n, rfl⟩ := Int.eq_ofNat_of_zero_le h0
  exact bit_test ha (by omega)
theorem Types_l0 {a : Nat} (ha : a < 18446744073709551616) (l : List S36) (hl : l.length ≤ 1000) (r : List S36) : ∀ (k i : Nat) (acc : List Int), l.drop i = r → i ≤ l.length → acc.length ≤ i → (∀ x ∈ r, known x.f0 = true) →
    rdata_Types.l0 (k + r.length + 1) (a : Int) acc l (l.length : Int) (i : Int) = some (acc ++ (r.map (·.f0)).filter (bitOf a)) := by
  induction r with
  | nil =>
    intro k i acc h hi _ _
    have : l.length ≤ i := by
      rcases Nat.lt_or_ge i l.length with g | g
      · rw [List.drop_eq_getElem_cons g] at h; cases h
      · exact g
    simp only [rdata_Types.l0]
    rw [if_neg (by omega)]; simp
  | cons x r ih =>
    intro k i acc h hi hacc hkn
    obtain ⟨e, hlt, hd⟩ := rd_kind h
    have hx := known_range (hkn x (List.mem_cons_self ..))
    have hi2 := fun acc' ha' => ih k (i + 1) acc' hd (by omega) ha' (fun y hy => hkn y (List.mem_cons_of_mem _ hy))
    have hk : k + (x :: r).length + 1 = (k + r.length + 1) + 1 := by simp only [List.length_cons]; omega
    rw [hk]
    generalize k + r.length + 1 = m at hi2 ⊢
    simp only [rdata_Types.l0]
    rw [if_pos (by omega), if_pos (by omega), if_pos (by omega), e, if_pos (by omega), wrap64_id (by omega) (by omega), show (i : Int) + 1 = ((i + 1 : Nat) : Int) by omega, List.map_cons]
    by_cases c : bitOf a x.f0 = true
    · rw [if_pos ((bit_known ha (by omega) (by omega)).2 c), if_pos (by omega), hi2 _ (by simp; omega), List.filter_cons_of_pos c]
      simp
    · rw [if_neg (fun g => c ((bit_known ha (by omega) (by omega)).1 g)), hi2 _ (by omega), List.filter_cons_of_neg c]
theorem Types_ev {a : Nat} (ha : a < 18446744073709551616) : Ev (fun k => rdata_Types.f k (a : Int)) (typesS a) := by
  refine ev_of_eq 15 (fun k => ?_)
  unfold rdata_Types.f
  rw [kinds_eq]
  simp only [Option.bind_some]
  have := Types_l0 ha kindsL (by rw [kinds_len]; omega) kindsL k 0 [] rfl (by omega) (by simp) (fun x hx => (kinds_mem hx).1)
  rw [kinds_len] at this
  rw [kinds_len]
  refine this.trans ?_
  rw [kinds_nums]; rfl
theorem ref_Types_l0 {a : Nat} (ha : a < 18446744073709551616) (d : Nat) : ∀ (k t : Nat) (acc : List Int), t + d = 64 → acc.length ≤ t →
    ddiref05_Types.l0 (k + d + 1) (a : Int) acc (t : Int) = some (acc ++ ((List.range' t d).map (fun n : Nat => (n : Int))).filter (fun t => known t && bitOf a t)) := by
  induction d with
  | zero =>
    intro k t acc h1 _
    simp only [ddiref05_Types.l0]
    rw [if_neg (by omega)]
    simp
  | succ d ih =>
    intro k t acc h1 hacc
    have hi := fun acc' h => ih k (t + 1) acc' (by omega) h
    have hk : k + (d + 1) + 1 = (k + d + 1) + 1 := by omega
    rw [hk]
    generalize k + d + 1 = m at hi ⊢
    simp only [ddiref05_Types.l0]
    have hw : IntKind.u64.wrap (t : Int) = t := wrap_u64_id (by unfold U64; omega)
    rw [hw, if_pos (by omega), if_pos (by omega), wrap64_id (by omega) (by omega), show (t : Int) + 1 = ((t + 1 : Nat) : Int) by omega, List.range'_succ, List.map_cons, ref_Known_eq]
    simp only [Option.bind_some]
    by_cases c : bitOf a (t : Int) = true
    · rw [if_pos ((bit_known ha (by omega) (by omega)).2 c)]
      cases hn : known (t : Int)
      · simp only [Bool.false_eq_true, if_false]
        rw [hi _ (by omega), List.filter_cons_of_neg (by simp [hn])]
      · simp only [if_true]
        rw [if_pos (by omega), hi _ (by simp; omega), List.filter_cons_of_pos (by simp [hn, c])]
        simp
    · rw [if_neg (fun g => c ((bit_known ha (by omega) (by omega)).1 g)), hi _ (by omega), List.filter_cons_of_neg (by simp [c])]
theorem numbers_known64 : ((List.range' 0 64).map (fun n : Nat => (n : Int))).filter known = types := by decide +kernel
theorem ref_Types_ev {a : Nat} (ha : a < 18446744073709551616) : Ev (fun k => ddiref05_Types.f k (a : Int)) (typesS a) := by
  refine ev_of_eq 65 (fun k => ?_)
  unfold ddiref05_Types.f
  have := ref_Types_l0 ha 64 k 0 [] (by decide) (by simp)
  refine this.trans ?_
  unfold typesS
  rw [← numbers_known64, List.filter_filter, List.nil_append]
  congr 1
  apply List.filter_congr
  intro x _
  exact Bool.and_comm _ _

/-! ### Set -/
/-- A list of types as a set, from a set on. -/
def setS : List Int → Nat → Nat × Bool
  | [], a => (a, true)
  | t :: r, a => if known t then setS r (a ||| 2 ^ t.toNat) else (0, false)
theorem setS_lt : ∀ (l : List Int) (a : Nat), a < 18446744073709551616 → (setS l a).1 < 18446744073709551616
  | [], a, h => h
  | t :: r, a, h => by
    unfold setS
    cases hk : known t
    · simp
    · have := known_range hk
      simp only [if_true]
      exact setS_lt r _ (or_lt h (two_pow_lt (by omega)))
def castS (x : Nat × Bool) : Int × Bool := ((x.1 : Int), x.2)
theorem rd_drop {l : List Int} {i : Nat} {x : Int} {r : List Int} (h : l.drop i = x :: r) : rd l (i : Int) = x ∧ i < l.length ∧ l.drop (i + 1) = r := by
  have hi : i < l.length := by
    rcases Nat.lt_or_ge i l.length with g | g
    · exact g
    · rw [List.drop_eq_nil_of_le g] at h; cases h
  rw [List.drop_eq_getElem_cons hi] at h
  injection h with h1 h2
  refine ⟨?_, hi, h2⟩
  unfold rd
  simp [hi, h1]
theorem drop_nil_le {α : Type} {l : List α} {i : Nat} (h : l.drop i = []) : l.length ≤ i := by
  rcases Nat.lt_or_ge i l.length with g | g
  · rw [List.drop_eq_getElem_cons g] at h; cases h
  · exact g
theorem or_step {a : Nat} (ha : a < 18446744073709551616) {t : Int} (h : known t = true) : Go.bits .or .u64 (a : Int) (shl .u64 1 t) = ((a ||| 2 ^ t.toNat : Nat) : Int) := by
  obtain ⟨n, rfl, h0, h1⟩ := known_nat h
  rw [shl_one (by omega), or_nat ha (two_pow_lt (by omega))]; rfl
theorem Set_l0 (l : List Int) (hl : l.length ≤ 140737488351232) (r : List Int) : ∀ (i : Nat) (a : Nat), a < 18446744073709551616 → l.drop i = r → i ≤ l.length → Ev (fun k => rdata_Set.l0 k (a : Int) l (l.length : Int) (i : Int)) (castS (setS r a)) := by
  induction r with
  | nil =>
    intro i a ha h hi
    have := drop_nil_le h
    refine ev_of_eq 1 (fun k => ?_)
    simp only [rdata_Set.l0]
    rw [if_neg (by omega)]; rfl
  | cons x r ih =>
    intro i a ha h hi
    obtain ⟨e, hlt, hd⟩ := rd_drop h
    refine Ev.step (fun k => by rw [rdata_Set.l0]) (ev_if_pos (by omega) (ev_if_pos (by omega) (ev_if_pos (by omega) ?_)))
    rw [e]
    refine Ev.bind (Known_ev x) ?_
    unfold setS
    cases hk : known x
    · exact ev_if_neg (by simp) (Ev.now _)
    · have hr := known_range hk
      refine ev_if_pos rfl (ev_if_pos (by omega) ?_)
      rw [or_step ha hk, wrap64_id (by omega) (by omega), show (i : Int) + 1 = ((i + 1 : Nat) : Int) by omega]
      exact ih (i + 1) _ (or_lt ha (two_pow_lt (by omega))) hd (by omega)
theorem Set_ev (l : List Int) (hl : l.length ≤ 140737488351232) : Ev (fun k => rdata_Set.f k l) (castS (setS l 0)) := by
  unfold rdata_Set.f
  exact Set_l0 l hl l 0 0 (by decide) rfl (by omega)
theorem ref_Set_l0 (l : List Int) (hl : l.length ≤ 140737488351232) (r : List Int) : ∀ (i : Nat) (a : Nat), a < 18446744073709551616 → l.drop i = r → i ≤ l.length → Ev (fun k => ddiref05_Set.l0 k l (a : Int) (i : Int)) (castS (setS r a)) := by
  induction r with
  | nil =>
    intro i a ha h hi
    have := drop_nil_le h
    refine ev_of_eq 1 (fun k => ?_)
    simp only [ddiref05_Set.l0]
    rw [if_neg (by omega)]; rfl
  | cons x r ih =>
    intro i a ha h hi
    obtain ⟨e, hlt, hd⟩ := rd_drop h
    refine Ev.step (fun k => by rw [ddiref05_Set.l0]) (ev_if_pos (by omega) (ev_if_pos (by omega) ?_))
    rw [e]
    refine ev_bind_const (ref_Known_eq x) ?_
    unfold setS
    cases hk : known x
    · exact ev_if_neg (by simp) (Ev.now _)
    · have hr := known_range hk
      have hw : IntKind.u64.wrap x = x := wrap_u64_id (by unfold U64; omega)
      rw [hw]
      refine ev_if_pos rfl (ev_if_pos (by omega) ?_)
      rw [or_step ha hk, wrap64_id (by omega) (by omega), show (i : Int) + 1 = ((i + 1 : Nat) : Int) by omega]
      exact ih (i + 1) _ (or_lt ha (two_pow_lt (by omega))) hd (by omega)
theorem ref_Set_ev (l : List Int) (hl : l.length ≤ 140737488351232) : Ev (fun k => ddiref05_Set.f k l) (castS (setS l 0)) := by
  unfold ddiref05_Set.f
  exact ref_Set_l0 l hl l 0 0 (by decide) rfl (by omega)
end Go.Proofs.Ytaehonmfoanloaa.Rd
