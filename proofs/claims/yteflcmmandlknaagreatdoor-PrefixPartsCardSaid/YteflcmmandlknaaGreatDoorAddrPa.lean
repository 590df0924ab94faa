/-
  What addr.Parse answers: digits, fields, IPv4 and IPv6 texts. Conditions: each theorem's own.
-/
import Derived.Test.YteflcmmandlknaaGreatDoorPAx5
import Derived.Test.YteflcmmandlknaaGreatDoorPair
namespace Go.Proofs.YteflcmmandlknaaGreatDoor.AddrP
open Go.RowKit Go.Proofs.YteflcmmandlknaaGreatDoorW.PrintWords Go.Proofs.YteflcmmandlknaaGreatDoor.Num Go.Proofs.YteflcmmandlknaaGreatDoor.Str Go.Proofs.YteflcmmandlknaaGreatDoor.Flds Go.Proofs.YteflcmmandlknaaGreatDoor.PA
set_option linter.unusedVariables false
set_option linter.unusedSimpArgs false
/-- A text's bytes. -/
def by_ (s : ByteArray) : List UInt8 := s.data.toList
theorem by_length (s : ByteArray) : (by_ s).length = s.size := by show s.data.toList.length = s.data.size; exact Array.length_toList
theorem bt_drop {s : ByteArray} {i : Nat} {c : UInt8} {r : List UInt8} (h : (by_ s).drop i = c :: r) : i < s.size ∧ bt s i = c.toNat ∧ (by_ s).drop (i + 1) = r := by
  have hlt : i < (by_ s).length := by
    have := congrArg List.length h
    simp at this; omega
  rw [List.drop_eq_getElem_cons hlt] at h
  simp only [List.cons.injEq] at h
  have hl := by_length s
  refine ⟨by omega, ?_, h.2⟩
  have hs : (i : Int).toNat < s.size := by simp; omega
  rw [← bt_at s i hs, ← h.1]
  rfl
theorem drop_nil {s : ByteArray} {i : Nat} (h : (by_ s).drop i = []) : s.size ≤ i := by
  have := congrArg List.length h
  have hl := by_length s
  simp at this; omega
/-- The value of a hexadecimal digit, or -1. -/
def dg (c : Int) : Int := if 48 ≤ c ∧ c ≤ 57 then c - 48 else if 97 ≤ c ∧ c ≤ 102 then c - 87 else if 65 ≤ c ∧ c ≤ 70 then c - 55 else -1
theorem dg_le (c : Int) : dg c ≤ 15 := by unfold dg; (repeat' split) <;> omega
theorem u8_range (c : UInt8) : 0 ≤ (c.toNat : Int) ∧ (c.toNat : Int) ≤ 255 := by have := c.toNat_lt; omega
theorem addr_digit_ev {c : Int} (h0 : 0 ≤ c) (h1 : c ≤ 255) : Ev (fun k => addr_digit.f k c) (dg c) := by
  refine ev_of_eq 2 (fun k => ?_)
  unfold dg
  by_cases a1 : 48 ≤ c <;> by_cases a2 : c ≤ 57 <;> by_cases a3 : 97 ≤ c <;> by_cases a4 : c ≤ 102 <;> by_cases a5 : 65 ≤ c <;> by_cases a6 : c ≤ 70 <;> first | (exfalso; omega) | (simp [addr_digit.f, addr_digit.j0, addr_digit.j1, a1, a2, a3, a4, a5, a6]; try omega)
/-- The number of hexadecimal digits behind n. -/
def grpL : List UInt8 → Int → Option Int
  | [], n => some n
  | c :: r, n => if dg c.toNat < 0 then none else grpL r (16 * n + dg c.toNat)
def grp (l : List UInt8) : Option Int := if l.length < 1 ∨ l.length > 4 then none else grpL l 0
def bnd (n : Int) (r : List UInt8) : Prop := 0 ≤ n ∧ (n + 1) * 16 ^ r.length ≤ 65536
theorem bnd_lt {n : Int} {r : List UInt8} (h : bnd n r) : n < 65536 := by
  have h1 : (1 : Int) ≤ 16 ^ r.length := by
    have : 0 < (16 : Int) ^ r.length := Int.pow_pos (by omega)
    omega
  have := Int.mul_le_mul_of_nonneg_left h1 (show 0 ≤ n + 1 by have := h.1; omega)
  have := h.2
  omega
theorem bnd_step {n d : Int} {c : UInt8} {r : List UInt8} (h : bnd n (c :: r)) (h0 : 0 ≤ d) (h1 : d ≤ 15) : bnd (16 * n + d) r := by
  refine ⟨by have := h.1; omega, ?_⟩
  have hp : 0 ≤ (16 : Int) ^ r.length := Int.le_of_lt (Int.pow_pos (by omega))
  have e := Int.mul_le_mul_of_nonneg_right (show 16 * n + d + 1 ≤ (n + 1) * 16 by omega) hp
  have h2 := h.2
  rw [List.length_cons, Int.pow_succ, Int.mul_comm (16 ^ r.length) 16, ← Int.mul_assoc] at h2
  omega
theorem grpL_range : ∀ (r : List UInt8) (n m : Int), bnd n r → grpL r n = some m → 0 ≤ m ∧ m < 65536
  | [], n, m, hb, h => by simp only [grpL, Option.some.injEq] at h; subst h; exact ⟨hb.1, bnd_lt hb⟩
  | c :: r, n, m, hb, h => by
    unfold grpL at h
    split at h
    · cases h
    · exact grpL_range r _ m (bnd_step hb (by omega) (dg_le _)) h
theorem bnd_0 {l : List UInt8} (h : l.length ≤ 4) : bnd 0 l := by
  refine ⟨by omega, ?_⟩
  have : l.length = 0 ∨ l.length = 1 ∨ l.length = 2 ∨ l.length = 3 ∨ l.length = 4 := by omega
  rcases this with e | e | e | e | e <;> rw [e] <;> decide
theorem grp_range {l : List UInt8} {m : Int} (h : grp l = some m) : 0 ≤ m ∧ m < 65536 := by
  unfold grp at h
  split at h
  · cases h
  · exact grpL_range l 0 m (bnd_0 (by omega)) h
theorem u16_id {m : Int} (h0 : 0 ≤ m) (h1 : m < 65536) : IntKind.u16.wrap m = m := by
  have : IntKind.u16.wrap m = m % 65536 := rfl
  rw [this]; omega
theorem list_l1 (x4 : List Int) (f : ByteArray) (F : List ByteArray) (a b : Int) (hl : x4.length ≤ 8) (hf : f.size ≤ 1000) : ∀ (r : List UInt8) (i : Nat) (n : Int), (by_ f).drop i = r → bnd n r →
    (grpL r n = none → Ev (fun k => addr_list.l1 k x4 f n F a b (f.size : Int) (i : Int)) ([], false)) ∧
    (∀ m, grpL r n = some m → ∀ res, Ev (fun k => addr_list.l0 k (x4 ++ [m]) F a (wrap64 (b + 1))) res → Ev (fun k => addr_list.l1 k x4 f n F a b (f.size : Int) (i : Int)) res)
  | [], i, n, hd, hb => by
    have hi := drop_nil hd
    refine ⟨fun h => by simp [grpL] at h, fun m hm res hr => ?_⟩
    simp only [grpL, Option.some.injEq] at hm
    subst hm
    refine Ev.step (fun k => by rw [addr_list.l1]) (ev_if_neg (by omega) (ev_if_pos (by omega) ?_))
    rw [u16_id hb.1 (bnd_lt hb)]
    exact hr
  | c :: r, i, n, hd, hb => by
    obtain ⟨h1, h2, h3⟩ := bt_drop hd
    have hc := u8_range c
    have hn := bnd_lt hb
    have hn0 := hb.1
    have e1 : wrap64 ((i : Int) + 1) = ((i + 1 : Nat) : Int) := by unfold wrap64; omega
    refine ⟨fun h => ?_, fun m hm res hr => ?_⟩
    · refine Ev.step (fun k => by rw [addr_list.l1]) (ev_if_pos (by omega) (ev_if_pos (by omega) (ev_if_pos (by omega) ?_)))
      rw [h2]
      refine Ev.bind (addr_digit_ev hc.1 hc.2) ?_
      unfold grpL at h
      split at h
      · rename_i hz
        exact ev_if_pos hz (Ev.now _)
      · rename_i hz
        refine ev_if_neg hz ?_
        have hle := dg_le c.toNat
        have e2 : wrap64 (wrap64 (16 * n) + dg c.toNat) = 16 * n + dg c.toNat := by unfold wrap64; omega
        rw [e1, e2]
        exact (list_l1 x4 f F a b hl hf r (i + 1) _ h3 (bnd_step hb (by omega) hle)).1 h
    · refine Ev.step (fun k => by rw [addr_list.l1]) (ev_if_pos (by omega) (ev_if_pos (by omega) (ev_if_pos (by omega) ?_)))
      rw [h2]
      refine Ev.bind (addr_digit_ev hc.1 hc.2) ?_
      unfold grpL at hm
      split at hm
      · cases hm
      · rename_i hz
        refine ev_if_neg hz ?_
        have hle := dg_le c.toNat
        have e2 : wrap64 (wrap64 (16 * n) + dg c.toNat) = 16 * n + dg c.toNat := by unfold wrap64; omega
        rw [e1, e2]
        exact (list_l1 x4 f F a b hl hf r (i + 1) _ h3 (bnd_step hb (by omega) hle)).2 m hm res hr
def pk (o : Option (List Int)) : List Int × Bool := match o with
  | some l => (l, true)
  | none => ([], false)
theorem rdOf_drop {F : List ByteArray} {j : Nat} {f : ByteArray} {fs : List ByteArray} (h : F.drop j = f :: fs) : j < F.length ∧ rdOf ByteArray.empty F (j : Int) = f ∧ F.drop (j + 1) = fs := by
  have hlt : j < F.length := by
    have := congrArg List.length h
    simp at this; omega
  rw [List.drop_eq_getElem_cons hlt] at h
  simp only [List.cons.injEq] at h
  refine ⟨hlt, ?_, h.2⟩
  unfold rdOf
  rw [← h.1]
  simp [hlt]
theorem list_l0 (F : List ByteArray) (hF : F.length ≤ 1000) : ∀ (fs : List ByteArray) (j : Nat) (out : List Int), F.drop j = fs → out.length ≤ 8 →
    Ev (fun k => addr_list.l0 k out F (F.length : Int) (j : Int)) (pk (listL grp (fs.map by_) out))
  | [], j, out, hd, ho => by
    have hj : F.length ≤ j := by have := congrArg List.length hd; simp at this; omega
    refine Ev.step (fun k => by rw [addr_list.l0]) ?_
    refine ev_if_neg (by omega) ?_
    exact Ev.now _
  | f :: fs, j, out, hd, ho => by
    obtain ⟨h1, h2, h3⟩ := rdOf_drop hd
    have e1 : wrap64 ((j : Int) + 1) = ((j + 1 : Nat) : Int) := by unfold wrap64; omega
    refine Ev.step (fun k => by rw [addr_list.l0]) (ev_if_pos (by omega) (ev_if_pos (by omega) (ev_if_pos (by omega) ?_)))
    rw [h2, List.map_cons]
    have hl := by_length f
    have bad : Ev (fun k => addr_list.j1 k out f F (F.length : Int) (j : Int) true) ([], false) := Ev.step (fun k => by rw [addr_list.j1]) (ev_if_pos rfl (Ev.now _))
    by_cases hs : f.size < 1 ∨ f.size > 4
    · have hg : grp (by_ f) = none := by unfold grp; rw [if_pos (by omega)]
      have hr : listL grp (by_ f :: fs.map by_) out = none := by rw [listL_cons, hg]; split <;> rfl
      rw [hr]
      by_cases hs1 : f.size < 1
      · exact ev_if_pos (by omega) bad
      · exact ev_if_neg (by omega) (ev_if_pos (by omega) bad)
    · rw [listL_cons]
      refine ev_if_neg (by omega) (ev_if_neg (by omega) ?_)
      by_cases h8 : out.length = 8
      · rw [if_pos h8]
        have : ((out.length : Int) == 8) = true := by rw [h8]; rfl
        rw [this]
        exact bad
      · rw [if_neg h8]
        have : ((out.length : Int) == 8) = false := beq_eq_false_iff_ne.2 (by omega)
        rw [this]
        refine Ev.step (fun k => by rw [addr_list.j1]) (ev_if_neg (by simp) ?_)
        have hg : grp (by_ f) = grpL (by_ f) 0 := by unfold grp; rw [if_neg (by omega)]
        have hb : bnd 0 (by_ f) := bnd_0 (by omega)
        obtain ⟨p1, p2⟩ := list_l1 out f F (F.length : Int) (j : Int) ho (by omega) (by_ f) 0 0 rfl hb
        cases hm : grpL (by_ f) 0 with
        | none => rw [hg, hm]; exact p1 hm
        | some m =>
          rw [hg, hm]
          refine p2 m hm _ ?_
          rw [e1]
          exact list_l0 F hF fs (j + 1) (out ++ [m]) h3 (by simp; omega)
/-- The groups of a text. -/
def lst (l : List UInt8) : Option (List Int) := if l = [] then some [] else listL grp (splitC 58 l) []
theorem toList_nil (s : ByteArray) : s.toList = [] ↔ by_ s = [] := by
  rw [show s.toList = by_ s from ByteArray.toList_eq s]
theorem split_fields (c : UInt8) (s : ByteArray) : (Lib.splitB (⟨#[c]⟩ : ByteArray) 0 (Lib.countB s (⟨#[c]⟩ : ByteArray)) s).map by_ = splitC c (by_ s) := by
  have := Lib.splitB_data (⟨#[c]⟩ : ByteArray) 0 (Lib.countB s (⟨#[c]⟩ : ByteArray)) s
  exact this.trans (splitK_one c s.size s.data.toList (by rw [← by_length]; exact Nat.le_refl _))
theorem splitC_length (c : UInt8) : ∀ (s : List UInt8), (splitC c s).length ≤ s.length + 1
  | [] => by simp [splitC]
  | x :: s => by
    have ih := splitC_length c s
    by_cases hx : x = c
    · subst hx; unfold splitC; simp; omega
    · cases hs : splitC c s with
      | nil => exact absurd hs (splitC_ne _ _)
      | cons p ps => rw [splitC_cons_ne hx hs]; rw [hs] at ih; simp at ih ⊢; omega
theorem addr_list_ev (s : ByteArray) (hs : s.size ≤ 900) : Ev (fun k => addr_list.f k s) (pk (lst (by_ s))) := by
  unfold addr_list.f lst
  by_cases h : by_ s = []
  · rw [if_pos h]
    refine ev_if_pos ((toList_nil s).2 h) ?_
    exact Ev.now _
  · rw [if_neg h]
    refine ev_if_neg (fun c => h ((toList_nil s).1 c)) ?_
    have hf := split_fields 58 s
    refine ev_bind_const (a := Lib.splitB (⟨#[58]⟩ : ByteArray) 0 (Lib.countB s (⟨#[58]⟩ : ByteArray)) s) (by unfold strings_Split.f; rw [if_pos (by omega), if_pos (by decide)]) ?_
    rw [← hf]
    have hl : (Lib.splitB (⟨#[58]⟩ : ByteArray) 0 (Lib.countB s (⟨#[58]⟩ : ByteArray)) s).length ≤ 1000 := by
      have e := congrArg List.length hf
      rw [List.length_map] at e
      have := splitC_length 58 (by_ s)
      rw [by_length] at this
      omega
    exact list_l0 _ hl _ 0 [] rfl (by simp)
end Go.Proofs.YteflcmmandlknaaGreatDoor.AddrP
