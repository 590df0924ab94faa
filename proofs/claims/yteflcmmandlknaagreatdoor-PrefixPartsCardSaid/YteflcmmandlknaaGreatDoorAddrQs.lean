/-
  Strings of bytes, hexadecimal and decimal digits. Conditions: numbers within their kinds.
-/
import Derived.Test.YteflcmmandlknaaGreatDoorNum
import Derived.Lib.Join
import Derived.Test.YteflcmmandlknaaGreatDoorPAx8
namespace Go.Proofs.YteflcmmandlknaaGreatDoor.Qs
open Go.RowKit Go.Proofs.YteflcmmandlknaaGreatDoorW.PrintWords Go.Proofs.YteflcmmandlknaaGreatDoorW.PrintLast Go.Proofs.YteflcmmandlknaaGreatDoor.Num Go.Proofs.YteflcmmandlknaaGreatDoor.PA
set_option linter.unusedVariables false
set_option linter.unusedSimpArgs false

def bs (l : List UInt8) : ByteArray := ⟨l.toArray⟩
theorem bs_size (l : List UInt8) : (bs l).size = l.length := by simp [bs, ByteArray.size]
theorem bs_app (l m : List UInt8) : bs l ++ bs m = bs (l ++ m) := by
  apply ByteArray.ext
  simp [bs, ByteArray.data_append]
theorem bs_list (l : List UInt8) : (bs l).data.toList = l := by simp [bs]
def hx (x : Int) : List UInt8 := hexText x.toNat
theorem fu16 (x : Int) (h0 : 0 ≤ x) (h1 : x < 65536) : strconv_FormatUint.f (IntKind.u64.wrap x) 16 = some (bs (hx x)) := by
  rw [wrap_u64_id ⟨h0, by omega⟩]
  unfold strconv_FormatUint.f
  rw [if_neg (by decide), if_pos rfl, if_pos ⟨h0, h1⟩]
  rfl
/-- A number's decimal digits, three at most. -/
def dd (n : Nat) : List UInt8 := if n < 10 then [UInt8.ofNat (48 + n)] else if n < 100 then [UInt8.ofNat (48 + n / 10), UInt8.ofNat (48 + n % 10)] else [UInt8.ofNat (48 + n / 100), UInt8.ofNat (48 + n / 10 % 10), UInt8.ofNat (48 + n % 10)]
theorem dd_eq (n : Nat) (h : n < 1000) : Lib.decDigits n = dd n := by
  unfold dd
  by_cases h1 : n < 10
  · rw [if_pos h1, Lib.decDigits_one h1]
  · rw [if_neg h1]
    by_cases h2 : n < 100
    · rw [if_pos h2, Lib.decDigits_two h1 h2]
    · rw [if_neg h2, Lib.decDigits, dif_neg h1, Lib.decDigits_two (by omega) (by omega), Nat.div_div_eq_div_mul]
      rfl
theorem dd_len (n : Nat) : (dd n).length ≤ 3 := by
  unfold dd
  by_cases h1 : n < 10
  · rw [if_pos h1]; simp
  · rw [if_neg h1]
    by_cases h2 : n < 100
    · rw [if_pos h2]; simp
    · rw [if_neg h2]; simp
end Go.Proofs.YteflcmmandlknaaGreatDoor.Qs
