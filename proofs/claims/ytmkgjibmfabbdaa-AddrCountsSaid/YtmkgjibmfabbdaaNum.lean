/-
  Plain facts on the wrap of numbers. Conditions: each theorem's own.
-/
import Derived.Test.YtmkgjibmfabbdaaWWords
import Derived.Test.YtmkgjibmfabbdaaWLast
import Derived.Test.YtmkgjibmfabbdaaWMore
import Derived.Test.YtmkgjibmfabbdaaExt
namespace Go.Proofs.Ytmkgjibmfabbdaa.Num
open Go.RowKit Go.Proofs.YtmkgjibmfabbdaaW.PrintWords

def U64 (x : Int) : Prop := 0 ≤ x ∧ x < 18446744073709551616
theorem u64_of_wf {x : Int} (h : (Lit.int .u64 x).wf = true) : U64 x := by
  simp [Lit.wf, IntKind.min, IntKind.max, IntKind.signed, IntKind.bits] at h
  unfold U64; omega
theorem wrap_u64 (x : Int) : IntKind.u64.wrap x = x % 18446744073709551616 := by
  have h : IntKind.u64.wrap x = x % 18446744073709551616 := rfl
  rw [h]
theorem wrap_u64_id {x : Int} (h : U64 x) : IntKind.u64.wrap x = x := by unfold U64 at h; rw [wrap_u64]; omega
theorem wrap64_id {x : Int} (h0 : -9223372036854775808 ≤ x) (h1 : x ≤ 9223372036854775807) : wrap64 x = x := by unfold wrap64; omega
end Go.Proofs.Ytmkgjibmfabbdaa.Num
