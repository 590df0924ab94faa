/-
  Data of the reach; the shape of a world behind a call. Conditions: each theorem's own.
-/
import Derived.Test.YtaehonmfoanloaaDoorHand
namespace Go.Proofs.YtaehonmfoanloaaDoor.Hand
open Go.RowKit Go.Proofs.YtaehonmfoanloaaDoorW.PrintWords Go.Proofs.YtaehonmfoanloaaDoor.RdW
set_option linter.all false
/-- Data of the reach. -/
structure D.ok (x : D) : Prop where
  host : x.host.size ≤ 100000
  mail : x.mail.size ≤ 100000
  text : x.text.size ≤ 100000
  bits0 : 0 ≤ x.bits
  bits1 : x.bits < 18446744073709551616
  hi0 : 0 ≤ x.hi
  hi1 : x.hi < 18446744073709551616
  lo0 : 0 ≤ x.lo
  lo1 : x.lo < 18446744073709551616
theorem shb {w w' : World} (h : w.ShapedOpen Tryd.prog) (hb : Below w.heap.size w w') : w'.ShapedOpen Tryd.prog := h.keptBut (hb.frame (fun _ => False)) (fun _ h => h.elim)
theorem wireN_size (s : ByteArray) (h : s.size ≤ 100000) : (strOf (wireN s.data.toList)).size ≤ 100001 := by
  have h1 := wireN_len s.data.toList
  have e1 : s.data.toList.length = s.size := by rw [Array.length_toList]; rfl
  rw [strOf_size]; omega
theorem bitmap_size (n : Nat) : (strOf (bitmapS n)).size ≤ 8 := by
  have := trimZ_len (RdW.bytesOf 8 n)
  rw [RdW.bytesOf_length] at this
  exact this
end Go.Proofs.YtaehonmfoanloaaDoor.Hand
