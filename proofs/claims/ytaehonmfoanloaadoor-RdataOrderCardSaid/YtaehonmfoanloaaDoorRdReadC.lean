/-
  The program's Valid of data of the type NSEC, walked: it returns validS. Conditions: what the functions that it calls return (PSp), strings of the reach.
  The program's Valid, all types in one. Conditions: sizes of the names, range of the bits, a world of the shape.
  The program's Read, for every type. Conditions: the bytes' number, a world of the shape, the contracts assumed.
-/
import Derived.Test.YtaehonmfoanloaaDoorPvSp
import Derived.Test.YtaehonmfoanloaaDoorRdBit
import Derived.Deep.RegionHeld3
import Derived.Test.YtaehonmfoanloaaDoorPvGa
import Derived.Test.YtaehonmfoanloaaDoorPvGc
import Derived.Test.YtaehonmfoanloaaDoorPvGb
import Derived.Test.YtaehonmfoanloaaDoorPvA
import Derived.Test.YtaehonmfoanloaaDoorPvB
import Derived.Test.YtaehonmfoanloaaDoorPvC
import Derived.Test.YtaehonmfoanloaaDoorPvD
import Derived.Test.YtaehonmfoanloaaDoorPvE
import Derived.Test.YtaehonmfoanloaaDoorPvF
import Derived.Test.YtaehonmfoanloaaDoorRdReadB
namespace Go.Proofs.YtaehonmfoanloaaDoor.Hand
open Go.RowKit Go.Proofs.YtaehonmfoanloaaDoorW.PrintWords Go.Proofs.YtaehonmfoanloaaDoor.RdW
set_option maxHeartbeats 8000000
set_option maxRecDepth 100000
set_option linter.all false
attribute [local go_sem high] eqD
theorem pv47 (S : PSp) (x : D) (hs1 : x.host.size ≤ 100000) (hs2 : x.mail.size ≤ 100000) (hb0 : 0 ≤ x.bits) (hb1 : x.bits < 18446744073709551616) (w : World) (sh : w.ShapedOpen Tryd.prog) :
    Calls Tryd.prog 13 #[.int .i64 47, x.v] w fun e w' => e = .returned (.bool (validS 47 x)) ∧ Below w.heap.size w w' := by
  cases h0 : D.eqb x { D.z with host := x.host, bits := x.bits } with
  | false => exact pv47_data S x hs1 hs2 hb0 hb1 h0 w sh
  | true =>
    cases h1 : nameB x.host with
    | false => exact pv47_name S x hs1 hs2 hb0 hb1 h0 h1 w sh
    | true =>
      cases h2 : (x.bits != 0) with
      | false => exact pv47_bits S x hs1 hs2 hb0 hb1 h0 h1 h2 w sh
      | true => exact pv47_full S x hs1 hs2 hb0 hb1 h0 h1 h2 w sh
end Go.Proofs.YtaehonmfoanloaaDoor.Hand
namespace Go.Proofs.YtaehonmfoanloaaDoor.Hand
open Go.RowKit Go.Proofs.YtaehonmfoanloaaDoorW.PrintWords Go.Proofs.YtaehonmfoanloaaDoor.RdW
set_option linter.all false
theorem valid_known (S : PSp) (t : Int) (x : D) (hs1 : x.host.size ≤ 100000) (hs2 : x.mail.size ≤ 100000) (hb0 : 0 ≤ x.bits) (hb1 : x.bits < 18446744073709551616) (w : World) (sh : w.ShapedOpen Tryd.prog) (hk : knownB t = true) :
    Calls Tryd.prog 13 #[.int .i64 t, x.v] w fun e w' => e = .returned (.bool (validS t x)) ∧ Below w.heap.size w w' := by
  rw [knownB_iff] at hk
  rcases hk with rfl | rfl | rfl | rfl | rfl | rfl | rfl | rfl | rfl | rfl | rfl | rfl | rfl | rfl
  · exact pv1 S x hs1 hs2 w sh
  · exact pv2 S x hs1 hs2 w sh
  · exact pv5 S x hs1 hs2 w sh
  · exact pv6 S x hs1 hs2 w sh
  · exact pv12 S x hs1 hs2 w sh
  · exact pv15 S x hs1 hs2 w sh
  · exact pv16 S x hs1 hs2 w sh
  · exact pv28 S x hs1 hs2 w sh
  · exact pv33 S x hs1 hs2 w sh
  · exact pv39 S x hs1 hs2 w sh
  · exact pv43 S x hs1 hs2 w sh
  · exact pv46 S x hs1 hs2 w sh
  · exact pv47 S x hs1 hs2 hb0 hb1 w sh
  · exact pv48 S x hs1 hs2 w sh
end Go.Proofs.YtaehonmfoanloaaDoor.Hand
namespace Go.Proofs.YtaehonmfoanloaaDoor.Hand
open Go.RowKit Go.Proofs.YtaehonmfoanloaaDoorW.PrintWords Go.Proofs.YtaehonmfoanloaaDoor.RdW
set_option linter.all false
theorem read_sp (S : WSp) (F : FSp) (t : Int) (s : ByteArray) (hs : s.size ≤ 1000000) (w : World) (sh : w.ShapedOpen Tryd.prog) :
    Calls Tryd.prog 18 #[.int .i64 t, .string s] w fun e w' => e = .returned (.tuple #[(readS t s.data.toList).1.v, .int .i64 (readS t s.data.toList).2]) ∧ Below w.heap.size w w' := by
  cases hk : knownB t with
  | false => exact read_unknown S t s hk w
  | true =>
    refine read_known S F t s hs hk w fun x rest hr W hb => ?_
    obtain ⟨s1, s2, s3, s4⟩ := readF_small _ _ _ _ _ small_z hr
    exact valid_known F.toPSp t x s1 s2 s3 s4 W (shb sh hb) hk
end Go.Proofs.YtaehonmfoanloaaDoor.Hand
