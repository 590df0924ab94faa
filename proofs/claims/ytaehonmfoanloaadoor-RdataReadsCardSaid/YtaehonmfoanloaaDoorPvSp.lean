/-
  What the callees of the program's Valid of data return (to be shown elsewhere). Conditions: none.
-/
import Derived.Test.YtaehonmfoanloaaDoorHand
namespace Go.Proofs.YtaehonmfoanloaaDoor.Hand
open Go.RowKit Go.Proofs.YtaehonmfoanloaaDoorW.PrintWords Go.Proofs.YtaehonmfoanloaaDoor.RdW
set_option linter.all false
structure PSp : Prop where
  host : ∀ (n : ByteArray) (r : Bool), hostB n = r → n.size ≤ 100000 → ∀ {w0 w : World}, w0.ShapedOpen Tryd.prog → Below w0.heap.size w0 w → Calls Tryd.prog 23 #[.string n] w fun e w' => e = .returned (.bool r) ∧ Below w.heap.size w w'
  name : ∀ (n : ByteArray) (r : Bool), nameB n = r → n.size ≤ 100000 → ∀ {w0 w : World}, w0.ShapedOpen Tryd.prog → Below w0.heap.size w0 w → Calls Tryd.prog 27 #[.string n] w fun e w' => e = .returned (.bool r) ∧ Below w.heap.size w w'
  known : ∀ (t : Int) (r : Bool), knownB t = r → ∀ w : World, Calls Tryd.prog 20 #[.int .i64 t] w fun e w' => e = .returned (.bool r) ∧ Below w.heap.size w w'
  all : ∀ w : World, Calls Tryd.prog 28 #[] w fun e w' => e = .returned (.int .u64 (allT : Int)) ∧ Below w.heap.size w w'
  serial : ∀ (x : Int) (r : Bool), inB x 4294967295 = r → ∀ w : World, Calls Tryd.prog 24 #[.int .i64 x] w fun e w' => e = .returned (.bool r) ∧ w = w'
  within : ∀ (x m : Int) (r : Bool), inB x m = r → ∀ w : World, Calls Tryd.prog 25 #[.int .i64 x, .int .i64 m] w fun e w' => e = .returned (.bool r) ∧ w = w'
  long : ∀ (s : ByteArray) (r : Bool), longB s = r → ∀ w : World, Calls Tryd.prog 26 #[.string s] w fun e w' => e = .returned (.bool r) ∧ w = w'
  addr : ∀ (v6 : Bool) (hi lo : Int) (r : Bool), addrB v6 hi lo = r → ∀ w : World, Calls Tryd.prog 22 #[.agg #[.bool v6, .int .u64 hi, .int .u64 lo]] w fun e w' => e = .returned (.bool r) ∧ Below w.heap.size w w'
end Go.Proofs.YtaehonmfoanloaaDoor.Hand
