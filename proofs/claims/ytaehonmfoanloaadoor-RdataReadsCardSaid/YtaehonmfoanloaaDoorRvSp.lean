/-
  The reference's 'used' (which fields a type has), walked: it returns usedD. Conditions: the type is a known one.
  What the callees of the reference's Valid of data return (to be shown elsewhere). Conditions: none.
-/
import Derived.Test.YtaehonmfoanloaaDoorHand
namespace Go.Proofs.YtaehonmfoanloaaDoor.Hand
open Go.RowKit Go.Proofs.YtaehonmfoanloaaDoorW.PrintWords Go.Proofs.YtaehonmfoanloaaDoor.RdW
set_option linter.all false
set_option maxHeartbeats 4000000
set_option maxRecDepth 100000

theorem used_a (t : Int) (ht : t = 1 ∨ t = 28 ∨ t = 2 ∨ t = 5 ∨ t = 12 ∨ t = 39 ∨ t = 6) (x : D) (w : World) :
    Calls Tryd.prog 30 #[.int .i64 t, x.v] w fun e w' => e = .returned (usedD t x).v ∧ Below w.heap.size w w' := by
  have hu := Tryd.underlying26
  have hv := Tryd.underlying24
  obtain ⟨v6, hi, lo, host, mail, text, a, b, c, d, e, f, bits⟩ := x
  rcases ht with rfl | rfl | rfl | rfl | rfl | rfl | rfl
  all_goals
    show Calls Tryd.prog 30 #[_, .agg #[.bool v6, .int .u64 hi, .int .u64 lo, .string host, .string mail, .string text, .int .i64 a, .int .i64 b, .int .i64 c, .int .i64 d, .int .i64 e, .int .i64 f, .int .u64 bits]] w _
    go_enter Tryd.func30, Tryd.ntmps30
    go_wp2
    exact bodyPost_ret (by simp [results, Tryd.results30, go_sem]; rfl) rfl ⟨rfl, by repeat (first | exact Below.refl _ _ | refine al ?_ _)⟩
theorem used_b (t : Int) (ht : t = 15 ∨ t = 16 ∨ t = 33 ∨ t = 43 ∨ t = 48 ∨ t = 46 ∨ t = 47) (x : D) (w : World) :
    Calls Tryd.prog 30 #[.int .i64 t, x.v] w fun e w' => e = .returned (usedD t x).v ∧ Below w.heap.size w w' := by
  have hu := Tryd.underlying26
  have hv := Tryd.underlying24
  obtain ⟨v6, hi, lo, host, mail, text, a, b, c, d, e, f, bits⟩ := x
  rcases ht with rfl | rfl | rfl | rfl | rfl | rfl | rfl
  all_goals
    show Calls Tryd.prog 30 #[_, .agg #[.bool v6, .int .u64 hi, .int .u64 lo, .string host, .string mail, .string text, .int .i64 a, .int .i64 b, .int .i64 c, .int .i64 d, .int .i64 e, .int .i64 f, .int .u64 bits]] w _
    go_enter Tryd.func30, Tryd.ntmps30
    go_wp2
    exact bodyPost_ret (by simp [results, Tryd.results30, go_sem]; rfl) rfl ⟨rfl, by repeat (first | exact Below.refl _ _ | refine al ?_ _)⟩
theorem used_sp (t : Int) (ht : KT t) (x : D) (w : World) :
    Calls Tryd.prog 30 #[.int .i64 t, x.v] w fun e w' => e = .returned (usedD t x).v ∧ Below w.heap.size w w' := by
  unfold KT at ht
  by_cases h : t = 1 ∨ t = 28 ∨ t = 2 ∨ t = 5 ∨ t = 12 ∨ t = 39 ∨ t = 6
  · exact used_a t h x w
  · exact used_b t (by omega) x w
end Go.Proofs.YtaehonmfoanloaaDoor.Hand
namespace Go.Proofs.YtaehonmfoanloaaDoor.Hand
open Go.RowKit Go.Proofs.YtaehonmfoanloaaDoorW.PrintWords Go.Proofs.YtaehonmfoanloaaDoor.RdW
set_option linter.all false
set_option maxHeartbeats 4000000
set_option maxRecDepth 100000
theorem rknown_yes (t : Int) (ht : KT t) (w : World) : Calls Tryd.prog 29 #[.int .i64 t] w fun e w' => e = .returned (.bool true) ∧ w = w' := by
  rcases ht with rfl | rfl | rfl | rfl | rfl | rfl | rfl | rfl | rfl | rfl | rfl | rfl | rfl | rfl
  all_goals
    go_enter Tryd.func29, Tryd.ntmps29
    go_wp2
    go_ret
    exact ⟨rfl, rfl⟩
structure RSp : Prop where
  host : ∀ (n : ByteArray) (r : Bool), hostB n = r → n.size ≤ 100000 → ∀ w : World, Calls Tryd.prog 32 #[.string n] w fun e w' => e = .returned (.bool r) ∧ Below w.heap.size w w'
  name : ∀ (n : ByteArray) (r : Bool), nameB n = r → n.size ≤ 100000 → ∀ w : World, Calls Tryd.prog 36 #[.string n] w fun e w' => e = .returned (.bool r) ∧ Below w.heap.size w w'
  known : ∀ (t : Int) (r : Bool), knownB t = r → ∀ w : World, Calls Tryd.prog 29 #[.int .i64 t] w fun e w' => e = .returned (.bool r) ∧ Below w.heap.size w w'
  all : ∀ (b : Int) (r : Bool), setB b = r → 0 ≤ b → b < 18446744073709551616 → ∀ w : World, Calls Tryd.prog 37 #[.int .u64 b] w fun e w' => e = .returned (.bool r) ∧ Below w.heap.size w w'
  serial : ∀ (x : Int) (r : Bool), inB x 4294967295 = r → ∀ w : World, Calls Tryd.prog 33 #[.int .i64 x] w fun e w' => e = .returned (.bool r) ∧ Below w.heap.size w w'
  within : ∀ (x m : Int) (r : Bool), inB x m = r → ∀ w : World, Calls Tryd.prog 34 #[.int .i64 x, .int .i64 m] w fun e w' => e = .returned (.bool r) ∧ Below w.heap.size w w'
  long : ∀ (s : ByteArray) (r : Bool), longB s = r → ∀ w : World, Calls Tryd.prog 35 #[.string s] w fun e w' => e = .returned (.bool r) ∧ Below w.heap.size w w'
  addr : ∀ (v6 : Bool) (hi lo : Int) (r : Bool), addrB v6 hi lo = r → ∀ w : World, Calls Tryd.prog 31 #[.agg #[.bool v6, .int .u64 hi, .int .u64 lo]] w fun e w' => e = .returned (.bool r) ∧ Below w.heap.size w w'
end Go.Proofs.YtaehonmfoanloaaDoor.Hand
