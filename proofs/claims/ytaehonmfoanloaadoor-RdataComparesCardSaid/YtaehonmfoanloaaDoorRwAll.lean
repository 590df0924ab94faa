/-
  What the callees of the reference's Wire of data return (to be shown elsewhere). Conditions: none.
  The reference's Wire of data, walked: it returns wireF. Conditions: what the functions that it calls return (RWSp), valid data of the reach.
  The reference's Wire of data, walked: it returns wireF. Conditions: what the functions that it calls return (RWSp), valid data of the reach.
  The reference's Wire of data, walked: it returns wireF. Conditions: what the functions that it calls return (RWSp), valid data of the reach.
  The reference's Wire of data, walked: it returns wireF. Conditions: what the functions that it calls return (RWSp), valid data of the reach.
  The reference's Wire of data, walked: it returns wireF. Conditions: what the functions that it calls return (RWSp), valid data of the reach.
  The reference's Wire of addresses, of a type that is not known and of data that are not valid, walked; its Valid of a type that is not known. Conditions: what the functions that it calls return (RWSp).
  What the reference's functions of layer 5 return, out of the printed functions and the walks. Conditions: data of the reach.
-/
import Derived.Test.YtaehonmfoanloaaDoorPAx7
import Derived.Test.YtaehonmfoanloaaDoorRvSp
import Derived.Test.YtaehonmfoanloaaDoorHandB
import Derived.Deep.RegionHeld3
import Derived.Test.YtaehonmfoanloaaDoorRdLaw
import Derived.Test.YtaehonmfoanloaaDoorRfEvB
import Derived.Test.YtaehonmfoanloaaDoorRvAll
namespace Go.Proofs.YtaehonmfoanloaaDoor.Hand
open Go.RowKit Go.Proofs.YtaehonmfoanloaaDoorW.PrintWords Go.Proofs.YtaehonmfoanloaaDoor.RdW
set_option linter.all false
/-- The numbers are in reach. -/
def Rng (x : D) : Prop := (0 ≤ x.a ∧ x.a ≤ 4294967295) ∧ (0 ≤ x.b ∧ x.b ≤ 4294967295) ∧ (0 ≤ x.c ∧ x.c ≤ 4294967295) ∧ (0 ≤ x.d ∧ x.d ≤ 4294967295) ∧ (0 ≤ x.e ∧ x.e ≤ 4294967295) ∧ (0 ≤ x.f ∧ x.f ≤ 4294967295)
structure RWSp : Prop where
  valid : ∀ (t : Int) (x : D) (w : World), x.ok → knownB t = true → Calls Tryd.prog 15 #[.int .i64 t, x.v] w fun e w' => e = .returned (.bool (validS t x)) ∧ Below w.heap.size w w'
  name : ∀ (n : ByteArray), n.size ≤ 100000 → ∀ w : World, Calls Tryd.prog 45 #[.string n] w fun e w' => e = .returned (.string (strOf (wireN n.data.toList))) ∧ Below w.heap.size w w'
  number : ∀ (n k : Int), 0 ≤ n → (k ≤ 1 ∨ n ≤ 9223372036854775807) → 0 ≤ k → k ≤ 4 → ∀ w : World, Calls Tryd.prog 46 #[.int .i64 n, .int .i64 k] w fun e w' => e = .returned (.string (strOf (be k.toNat n.toNat))) ∧ Below w.heap.size w w'
  addr : ∀ (x : D), x.ok → addrB x.v6 x.hi x.lo = true → ∀ w : World, Calls Tryd.prog 44 #[.agg #[.bool x.v6, .int .u64 x.hi, .int .u64 x.lo]] w fun e w' => e = .returned (.tuple #[.string (strOf (addrW x)), .int .i64 0]) ∧ Below w.heap.size w w'
  bitmap : ∀ (b : Int), 0 ≤ b → b < 18446744073709551616 → ∀ w : World, Calls Tryd.prog 47 #[.int .u64 b] w fun e w' => e = .returned (.string (strOf (bitmapS b.toNat))) ∧ Below w.heap.size w w'
section
variable (S : RWSp)
include S
theorem RWSp.num1 (n : Int) (h : 0 ≤ n ∧ n ≤ 4294967295) (w : World) : Calls Tryd.prog 46 #[.int .i64 n, .int .i64 1] w fun e w' => e = .returned (.string (strOf (be 1 n.toNat))) ∧ Below w.heap.size w w' := S.number n 1 h.1 (by omega) (by omega) (by omega) w
theorem RWSp.num2 (n : Int) (h : 0 ≤ n ∧ n ≤ 4294967295) (w : World) : Calls Tryd.prog 46 #[.int .i64 n, .int .i64 2] w fun e w' => e = .returned (.string (strOf (be 2 n.toNat))) ∧ Below w.heap.size w w' := S.number n 2 h.1 (by omega) (by omega) (by omega) w
theorem RWSp.num4 (n : Int) (h : 0 ≤ n ∧ n ≤ 4294967295) (w : World) : Calls Tryd.prog 46 #[.int .i64 n, .int .i64 4] w fun e w' => e = .returned (.string (strOf (be 4 n.toNat))) ∧ Below w.heap.size w w' := S.number n 4 h.1 (by omega) (by omega) (by omega) w
theorem RWSp.numL (n : Nat) (w : World) : Calls Tryd.prog 46 #[.int .i64 (n : Int), .int .i64 1] w fun e w' => e = .returned (.string (strOf (be 1 n))) ∧ Below w.heap.size w w' := S.number n 1 (by omega) (by omega) (by omega) (by omega) w
theorem RWSp.num253 (w : World) : Calls Tryd.prog 46 #[.int .i64 253, .int .i64 1] w fun e w' => e = .returned (.string (strOf (be 1 253))) ∧ Below w.heap.size w w' := S.number 253 1 (by omega) (by omega) (by omega) (by omega) w
theorem RWSp.num0 (w : World) : Calls Tryd.prog 46 #[.int .i64 0, .int .i64 1] w fun e w' => e = .returned (.string (strOf (be 1 0))) ∧ Below w.heap.size w w' := S.number 0 1 (by omega) (by omega) (by omega) (by omega) w
end
end Go.Proofs.YtaehonmfoanloaaDoor.Hand
namespace Go.Proofs.YtaehonmfoanloaaDoor.Hand
open Go.RowKit Go.Proofs.YtaehonmfoanloaaDoorW.PrintWords Go.Proofs.YtaehonmfoanloaaDoor.RdW
set_option maxHeartbeats 8000000
set_option maxRecDepth 100000
set_option linter.all false
theorem rw15 (S : RWSp) (x : D) (hx : x.ok) (hv : validS 15 x = true) (hn : Rng x) (w : World) :
    Calls Tryd.prog 17 #[.int .i64 15, x.v] w fun e w' => e = .returned (.tuple #[.string (strOf (wireF (flds 15) x)), .int .i64 0]) ∧ Below w.heap.size w w' := by
  have hu := Tryd.underlying26
  have hu2 := Tryd.underlying24
  have HV := Aside0.mk (fun w' : World => S.valid 15 x w' hx (by decide))
  rw [hv] at HV
  obtain ⟨v6, hi, lo, host, mail, text, a, b, c, d, e, f, bits⟩ := x
  have HO : Aside0 (Own w (w.alloc (.cells #[.bool v6, .int .u64 hi, .int .u64 lo, .string host, .string mail, .string text, .int .i64 a, .int .i64 b, .int .i64 c, .int .i64 d, .int .i64 e, .int .i64 f, .int .u64 bits] 26)) #[.bool v6, .int .u64 hi, .int .u64 lo, .string host, .string mail, .string text, .int .i64 a, .int .i64 b, .int .i64 c, .int .i64 d, .int .i64 e, .int .i64 f, .int .u64 bits] 26) := ⟨Own.new _ _ _⟩
  have HX := Aside0.mk hx
  have HVA : Aside0 (∀ w' : World, Calls Tryd.prog 15 #[.int .i64 15, .agg #[.bool v6, .int .u64 hi, .int .u64 lo, .string host, .string mail, .string text, .int .i64 a, .int .i64 b, .int .i64 c, .int .i64 d, .int .i64 e, .int .i64 f, .int .u64 bits]] w' fun e_ w1 => e_ = .returned (.bool true) ∧ Below w'.heap.size w' w1) := HV
  show Calls Tryd.prog 17 #[_, .agg #[.bool v6, .int .u64 hi, .int .u64 lo, .string host, .string mail, .string text, .int .i64 a, .int .i64 b, .int .i64 c, .int .i64 d, .int .i64 e, .int .i64 f, .int .u64 bits]] w _
  obtain ⟨na, nb, nc, nd, ne, nf⟩ := hn
  dsimp only at na nb nc nd ne nf
  have q1 : host.size ≤ 100000 := hx.host
  have q2 : mail.size ≤ 100000 := hx.mail
  have q3 : text.size ≤ 100000 := hx.text
  clear hx hv HV
  have hE : strOf (be 2 a.toNat) ++ strOf (wireN host.data.toList) = strOf (wireF (flds 15) ⟨v6, hi, lo, host, mail, text, a, b, c, d, e, f, bits⟩) := by
    show strOf (be 2 a.toNat) ++ strOf (wireN host.data.toList) = _
    try simp only [strOf_app]
    congr 1
    simp [wireF, flds, piece, numOf, be, wireB, strOf_size]
  rw [← hE]
  clear hE
  have wh := wireN_size host (by assumption)
  have s0 : (strOf (be 2 a.toNat)).size ≤ 2 := by rw [strOf_size, be_length]; omega
  have y1 : (strOf (wireN host.data.toList)).size ≤ 100001 := by first | exact wh | (rw [strOf_size, be_length]; omega)
  have k1 : ∀ w' : World, (Op.stringOp .add (strOf (be 2 a.toNat)) (strOf (wireN host.data.toList))).run Tryd.prog w' = .ok (.string (strOf (be 2 a.toNat) ++ strOf (wireN host.data.toList))) w' := fun w' => run_string_add_sum (P := Tryd.prog) w' _ _ (by omega)
  have s1 : (strOf (be 2 a.toNat) ++ strOf (wireN host.data.toList)).size ≤ 100003 := by rw [ByteArray.size_append]; omega
  clear s0 s1 y1
  go_enter Tryd.func17, Tryd.ntmps17
  go_wp2_with fail
  refine (rknown_yes 15 (by unfold KT; omega) _).mono ?_
  rintro e_ w_ ⟨rfl, rfl⟩
  go_wp2_with fail
  refine (HVA.out _).mono ?_
  rintro e_ w1 ⟨rfl, hb⟩
  replace HO := Aside0.mk (HO.out.call hb)
  clear hb HVA
  obtain ⟨hc, hf⟩ := HO.out.cells
  go_wp2_with fail
  (first
    | (go_region_held3 (fun w' => (∀ o, w'.cell? ⟨w.heap.size, o, none⟩ = (#[.bool v6, .int .u64 hi, .int .u64 lo, .string host, .string mail, .string text, .int .i64 a, .int .i64 b, .int .i64 c, .int .i64 d, .int .i64 e, .int .i64 f, .int .u64 bits] : Array Value)[o]?) ∧ Own w w' #[.bool v6, .int .u64 hi, .int .u64 lo, .string host, .string mail, .string text, .int .i64 a, .int .i64 b, .int .i64 c, .int .i64 d, .int .i64 e, .int .i64 f, .int .u64 bits] 26) ((first | assumption | exact Own.s HO.out.drew | exact Own.s (Own.call HO.out.drew hb) | exact Own.s (Own.call (And.right (by assumption)) hb))) (first | (go_at_call 45; (with_reducible refine (S.name _ (by assumption) _).mono ?_); rintro e_ w2 ⟨rfl, hb⟩) | (go_at_call 46; (with_reducible first | refine (S.num253 _).mono ?_ | refine (S.num0 _).mono ?_ | refine (S.numL _ _).mono ?_ | refine (S.num1 _ (by assumption) _).mono ?_ | refine (S.num2 _ (by assumption) _).mono ?_ | refine (S.num4 _ (by assumption) _).mono ?_); rintro e_ w2 ⟨rfl, hb⟩)))
    | fail "held")
  go_wp2
  go_ret2
  exact ⟨rfl, (And.right ‹(∀ o, World.cell? w2 ⟨w.heap.size, o, none⟩ = _) ∧ Own w w2 _ _›).below⟩
theorem rw2 (S : RWSp) (x : D) (hx : x.ok) (hv : validS 2 x = true) (hn : Rng x) (w : World) :
    Calls Tryd.prog 17 #[.int .i64 2, x.v] w fun e w' => e = .returned (.tuple #[.string (strOf (wireF (flds 2) x)), .int .i64 0]) ∧ Below w.heap.size w w' := by
  have hu := Tryd.underlying26
  have hu2 := Tryd.underlying24
  have HV := Aside0.mk (fun w' : World => S.valid 2 x w' hx (by decide))
  rw [hv] at HV
  obtain ⟨v6, hi, lo, host, mail, text, a, b, c, d, e, f, bits⟩ := x
  have HO : Aside0 (Own w (w.alloc (.cells #[.bool v6, .int .u64 hi, .int .u64 lo, .string host, .string mail, .string text, .int .i64 a, .int .i64 b, .int .i64 c, .int .i64 d, .int .i64 e, .int .i64 f, .int .u64 bits] 26)) #[.bool v6, .int .u64 hi, .int .u64 lo, .string host, .string mail, .string text, .int .i64 a, .int .i64 b, .int .i64 c, .int .i64 d, .int .i64 e, .int .i64 f, .int .u64 bits] 26) := ⟨Own.new _ _ _⟩
  have HX := Aside0.mk hx
  have HVA : Aside0 (∀ w' : World, Calls Tryd.prog 15 #[.int .i64 2, .agg #[.bool v6, .int .u64 hi, .int .u64 lo, .string host, .string mail, .string text, .int .i64 a, .int .i64 b, .int .i64 c, .int .i64 d, .int .i64 e, .int .i64 f, .int .u64 bits]] w' fun e_ w1 => e_ = .returned (.bool true) ∧ Below w'.heap.size w' w1) := HV
  show Calls Tryd.prog 17 #[_, .agg #[.bool v6, .int .u64 hi, .int .u64 lo, .string host, .string mail, .string text, .int .i64 a, .int .i64 b, .int .i64 c, .int .i64 d, .int .i64 e, .int .i64 f, .int .u64 bits]] w _
  obtain ⟨na, nb, nc, nd, ne, nf⟩ := hn
  dsimp only at na nb nc nd ne nf
  have q1 : host.size ≤ 100000 := hx.host
  have q2 : mail.size ≤ 100000 := hx.mail
  have q3 : text.size ≤ 100000 := hx.text
  clear hx hv HV
  have hE : strOf (wireN host.data.toList) = strOf (wireF (flds 2) ⟨v6, hi, lo, host, mail, text, a, b, c, d, e, f, bits⟩) := by
    show strOf (wireN host.data.toList) = _
    try simp only [strOf_app]
    congr 1
    simp [wireF, flds, piece, numOf, be, wireB, strOf_size]
  rw [← hE]
  clear hE
  go_enter Tryd.func17, Tryd.ntmps17
  go_wp2_with fail
  refine (rknown_yes 2 (by unfold KT; omega) _).mono ?_
  rintro e_ w_ ⟨rfl, rfl⟩
  go_wp2_with fail
  refine (HVA.out _).mono ?_
  rintro e_ w1 ⟨rfl, hb⟩
  replace HO := Aside0.mk (HO.out.call hb)
  clear hb HVA
  obtain ⟨hc, hf⟩ := HO.out.cells
  go_wp2_with (first
    | (go_at_call 45; (with_reducible refine (S.name _ (by assumption) _).mono ?_); rintro e_ w2 ⟨rfl, hb⟩; (try clear hc hf); replace HO := Aside0.mk (HO.out.call hb); clear hb; obtain ⟨hc, hf⟩ := HO.out.cells)
    | (go_at_call 46; (with_reducible first | refine (S.num253 _).mono ?_ | refine (S.num0 _).mono ?_ | refine (S.numL _ _).mono ?_ | refine (S.num1 _ (by assumption) _).mono ?_); rintro e_ w2 ⟨rfl, hb⟩; (try clear hc hf); replace HO := Aside0.mk (HO.out.call hb); clear hb; obtain ⟨hc, hf⟩ := HO.out.cells)
    | (go_at_call 47; (with_reducible refine (S.bitmap _ HX.out.bits0 HX.out.bits1 _).mono ?_); rintro e_ w2 ⟨rfl, hb⟩; (try clear hc hf); replace HO := Aside0.mk (HO.out.call hb); clear hb; obtain ⟨hc, hf⟩ := HO.out.cells))
  go_ret2
  exact ⟨rfl, HO.out.below⟩
theorem rw5 (S : RWSp) (x : D) (hx : x.ok) (hv : validS 5 x = true) (hn : Rng x) (w : World) :
    Calls Tryd.prog 17 #[.int .i64 5, x.v] w fun e w' => e = .returned (.tuple #[.string (strOf (wireF (flds 5) x)), .int .i64 0]) ∧ Below w.heap.size w w' := by
  have hu := Tryd.underlying26
  have hu2 := Tryd.underlying24
  have HV := Aside0.mk (fun w' : World => S.valid 5 x w' hx (by decide))
  rw [hv] at HV
  obtain ⟨v6, hi, lo, host, mail, text, a, b, c, d, e, f, bits⟩ := x
  have HO : Aside0 (Own w (w.alloc (.cells #[.bool v6, .int .u64 hi, .int .u64 lo, .string host, .string mail, .string text, .int .i64 a, .int .i64 b, .int .i64 c, .int .i64 d, .int .i64 e, .int .i64 f, .int .u64 bits] 26)) #[.bool v6, .int .u64 hi, .int .u64 lo, .string host, .string mail, .string text, .int .i64 a, .int .i64 b, .int .i64 c, .int .i64 d, .int .i64 e, .int .i64 f, .int .u64 bits] 26) := ⟨Own.new _ _ _⟩
  have HX := Aside0.mk hx
  have HVA : Aside0 (∀ w' : World, Calls Tryd.prog 15 #[.int .i64 5, .agg #[.bool v6, .int .u64 hi, .int .u64 lo, .string host, .string mail, .string text, .int .i64 a, .int .i64 b, .int .i64 c, .int .i64 d, .int .i64 e, .int .i64 f, .int .u64 bits]] w' fun e_ w1 => e_ = .returned (.bool true) ∧ Below w'.heap.size w' w1) := HV
  show Calls Tryd.prog 17 #[_, .agg #[.bool v6, .int .u64 hi, .int .u64 lo, .string host, .string mail, .string text, .int .i64 a, .int .i64 b, .int .i64 c, .int .i64 d, .int .i64 e, .int .i64 f, .int .u64 bits]] w _
  obtain ⟨na, nb, nc, nd, ne, nf⟩ := hn
  dsimp only at na nb nc nd ne nf
  have q1 : host.size ≤ 100000 := hx.host
  have q2 : mail.size ≤ 100000 := hx.mail
  have q3 : text.size ≤ 100000 := hx.text
  clear hx hv HV
  have hE : strOf (wireN host.data.toList) = strOf (wireF (flds 5) ⟨v6, hi, lo, host, mail, text, a, b, c, d, e, f, bits⟩) := by
    show strOf (wireN host.data.toList) = _
    try simp only [strOf_app]
    congr 1
    simp [wireF, flds, piece, numOf, be, wireB, strOf_size]
  rw [← hE]
  clear hE
  go_enter Tryd.func17, Tryd.ntmps17
  go_wp2_with fail
  refine (rknown_yes 5 (by unfold KT; omega) _).mono ?_
  rintro e_ w_ ⟨rfl, rfl⟩
  go_wp2_with fail
  refine (HVA.out _).mono ?_
  rintro e_ w1 ⟨rfl, hb⟩
  replace HO := Aside0.mk (HO.out.call hb)
  clear hb HVA
  obtain ⟨hc, hf⟩ := HO.out.cells
  go_wp2_with (first
    | (go_at_call 45; (with_reducible refine (S.name _ (by assumption) _).mono ?_); rintro e_ w2 ⟨rfl, hb⟩; (try clear hc hf); replace HO := Aside0.mk (HO.out.call hb); clear hb; obtain ⟨hc, hf⟩ := HO.out.cells)
    | (go_at_call 46; (with_reducible first | refine (S.num253 _).mono ?_ | refine (S.num0 _).mono ?_ | refine (S.numL _ _).mono ?_ | refine (S.num1 _ (by assumption) _).mono ?_); rintro e_ w2 ⟨rfl, hb⟩; (try clear hc hf); replace HO := Aside0.mk (HO.out.call hb); clear hb; obtain ⟨hc, hf⟩ := HO.out.cells)
    | (go_at_call 47; (with_reducible refine (S.bitmap _ HX.out.bits0 HX.out.bits1 _).mono ?_); rintro e_ w2 ⟨rfl, hb⟩; (try clear hc hf); replace HO := Aside0.mk (HO.out.call hb); clear hb; obtain ⟨hc, hf⟩ := HO.out.cells))
  go_ret2
  exact ⟨rfl, HO.out.below⟩
theorem rw12 (S : RWSp) (x : D) (hx : x.ok) (hv : validS 12 x = true) (hn : Rng x) (w : World) :
    Calls Tryd.prog 17 #[.int .i64 12, x.v] w fun e w' => e = .returned (.tuple #[.string (strOf (wireF (flds 12) x)), .int .i64 0]) ∧ Below w.heap.size w w' := by
  have hu := Tryd.underlying26
  have hu2 := Tryd.underlying24
  have HV := Aside0.mk (fun w' : World => S.valid 12 x w' hx (by decide))
  rw [hv] at HV
  obtain ⟨v6, hi, lo, host, mail, text, a, b, c, d, e, f, bits⟩ := x
  have HO : Aside0 (Own w (w.alloc (.cells #[.bool v6, .int .u64 hi, .int .u64 lo, .string host, .string mail, .string text, .int .i64 a, .int .i64 b, .int .i64 c, .int .i64 d, .int .i64 e, .int .i64 f, .int .u64 bits] 26)) #[.bool v6, .int .u64 hi, .int .u64 lo, .string host, .string mail, .string text, .int .i64 a, .int .i64 b, .int .i64 c, .int .i64 d, .int .i64 e, .int .i64 f, .int .u64 bits] 26) := ⟨Own.new _ _ _⟩
  have HX := Aside0.mk hx
  have HVA : Aside0 (∀ w' : World, Calls Tryd.prog 15 #[.int .i64 12, .agg #[.bool v6, .int .u64 hi, .int .u64 lo, .string host, .string mail, .string text, .int .i64 a, .int .i64 b, .int .i64 c, .int .i64 d, .int .i64 e, .int .i64 f, .int .u64 bits]] w' fun e_ w1 => e_ = .returned (.bool true) ∧ Below w'.heap.size w' w1) := HV
  show Calls Tryd.prog 17 #[_, .agg #[.bool v6, .int .u64 hi, .int .u64 lo, .string host, .string mail, .string text, .int .i64 a, .int .i64 b, .int .i64 c, .int .i64 d, .int .i64 e, .int .i64 f, .int .u64 bits]] w _
  obtain ⟨na, nb, nc, nd, ne, nf⟩ := hn
  dsimp only at na nb nc nd ne nf
  have q1 : host.size ≤ 100000 := hx.host
  have q2 : mail.size ≤ 100000 := hx.mail
  have q3 : text.size ≤ 100000 := hx.text
  clear hx hv HV
  have hE : strOf (wireN host.data.toList) = strOf (wireF (flds 12) ⟨v6, hi, lo, host, mail, text, a, b, c, d, e, f, bits⟩) := by
    show strOf (wireN host.data.toList) = _
    try simp only [strOf_app]
    congr 1
    simp [wireF, flds, piece, numOf, be, wireB, strOf_size]
  rw [← hE]
  clear hE
  go_enter Tryd.func17, Tryd.ntmps17
  go_wp2_with fail
  refine (rknown_yes 12 (by unfold KT; omega) _).mono ?_
  rintro e_ w_ ⟨rfl, rfl⟩
  go_wp2_with fail
  refine (HVA.out _).mono ?_
  rintro e_ w1 ⟨rfl, hb⟩
  replace HO := Aside0.mk (HO.out.call hb)
  clear hb HVA
  obtain ⟨hc, hf⟩ := HO.out.cells
  go_wp2_with (first
    | (go_at_call 45; (with_reducible refine (S.name _ (by assumption) _).mono ?_); rintro e_ w2 ⟨rfl, hb⟩; (try clear hc hf); replace HO := Aside0.mk (HO.out.call hb); clear hb; obtain ⟨hc, hf⟩ := HO.out.cells)
    | (go_at_call 46; (with_reducible first | refine (S.num253 _).mono ?_ | refine (S.num0 _).mono ?_ | refine (S.numL _ _).mono ?_ | refine (S.num1 _ (by assumption) _).mono ?_); rintro e_ w2 ⟨rfl, hb⟩; (try clear hc hf); replace HO := Aside0.mk (HO.out.call hb); clear hb; obtain ⟨hc, hf⟩ := HO.out.cells)
    | (go_at_call 47; (with_reducible refine (S.bitmap _ HX.out.bits0 HX.out.bits1 _).mono ?_); rintro e_ w2 ⟨rfl, hb⟩; (try clear hc hf); replace HO := Aside0.mk (HO.out.call hb); clear hb; obtain ⟨hc, hf⟩ := HO.out.cells))
  go_ret2
  exact ⟨rfl, HO.out.below⟩
theorem rw39 (S : RWSp) (x : D) (hx : x.ok) (hv : validS 39 x = true) (hn : Rng x) (w : World) :
    Calls Tryd.prog 17 #[.int .i64 39, x.v] w fun e w' => e = .returned (.tuple #[.string (strOf (wireF (flds 39) x)), .int .i64 0]) ∧ Below w.heap.size w w' := by
  have hu := Tryd.underlying26
  have hu2 := Tryd.underlying24
  have HV := Aside0.mk (fun w' : World => S.valid 39 x w' hx (by decide))
  rw [hv] at HV
  obtain ⟨v6, hi, lo, host, mail, text, a, b, c, d, e, f, bits⟩ := x
  have HO : Aside0 (Own w (w.alloc (.cells #[.bool v6, .int .u64 hi, .int .u64 lo, .string host, .string mail, .string text, .int .i64 a, .int .i64 b, .int .i64 c, .int .i64 d, .int .i64 e, .int .i64 f, .int .u64 bits] 26)) #[.bool v6, .int .u64 hi, .int .u64 lo, .string host, .string mail, .string text, .int .i64 a, .int .i64 b, .int .i64 c, .int .i64 d, .int .i64 e, .int .i64 f, .int .u64 bits] 26) := ⟨Own.new _ _ _⟩
  have HX := Aside0.mk hx
  have HVA : Aside0 (∀ w' : World, Calls Tryd.prog 15 #[.int .i64 39, .agg #[.bool v6, .int .u64 hi, .int .u64 lo, .string host, .string mail, .string text, .int .i64 a, .int .i64 b, .int .i64 c, .int .i64 d, .int .i64 e, .int .i64 f, .int .u64 bits]] w' fun e_ w1 => e_ = .returned (.bool true) ∧ Below w'.heap.size w' w1) := HV
  show Calls Tryd.prog 17 #[_, .agg #[.bool v6, .int .u64 hi, .int .u64 lo, .string host, .string mail, .string text, .int .i64 a, .int .i64 b, .int .i64 c, .int .i64 d, .int .i64 e, .int .i64 f, .int .u64 bits]] w _
  obtain ⟨na, nb, nc, nd, ne, nf⟩ := hn
  dsimp only at na nb nc nd ne nf
  have q1 : host.size ≤ 100000 := hx.host
  have q2 : mail.size ≤ 100000 := hx.mail
  have q3 : text.size ≤ 100000 := hx.text
  clear hx hv HV
  have hE : strOf (wireN host.data.toList) = strOf (wireF (flds 39) ⟨v6, hi, lo, host, mail, text, a, b, c, d, e, f, bits⟩) := by
    show strOf (wireN host.data.toList) = _
    try simp only [strOf_app]
    congr 1
    simp [wireF, flds, piece, numOf, be, wireB, strOf_size]
  rw [← hE]
  clear hE
  go_enter Tryd.func17, Tryd.ntmps17
  go_wp2_with fail
  refine (rknown_yes 39 (by unfold KT; omega) _).mono ?_
  rintro e_ w_ ⟨rfl, rfl⟩
  go_wp2_with fail
  refine (HVA.out _).mono ?_
  rintro e_ w1 ⟨rfl, hb⟩
  replace HO := Aside0.mk (HO.out.call hb)
  clear hb HVA
  obtain ⟨hc, hf⟩ := HO.out.cells
  go_wp2_with (first
    | (go_at_call 45; (with_reducible refine (S.name _ (by assumption) _).mono ?_); rintro e_ w2 ⟨rfl, hb⟩; (try clear hc hf); replace HO := Aside0.mk (HO.out.call hb); clear hb; obtain ⟨hc, hf⟩ := HO.out.cells)
    | (go_at_call 46; (with_reducible first | refine (S.num253 _).mono ?_ | refine (S.num0 _).mono ?_ | refine (S.numL _ _).mono ?_ | refine (S.num1 _ (by assumption) _).mono ?_); rintro e_ w2 ⟨rfl, hb⟩; (try clear hc hf); replace HO := Aside0.mk (HO.out.call hb); clear hb; obtain ⟨hc, hf⟩ := HO.out.cells)
    | (go_at_call 47; (with_reducible refine (S.bitmap _ HX.out.bits0 HX.out.bits1 _).mono ?_); rintro e_ w2 ⟨rfl, hb⟩; (try clear hc hf); replace HO := Aside0.mk (HO.out.call hb); clear hb; obtain ⟨hc, hf⟩ := HO.out.cells))
  go_ret2
  exact ⟨rfl, HO.out.below⟩
theorem rw16 (S : RWSp) (x : D) (hx : x.ok) (hv : validS 16 x = true) (hn : Rng x) (w : World) :
    Calls Tryd.prog 17 #[.int .i64 16, x.v] w fun e w' => e = .returned (.tuple #[.string (strOf (wireF (flds 16) x)), .int .i64 0]) ∧ Below w.heap.size w w' := by
  have hu := Tryd.underlying26
  have hu2 := Tryd.underlying24
  have HV := Aside0.mk (fun w' : World => S.valid 16 x w' hx (by decide))
  rw [hv] at HV
  obtain ⟨v6, hi, lo, host, mail, text, a, b, c, d, e, f, bits⟩ := x
  have HO : Aside0 (Own w (w.alloc (.cells #[.bool v6, .int .u64 hi, .int .u64 lo, .string host, .string mail, .string text, .int .i64 a, .int .i64 b, .int .i64 c, .int .i64 d, .int .i64 e, .int .i64 f, .int .u64 bits] 26)) #[.bool v6, .int .u64 hi, .int .u64 lo, .string host, .string mail, .string text, .int .i64 a, .int .i64 b, .int .i64 c, .int .i64 d, .int .i64 e, .int .i64 f, .int .u64 bits] 26) := ⟨Own.new _ _ _⟩
  have HX := Aside0.mk hx
  have HVA : Aside0 (∀ w' : World, Calls Tryd.prog 15 #[.int .i64 16, .agg #[.bool v6, .int .u64 hi, .int .u64 lo, .string host, .string mail, .string text, .int .i64 a, .int .i64 b, .int .i64 c, .int .i64 d, .int .i64 e, .int .i64 f, .int .u64 bits]] w' fun e_ w1 => e_ = .returned (.bool true) ∧ Below w'.heap.size w' w1) := HV
  show Calls Tryd.prog 17 #[_, .agg #[.bool v6, .int .u64 hi, .int .u64 lo, .string host, .string mail, .string text, .int .i64 a, .int .i64 b, .int .i64 c, .int .i64 d, .int .i64 e, .int .i64 f, .int .u64 bits]] w _
  obtain ⟨na, nb, nc, nd, ne, nf⟩ := hn
  dsimp only at na nb nc nd ne nf
  have q1 : host.size ≤ 100000 := hx.host
  have q2 : mail.size ≤ 100000 := hx.mail
  have q3 : text.size ≤ 100000 := hx.text
  clear hx hv HV
  have hE : strOf (be 1 text.size) ++ text = strOf (wireF (flds 16) ⟨v6, hi, lo, host, mail, text, a, b, c, d, e, f, bits⟩) := by
    show strOf (be 1 text.size) ++ strOf text.data.toList = _
    try simp only [strOf_app]
    congr 1
    simp [wireF, flds, piece, numOf, be, wireB, strOf_size]
  rw [← hE]
  clear hE
  have s0 : (strOf (be 1 text.size)).size ≤ 1 := by rw [strOf_size, be_length]; omega
  have y1 : (text).size ≤ 100000 := by first | exact q3 | (rw [strOf_size, be_length]; omega)
  have k1 : ∀ w' : World, (Op.stringOp .add (strOf (be 1 text.size)) (text)).run Tryd.prog w' = .ok (.string (strOf (be 1 text.size) ++ text)) w' := fun w' => run_string_add_sum (P := Tryd.prog) w' _ _ (by omega)
  have s1 : (strOf (be 1 text.size) ++ text).size ≤ 100001 := by rw [ByteArray.size_append]; omega
  clear s0 s1 y1
  go_enter Tryd.func17, Tryd.ntmps17
  go_wp2_with fail
  refine (rknown_yes 16 (by unfold KT; omega) _).mono ?_
  rintro e_ w_ ⟨rfl, rfl⟩
  go_wp2_with fail
  refine (HVA.out _).mono ?_
  rintro e_ w1 ⟨rfl, hb⟩
  replace HO := Aside0.mk (HO.out.call hb)
  clear hb HVA
  obtain ⟨hc, hf⟩ := HO.out.cells
  go_wp2_with fail
  (first
    | (go_region_held3 (fun w' => (∀ o, w'.cell? ⟨w.heap.size, o, none⟩ = (#[.bool v6, .int .u64 hi, .int .u64 lo, .string host, .string mail, .string text, .int .i64 a, .int .i64 b, .int .i64 c, .int .i64 d, .int .i64 e, .int .i64 f, .int .u64 bits] : Array Value)[o]?) ∧ Own w w' #[.bool v6, .int .u64 hi, .int .u64 lo, .string host, .string mail, .string text, .int .i64 a, .int .i64 b, .int .i64 c, .int .i64 d, .int .i64 e, .int .i64 f, .int .u64 bits] 26) ((first | assumption | exact Own.s HO.out.drew | exact Own.s (Own.call HO.out.drew hb) | exact Own.s (Own.call (And.right (by assumption)) hb))) (first | (go_at_call 45; (with_reducible refine (S.name _ (by assumption) _).mono ?_); rintro e_ w2 ⟨rfl, hb⟩) | (go_at_call 46; (with_reducible first | refine (S.num253 _).mono ?_ | refine (S.num0 _).mono ?_ | refine (S.numL _ _).mono ?_ | refine (S.num1 _ (by assumption) _).mono ?_ | refine (S.num2 _ (by assumption) _).mono ?_ | refine (S.num4 _ (by assumption) _).mono ?_); rintro e_ w2 ⟨rfl, hb⟩)))
    | fail "held")
  go_wp2
  go_ret2
  exact ⟨rfl, (And.right ‹(∀ o, World.cell? w2 ⟨w.heap.size, o, none⟩ = _) ∧ Own w w2 _ _›).below⟩
end Go.Proofs.YtaehonmfoanloaaDoor.Hand
namespace Go.Proofs.YtaehonmfoanloaaDoor.Hand
open Go.RowKit Go.Proofs.YtaehonmfoanloaaDoorW.PrintWords Go.Proofs.YtaehonmfoanloaaDoor.RdW
set_option maxHeartbeats 8000000
set_option maxRecDepth 100000
set_option linter.all false
theorem rw33 (S : RWSp) (x : D) (hx : x.ok) (hv : validS 33 x = true) (hn : Rng x) (w : World) :
    Calls Tryd.prog 17 #[.int .i64 33, x.v] w fun e w' => e = .returned (.tuple #[.string (strOf (wireF (flds 33) x)), .int .i64 0]) ∧ Below w.heap.size w w' := by
  have hu := Tryd.underlying26
  have hu2 := Tryd.underlying24
  have HV := Aside0.mk (fun w' : World => S.valid 33 x w' hx (by decide))
  rw [hv] at HV
  obtain ⟨v6, hi, lo, host, mail, text, a, b, c, d, e, f, bits⟩ := x
  have HO : Aside0 (Own w (w.alloc (.cells #[.bool v6, .int .u64 hi, .int .u64 lo, .string host, .string mail, .string text, .int .i64 a, .int .i64 b, .int .i64 c, .int .i64 d, .int .i64 e, .int .i64 f, .int .u64 bits] 26)) #[.bool v6, .int .u64 hi, .int .u64 lo, .string host, .string mail, .string text, .int .i64 a, .int .i64 b, .int .i64 c, .int .i64 d, .int .i64 e, .int .i64 f, .int .u64 bits] 26) := ⟨Own.new _ _ _⟩
  have HX := Aside0.mk hx
  have HVA : Aside0 (∀ w' : World, Calls Tryd.prog 15 #[.int .i64 33, .agg #[.bool v6, .int .u64 hi, .int .u64 lo, .string host, .string mail, .string text, .int .i64 a, .int .i64 b, .int .i64 c, .int .i64 d, .int .i64 e, .int .i64 f, .int .u64 bits]] w' fun e_ w1 => e_ = .returned (.bool true) ∧ Below w'.heap.size w' w1) := HV
  show Calls Tryd.prog 17 #[_, .agg #[.bool v6, .int .u64 hi, .int .u64 lo, .string host, .string mail, .string text, .int .i64 a, .int .i64 b, .int .i64 c, .int .i64 d, .int .i64 e, .int .i64 f, .int .u64 bits]] w _
  obtain ⟨na, nb, nc, nd, ne, nf⟩ := hn
  dsimp only at na nb nc nd ne nf
  have q1 : host.size ≤ 100000 := hx.host
  have q2 : mail.size ≤ 100000 := hx.mail
  have q3 : text.size ≤ 100000 := hx.text
  clear hx hv HV
  have hE : strOf (be 2 a.toNat) ++ strOf (be 2 b.toNat) ++ strOf (be 2 c.toNat) ++ strOf (wireN host.data.toList) = strOf (wireF (flds 33) ⟨v6, hi, lo, host, mail, text, a, b, c, d, e, f, bits⟩) := by
    show strOf (be 2 a.toNat) ++ strOf (be 2 b.toNat) ++ strOf (be 2 c.toNat) ++ strOf (wireN host.data.toList) = _
    try simp only [strOf_app]
    congr 1
    simp [wireF, flds, piece, numOf, be, wireB, strOf_size]
  rw [← hE]
  clear hE
  have wh := wireN_size host (by assumption)
  have s0 : (strOf (be 2 a.toNat)).size ≤ 2 := by rw [strOf_size, be_length]; omega
  have y1 : (strOf (be 2 b.toNat)).size ≤ 2 := by first | exact y0_ | (rw [strOf_size, be_length]; omega)
  have k1 : ∀ w' : World, (Op.stringOp .add (strOf (be 2 a.toNat)) (strOf (be 2 b.toNat))).run Tryd.prog w' = .ok (.string (strOf (be 2 a.toNat) ++ strOf (be 2 b.toNat))) w' := fun w' => run_string_add_sum (P := Tryd.prog) w' _ _ (by omega)
  have s1 : (strOf (be 2 a.toNat) ++ strOf (be 2 b.toNat)).size ≤ 4 := by rw [ByteArray.size_append]; omega
  have y2 : (strOf (be 2 c.toNat)).size ≤ 2 := by first | exact y0_ | (rw [strOf_size, be_length]; omega)
  have k2 : ∀ w' : World, (Op.stringOp .add (strOf (be 2 a.toNat) ++ strOf (be 2 b.toNat)) (strOf (be 2 c.toNat))).run Tryd.prog w' = .ok (.string (strOf (be 2 a.toNat) ++ strOf (be 2 b.toNat) ++ strOf (be 2 c.toNat))) w' := fun w' => run_string_add_sum (P := Tryd.prog) w' _ _ (by omega)
  have s2 : (strOf (be 2 a.toNat) ++ strOf (be 2 b.toNat) ++ strOf (be 2 c.toNat)).size ≤ 6 := by rw [ByteArray.size_append]; omega
  have y3 : (strOf (wireN host.data.toList)).size ≤ 100001 := by first | exact wh | (rw [strOf_size, be_length]; omega)
  have k3 : ∀ w' : World, (Op.stringOp .add (strOf (be 2 a.toNat) ++ strOf (be 2 b.toNat) ++ strOf (be 2 c.toNat)) (strOf (wireN host.data.toList))).run Tryd.prog w' = .ok (.string (strOf (be 2 a.toNat) ++ strOf (be 2 b.toNat) ++ strOf (be 2 c.toNat) ++ strOf (wireN host.data.toList))) w' := fun w' => run_string_add_sum (P := Tryd.prog) w' _ _ (by omega)
  have s3 : (strOf (be 2 a.toNat) ++ strOf (be 2 b.toNat) ++ strOf (be 2 c.toNat) ++ strOf (wireN host.data.toList)).size ≤ 100007 := by rw [ByteArray.size_append]; omega
  clear s0 s1 s2 s3 y1 y2 y3
  go_enter Tryd.func17, Tryd.ntmps17
  go_wp2_with fail
  refine (rknown_yes 33 (by unfold KT; omega) _).mono ?_
  rintro e_ w_ ⟨rfl, rfl⟩
  go_wp2_with fail
  refine (HVA.out _).mono ?_
  rintro e_ w1 ⟨rfl, hb⟩
  replace HO := Aside0.mk (HO.out.call hb)
  clear hb HVA
  obtain ⟨hc, hf⟩ := HO.out.cells
  go_wp2_with fail
  (first
    | (go_region_held3 (fun w' => (∀ o, w'.cell? ⟨w.heap.size, o, none⟩ = (#[.bool v6, .int .u64 hi, .int .u64 lo, .string host, .string mail, .string text, .int .i64 a, .int .i64 b, .int .i64 c, .int .i64 d, .int .i64 e, .int .i64 f, .int .u64 bits] : Array Value)[o]?) ∧ Own w w' #[.bool v6, .int .u64 hi, .int .u64 lo, .string host, .string mail, .string text, .int .i64 a, .int .i64 b, .int .i64 c, .int .i64 d, .int .i64 e, .int .i64 f, .int .u64 bits] 26) ((first | assumption | exact Own.s HO.out.drew | exact Own.s (Own.call HO.out.drew hb) | exact Own.s (Own.call (And.right (by assumption)) hb))) (first | (go_at_call 45; (with_reducible refine (S.name _ (by assumption) _).mono ?_); rintro e_ w2 ⟨rfl, hb⟩) | (go_at_call 46; (with_reducible first | refine (S.num253 _).mono ?_ | refine (S.num0 _).mono ?_ | refine (S.numL _ _).mono ?_ | refine (S.num1 _ (by assumption) _).mono ?_ | refine (S.num2 _ (by assumption) _).mono ?_ | refine (S.num4 _ (by assumption) _).mono ?_); rintro e_ w2 ⟨rfl, hb⟩)))
    | fail "held")
  go_wp2
  go_ret2
  exact ⟨rfl, (And.right ‹(∀ o, World.cell? w2 ⟨w.heap.size, o, none⟩ = _) ∧ Own w w2 _ _›).below⟩
theorem rw43 (S : RWSp) (x : D) (hx : x.ok) (hv : validS 43 x = true) (hn : Rng x) (w : World) :
    Calls Tryd.prog 17 #[.int .i64 43, x.v] w fun e w' => e = .returned (.tuple #[.string (strOf (wireF (flds 43) x)), .int .i64 0]) ∧ Below w.heap.size w w' := by
  have hu := Tryd.underlying26
  have hu2 := Tryd.underlying24
  have HV := Aside0.mk (fun w' : World => S.valid 43 x w' hx (by decide))
  rw [hv] at HV
  obtain ⟨v6, hi, lo, host, mail, text, a, b, c, d, e, f, bits⟩ := x
  have HO : Aside0 (Own w (w.alloc (.cells #[.bool v6, .int .u64 hi, .int .u64 lo, .string host, .string mail, .string text, .int .i64 a, .int .i64 b, .int .i64 c, .int .i64 d, .int .i64 e, .int .i64 f, .int .u64 bits] 26)) #[.bool v6, .int .u64 hi, .int .u64 lo, .string host, .string mail, .string text, .int .i64 a, .int .i64 b, .int .i64 c, .int .i64 d, .int .i64 e, .int .i64 f, .int .u64 bits] 26) := ⟨Own.new _ _ _⟩
  have HX := Aside0.mk hx
  have HVA : Aside0 (∀ w' : World, Calls Tryd.prog 15 #[.int .i64 43, .agg #[.bool v6, .int .u64 hi, .int .u64 lo, .string host, .string mail, .string text, .int .i64 a, .int .i64 b, .int .i64 c, .int .i64 d, .int .i64 e, .int .i64 f, .int .u64 bits]] w' fun e_ w1 => e_ = .returned (.bool true) ∧ Below w'.heap.size w' w1) := HV
  show Calls Tryd.prog 17 #[_, .agg #[.bool v6, .int .u64 hi, .int .u64 lo, .string host, .string mail, .string text, .int .i64 a, .int .i64 b, .int .i64 c, .int .i64 d, .int .i64 e, .int .i64 f, .int .u64 bits]] w _
  obtain ⟨na, nb, nc, nd, ne, nf⟩ := hn
  dsimp only at na nb nc nd ne nf
  have q1 : host.size ≤ 100000 := hx.host
  have q2 : mail.size ≤ 100000 := hx.mail
  have q3 : text.size ≤ 100000 := hx.text
  clear hx hv HV
  have hE : strOf (be 2 a.toNat) ++ strOf (be 1 b.toNat) ++ strOf (be 1 c.toNat) ++ text = strOf (wireF (flds 43) ⟨v6, hi, lo, host, mail, text, a, b, c, d, e, f, bits⟩) := by
    show strOf (be 2 a.toNat) ++ strOf (be 1 b.toNat) ++ strOf (be 1 c.toNat) ++ strOf text.data.toList = _
    try simp only [strOf_app]
    congr 1
    simp [wireF, flds, piece, numOf, be, wireB, strOf_size]
  rw [← hE]
  clear hE
  have s0 : (strOf (be 2 a.toNat)).size ≤ 2 := by rw [strOf_size, be_length]; omega
  have y1 : (strOf (be 1 b.toNat)).size ≤ 1 := by first | exact y0_ | (rw [strOf_size, be_length]; omega)
  have k1 : ∀ w' : World, (Op.stringOp .add (strOf (be 2 a.toNat)) (strOf (be 1 b.toNat))).run Tryd.prog w' = .ok (.string (strOf (be 2 a.toNat) ++ strOf (be 1 b.toNat))) w' := fun w' => run_string_add_sum (P := Tryd.prog) w' _ _ (by omega)
  have s1 : (strOf (be 2 a.toNat) ++ strOf (be 1 b.toNat)).size ≤ 3 := by rw [ByteArray.size_append]; omega
  have y2 : (strOf (be 1 c.toNat)).size ≤ 1 := by first | exact y0_ | (rw [strOf_size, be_length]; omega)
  have k2 : ∀ w' : World, (Op.stringOp .add (strOf (be 2 a.toNat) ++ strOf (be 1 b.toNat)) (strOf (be 1 c.toNat))).run Tryd.prog w' = .ok (.string (strOf (be 2 a.toNat) ++ strOf (be 1 b.toNat) ++ strOf (be 1 c.toNat))) w' := fun w' => run_string_add_sum (P := Tryd.prog) w' _ _ (by omega)
  have s2 : (strOf (be 2 a.toNat) ++ strOf (be 1 b.toNat) ++ strOf (be 1 c.toNat)).size ≤ 4 := by rw [ByteArray.size_append]; omega
  have y3 : (text).size ≤ 100000 := by first | exact q3 | (rw [strOf_size, be_length]; omega)
  have k3 : ∀ w' : World, (Op.stringOp .add (strOf (be 2 a.toNat) ++ strOf (be 1 b.toNat) ++ strOf (be 1 c.toNat)) (text)).run Tryd.prog w' = .ok (.string (strOf (be 2 a.toNat) ++ strOf (be 1 b.toNat) ++ strOf (be 1 c.toNat) ++ text)) w' := fun w' => run_string_add_sum (P := Tryd.prog) w' _ _ (by omega)
  have s3 : (strOf (be 2 a.toNat) ++ strOf (be 1 b.toNat) ++ strOf (be 1 c.toNat) ++ text).size ≤ 100004 := by rw [ByteArray.size_append]; omega
  clear s0 s1 s2 s3 y1 y2 y3
  go_enter Tryd.func17, Tryd.ntmps17
  go_wp2_with fail
  refine (rknown_yes 43 (by unfold KT; omega) _).mono ?_
  rintro e_ w_ ⟨rfl, rfl⟩
  go_wp2_with fail
  refine (HVA.out _).mono ?_
  rintro e_ w1 ⟨rfl, hb⟩
  replace HO := Aside0.mk (HO.out.call hb)
  clear hb HVA
  obtain ⟨hc, hf⟩ := HO.out.cells
  go_wp2_with fail
  (first
    | (go_region_held3 (fun w' => (∀ o, w'.cell? ⟨w.heap.size, o, none⟩ = (#[.bool v6, .int .u64 hi, .int .u64 lo, .string host, .string mail, .string text, .int .i64 a, .int .i64 b, .int .i64 c, .int .i64 d, .int .i64 e, .int .i64 f, .int .u64 bits] : Array Value)[o]?) ∧ Own w w' #[.bool v6, .int .u64 hi, .int .u64 lo, .string host, .string mail, .string text, .int .i64 a, .int .i64 b, .int .i64 c, .int .i64 d, .int .i64 e, .int .i64 f, .int .u64 bits] 26) ((first | assumption | exact Own.s HO.out.drew | exact Own.s (Own.call HO.out.drew hb) | exact Own.s (Own.call (And.right (by assumption)) hb))) (first | (go_at_call 45; (with_reducible refine (S.name _ (by assumption) _).mono ?_); rintro e_ w2 ⟨rfl, hb⟩) | (go_at_call 46; (with_reducible first | refine (S.num253 _).mono ?_ | refine (S.num0 _).mono ?_ | refine (S.numL _ _).mono ?_ | refine (S.num1 _ (by assumption) _).mono ?_ | refine (S.num2 _ (by assumption) _).mono ?_ | refine (S.num4 _ (by assumption) _).mono ?_); rintro e_ w2 ⟨rfl, hb⟩)))
    | fail "held")
  go_wp2
  go_ret2
  exact ⟨rfl, (And.right ‹(∀ o, World.cell? w2 ⟨w.heap.size, o, none⟩ = _) ∧ Own w w2 _ _›).below⟩
theorem rw48 (S : RWSp) (x : D) (hx : x.ok) (hv : validS 48 x = true) (hn : Rng x) (w : World) :
    Calls Tryd.prog 17 #[.int .i64 48, x.v] w fun e w' => e = .returned (.tuple #[.string (strOf (wireF (flds 48) x)), .int .i64 0]) ∧ Below w.heap.size w w' := by
  have hu := Tryd.underlying26
  have hu2 := Tryd.underlying24
  have HV := Aside0.mk (fun w' : World => S.valid 48 x w' hx (by decide))
  rw [hv] at HV
  obtain ⟨v6, hi, lo, host, mail, text, a, b, c, d, e, f, bits⟩ := x
  have HO : Aside0 (Own w (w.alloc (.cells #[.bool v6, .int .u64 hi, .int .u64 lo, .string host, .string mail, .string text, .int .i64 a, .int .i64 b, .int .i64 c, .int .i64 d, .int .i64 e, .int .i64 f, .int .u64 bits] 26)) #[.bool v6, .int .u64 hi, .int .u64 lo, .string host, .string mail, .string text, .int .i64 a, .int .i64 b, .int .i64 c, .int .i64 d, .int .i64 e, .int .i64 f, .int .u64 bits] 26) := ⟨Own.new _ _ _⟩
  have HX := Aside0.mk hx
  have HVA : Aside0 (∀ w' : World, Calls Tryd.prog 15 #[.int .i64 48, .agg #[.bool v6, .int .u64 hi, .int .u64 lo, .string host, .string mail, .string text, .int .i64 a, .int .i64 b, .int .i64 c, .int .i64 d, .int .i64 e, .int .i64 f, .int .u64 bits]] w' fun e_ w1 => e_ = .returned (.bool true) ∧ Below w'.heap.size w' w1) := HV
  show Calls Tryd.prog 17 #[_, .agg #[.bool v6, .int .u64 hi, .int .u64 lo, .string host, .string mail, .string text, .int .i64 a, .int .i64 b, .int .i64 c, .int .i64 d, .int .i64 e, .int .i64 f, .int .u64 bits]] w _
  obtain ⟨na, nb, nc, nd, ne, nf⟩ := hn
  dsimp only at na nb nc nd ne nf
  have q1 : host.size ≤ 100000 := hx.host
  have q2 : mail.size ≤ 100000 := hx.mail
  have q3 : text.size ≤ 100000 := hx.text
  clear hx hv HV
  have hE : strOf (be 2 a.toNat) ++ strOf (be 1 b.toNat) ++ strOf (be 1 c.toNat) ++ text = strOf (wireF (flds 48) ⟨v6, hi, lo, host, mail, text, a, b, c, d, e, f, bits⟩) := by
    show strOf (be 2 a.toNat) ++ strOf (be 1 b.toNat) ++ strOf (be 1 c.toNat) ++ strOf text.data.toList = _
    try simp only [strOf_app]
    congr 1
    simp [wireF, flds, piece, numOf, be, wireB, strOf_size]
  rw [← hE]
  clear hE
  have s0 : (strOf (be 2 a.toNat)).size ≤ 2 := by rw [strOf_size, be_length]; omega
  have y1 : (strOf (be 1 b.toNat)).size ≤ 1 := by first | exact y0_ | (rw [strOf_size, be_length]; omega)
  have k1 : ∀ w' : World, (Op.stringOp .add (strOf (be 2 a.toNat)) (strOf (be 1 b.toNat))).run Tryd.prog w' = .ok (.string (strOf (be 2 a.toNat) ++ strOf (be 1 b.toNat))) w' := fun w' => run_string_add_sum (P := Tryd.prog) w' _ _ (by omega)
  have s1 : (strOf (be 2 a.toNat) ++ strOf (be 1 b.toNat)).size ≤ 3 := by rw [ByteArray.size_append]; omega
  have y2 : (strOf (be 1 c.toNat)).size ≤ 1 := by first | exact y0_ | (rw [strOf_size, be_length]; omega)
  have k2 : ∀ w' : World, (Op.stringOp .add (strOf (be 2 a.toNat) ++ strOf (be 1 b.toNat)) (strOf (be 1 c.toNat))).run Tryd.prog w' = .ok (.string (strOf (be 2 a.toNat) ++ strOf (be 1 b.toNat) ++ strOf (be 1 c.toNat))) w' := fun w' => run_string_add_sum (P := Tryd.prog) w' _ _ (by omega)
  have s2 : (strOf (be 2 a.toNat) ++ strOf (be 1 b.toNat) ++ strOf (be 1 c.toNat)).size ≤ 4 := by rw [ByteArray.size_append]; omega
  have y3 : (text).size ≤ 100000 := by first | exact q3 | (rw [strOf_size, be_length]; omega)
  have k3 : ∀ w' : World, (Op.stringOp .add (strOf (be 2 a.toNat) ++ strOf (be 1 b.toNat) ++ strOf (be 1 c.toNat)) (text)).run Tryd.prog w' = .ok (.string (strOf (be 2 a.toNat) ++ strOf (be 1 b.toNat) ++ strOf (be 1 c.toNat) ++ text)) w' := fun w' => run_string_add_sum (P := Tryd.prog) w' _ _ (by omega)
  have s3 : (strOf (be 2 a.toNat) ++ strOf (be 1 b.toNat) ++ strOf (be 1 c.toNat) ++ text).size ≤ 100004 := by rw [ByteArray.size_append]; omega
  clear s0 s1 s2 s3 y1 y2 y3
  go_enter Tryd.func17, Tryd.ntmps17
  go_wp2_with fail
  refine (rknown_yes 48 (by unfold KT; omega) _).mono ?_
  rintro e_ w_ ⟨rfl, rfl⟩
  go_wp2_with fail
  refine (HVA.out _).mono ?_
  rintro e_ w1 ⟨rfl, hb⟩
  replace HO := Aside0.mk (HO.out.call hb)
  clear hb HVA
  obtain ⟨hc, hf⟩ := HO.out.cells
  go_wp2_with fail
  (first
    | (go_region_held3 (fun w' => (∀ o, w'.cell? ⟨w.heap.size, o, none⟩ = (#[.bool v6, .int .u64 hi, .int .u64 lo, .string host, .string mail, .string text, .int .i64 a, .int .i64 b, .int .i64 c, .int .i64 d, .int .i64 e, .int .i64 f, .int .u64 bits] : Array Value)[o]?) ∧ Own w w' #[.bool v6, .int .u64 hi, .int .u64 lo, .string host, .string mail, .string text, .int .i64 a, .int .i64 b, .int .i64 c, .int .i64 d, .int .i64 e, .int .i64 f, .int .u64 bits] 26) ((first | assumption | exact Own.s HO.out.drew | exact Own.s (Own.call HO.out.drew hb) | exact Own.s (Own.call (And.right (by assumption)) hb))) (first | (go_at_call 45; (with_reducible refine (S.name _ (by assumption) _).mono ?_); rintro e_ w2 ⟨rfl, hb⟩) | (go_at_call 46; (with_reducible first | refine (S.num253 _).mono ?_ | refine (S.num0 _).mono ?_ | refine (S.numL _ _).mono ?_ | refine (S.num1 _ (by assumption) _).mono ?_ | refine (S.num2 _ (by assumption) _).mono ?_ | refine (S.num4 _ (by assumption) _).mono ?_); rintro e_ w2 ⟨rfl, hb⟩)))
    | fail "held")
  go_wp2
  go_ret2
  exact ⟨rfl, (And.right ‹(∀ o, World.cell? w2 ⟨w.heap.size, o, none⟩ = _) ∧ Own w w2 _ _›).below⟩
end Go.Proofs.YtaehonmfoanloaaDoor.Hand
namespace Go.Proofs.YtaehonmfoanloaaDoor.Hand
open Go.RowKit Go.Proofs.YtaehonmfoanloaaDoorW.PrintWords Go.Proofs.YtaehonmfoanloaaDoor.RdW
set_option maxHeartbeats 8000000
set_option maxRecDepth 100000
set_option linter.all false
theorem rw6 (S : RWSp) (x : D) (hx : x.ok) (hv : validS 6 x = true) (hn : Rng x) (w : World) :
    Calls Tryd.prog 17 #[.int .i64 6, x.v] w fun e w' => e = .returned (.tuple #[.string (strOf (wireF (flds 6) x)), .int .i64 0]) ∧ Below w.heap.size w w' := by
  have hu := Tryd.underlying26
  have hu2 := Tryd.underlying24
  have HV := Aside0.mk (fun w' : World => S.valid 6 x w' hx (by decide))
  rw [hv] at HV
  obtain ⟨v6, hi, lo, host, mail, text, a, b, c, d, e, f, bits⟩ := x
  have HO : Aside0 (Own w (w.alloc (.cells #[.bool v6, .int .u64 hi, .int .u64 lo, .string host, .string mail, .string text, .int .i64 a, .int .i64 b, .int .i64 c, .int .i64 d, .int .i64 e, .int .i64 f, .int .u64 bits] 26)) #[.bool v6, .int .u64 hi, .int .u64 lo, .string host, .string mail, .string text, .int .i64 a, .int .i64 b, .int .i64 c, .int .i64 d, .int .i64 e, .int .i64 f, .int .u64 bits] 26) := ⟨Own.new _ _ _⟩
  have HX := Aside0.mk hx
  have HVA : Aside0 (∀ w' : World, Calls Tryd.prog 15 #[.int .i64 6, .agg #[.bool v6, .int .u64 hi, .int .u64 lo, .string host, .string mail, .string text, .int .i64 a, .int .i64 b, .int .i64 c, .int .i64 d, .int .i64 e, .int .i64 f, .int .u64 bits]] w' fun e_ w1 => e_ = .returned (.bool true) ∧ Below w'.heap.size w' w1) := HV
  show Calls Tryd.prog 17 #[_, .agg #[.bool v6, .int .u64 hi, .int .u64 lo, .string host, .string mail, .string text, .int .i64 a, .int .i64 b, .int .i64 c, .int .i64 d, .int .i64 e, .int .i64 f, .int .u64 bits]] w _
  obtain ⟨na, nb, nc, nd, ne, nf⟩ := hn
  dsimp only at na nb nc nd ne nf
  have q1 : host.size ≤ 100000 := hx.host
  have q2 : mail.size ≤ 100000 := hx.mail
  have q3 : text.size ≤ 100000 := hx.text
  clear hx hv HV
  have hE : strOf (wireN host.data.toList) ++ strOf (wireN mail.data.toList) ++ strOf (be 4 a.toNat) ++ strOf (be 4 b.toNat) ++ strOf (be 4 c.toNat) ++ strOf (be 4 d.toNat) ++ strOf (be 4 e.toNat) = strOf (wireF (flds 6) ⟨v6, hi, lo, host, mail, text, a, b, c, d, e, f, bits⟩) := by
    show strOf (wireN host.data.toList) ++ strOf (wireN mail.data.toList) ++ strOf (be 4 a.toNat) ++ strOf (be 4 b.toNat) ++ strOf (be 4 c.toNat) ++ strOf (be 4 d.toNat) ++ strOf (be 4 e.toNat) = _
    try simp only [strOf_app]
    congr 1
    simp [wireF, flds, piece, numOf, be, wireB, strOf_size]
  rw [← hE]
  clear hE
  have wh := wireN_size host (by assumption)
  have wm := wireN_size mail (by assumption)
  have s0 : (strOf (wireN host.data.toList)).size ≤ 100001 := wh
  have y1 : (strOf (wireN mail.data.toList)).size ≤ 100001 := by first | exact wm | (rw [strOf_size, be_length]; omega)
  have k1 : ∀ w' : World, (Op.stringOp .add (strOf (wireN host.data.toList)) (strOf (wireN mail.data.toList))).run Tryd.prog w' = .ok (.string (strOf (wireN host.data.toList) ++ strOf (wireN mail.data.toList))) w' := fun w' => run_string_add_sum (P := Tryd.prog) w' _ _ (by omega)
  have s1 : (strOf (wireN host.data.toList) ++ strOf (wireN mail.data.toList)).size ≤ 200002 := by rw [ByteArray.size_append]; omega
  have y2 : (strOf (be 4 a.toNat)).size ≤ 4 := by first | exact y0_ | (rw [strOf_size, be_length]; omega)
  have k2 : ∀ w' : World, (Op.stringOp .add (strOf (wireN host.data.toList) ++ strOf (wireN mail.data.toList)) (strOf (be 4 a.toNat))).run Tryd.prog w' = .ok (.string (strOf (wireN host.data.toList) ++ strOf (wireN mail.data.toList) ++ strOf (be 4 a.toNat))) w' := fun w' => run_string_add_sum (P := Tryd.prog) w' _ _ (by omega)
  have s2 : (strOf (wireN host.data.toList) ++ strOf (wireN mail.data.toList) ++ strOf (be 4 a.toNat)).size ≤ 200006 := by rw [ByteArray.size_append]; omega
  have y3 : (strOf (be 4 b.toNat)).size ≤ 4 := by first | exact y0_ | (rw [strOf_size, be_length]; omega)
  have k3 : ∀ w' : World, (Op.stringOp .add (strOf (wireN host.data.toList) ++ strOf (wireN mail.data.toList) ++ strOf (be 4 a.toNat)) (strOf (be 4 b.toNat))).run Tryd.prog w' = .ok (.string (strOf (wireN host.data.toList) ++ strOf (wireN mail.data.toList) ++ strOf (be 4 a.toNat) ++ strOf (be 4 b.toNat))) w' := fun w' => run_string_add_sum (P := Tryd.prog) w' _ _ (by omega)
  have s3 : (strOf (wireN host.data.toList) ++ strOf (wireN mail.data.toList) ++ strOf (be 4 a.toNat) ++ strOf (be 4 b.toNat)).size ≤ 200010 := by rw [ByteArray.size_append]; omega
  have y4 : (strOf (be 4 c.toNat)).size ≤ 4 := by first | exact y0_ | (rw [strOf_size, be_length]; omega)
  have k4 : ∀ w' : World, (Op.stringOp .add (strOf (wireN host.data.toList) ++ strOf (wireN mail.data.toList) ++ strOf (be 4 a.toNat) ++ strOf (be 4 b.toNat)) (strOf (be 4 c.toNat))).run Tryd.prog w' = .ok (.string (strOf (wireN host.data.toList) ++ strOf (wireN mail.data.toList) ++ strOf (be 4 a.toNat) ++ strOf (be 4 b.toNat) ++ strOf (be 4 c.toNat))) w' := fun w' => run_string_add_sum (P := Tryd.prog) w' _ _ (by omega)
  have s4 : (strOf (wireN host.data.toList) ++ strOf (wireN mail.data.toList) ++ strOf (be 4 a.toNat) ++ strOf (be 4 b.toNat) ++ strOf (be 4 c.toNat)).size ≤ 200014 := by rw [ByteArray.size_append]; omega
  have y5 : (strOf (be 4 d.toNat)).size ≤ 4 := by first | exact y0_ | (rw [strOf_size, be_length]; omega)
  have k5 : ∀ w' : World, (Op.stringOp .add (strOf (wireN host.data.toList) ++ strOf (wireN mail.data.toList) ++ strOf (be 4 a.toNat) ++ strOf (be 4 b.toNat) ++ strOf (be 4 c.toNat)) (strOf (be 4 d.toNat))).run Tryd.prog w' = .ok (.string (strOf (wireN host.data.toList) ++ strOf (wireN mail.data.toList) ++ strOf (be 4 a.toNat) ++ strOf (be 4 b.toNat) ++ strOf (be 4 c.toNat) ++ strOf (be 4 d.toNat))) w' := fun w' => run_string_add_sum (P := Tryd.prog) w' _ _ (by omega)
  have s5 : (strOf (wireN host.data.toList) ++ strOf (wireN mail.data.toList) ++ strOf (be 4 a.toNat) ++ strOf (be 4 b.toNat) ++ strOf (be 4 c.toNat) ++ strOf (be 4 d.toNat)).size ≤ 200018 := by rw [ByteArray.size_append]; omega
  have y6 : (strOf (be 4 e.toNat)).size ≤ 4 := by first | exact y0_ | (rw [strOf_size, be_length]; omega)
  have k6 : ∀ w' : World, (Op.stringOp .add (strOf (wireN host.data.toList) ++ strOf (wireN mail.data.toList) ++ strOf (be 4 a.toNat) ++ strOf (be 4 b.toNat) ++ strOf (be 4 c.toNat) ++ strOf (be 4 d.toNat)) (strOf (be 4 e.toNat))).run Tryd.prog w' = .ok (.string (strOf (wireN host.data.toList) ++ strOf (wireN mail.data.toList) ++ strOf (be 4 a.toNat) ++ strOf (be 4 b.toNat) ++ strOf (be 4 c.toNat) ++ strOf (be 4 d.toNat) ++ strOf (be 4 e.toNat))) w' := fun w' => run_string_add_sum (P := Tryd.prog) w' _ _ (by omega)
  have s6 : (strOf (wireN host.data.toList) ++ strOf (wireN mail.data.toList) ++ strOf (be 4 a.toNat) ++ strOf (be 4 b.toNat) ++ strOf (be 4 c.toNat) ++ strOf (be 4 d.toNat) ++ strOf (be 4 e.toNat)).size ≤ 200022 := by rw [ByteArray.size_append]; omega
  clear s0 s1 s2 s3 s4 s5 s6 y1 y2 y3 y4 y5 y6
  go_enter Tryd.func17, Tryd.ntmps17
  go_wp2_with fail
  refine (rknown_yes 6 (by unfold KT; omega) _).mono ?_
  rintro e_ w_ ⟨rfl, rfl⟩
  go_wp2_with fail
  refine (HVA.out _).mono ?_
  rintro e_ w1 ⟨rfl, hb⟩
  replace HO := Aside0.mk (HO.out.call hb)
  clear hb HVA
  obtain ⟨hc, hf⟩ := HO.out.cells
  go_wp2_with fail
  (first
    | (go_region_held3 (fun w' => (∀ o, w'.cell? ⟨w.heap.size, o, none⟩ = (#[.bool v6, .int .u64 hi, .int .u64 lo, .string host, .string mail, .string text, .int .i64 a, .int .i64 b, .int .i64 c, .int .i64 d, .int .i64 e, .int .i64 f, .int .u64 bits] : Array Value)[o]?) ∧ Own w w' #[.bool v6, .int .u64 hi, .int .u64 lo, .string host, .string mail, .string text, .int .i64 a, .int .i64 b, .int .i64 c, .int .i64 d, .int .i64 e, .int .i64 f, .int .u64 bits] 26) ((first | assumption | exact Own.s HO.out.drew | exact Own.s (Own.call HO.out.drew hb) | exact Own.s (Own.call (And.right (by assumption)) hb))) (first | (go_at_call 45; (with_reducible refine (S.name _ (by assumption) _).mono ?_); rintro e_ w2 ⟨rfl, hb⟩) | (go_at_call 46; (with_reducible first | refine (S.num253 _).mono ?_ | refine (S.num0 _).mono ?_ | refine (S.numL _ _).mono ?_ | refine (S.num1 _ (by assumption) _).mono ?_ | refine (S.num2 _ (by assumption) _).mono ?_ | refine (S.num4 _ (by assumption) _).mono ?_); rintro e_ w2 ⟨rfl, hb⟩)))
    | fail "held")
  go_wp2
  go_ret2
  exact ⟨rfl, (And.right ‹(∀ o, World.cell? w2 ⟨w.heap.size, o, none⟩ = _) ∧ Own w w2 _ _›).below⟩
end Go.Proofs.YtaehonmfoanloaaDoor.Hand
namespace Go.Proofs.YtaehonmfoanloaaDoor.Hand
open Go.RowKit Go.Proofs.YtaehonmfoanloaaDoorW.PrintWords Go.Proofs.YtaehonmfoanloaaDoor.RdW
set_option maxHeartbeats 8000000
set_option maxRecDepth 100000
set_option linter.all false
theorem rw47 (S : RWSp) (x : D) (hx : x.ok) (hv : validS 47 x = true) (hn : Rng x) (w : World) :
    Calls Tryd.prog 17 #[.int .i64 47, x.v] w fun e w' => e = .returned (.tuple #[.string (strOf (wireF (flds 47) x)), .int .i64 0]) ∧ Below w.heap.size w w' := by
  have hu := Tryd.underlying26
  have hu2 := Tryd.underlying24
  have HV := Aside0.mk (fun w' : World => S.valid 47 x w' hx (by decide))
  rw [hv] at HV
  obtain ⟨v6, hi, lo, host, mail, text, a, b, c, d, e, f, bits⟩ := x
  have HO : Aside0 (Own w (w.alloc (.cells #[.bool v6, .int .u64 hi, .int .u64 lo, .string host, .string mail, .string text, .int .i64 a, .int .i64 b, .int .i64 c, .int .i64 d, .int .i64 e, .int .i64 f, .int .u64 bits] 26)) #[.bool v6, .int .u64 hi, .int .u64 lo, .string host, .string mail, .string text, .int .i64 a, .int .i64 b, .int .i64 c, .int .i64 d, .int .i64 e, .int .i64 f, .int .u64 bits] 26) := ⟨Own.new _ _ _⟩
  have HX := Aside0.mk hx
  have HVA : Aside0 (∀ w' : World, Calls Tryd.prog 15 #[.int .i64 47, .agg #[.bool v6, .int .u64 hi, .int .u64 lo, .string host, .string mail, .string text, .int .i64 a, .int .i64 b, .int .i64 c, .int .i64 d, .int .i64 e, .int .i64 f, .int .u64 bits]] w' fun e_ w1 => e_ = .returned (.bool true) ∧ Below w'.heap.size w' w1) := HV
  show Calls Tryd.prog 17 #[_, .agg #[.bool v6, .int .u64 hi, .int .u64 lo, .string host, .string mail, .string text, .int .i64 a, .int .i64 b, .int .i64 c, .int .i64 d, .int .i64 e, .int .i64 f, .int .u64 bits]] w _
  obtain ⟨na, nb, nc, nd, ne, nf⟩ := hn
  dsimp only at na nb nc nd ne nf
  have q1 : host.size ≤ 100000 := hx.host
  have q2 : mail.size ≤ 100000 := hx.mail
  have q3 : text.size ≤ 100000 := hx.text
  clear hx hv HV
  have hE : strOf (wireN host.data.toList) ++ strOf (be 1 0) ++ strOf (be 1 (strOf (bitmapS bits.toNat)).size) ++ strOf (bitmapS bits.toNat) = strOf (wireF (flds 47) ⟨v6, hi, lo, host, mail, text, a, b, c, d, e, f, bits⟩) := by
    show strOf (wireN host.data.toList) ++ strOf (be 1 0) ++ strOf (be 1 (strOf (bitmapS bits.toNat)).size) ++ strOf (bitmapS bits.toNat) = _
    try simp only [strOf_app]
    congr 1
    simp [wireF, flds, piece, numOf, be, wireB, strOf_size]
  rw [← hE]
  clear hE
  have wh := wireN_size host (by assumption)
  have wm := bitmap_size bits.toNat
  have s0 : (strOf (wireN host.data.toList)).size ≤ 100001 := wh
  have y1 : (strOf (be 1 0)).size ≤ 1 := by first | exact y0_ | (rw [strOf_size, be_length]; omega)
  have k1 : (strOf (wireN host.data.toList)).size + (strOf (be 1 0)).size ≤ 9223372036854775807 := by omega
  have n1 : ¬ ((9223372036854775807 : Int) < ((strOf (wireN host.data.toList)).size : Int) + ((strOf (be 1 0)).size : Int)) := by omega
  have s1 : (strOf (wireN host.data.toList) ++ strOf (be 1 0)).size ≤ 100002 := by rw [ByteArray.size_append]; omega
  have y2 : (strOf (be 1 (strOf (bitmapS bits.toNat)).size)).size ≤ 1 := by first | exact y0_ | (rw [strOf_size, be_length]; omega)
  have k2 : (strOf (wireN host.data.toList) ++ strOf (be 1 0)).size + (strOf (be 1 (strOf (bitmapS bits.toNat)).size)).size ≤ 9223372036854775807 := by omega
  have n2 : ¬ ((9223372036854775807 : Int) < ((strOf (wireN host.data.toList) ++ strOf (be 1 0)).size : Int) + ((strOf (be 1 (strOf (bitmapS bits.toNat)).size)).size : Int)) := by omega
  have s2 : (strOf (wireN host.data.toList) ++ strOf (be 1 0) ++ strOf (be 1 (strOf (bitmapS bits.toNat)).size)).size ≤ 100003 := by rw [ByteArray.size_append]; omega
  have y3 : (strOf (bitmapS bits.toNat)).size ≤ 8 := by first | exact wm | (rw [strOf_size, be_length]; omega)
  have k3 : (strOf (wireN host.data.toList) ++ strOf (be 1 0) ++ strOf (be 1 (strOf (bitmapS bits.toNat)).size)).size + (strOf (bitmapS bits.toNat)).size ≤ 9223372036854775807 := by omega
  have n3 : ¬ ((9223372036854775807 : Int) < ((strOf (wireN host.data.toList) ++ strOf (be 1 0) ++ strOf (be 1 (strOf (bitmapS bits.toNat)).size)).size : Int) + ((strOf (bitmapS bits.toNat)).size : Int)) := by omega
  have s3 : (strOf (wireN host.data.toList) ++ strOf (be 1 0) ++ strOf (be 1 (strOf (bitmapS bits.toNat)).size) ++ strOf (bitmapS bits.toNat)).size ≤ 100011 := by rw [ByteArray.size_append]; omega
  clear s0 s1 s2 s3 y1 y2 y3
  go_enter Tryd.func17, Tryd.ntmps17
  go_wp2_with fail
  refine (rknown_yes 47 (by unfold KT; omega) _).mono ?_
  rintro e_ w_ ⟨rfl, rfl⟩
  go_wp2_with fail
  refine (HVA.out _).mono ?_
  rintro e_ w1 ⟨rfl, hb⟩
  replace HO := Aside0.mk (HO.out.call hb)
  clear hb HVA
  obtain ⟨hc, hf⟩ := HO.out.cells
  go_wp2_with (first
    | (go_at_call 45; (with_reducible refine (S.name _ (by assumption) _).mono ?_); rintro e_ w2 ⟨rfl, hb⟩; (try clear hc hf); replace HO := Aside0.mk (HO.out.call hb); clear hb; obtain ⟨hc, hf⟩ := HO.out.cells)
    | (go_at_call 46; (with_reducible first | refine (S.num253 _).mono ?_ | refine (S.num0 _).mono ?_ | refine (S.numL _ _).mono ?_ | refine (S.num1 _ (by assumption) _).mono ?_); rintro e_ w2 ⟨rfl, hb⟩; (try clear hc hf); replace HO := Aside0.mk (HO.out.call hb); clear hb; obtain ⟨hc, hf⟩ := HO.out.cells)
    | (go_at_call 47; (with_reducible refine (S.bitmap _ HX.out.bits0 HX.out.bits1 _).mono ?_); rintro e_ w2 ⟨rfl, hb⟩; (try clear hc hf); replace HO := Aside0.mk (HO.out.call hb); clear hb; obtain ⟨hc, hf⟩ := HO.out.cells))
  go_ret2
  exact ⟨rfl, HO.out.below⟩
end Go.Proofs.YtaehonmfoanloaaDoor.Hand
namespace Go.Proofs.YtaehonmfoanloaaDoor.Hand
open Go.RowKit Go.Proofs.YtaehonmfoanloaaDoorW.PrintWords Go.Proofs.YtaehonmfoanloaaDoor.RdW
set_option maxHeartbeats 8000000
set_option maxRecDepth 100000
set_option linter.all false
theorem rw46 (S : RWSp) (x : D) (hx : x.ok) (hv : validS 46 x = true) (hn : Rng x) (w : World) :
    Calls Tryd.prog 17 #[.int .i64 46, x.v] w fun e w' => e = .returned (.tuple #[.string (strOf (wireF (flds 46) x)), .int .i64 0]) ∧ Below w.heap.size w w' := by
  have hu := Tryd.underlying26
  have hu2 := Tryd.underlying24
  have HV := Aside0.mk (fun w' : World => S.valid 46 x w' hx (by decide))
  rw [hv] at HV
  obtain ⟨v6, hi, lo, host, mail, text, a, b, c, d, e, f, bits⟩ := x
  have HO : Aside0 (Own w (w.alloc (.cells #[.bool v6, .int .u64 hi, .int .u64 lo, .string host, .string mail, .string text, .int .i64 a, .int .i64 b, .int .i64 c, .int .i64 d, .int .i64 e, .int .i64 f, .int .u64 bits] 26)) #[.bool v6, .int .u64 hi, .int .u64 lo, .string host, .string mail, .string text, .int .i64 a, .int .i64 b, .int .i64 c, .int .i64 d, .int .i64 e, .int .i64 f, .int .u64 bits] 26) := ⟨Own.new _ _ _⟩
  have HX := Aside0.mk hx
  have HVA : Aside0 (∀ w' : World, Calls Tryd.prog 15 #[.int .i64 46, .agg #[.bool v6, .int .u64 hi, .int .u64 lo, .string host, .string mail, .string text, .int .i64 a, .int .i64 b, .int .i64 c, .int .i64 d, .int .i64 e, .int .i64 f, .int .u64 bits]] w' fun e_ w1 => e_ = .returned (.bool true) ∧ Below w'.heap.size w' w1) := HV
  show Calls Tryd.prog 17 #[_, .agg #[.bool v6, .int .u64 hi, .int .u64 lo, .string host, .string mail, .string text, .int .i64 a, .int .i64 b, .int .i64 c, .int .i64 d, .int .i64 e, .int .i64 f, .int .u64 bits]] w _
  obtain ⟨na, nb, nc, nd, ne, nf⟩ := hn
  dsimp only at na nb nc nd ne nf
  have q1 : host.size ≤ 100000 := hx.host
  have q2 : mail.size ≤ 100000 := hx.mail
  have q3 : text.size ≤ 100000 := hx.text
  clear hx hv HV
  have hE : strOf (be 2 a.toNat) ++ strOf (be 1 253) ++ strOf (be 1 b.toNat) ++ strOf (be 4 c.toNat) ++ strOf (be 4 d.toNat) ++ strOf (be 4 e.toNat) ++ strOf (be 2 f.toNat) ++ strOf (wireN host.data.toList) ++ text = strOf (wireF (flds 46) ⟨v6, hi, lo, host, mail, text, a, b, c, d, e, f, bits⟩) := by
    show strOf (be 2 a.toNat) ++ strOf (be 1 253) ++ strOf (be 1 b.toNat) ++ strOf (be 4 c.toNat) ++ strOf (be 4 d.toNat) ++ strOf (be 4 e.toNat) ++ strOf (be 2 f.toNat) ++ strOf (wireN host.data.toList) ++ strOf text.data.toList = _
    try simp only [strOf_app]
    congr 1
    simp [wireF, flds, piece, numOf, be, wireB, strOf_size]
  rw [← hE]
  clear hE
  have wh := wireN_size host (by assumption)
  have s0 : (strOf (be 2 a.toNat)).size ≤ 2 := by rw [strOf_size, be_length]; omega
  have y1 : (strOf (be 1 253)).size ≤ 1 := by first | exact y0_ | (rw [strOf_size, be_length]; omega)
  have k1 : ∀ w' : World, (Op.stringOp .add (strOf (be 2 a.toNat)) (strOf (be 1 253))).run Tryd.prog w' = .ok (.string (strOf (be 2 a.toNat) ++ strOf (be 1 253))) w' := fun w' => run_string_add_sum (P := Tryd.prog) w' _ _ (by omega)
  have s1 : (strOf (be 2 a.toNat) ++ strOf (be 1 253)).size ≤ 3 := by rw [ByteArray.size_append]; omega
  have y2 : (strOf (be 1 b.toNat)).size ≤ 1 := by first | exact y0_ | (rw [strOf_size, be_length]; omega)
  have k2 : ∀ w' : World, (Op.stringOp .add (strOf (be 2 a.toNat) ++ strOf (be 1 253)) (strOf (be 1 b.toNat))).run Tryd.prog w' = .ok (.string (strOf (be 2 a.toNat) ++ strOf (be 1 253) ++ strOf (be 1 b.toNat))) w' := fun w' => run_string_add_sum (P := Tryd.prog) w' _ _ (by omega)
  have s2 : (strOf (be 2 a.toNat) ++ strOf (be 1 253) ++ strOf (be 1 b.toNat)).size ≤ 4 := by rw [ByteArray.size_append]; omega
  have y3 : (strOf (be 4 c.toNat)).size ≤ 4 := by first | exact y0_ | (rw [strOf_size, be_length]; omega)
  have k3 : ∀ w' : World, (Op.stringOp .add (strOf (be 2 a.toNat) ++ strOf (be 1 253) ++ strOf (be 1 b.toNat)) (strOf (be 4 c.toNat))).run Tryd.prog w' = .ok (.string (strOf (be 2 a.toNat) ++ strOf (be 1 253) ++ strOf (be 1 b.toNat) ++ strOf (be 4 c.toNat))) w' := fun w' => run_string_add_sum (P := Tryd.prog) w' _ _ (by omega)
  have s3 : (strOf (be 2 a.toNat) ++ strOf (be 1 253) ++ strOf (be 1 b.toNat) ++ strOf (be 4 c.toNat)).size ≤ 8 := by rw [ByteArray.size_append]; omega
  have y4 : (strOf (be 4 d.toNat)).size ≤ 4 := by first | exact y0_ | (rw [strOf_size, be_length]; omega)
  have k4 : ∀ w' : World, (Op.stringOp .add (strOf (be 2 a.toNat) ++ strOf (be 1 253) ++ strOf (be 1 b.toNat) ++ strOf (be 4 c.toNat)) (strOf (be 4 d.toNat))).run Tryd.prog w' = .ok (.string (strOf (be 2 a.toNat) ++ strOf (be 1 253) ++ strOf (be 1 b.toNat) ++ strOf (be 4 c.toNat) ++ strOf (be 4 d.toNat))) w' := fun w' => run_string_add_sum (P := Tryd.prog) w' _ _ (by omega)
  have s4 : (strOf (be 2 a.toNat) ++ strOf (be 1 253) ++ strOf (be 1 b.toNat) ++ strOf (be 4 c.toNat) ++ strOf (be 4 d.toNat)).size ≤ 12 := by rw [ByteArray.size_append]; omega
  have y5 : (strOf (be 4 e.toNat)).size ≤ 4 := by first | exact y0_ | (rw [strOf_size, be_length]; omega)
  have k5 : ∀ w' : World, (Op.stringOp .add (strOf (be 2 a.toNat) ++ strOf (be 1 253) ++ strOf (be 1 b.toNat) ++ strOf (be 4 c.toNat) ++ strOf (be 4 d.toNat)) (strOf (be 4 e.toNat))).run Tryd.prog w' = .ok (.string (strOf (be 2 a.toNat) ++ strOf (be 1 253) ++ strOf (be 1 b.toNat) ++ strOf (be 4 c.toNat) ++ strOf (be 4 d.toNat) ++ strOf (be 4 e.toNat))) w' := fun w' => run_string_add_sum (P := Tryd.prog) w' _ _ (by omega)
  have s5 : (strOf (be 2 a.toNat) ++ strOf (be 1 253) ++ strOf (be 1 b.toNat) ++ strOf (be 4 c.toNat) ++ strOf (be 4 d.toNat) ++ strOf (be 4 e.toNat)).size ≤ 16 := by rw [ByteArray.size_append]; omega
  have y6 : (strOf (be 2 f.toNat)).size ≤ 2 := by first | exact y0_ | (rw [strOf_size, be_length]; omega)
  have k6 : ∀ w' : World, (Op.stringOp .add (strOf (be 2 a.toNat) ++ strOf (be 1 253) ++ strOf (be 1 b.toNat) ++ strOf (be 4 c.toNat) ++ strOf (be 4 d.toNat) ++ strOf (be 4 e.toNat)) (strOf (be 2 f.toNat))).run Tryd.prog w' = .ok (.string (strOf (be 2 a.toNat) ++ strOf (be 1 253) ++ strOf (be 1 b.toNat) ++ strOf (be 4 c.toNat) ++ strOf (be 4 d.toNat) ++ strOf (be 4 e.toNat) ++ strOf (be 2 f.toNat))) w' := fun w' => run_string_add_sum (P := Tryd.prog) w' _ _ (by omega)
  have s6 : (strOf (be 2 a.toNat) ++ strOf (be 1 253) ++ strOf (be 1 b.toNat) ++ strOf (be 4 c.toNat) ++ strOf (be 4 d.toNat) ++ strOf (be 4 e.toNat) ++ strOf (be 2 f.toNat)).size ≤ 18 := by rw [ByteArray.size_append]; omega
  have y7 : (strOf (wireN host.data.toList)).size ≤ 100001 := by first | exact wh | (rw [strOf_size, be_length]; omega)
  have k7 : ∀ w' : World, (Op.stringOp .add (strOf (be 2 a.toNat) ++ strOf (be 1 253) ++ strOf (be 1 b.toNat) ++ strOf (be 4 c.toNat) ++ strOf (be 4 d.toNat) ++ strOf (be 4 e.toNat) ++ strOf (be 2 f.toNat)) (strOf (wireN host.data.toList))).run Tryd.prog w' = .ok (.string (strOf (be 2 a.toNat) ++ strOf (be 1 253) ++ strOf (be 1 b.toNat) ++ strOf (be 4 c.toNat) ++ strOf (be 4 d.toNat) ++ strOf (be 4 e.toNat) ++ strOf (be 2 f.toNat) ++ strOf (wireN host.data.toList))) w' := fun w' => run_string_add_sum (P := Tryd.prog) w' _ _ (by omega)
  have s7 : (strOf (be 2 a.toNat) ++ strOf (be 1 253) ++ strOf (be 1 b.toNat) ++ strOf (be 4 c.toNat) ++ strOf (be 4 d.toNat) ++ strOf (be 4 e.toNat) ++ strOf (be 2 f.toNat) ++ strOf (wireN host.data.toList)).size ≤ 100019 := by rw [ByteArray.size_append]; omega
  have y8 : (text).size ≤ 100000 := by first | exact q3 | (rw [strOf_size, be_length]; omega)
  have k8 : ∀ w' : World, (Op.stringOp .add (strOf (be 2 a.toNat) ++ strOf (be 1 253) ++ strOf (be 1 b.toNat) ++ strOf (be 4 c.toNat) ++ strOf (be 4 d.toNat) ++ strOf (be 4 e.toNat) ++ strOf (be 2 f.toNat) ++ strOf (wireN host.data.toList)) (text)).run Tryd.prog w' = .ok (.string (strOf (be 2 a.toNat) ++ strOf (be 1 253) ++ strOf (be 1 b.toNat) ++ strOf (be 4 c.toNat) ++ strOf (be 4 d.toNat) ++ strOf (be 4 e.toNat) ++ strOf (be 2 f.toNat) ++ strOf (wireN host.data.toList) ++ text)) w' := fun w' => run_string_add_sum (P := Tryd.prog) w' _ _ (by omega)
  have s8 : (strOf (be 2 a.toNat) ++ strOf (be 1 253) ++ strOf (be 1 b.toNat) ++ strOf (be 4 c.toNat) ++ strOf (be 4 d.toNat) ++ strOf (be 4 e.toNat) ++ strOf (be 2 f.toNat) ++ strOf (wireN host.data.toList) ++ text).size ≤ 200019 := by rw [ByteArray.size_append]; omega
  clear s0 s1 s2 s3 s4 s5 s6 s7 s8 y1 y2 y3 y4 y5 y6 y7 y8
  go_enter Tryd.func17, Tryd.ntmps17
  go_wp2_with fail
  refine (rknown_yes 46 (by unfold KT; omega) _).mono ?_
  rintro e_ w_ ⟨rfl, rfl⟩
  go_wp2_with fail
  refine (HVA.out _).mono ?_
  rintro e_ w1 ⟨rfl, hb⟩
  replace HO := Aside0.mk (HO.out.call hb)
  clear hb HVA
  obtain ⟨hc, hf⟩ := HO.out.cells
  go_wp2_with fail
  (first
    | (go_region_held3 (fun w' => (∀ o, w'.cell? ⟨w.heap.size, o, none⟩ = (#[.bool v6, .int .u64 hi, .int .u64 lo, .string host, .string mail, .string text, .int .i64 a, .int .i64 b, .int .i64 c, .int .i64 d, .int .i64 e, .int .i64 f, .int .u64 bits] : Array Value)[o]?) ∧ Own w w' #[.bool v6, .int .u64 hi, .int .u64 lo, .string host, .string mail, .string text, .int .i64 a, .int .i64 b, .int .i64 c, .int .i64 d, .int .i64 e, .int .i64 f, .int .u64 bits] 26) ((first | assumption | exact Own.s HO.out.drew | exact Own.s (Own.call HO.out.drew hb) | exact Own.s (Own.call (And.right (by assumption)) hb))) (first | (go_at_call 45; (with_reducible refine (S.name _ (by assumption) _).mono ?_); rintro e_ w2 ⟨rfl, hb⟩) | (go_at_call 46; (with_reducible first | refine (S.num253 _).mono ?_ | refine (S.num0 _).mono ?_ | refine (S.numL _ _).mono ?_ | refine (S.num1 _ (by assumption) _).mono ?_ | refine (S.num2 _ (by assumption) _).mono ?_ | refine (S.num4 _ (by assumption) _).mono ?_); rintro e_ w2 ⟨rfl, hb⟩)))
    | fail "held")
  go_wp2
  go_ret2
  exact ⟨rfl, (And.right ‹(∀ o, World.cell? w2 ⟨w.heap.size, o, none⟩ = _) ∧ Own w w2 _ _›).below⟩
end Go.Proofs.YtaehonmfoanloaaDoor.Hand
namespace Go.Proofs.YtaehonmfoanloaaDoor.Hand
open Go.RowKit Go.Proofs.YtaehonmfoanloaaDoorW.PrintWords Go.Proofs.YtaehonmfoanloaaDoor.RdW
set_option maxHeartbeats 8000000
set_option maxRecDepth 100000
set_option linter.all false
theorem rw1 (S : RWSp) (x : D) (hx : x.ok) (hv : validS 1 x = true) (w : World) :
    Calls Tryd.prog 17 #[.int .i64 1, x.v] w fun e w' => e = .returned (.tuple #[.string (strOf (wireF (flds 1) x)), .int .i64 0]) ∧ Below w.heap.size w w' := by
  have hu := Tryd.underlying26
  have hu2 := Tryd.underlying24
  have HV := Aside0.mk (fun w' : World => S.valid 1 x w' hx (by decide))
  rw [hv] at HV
  have hE : strOf (addrW x) = strOf (wireF (flds 1) x) := by
    congr 1
    simp [wireF, flds, piece]
  have hA : addrB x.v6 x.hi x.lo = true := by
    obtain ⟨_, _, hf⟩ := valid_used hv
    have hf : (addrB x.v6 x.hi x.lo && !x.v6) = true := hf
    exact (Bool.and_eq_true _ _ ▸ hf).1
  have HAW := Aside0.mk (fun w' : World => S.addr x hx hA w')
  rw [hE] at HAW
  generalize wireF (flds 1) x = r at *
  obtain ⟨v6, hi, lo, host, mail, text, a, b, c, d, e, f, bits⟩ := x
  have HO : Aside0 (Own w (w.alloc (.cells #[.bool v6, .int .u64 hi, .int .u64 lo, .string host, .string mail, .string text, .int .i64 a, .int .i64 b, .int .i64 c, .int .i64 d, .int .i64 e, .int .i64 f, .int .u64 bits] 26)) #[.bool v6, .int .u64 hi, .int .u64 lo, .string host, .string mail, .string text, .int .i64 a, .int .i64 b, .int .i64 c, .int .i64 d, .int .i64 e, .int .i64 f, .int .u64 bits] 26) := ⟨Own.new _ _ _⟩
  have HVA : Aside0 (∀ w' : World, Calls Tryd.prog 15 #[.int .i64 1, .agg #[.bool v6, .int .u64 hi, .int .u64 lo, .string host, .string mail, .string text, .int .i64 a, .int .i64 b, .int .i64 c, .int .i64 d, .int .i64 e, .int .i64 f, .int .u64 bits]] w' fun e_ w1 => e_ = .returned (.bool true) ∧ Below w'.heap.size w' w1) := HV
  have HAA : Aside0 (∀ w' : World, Calls Tryd.prog 44 #[.agg #[.bool v6, .int .u64 hi, .int .u64 lo]] w' fun e_ w1 => e_ = .returned (.tuple #[.string (strOf r), .int .i64 0]) ∧ Below w'.heap.size w' w1) := HAW
  show Calls Tryd.prog 17 #[_, .agg #[.bool v6, .int .u64 hi, .int .u64 lo, .string host, .string mail, .string text, .int .i64 a, .int .i64 b, .int .i64 c, .int .i64 d, .int .i64 e, .int .i64 f, .int .u64 bits]] w _
  clear hx hv HV hE hA HAW
  go_enter Tryd.func17, Tryd.ntmps17
  go_wp2_with fail
  refine (rknown_yes 1 (by unfold KT; omega) _).mono ?_
  rintro e_ w_ ⟨rfl, rfl⟩
  go_wp2_with fail
  refine (HVA.out _).mono ?_
  rintro e_ w1 ⟨rfl, hb⟩
  replace HO := Aside0.mk (HO.out.call hb)
  clear hb HVA
  obtain ⟨hc, hf⟩ := HO.out.cells
  go_wp2_with fail
  refine (HAA.out _).mono ?_
  rintro e_ w2 ⟨rfl, hb⟩
  clear hc hf
  replace HO := Aside0.mk (HO.out.call hb)
  clear hb
  go_wp2
  go_ret2
  exact ⟨rfl, HO.out.below⟩
theorem rw28 (S : RWSp) (x : D) (hx : x.ok) (hv : validS 28 x = true) (w : World) :
    Calls Tryd.prog 17 #[.int .i64 28, x.v] w fun e w' => e = .returned (.tuple #[.string (strOf (wireF (flds 28) x)), .int .i64 0]) ∧ Below w.heap.size w w' := by
  have hu := Tryd.underlying26
  have hu2 := Tryd.underlying24
  have HV := Aside0.mk (fun w' : World => S.valid 28 x w' hx (by decide))
  rw [hv] at HV
  have hE : strOf (addrW x) = strOf (wireF (flds 28) x) := by
    congr 1
    simp [wireF, flds, piece]
  have hA : addrB x.v6 x.hi x.lo = true := by
    obtain ⟨_, _, hf⟩ := valid_used hv
    have hf : x.v6 = true := hf
    unfold addrB; rw [hf]; rfl
  have HAW := Aside0.mk (fun w' : World => S.addr x hx hA w')
  rw [hE] at HAW
  generalize wireF (flds 28) x = r at *
  obtain ⟨v6, hi, lo, host, mail, text, a, b, c, d, e, f, bits⟩ := x
  have HO : Aside0 (Own w (w.alloc (.cells #[.bool v6, .int .u64 hi, .int .u64 lo, .string host, .string mail, .string text, .int .i64 a, .int .i64 b, .int .i64 c, .int .i64 d, .int .i64 e, .int .i64 f, .int .u64 bits] 26)) #[.bool v6, .int .u64 hi, .int .u64 lo, .string host, .string mail, .string text, .int .i64 a, .int .i64 b, .int .i64 c, .int .i64 d, .int .i64 e, .int .i64 f, .int .u64 bits] 26) := ⟨Own.new _ _ _⟩
  have HVA : Aside0 (∀ w' : World, Calls Tryd.prog 15 #[.int .i64 28, .agg #[.bool v6, .int .u64 hi, .int .u64 lo, .string host, .string mail, .string text, .int .i64 a, .int .i64 b, .int .i64 c, .int .i64 d, .int .i64 e, .int .i64 f, .int .u64 bits]] w' fun e_ w1 => e_ = .returned (.bool true) ∧ Below w'.heap.size w' w1) := HV
  have HAA : Aside0 (∀ w' : World, Calls Tryd.prog 44 #[.agg #[.bool v6, .int .u64 hi, .int .u64 lo]] w' fun e_ w1 => e_ = .returned (.tuple #[.string (strOf r), .int .i64 0]) ∧ Below w'.heap.size w' w1) := HAW
  show Calls Tryd.prog 17 #[_, .agg #[.bool v6, .int .u64 hi, .int .u64 lo, .string host, .string mail, .string text, .int .i64 a, .int .i64 b, .int .i64 c, .int .i64 d, .int .i64 e, .int .i64 f, .int .u64 bits]] w _
  clear hx hv HV hE hA HAW
  go_enter Tryd.func17, Tryd.ntmps17
  go_wp2_with fail
  refine (rknown_yes 28 (by unfold KT; omega) _).mono ?_
  rintro e_ w_ ⟨rfl, rfl⟩
  go_wp2_with fail
  refine (HVA.out _).mono ?_
  rintro e_ w1 ⟨rfl, hb⟩
  replace HO := Aside0.mk (HO.out.call hb)
  clear hb HVA
  obtain ⟨hc, hf⟩ := HO.out.cells
  go_wp2_with fail
  refine (HAA.out _).mono ?_
  rintro e_ w2 ⟨rfl, hb⟩
  clear hc hf
  replace HO := Aside0.mk (HO.out.call hb)
  clear hb
  go_wp2
  go_ret2
  exact ⟨rfl, HO.out.below⟩
theorem rwire_bad (S : RWSp) (t : Int) (x : D) (hx : x.ok) (hk : knownB t = true) (hv : validS t x = false) (HKN : ∀ w' : World, Calls Tryd.prog 29 #[.int .i64 t] w' fun e_ w1 => e_ = .returned (.bool (knownB t)) ∧ Below w'.heap.size w' w1) (w : World) :
    Calls Tryd.prog 17 #[.int .i64 t, x.v] w fun e w' => e = .returned (.tuple #[.string (strOf []), .int .i64 5]) ∧ Below w.heap.size w w' := by
  have hu := Tryd.underlying26
  have hu2 := Tryd.underlying24
  have HV := Aside0.mk (fun w' : World => S.valid t x w' hx hk)
  rw [hv] at HV
  rw [hk] at HKN
  have HK := Aside0.mk HKN
  clear HKN
  obtain ⟨v6, hi, lo, host, mail, text, a, b, c, d, e, f, bits⟩ := x
  have HO : Aside0 (Own w (w.alloc (.cells #[.bool v6, .int .u64 hi, .int .u64 lo, .string host, .string mail, .string text, .int .i64 a, .int .i64 b, .int .i64 c, .int .i64 d, .int .i64 e, .int .i64 f, .int .u64 bits] 26)) #[.bool v6, .int .u64 hi, .int .u64 lo, .string host, .string mail, .string text, .int .i64 a, .int .i64 b, .int .i64 c, .int .i64 d, .int .i64 e, .int .i64 f, .int .u64 bits] 26) := ⟨Own.new _ _ _⟩
  have HVA : Aside0 (∀ w' : World, Calls Tryd.prog 15 #[.int .i64 t, .agg #[.bool v6, .int .u64 hi, .int .u64 lo, .string host, .string mail, .string text, .int .i64 a, .int .i64 b, .int .i64 c, .int .i64 d, .int .i64 e, .int .i64 f, .int .u64 bits]] w' fun e_ w1 => e_ = .returned (.bool false) ∧ Below w'.heap.size w' w1) := HV
  show Calls Tryd.prog 17 #[_, .agg #[.bool v6, .int .u64 hi, .int .u64 lo, .string host, .string mail, .string text, .int .i64 a, .int .i64 b, .int .i64 c, .int .i64 d, .int .i64 e, .int .i64 f, .int .u64 bits]] w _
  clear hx hv HV hk
  go_enter Tryd.func17, Tryd.ntmps17
  go_wp2_with fail
  refine (HK.out _).mono ?_
  rintro e_ w0 ⟨rfl, hb⟩
  replace HO := Aside0.mk (HO.out.call hb)
  clear hb HK
  obtain ⟨hc, hf⟩ := HO.out.cells
  go_wp2_with fail
  refine (HVA.out _).mono ?_
  rintro e_ w1 ⟨rfl, hb⟩
  replace HO := Aside0.mk (HO.out.call hb)
  clear hb HVA hc hf
  go_wp2
  go_ret2
  exact ⟨rfl, HO.out.below⟩
theorem rwire_unknown (t : Int) (x : D) (hk : knownB t = false) (HKN : ∀ w' : World, Calls Tryd.prog 29 #[.int .i64 t] w' fun e_ w1 => e_ = .returned (.bool (knownB t)) ∧ Below w'.heap.size w' w1) (w : World) :
    Calls Tryd.prog 17 #[.int .i64 t, x.v] w fun e w' => e = .returned (.tuple #[.string (strOf []), .int .i64 4]) ∧ Below w.heap.size w w' := by
  have hu := Tryd.underlying26
  rw [hk] at HKN
  have HK := Aside0.mk HKN
  clear HKN hk
  obtain ⟨v6, hi, lo, host, mail, text, a, b, c, d, e, f, bits⟩ := x
  have HO : Aside0 (Own w (w.alloc (.cells #[.bool v6, .int .u64 hi, .int .u64 lo, .string host, .string mail, .string text, .int .i64 a, .int .i64 b, .int .i64 c, .int .i64 d, .int .i64 e, .int .i64 f, .int .u64 bits] 26)) #[.bool v6, .int .u64 hi, .int .u64 lo, .string host, .string mail, .string text, .int .i64 a, .int .i64 b, .int .i64 c, .int .i64 d, .int .i64 e, .int .i64 f, .int .u64 bits] 26) := ⟨Own.new _ _ _⟩
  show Calls Tryd.prog 17 #[_, .agg #[.bool v6, .int .u64 hi, .int .u64 lo, .string host, .string mail, .string text, .int .i64 a, .int .i64 b, .int .i64 c, .int .i64 d, .int .i64 e, .int .i64 f, .int .u64 bits]] w _
  go_enter Tryd.func17, Tryd.ntmps17
  go_wp2_with fail
  refine (HK.out _).mono ?_
  rintro e_ w0 ⟨rfl, hb⟩
  replace HO := Aside0.mk (HO.out.call hb)
  clear hb HK
  go_wp2
  go_ret2
  exact ⟨rfl, HO.out.below⟩
end Go.Proofs.YtaehonmfoanloaaDoor.Hand
namespace Go.Proofs.YtaehonmfoanloaaDoor.Hand
open Go.RowKit Go.Proofs.YtaehonmfoanloaaDoorW.PrintWords Go.Proofs.YtaehonmfoanloaaDoor.RdW Go.Proofs.YtaehonmfoanloaaDoor.PA
set_option maxHeartbeats 4000000
set_option maxRecDepth 100000
set_option linter.all false
theorem rwsp : RWSp where
  valid := fun t x w hx _ => rvalid_sp t x w hx
  name := fun n hs w => by
    obtain ⟨k, hk⟩ := (WireName_ev n hs).rounds
    exact ddiref05_WireName.calls k n _ w hk
  number := fun n k h0 h1 h2 h3 w => by
    obtain ⟨m, hm⟩ := (rNumber_ev n k h0 h1 h2 h3).rounds
    exact ddiref05_Number.calls m n k _ w hm
  addr := fun x hx hv w => by
    obtain ⟨k, hk⟩ := (rWire_ev x hx hv).rounds
    exact ddiref02_Wire.calls k x.v6 x.hi x.lo _ _ w hk
  bitmap := fun b h0 h1 w => by
    obtain ⟨k, hk⟩ := (bitmapR_ev b h0 h1).rounds
    exact ddiref05_bitmap.calls k b _ w hk
theorem known_rng {a : Int} (h : knownB a = true) : 0 ≤ a ∧ a ≤ 4294967295 := by
  rw [knownB_iff] at h
  unfold KT at h
  omega
theorem rng_of {x m : Int} (h : inB x m = true) (hm : m ≤ 4294967295) : 0 ≤ x ∧ x ≤ 4294967295 := by
  obtain ⟨h0, h1⟩ := inB_iff h
  omega
theorem valid_rng {t : Int} {x : D} (hv : validS t x = true) : Rng x := by
  obtain ⟨hk, hu, hf⟩ := valid_used hv
  clear hv
  have z : ∀ {n : Int}, (0 : Int) = n → 0 ≤ n ∧ n ≤ 4294967295 := fun h => by omega
  have za : (usedD t x).a = x.a := by rw [hu]
  have zb : (usedD t x).b = x.b := by rw [hu]
  have zc : (usedD t x).c = x.c := by rw [hu]
  have zd : (usedD t x).d = x.d := by rw [hu]
  have ze : (usedD t x).e = x.e := by rw [hu]
  have zf : (usedD t x).f = x.f := by rw [hu]
  clear hu
  revert hk hf za zb zc zd ze zf
  rw [knownB_iff]
  intro hk
  rcases hk with rfl | rfl | rfl | rfl | rfl | rfl | rfl | rfl | rfl | rfl | rfl | rfl | rfl | rfl
  · exact fun _ za zb zc zd ze zf => ⟨z za, z zb, z zc, z zd, z ze, z zf⟩
  · exact fun _ za zb zc zd ze zf => ⟨z za, z zb, z zc, z zd, z ze, z zf⟩
  · exact fun _ za zb zc zd ze zf => ⟨z za, z zb, z zc, z zd, z ze, z zf⟩
  · intro h za zb zc zd ze zf
    have h : (hostB x.host && (hostB x.mail && (inB x.a 4294967295 && (inB x.b 2147483647 && (inB x.c 2147483647 && (inB x.d 2147483647 && inB x.e 2147483647)))))) = true := h
    simp only [Bool.and_eq_true] at h
    obtain ⟨_, _, ha, hb, hc, hd, he⟩ := h
    exact ⟨rng_of ha (by omega), rng_of hb (by omega), rng_of hc (by omega), rng_of hd (by omega), rng_of he (by omega), z zf⟩
  · exact fun _ za zb zc zd ze zf => ⟨z za, z zb, z zc, z zd, z ze, z zf⟩
  · intro h za zb zc zd ze zf
    have h : (hostB x.host && inB x.a 65535) = true := h
    simp only [Bool.and_eq_true] at h
    exact ⟨rng_of h.2 (by omega), z zb, z zc, z zd, z ze, z zf⟩
  · exact fun _ za zb zc zd ze zf => ⟨z za, z zb, z zc, z zd, z ze, z zf⟩
  · exact fun _ za zb zc zd ze zf => ⟨z za, z zb, z zc, z zd, z ze, z zf⟩
  · intro h za zb zc zd ze zf
    have h : (hostB x.host && (inB x.a 65535 && (inB x.b 65535 && inB x.c 65535))) = true := h
    simp only [Bool.and_eq_true] at h
    obtain ⟨_, ha, hb, hc⟩ := h
    exact ⟨rng_of ha (by omega), rng_of hb (by omega), rng_of hc (by omega), z zd, z ze, z zf⟩
  · exact fun _ za zb zc zd ze zf => ⟨z za, z zb, z zc, z zd, z ze, z zf⟩
  · intro h za zb zc zd ze zf
    have h : (longB x.text && (inB x.a 65535 && (inB x.b 255 && inB x.c 255))) = true := h
    simp only [Bool.and_eq_true] at h
    obtain ⟨_, ha, hb, hc⟩ := h
    exact ⟨rng_of ha (by omega), rng_of hb (by omega), rng_of hc (by omega), z zd, z ze, z zf⟩
  · intro h za zb zc zd ze zf
    have h : (longB x.text && (hostB x.host && (knownB x.a && ((x.a != 46) && (inB x.b 127 && (inB x.c 2147483647 && (inB x.d 4294967295 && (inB x.e 4294967295 && inB x.f 65535)))))))) = true := h
    simp only [Bool.and_eq_true] at h
    obtain ⟨_, _, ha, _, hb, hc, hd, he, hf⟩ := h
    exact ⟨known_rng ha, rng_of hb (by omega), rng_of hc (by omega), rng_of hd (by omega), rng_of he (by omega), rng_of hf (by omega)⟩
  · exact fun _ za zb zc zd ze zf => ⟨z za, z zb, z zc, z zd, z ze, z zf⟩
  · intro h za zb zc zd ze zf
    have h : (longB x.text && ((x.a == 256 || x.a == 257) && ((x.b == 3) && inB x.c 255))) = true := h
    simp only [Bool.and_eq_true, Bool.or_eq_true, beq_iff_eq] at h
    obtain ⟨_, ha, hb, hc⟩ := h
    exact ⟨by omega, by omega, rng_of hc (by omega), z zd, z ze, z zf⟩
theorem rwire_yes (t : Int) (x : D) (hx : x.ok) (hv : validS t x = true) (w : World) :
    Calls Tryd.prog 17 #[.int .i64 t, x.v] w fun e w' => e = .returned (.tuple #[.string (strOf (wireF (flds t) x)), .int .i64 0]) ∧ Below w.heap.size w w' := by
  have hn := valid_rng hv
  have hk := (valid_used hv).1
  rw [knownB_iff] at hk
  rcases hk with rfl | rfl | rfl | rfl | rfl | rfl | rfl | rfl | rfl | rfl | rfl | rfl | rfl | rfl
  · exact rw1 rwsp x hx hv w
  · exact rw2 rwsp x hx hv hn w
  · exact rw5 rwsp x hx hv hn w
  · exact rw6 rwsp x hx hv hn w
  · exact rw12 rwsp x hx hv hn w
  · exact rw15 rwsp x hx hv hn w
  · exact rw16 rwsp x hx hv hn w
  · exact rw28 rwsp x hx hv w
  · exact rw33 rwsp x hx hv hn w
  · exact rw39 rwsp x hx hv hn w
  · exact rw43 rwsp x hx hv hn w
  · exact rw46 rwsp x hx hv hn w
  · exact rw47 rwsp x hx hv hn w
  · exact rw48 rwsp x hx hv hn w
theorem rwire_sp (t : Int) (x : D) (w : World) (hx : x.ok) :
    Calls Tryd.prog 17 #[.int .i64 t, x.v] w fun e w' => e = .returned (.tuple #[.string (strOf (wireS t x).1), .int .i64 (wireS t x).2]) ∧ Below w.heap.size w w' := by
  cases hk : knownB t with
  | false =>
    rw [show wireS t x = ([], 4) by unfold wireS; rw [hk]; rfl]
    exact rwire_unknown t x hk (fun w' => rknown_sp t w') w
  | true =>
    cases hv : validS t x with
    | true =>
      rw [show wireS t x = (wireF (flds t) x, 0) by unfold wireS; rw [hk, hv]; rfl]
      exact rwire_yes t x hx hv w
    | false =>
      rw [show wireS t x = ([], 5) by unfold wireS; rw [hk, hv]; rfl]
      exact rwire_bad rwsp t x hx hk hv (fun w' => rknown_sp t w') w
end Go.Proofs.YtaehonmfoanloaaDoor.Hand
