/- The Go functions in Lean, with the proofs that the code comes to these answers: printed by this session's program (wip/px) out of the seat's translation. Conditions: each theorem's own. -/
import Derived.Test.YtoacomiijohpmaaPx0
import Derived.Test.YtoacomiijohpmaaPx1
import Derived.Test.YtoacomiijohpmaaPx3
namespace Go.Proofs.Ytoacomiijohpmaa.P
open Go.RowKit Go.Proofs.YtoacomiijohpmaaW.PrintWords Go.Proofs.YtoacomiijohpmaaW.PrintLast Go.Proofs.YtoacomiijohpmaaW.PrintMore
attribute [local go_sem] max2_int min2_int max_two min_two max_three min_three max_four min_four   -- for this text's walks alone
attribute [local go_sem ↓] Ext.isSome_setCell
set_option linter.unusedVariables false
set_option linter.unusedSimpArgs false

attribute [local go_sem high] eqA23
/-! ### ddilaw08_same: function 6 -/
mutual
def ddilaw08_same.j0 : Nat → Bool → Int → Int → Int → Bool → Bool → Bool → Bool → Bool → Bool → Bool → Bool → Int → ByteArray → Int → List (S38) → List (S38) → List (S38) → Int → Int → Int → Bool → Bool → Bool → Bool → Bool → Bool → Bool → Bool → Int → ByteArray → Int → List (S38) → List (S38) → List (S38) → Option (Bool)
  | 0, _, _, _, _, _, _, _, _, _, _, _, _, _, _, _, _, _, _, _, _, _, _, _, _, _, _, _, _, _, _, _, _, _, _, _ => none
  | k + 1, x58, x108000, x108001, x108002, x108003, x108004, x108005, x108006, x108007, x108008, x108009, x108010, x108011, x108012, x108013, x108014, x108015, x108016, x109000, x109001, x109002, x109003, x109004, x109005, x109006, x109007, x109008, x109009, x109010, x109011, x109012, x109013, x109014, x109015, x109016 => if x58 = true then (some false) else (if (x108008 != x109008) = true then (ddilaw08_same.j1 k true x108000 x108001 x108002 x108003 x108004 x108005 x108006 x108007 x108008 x108009 x108010 x108011 x108012 x108013 x108014 x108015 x108016 x109000 x109001 x109002 x109003 x109004 x109005 x109006 x109007 x109008 x109009 x109010 x109011 x109012 x109013 x109014 x109015 x109016) else (if (x108009 != x109009) = true then (ddilaw08_same.j1 k true x108000 x108001 x108002 x108003 x108004 x108005 x108006 x108007 x108008 x108009 x108010 x108011 x108012 x108013 x108014 x108015 x108016 x109000 x109001 x109002 x109003 x109004 x109005 x109006 x109007 x109008 x109009 x109010 x109011 x109012 x109013 x109014 x109015 x109016) else (if (x108010 != x109010) = true then (ddilaw08_same.j1 k true x108000 x108001 x108002 x108003 x108004 x108005 x108006 x108007 x108008 x108009 x108010 x108011 x108012 x108013 x108014 x108015 x108016 x109000 x109001 x109002 x109003 x109004 x109005 x109006 x109007 x109008 x109009 x109010 x109011 x109012 x109013 x109014 x109015 x109016) else (if x108011 = x109011 then (ddilaw08_same.j1 k (!(x108012.toList == x109012.toList) || (!(x108013 == x109013))) x108000 x108001 x108002 x108003 x108004 x108005 x108006 x108007 x108008 x108009 x108010 x108011 x108012 x108013 x108014 x108015 x108016 x109000 x109001 x109002 x109003 x109004 x109005 x109006 x109007 x109008 x109009 x109010 x109011 x109012 x109013 x109014 x109015 x109016) else (ddilaw08_same.j1 k true x108000 x108001 x108002 x108003 x108004 x108005 x108006 x108007 x108008 x108009 x108010 x108011 x108012 x108013 x108014 x108015 x108016 x109000 x109001 x109002 x109003 x109004 x109005 x109006 x109007 x109008 x109009 x109010 x109011 x109012 x109013 x109014 x109015 x109016)))))
def ddilaw08_same.j1 : Nat → Bool → Int → Int → Int → Bool → Bool → Bool → Bool → Bool → Bool → Bool → Bool → Int → ByteArray → Int → List (S38) → List (S38) → List (S38) → Int → Int → Int → Bool → Bool → Bool → Bool → Bool → Bool → Bool → Bool → Int → ByteArray → Int → List (S38) → List (S38) → List (S38) → Option (Bool)
  | 0, _, _, _, _, _, _, _, _, _, _, _, _, _, _, _, _, _, _, _, _, _, _, _, _, _, _, _, _, _, _, _, _, _, _, _ => none
  | k + 1, x91, x108000, x108001, x108002, x108003, x108004, x108005, x108006, x108007, x108008, x108009, x108010, x108011, x108012, x108013, x108014, x108015, x108016, x109000, x109001, x109002, x109003, x109004, x109005, x109006, x109007, x109008, x109009, x109010, x109011, x109012, x109013, x109014, x109015, x109016 => if x91 = true then (some false) else ((ddilaw08_records.f k x108014 x109014).bind fun t109 => (if t109 = true then ((ddilaw08_records.f k x108015 x109015).bind fun t110 => (if t110 = true then ((ddilaw08_records.f k x108016 x109016).bind fun t111 => (some t111)) else (some false))) else (some false)))
end
def ddilaw08_same.f (k : Nat) (a0_0 : Int) (a0_1 : Int) (a0_2 : Int) (a0_3 : Bool) (a0_4 : Bool) (a0_5 : Bool) (a0_6 : Bool) (a0_7 : Bool) (a0_8 : Bool) (a0_9 : Bool) (a0_10 : Bool) (a0_11 : Int) (a0_12 : ByteArray) (a0_13 : Int) (l0_14 : List (S38)) (l0_15 : List (S38)) (l0_16 : List (S38)) (a1_0 : Int) (a1_1 : Int) (a1_2 : Int) (a1_3 : Bool) (a1_4 : Bool) (a1_5 : Bool) (a1_6 : Bool) (a1_7 : Bool) (a1_8 : Bool) (a1_9 : Bool) (a1_10 : Bool) (a1_11 : Int) (a1_12 : ByteArray) (a1_13 : Int) (l1_14 : List (S38)) (l1_15 : List (S38)) (l1_16 : List (S38)) : Option (Bool) := if a0_0 = a1_0 then (if a0_1 = a1_1 then (if a0_2 = a1_2 then (if (a0_3 != a1_3) = true then (ddilaw08_same.j0 k true a0_0 a0_1 a0_2 a0_3 a0_4 a0_5 a0_6 a0_7 a0_8 a0_9 a0_10 a0_11 a0_12 a0_13 l0_14 l0_15 l0_16 a1_0 a1_1 a1_2 a1_3 a1_4 a1_5 a1_6 a1_7 a1_8 a1_9 a1_10 a1_11 a1_12 a1_13 l1_14 l1_15 l1_16) else (if (a0_4 != a1_4) = true then (ddilaw08_same.j0 k true a0_0 a0_1 a0_2 a0_3 a0_4 a0_5 a0_6 a0_7 a0_8 a0_9 a0_10 a0_11 a0_12 a0_13 l0_14 l0_15 l0_16 a1_0 a1_1 a1_2 a1_3 a1_4 a1_5 a1_6 a1_7 a1_8 a1_9 a1_10 a1_11 a1_12 a1_13 l1_14 l1_15 l1_16) else (if (a0_5 != a1_5) = true then (ddilaw08_same.j0 k true a0_0 a0_1 a0_2 a0_3 a0_4 a0_5 a0_6 a0_7 a0_8 a0_9 a0_10 a0_11 a0_12 a0_13 l0_14 l0_15 l0_16 a1_0 a1_1 a1_2 a1_3 a1_4 a1_5 a1_6 a1_7 a1_8 a1_9 a1_10 a1_11 a1_12 a1_13 l1_14 l1_15 l1_16) else (if (a0_6 != a1_6) = true then (ddilaw08_same.j0 k true a0_0 a0_1 a0_2 a0_3 a0_4 a0_5 a0_6 a0_7 a0_8 a0_9 a0_10 a0_11 a0_12 a0_13 l0_14 l0_15 l0_16 a1_0 a1_1 a1_2 a1_3 a1_4 a1_5 a1_6 a1_7 a1_8 a1_9 a1_10 a1_11 a1_12 a1_13 l1_14 l1_15 l1_16) else (ddilaw08_same.j0 k (a0_7 != a1_7) a0_0 a0_1 a0_2 a0_3 a0_4 a0_5 a0_6 a0_7 a0_8 a0_9 a0_10 a0_11 a0_12 a0_13 l0_14 l0_15 l0_16 a1_0 a1_1 a1_2 a1_3 a1_4 a1_5 a1_6 a1_7 a1_8 a1_9 a1_10 a1_11 a1_12 a1_13 l1_14 l1_15 l1_16))))) else (ddilaw08_same.j0 k true a0_0 a0_1 a0_2 a0_3 a0_4 a0_5 a0_6 a0_7 a0_8 a0_9 a0_10 a0_11 a0_12 a0_13 l0_14 l0_15 l0_16 a1_0 a1_1 a1_2 a1_3 a1_4 a1_5 a1_6 a1_7 a1_8 a1_9 a1_10 a1_11 a1_12 a1_13 l1_14 l1_15 l1_16)) else (ddilaw08_same.j0 k true a0_0 a0_1 a0_2 a0_3 a0_4 a0_5 a0_6 a0_7 a0_8 a0_9 a0_10 a0_11 a0_12 a0_13 l0_14 l0_15 l0_16 a1_0 a1_1 a1_2 a1_3 a1_4 a1_5 a1_6 a1_7 a1_8 a1_9 a1_10 a1_11 a1_12 a1_13 l1_14 l1_15 l1_16)) else (ddilaw08_same.j0 k true a0_0 a0_1 a0_2 a0_3 a0_4 a0_5 a0_6 a0_7 a0_8 a0_9 a0_10 a0_11 a0_12 a0_13 l0_14 l0_15 l0_16 a1_0 a1_1 a1_2 a1_3 a1_4 a1_5 a1_6 a1_7 a1_8 a1_9 a1_10 a1_11 a1_12 a1_13 l1_14 l1_15 l1_16)
theorem ddilaw08_same.mono_l : ∀ k, (∀ y0 y1 y2 y3 y4 y5 y6 y7 y8 y9 y10 y11 y12 y13 y14 y15 y16 y17 y18 y19 y20 y21 y22 y23 y24 y25 y26 y27 y28 y29 y30 y31 y32 y33 y34, LeO (ddilaw08_same.j0 k y0 y1 y2 y3 y4 y5 y6 y7 y8 y9 y10 y11 y12 y13 y14 y15 y16 y17 y18 y19 y20 y21 y22 y23 y24 y25 y26 y27 y28 y29 y30 y31 y32 y33 y34) (ddilaw08_same.j0 (k + 1) y0 y1 y2 y3 y4 y5 y6 y7 y8 y9 y10 y11 y12 y13 y14 y15 y16 y17 y18 y19 y20 y21 y22 y23 y24 y25 y26 y27 y28 y29 y30 y31 y32 y33 y34)) ∧ (∀ y0 y1 y2 y3 y4 y5 y6 y7 y8 y9 y10 y11 y12 y13 y14 y15 y16 y17 y18 y19 y20 y21 y22 y23 y24 y25 y26 y27 y28 y29 y30 y31 y32 y33 y34, LeO (ddilaw08_same.j1 k y0 y1 y2 y3 y4 y5 y6 y7 y8 y9 y10 y11 y12 y13 y14 y15 y16 y17 y18 y19 y20 y21 y22 y23 y24 y25 y26 y27 y28 y29 y30 y31 y32 y33 y34) (ddilaw08_same.j1 (k + 1) y0 y1 y2 y3 y4 y5 y6 y7 y8 y9 y10 y11 y12 y13 y14 y15 y16 y17 y18 y19 y20 y21 y22 y23 y24 y25 y26 y27 y28 y29 y30 y31 y32 y33 y34))
  | 0 => ⟨fun _ _ _ _ _ _ _ _ _ _ _ _ _ _ _ _ _ _ _ _ _ _ _ _ _ _ _ _ _ _ _ _ _ _ _ r h => by simp [ddilaw08_same.j0] at h, fun _ _ _ _ _ _ _ _ _ _ _ _ _ _ _ _ _ _ _ _ _ _ _ _ _ _ _ _ _ _ _ _ _ _ _ r h => by simp [ddilaw08_same.j1] at h⟩
  | k + 1 => by
    obtain ⟨ih0, ih1⟩ := ddilaw08_same.mono_l k
    refine ⟨?_, ?_⟩
    · intro y0 y1 y2 y3 y4 y5 y6 y7 y8 y9 y10 y11 y12 y13 y14 y15 y16 y17 y18 y19 y20 y21 y22 y23 y24 y25 y26 y27 y28 y29 y30 y31 y32 y33 y34
      unfold ddilaw08_same.j0
      repeat' first
      | (with_reducible exact ih0 _ _ _ _ _ _ _ _ _ _ _ _ _ _ _ _ _ _ _ _ _ _ _ _ _ _ _ _ _ _ _ _ _ _ _)
      | (with_reducible exact ih1 _ _ _ _ _ _ _ _ _ _ _ _ _ _ _ _ _ _ _ _ _ _ _ _ _ _ _ _ _ _ _ _ _ _ _)
      | (with_reducible exact ddilaw08_records.mono _ _ _)
      | (with_reducible exact LeO.refl _)
      | (with_reducible exact LeO.none _)
      | (with_reducible refine LeO.ite ?_ ?_)
      | (with_reducible refine LeO.bind ?_ (fun _ => ?_))
      | exact ih0 _ _ _ _ _ _ _ _ _ _ _ _ _ _ _ _ _ _ _ _ _ _ _ _ _ _ _ _ _ _ _ _ _ _ _
      | exact ih1 _ _ _ _ _ _ _ _ _ _ _ _ _ _ _ _ _ _ _ _ _ _ _ _ _ _ _ _ _ _ _ _ _ _ _
      | exact ddilaw08_records.mono _ _ _
      | exact LeO.none _
      | refine LeO.ite ?_ ?_
      | refine LeO.bind ?_ (fun _ => ?_)
    · intro y0 y1 y2 y3 y4 y5 y6 y7 y8 y9 y10 y11 y12 y13 y14 y15 y16 y17 y18 y19 y20 y21 y22 y23 y24 y25 y26 y27 y28 y29 y30 y31 y32 y33 y34
      unfold ddilaw08_same.j1
      repeat' first
      | (with_reducible exact ih0 _ _ _ _ _ _ _ _ _ _ _ _ _ _ _ _ _ _ _ _ _ _ _ _ _ _ _ _ _ _ _ _ _ _ _)
      | (with_reducible exact ih1 _ _ _ _ _ _ _ _ _ _ _ _ _ _ _ _ _ _ _ _ _ _ _ _ _ _ _ _ _ _ _ _ _ _ _)
      | (with_reducible exact ddilaw08_records.mono _ _ _)
      | (with_reducible exact LeO.refl _)
      | (with_reducible exact LeO.none _)
      | (with_reducible refine LeO.ite ?_ ?_)
      | (with_reducible refine LeO.bind ?_ (fun _ => ?_))
      | exact ih0 _ _ _ _ _ _ _ _ _ _ _ _ _ _ _ _ _ _ _ _ _ _ _ _ _ _ _ _ _ _ _ _ _ _ _
      | exact ih1 _ _ _ _ _ _ _ _ _ _ _ _ _ _ _ _ _ _ _ _ _ _ _ _ _ _ _ _ _ _ _ _ _ _ _
      | exact ddilaw08_records.mono _ _ _
      | exact LeO.none _
      | refine LeO.ite ?_ ?_
      | refine LeO.bind ?_ (fun _ => ?_)
theorem ddilaw08_same.mono : ∀ a0 a1 a2 a3 a4 a5 a6 a7 a8 a9 a10 a11 a12 a13 a14 a15 a16 a17 a18 a19 a20 a21 a22 a23 a24 a25 a26 a27 a28 a29 a30 a31 a32 a33 k, LeO (ddilaw08_same.f k a0 a1 a2 a3 a4 a5 a6 a7 a8 a9 a10 a11 a12 a13 a14 a15 a16 a17 a18 a19 a20 a21 a22 a23 a24 a25 a26 a27 a28 a29 a30 a31 a32 a33) (ddilaw08_same.f (k + 1) a0 a1 a2 a3 a4 a5 a6 a7 a8 a9 a10 a11 a12 a13 a14 a15 a16 a17 a18 a19 a20 a21 a22 a23 a24 a25 a26 a27 a28 a29 a30 a31 a32 a33) := by
  intro a0 a1 a2 a3 a4 a5 a6 a7 a8 a9 a10 a11 a12 a13 a14 a15 a16 a17 a18 a19 a20 a21 a22 a23 a24 a25 a26 a27 a28 a29 a30 a31 a32 a33 k
  obtain ⟨ih0, ih1⟩ := ddilaw08_same.mono_l k
  unfold ddilaw08_same.f
  repeat' first
      | (with_reducible exact ih0 _ _ _ _ _ _ _ _ _ _ _ _ _ _ _ _ _ _ _ _ _ _ _ _ _ _ _ _ _ _ _ _ _ _ _)
      | (with_reducible exact ih1 _ _ _ _ _ _ _ _ _ _ _ _ _ _ _ _ _ _ _ _ _ _ _ _ _ _ _ _ _ _ _ _ _ _ _)
      | (with_reducible exact ddilaw08_records.mono _ _ _)
      | (with_reducible exact LeO.refl _)
      | (with_reducible exact LeO.none _)
      | (with_reducible refine LeO.ite ?_ ?_)
      | (with_reducible refine LeO.bind ?_ (fun _ => ?_))
      | exact ih0 _ _ _ _ _ _ _ _ _ _ _ _ _ _ _ _ _ _ _ _ _ _ _ _ _ _ _ _ _ _ _ _ _ _ _
      | exact ih1 _ _ _ _ _ _ _ _ _ _ _ _ _ _ _ _ _ _ _ _ _ _ _ _ _ _ _ _ _ _ _ _ _ _ _
      | exact ddilaw08_records.mono _ _ _
      | exact LeO.none _
      | refine LeO.ite ?_ ?_
      | refine LeO.bind ?_ (fun _ => ?_)
set_option maxHeartbeats 40000000 in
set_option maxRecDepth 100000 in
theorem ddilaw08_same.calls (k : Nat) (a0_0 : Int) (a0_1 : Int) (a0_2 : Int) (a0_3 : Bool) (a0_4 : Bool) (a0_5 : Bool) (a0_6 : Bool) (a0_7 : Bool) (a0_8 : Bool) (a0_9 : Bool) (a0_10 : Bool) (a0_11 : Int) (a0_12 : ByteArray) (a0_13 : Int) (A0_14 : Option Addr) (c0_14 : Nat) (l0_14 : List (S38)) (A0_15 : Option Addr) (c0_15 : Nat) (l0_15 : List (S38)) (A0_16 : Option Addr) (c0_16 : Nat) (l0_16 : List (S38)) (a1_0 : Int) (a1_1 : Int) (a1_2 : Int) (a1_3 : Bool) (a1_4 : Bool) (a1_5 : Bool) (a1_6 : Bool) (a1_7 : Bool) (a1_8 : Bool) (a1_9 : Bool) (a1_10 : Bool) (a1_11 : Int) (a1_12 : ByteArray) (a1_13 : Int) (A1_14 : Option Addr) (c1_14 : Nat) (l1_14 : List (S38)) (A1_15 : Option Addr) (c1_15 : Nat) (l1_15 : List (S38)) (A1_16 : Option Addr) (c1_16 : Nat) (l1_16 : List (S38)) (r : Bool) (w : World) (hr0_14 : Kd.C k38 w A0_14 l0_14.length l0_14) (hc0_14 : l0_14.length ≤ c0_14) (hr0_15 : Kd.C k38 w A0_15 l0_15.length l0_15) (hc0_15 : l0_15.length ≤ c0_15) (hr0_16 : Kd.C k38 w A0_16 l0_16.length l0_16) (hc0_16 : l0_16.length ≤ c0_16) (hr1_14 : Kd.C k38 w A1_14 l1_14.length l1_14) (hc1_14 : l1_14.length ≤ c1_14) (hr1_15 : Kd.C k38 w A1_15 l1_15.length l1_15) (hc1_15 : l1_15.length ≤ c1_15) (hr1_16 : Kd.C k38 w A1_16 l1_16.length l1_16) (hc1_16 : l1_16.length ≤ c1_16) (h : ddilaw08_same.f k a0_0 a0_1 a0_2 a0_3 a0_4 a0_5 a0_6 a0_7 a0_8 a0_9 a0_10 a0_11 a0_12 a0_13 l0_14 l0_15 l0_16 a1_0 a1_1 a1_2 a1_3 a1_4 a1_5 a1_6 a1_7 a1_8 a1_9 a1_10 a1_11 a1_12 a1_13 l1_14 l1_15 l1_16 = some r) :
    Calls Try.prog 6 #[.agg #[.int .i64 a0_0, .int .i64 a0_1, .int .i64 a0_2, .bool a0_3, .bool a0_4, .bool a0_5, .bool a0_6, .bool a0_7, .bool a0_8, .bool a0_9, .bool a0_10, .int .i64 a0_11, .string a0_12, .int .i64 a0_13, .slice A0_14 l0_14.length c0_14, .slice A0_15 l0_15.length c0_15, .slice A0_16 l0_16.length c0_16], .agg #[.int .i64 a1_0, .int .i64 a1_1, .int .i64 a1_2, .bool a1_3, .bool a1_4, .bool a1_5, .bool a1_6, .bool a1_7, .bool a1_8, .bool a1_9, .bool a1_10, .int .i64 a1_11, .string a1_12, .int .i64 a1_13, .slice A1_14 l1_14.length c1_14, .slice A1_15 l1_15.length c1_15, .slice A1_16 l1_16.length c1_16]] w fun e w' => e = .returned (.bool r) ∧ Below w.heap.size w w' := by
  have hu26 := Try.underlying26
  have hu23 := Try.underlying23
  have HR0_14 := Aside0.mk hr0_14
  have HC0_14 := Aside0.mk hc0_14
  clear hr0_14 hc0_14
  have HR0_15 := Aside0.mk hr0_15
  have HC0_15 := Aside0.mk hc0_15
  clear hr0_15 hc0_15
  have HR0_16 := Aside0.mk hr0_16
  have HC0_16 := Aside0.mk hc0_16
  clear hr0_16 hc0_16
  have HR1_14 := Aside0.mk hr1_14
  have HC1_14 := Aside0.mk hc1_14
  clear hr1_14 hc1_14
  have HR1_15 := Aside0.mk hr1_15
  have HC1_15 := Aside0.mk hc1_15
  clear hr1_15 hc1_15
  have HR1_16 := Aside0.mk hr1_16
  have HC1_16 := Aside0.mk hc1_16
  clear hr1_16 hc1_16
  have HB := Aside0.mk (Below.refl w.heap.size w)
  have H : (if a0_0 = a1_0 then (if a0_1 = a1_1 then (if a0_2 = a1_2 then (if (a0_3 != a1_3) = true then (ddilaw08_same.j0 k true a0_0 a0_1 a0_2 a0_3 a0_4 a0_5 a0_6 a0_7 a0_8 a0_9 a0_10 a0_11 a0_12 a0_13 l0_14 l0_15 l0_16 a1_0 a1_1 a1_2 a1_3 a1_4 a1_5 a1_6 a1_7 a1_8 a1_9 a1_10 a1_11 a1_12 a1_13 l1_14 l1_15 l1_16) else (if (a0_4 != a1_4) = true then (ddilaw08_same.j0 k true a0_0 a0_1 a0_2 a0_3 a0_4 a0_5 a0_6 a0_7 a0_8 a0_9 a0_10 a0_11 a0_12 a0_13 l0_14 l0_15 l0_16 a1_0 a1_1 a1_2 a1_3 a1_4 a1_5 a1_6 a1_7 a1_8 a1_9 a1_10 a1_11 a1_12 a1_13 l1_14 l1_15 l1_16) else (if (a0_5 != a1_5) = true then (ddilaw08_same.j0 k true a0_0 a0_1 a0_2 a0_3 a0_4 a0_5 a0_6 a0_7 a0_8 a0_9 a0_10 a0_11 a0_12 a0_13 l0_14 l0_15 l0_16 a1_0 a1_1 a1_2 a1_3 a1_4 a1_5 a1_6 a1_7 a1_8 a1_9 a1_10 a1_11 a1_12 a1_13 l1_14 l1_15 l1_16) else (if (a0_6 != a1_6) = true then (ddilaw08_same.j0 k true a0_0 a0_1 a0_2 a0_3 a0_4 a0_5 a0_6 a0_7 a0_8 a0_9 a0_10 a0_11 a0_12 a0_13 l0_14 l0_15 l0_16 a1_0 a1_1 a1_2 a1_3 a1_4 a1_5 a1_6 a1_7 a1_8 a1_9 a1_10 a1_11 a1_12 a1_13 l1_14 l1_15 l1_16) else (ddilaw08_same.j0 k (a0_7 != a1_7) a0_0 a0_1 a0_2 a0_3 a0_4 a0_5 a0_6 a0_7 a0_8 a0_9 a0_10 a0_11 a0_12 a0_13 l0_14 l0_15 l0_16 a1_0 a1_1 a1_2 a1_3 a1_4 a1_5 a1_6 a1_7 a1_8 a1_9 a1_10 a1_11 a1_12 a1_13 l1_14 l1_15 l1_16))))) else (ddilaw08_same.j0 k true a0_0 a0_1 a0_2 a0_3 a0_4 a0_5 a0_6 a0_7 a0_8 a0_9 a0_10 a0_11 a0_12 a0_13 l0_14 l0_15 l0_16 a1_0 a1_1 a1_2 a1_3 a1_4 a1_5 a1_6 a1_7 a1_8 a1_9 a1_10 a1_11 a1_12 a1_13 l1_14 l1_15 l1_16)) else (ddilaw08_same.j0 k true a0_0 a0_1 a0_2 a0_3 a0_4 a0_5 a0_6 a0_7 a0_8 a0_9 a0_10 a0_11 a0_12 a0_13 l0_14 l0_15 l0_16 a1_0 a1_1 a1_2 a1_3 a1_4 a1_5 a1_6 a1_7 a1_8 a1_9 a1_10 a1_11 a1_12 a1_13 l1_14 l1_15 l1_16)) else (ddilaw08_same.j0 k true a0_0 a0_1 a0_2 a0_3 a0_4 a0_5 a0_6 a0_7 a0_8 a0_9 a0_10 a0_11 a0_12 a0_13 l0_14 l0_15 l0_16 a1_0 a1_1 a1_2 a1_3 a1_4 a1_5 a1_6 a1_7 a1_8 a1_9 a1_10 a1_11 a1_12 a1_13 l1_14 l1_15 l1_16)) = some r := h
  clear h
  have HC3 := Aside0.mk H
  clear H
  go_enter Try.func6, Try.ntmps6
  go_upto_region 1 with (first | ((with_reducible refine gate_dst (N := 2) rfl ?_); refine box_event ?hg (N := 2) ?hd (cs := #[.int .i64 a0_0, .int .i64 a0_1, .int .i64 a0_2, .bool a0_3, .bool a0_4, .bool a0_5, .bool a0_6, .bool a0_7, .bool a0_8, .bool a0_9, .bool a0_10, .int .i64 a0_11, .string a0_12, .int .i64 a0_13, .slice A0_14 l0_14.length c0_14, .slice A0_15 l0_15.length c0_15, .slice A0_16 l0_16.length c0_16]) (t := 26) ?hr ?_; (case hd => rfl); (case hg => rfl); (case hr => first | (go_simp; done) | (go_simp; rfl)); intro gb107 hg w4 hbox hb; have n0_ := Aside0.mk (below_step (by repeat (first | (with_reducible first | exact HB.out | apply below_alloc | apply pw_below_drewN | apply below_drew1) | exact HB.out)) hb); have n1_ := Aside0.mk (hbox); have n2_ := Aside0.mk ((by rw [hg]; exact (below_size (by repeat (first | (with_reducible first | exact HB.out | apply below_alloc | apply pw_below_drewN | apply below_drew1) | exact HB.out))) : w.heap.size ≤ gb107)); have n3_ := Aside0.mk ((by rw [hg]; exact (below_size (by repeat (first | (with_reducible first | exact HB.out | apply below_alloc | apply pw_below_drewN | apply below_drew1) | exact HB.out))) : w.heap.size ≤ gb107)); clear HB; have HB := n0_; have BK107 := n1_; have GW107 := n2_; have GE107 := n3_; clear n0_ n1_ n2_ n3_; clear hb hbox hg) | ((with_reducible refine gate_dst (N := 3) rfl ?_); refine box_event ?hg (N := 3) ?hd (cs := #[.int .i64 a1_0, .int .i64 a1_1, .int .i64 a1_2, .bool a1_3, .bool a1_4, .bool a1_5, .bool a1_6, .bool a1_7, .bool a1_8, .bool a1_9, .bool a1_10, .int .i64 a1_11, .string a1_12, .int .i64 a1_13, .slice A1_14 l1_14.length c1_14, .slice A1_15 l1_15.length c1_15, .slice A1_16 l1_16.length c1_16]) (t := 26) ?hr ?_; (case hd => rfl); (case hg => rfl); (case hr => first | (go_simp; done) | (go_simp; rfl)); intro gb108 hg w5 hbox hb; have n0_ := Aside0.mk (blk_below (g := gb107) (o := .cells #[.int .i64 a0_0, .int .i64 a0_1, .int .i64 a0_2, .bool a0_3, .bool a0_4, .bool a0_5, .bool a0_6, .bool a0_7, .bool a0_8, .bool a0_9, .bool a0_10, .int .i64 a0_11, .string a0_12, .int .i64 a0_13, .slice A0_14 l0_14.length c0_14, .slice A0_15 l0_15.length c0_15, .slice A0_16 l0_16.length c0_16] 26 (0, 0)) (by (with_reducible repeat (first | refine blk_drewN ?_ _ | refine blk_drew ?_ | refine blk_alloc ?_ _)); exact BK107.out) hb); have n1_ := Aside0.mk (below_step (by repeat (first | (with_reducible first | exact HB.out | apply below_alloc | apply pw_below_drewN | apply below_drew1 | refine below_set ?_ GE107.out) | exact HB.out)) hb); have n2_ := Aside0.mk (hbox); have n3_ := Aside0.mk ((by rw [hg]; exact (below_size (by repeat (first | (with_reducible first | exact HB.out | apply below_alloc | apply pw_below_drewN | apply below_drew1 | refine below_set ?_ GE107.out) | exact HB.out))) : w.heap.size ≤ gb108)); have n4_ := Aside0.mk ((by rw [hg]; exact (below_size (by repeat (first | (with_reducible first | exact HB.out | apply below_alloc | apply pw_below_drewN | apply below_drew1 | refine below_set ?_ GE107.out) | exact HB.out))) : w.heap.size ≤ gb108)); have n5_ := Aside0.mk ((by rw [hg]; exact Nat.ne_of_lt (blk_lt (g := gb107) (o := .cells #[.int .i64 a0_0, .int .i64 a0_1, .int .i64 a0_2, .bool a0_3, .bool a0_4, .bool a0_5, .bool a0_6, .bool a0_7, .bool a0_8, .bool a0_9, .bool a0_10, .int .i64 a0_11, .string a0_12, .int .i64 a0_13, .slice A0_14 l0_14.length c0_14, .slice A0_15 l0_15.length c0_15, .slice A0_16 l0_16.length c0_16] 26 (0, 0)) (by (with_reducible repeat (first | refine blk_drewN ?_ _ | refine blk_drew ?_ | refine blk_alloc ?_ _)); exact BK107.out)) : gb107 ≠ gb108)); have n6_ := Aside0.mk ((by rw [hg]; exact Nat.ne_of_gt (blk_lt (g := gb107) (o := .cells #[.int .i64 a0_0, .int .i64 a0_1, .int .i64 a0_2, .bool a0_3, .bool a0_4, .bool a0_5, .bool a0_6, .bool a0_7, .bool a0_8, .bool a0_9, .bool a0_10, .int .i64 a0_11, .string a0_12, .int .i64 a0_13, .slice A0_14 l0_14.length c0_14, .slice A0_15 l0_15.length c0_15, .slice A0_16 l0_16.length c0_16] 26 (0, 0)) (by (with_reducible repeat (first | refine blk_drewN ?_ _ | refine blk_drew ?_ | refine blk_alloc ?_ _)); exact BK107.out)) : gb108 ≠ gb107)); clear BK107; clear HB; have BK107 := n0_; have HB := n1_; have BK108 := n2_; have GW108 := n3_; have GE108 := n4_; have NB107_108 := n5_; have NB108_107 := n6_; clear n0_ n1_ n2_ n3_ n4_ n5_ n6_; clear hb hbox hg))
  (try simp only [Act.put, List.setIfInBounds_toArray, List.set_cons_zero, List.set_cons_succ])
  go_cut [58] (fun v58 wc => ∃ (kq : Nat) (x58_2 : Bool), v58 = .bool x58_2 ∧ Aside0 (ddilaw08_same.j0 kq x58_2 a0_0 a0_1 a0_2 a0_3 a0_4 a0_5 a0_6 a0_7 a0_8 a0_9 a0_10 a0_11 a0_12 a0_13 l0_14 l0_15 l0_16 a1_0 a1_1 a1_2 a1_3 a1_4 a1_5 a1_6 a1_7 a1_8 a1_9 a1_10 a1_11 a1_12 a1_13 l1_14 l1_15 l1_16 = some r) ∧ Aside0 (kq ≤ k) ∧ Aside0 (wc.heap[gb107]? = some (.cells #[.int .i64 a0_0, .int .i64 a0_1, .int .i64 a0_2, .bool a0_3, .bool a0_4, .bool a0_5, .bool a0_6, .bool a0_7, .bool a0_8, .bool a0_9, .bool a0_10, .int .i64 a0_11, .string a0_12, .int .i64 a0_13, (.slice A0_14 l0_14.length c0_14), (.slice A0_15 l0_15.length c0_15), (.slice A0_16 l0_16.length c0_16)] 26 (0, 0))) ∧ Aside0 (wc.heap[gb108]? = some (.cells #[.int .i64 a1_0, .int .i64 a1_1, .int .i64 a1_2, .bool a1_3, .bool a1_4, .bool a1_5, .bool a1_6, .bool a1_7, .bool a1_8, .bool a1_9, .bool a1_10, .int .i64 a1_11, .string a1_12, .int .i64 a1_13, (.slice A1_14 l1_14.length c1_14), (.slice A1_15 l1_15.length c1_15), (.slice A1_16 l1_16.length c1_16)] 26 (0, 0))) ∧ Aside0 (Below w.heap.size w wc))
  case first =>
    have H := HC3.out
    clear HC3
    by_cases c6 : a0_0 = a1_0
    · rw [if_pos c6] at H
      have c6b0 : (a0_0 == a1_0) = true := beq_iff_eq.mpr c6
      have c6b1 : (a0_0 != a1_0) = false := bne_eq_false_iff_eq.mpr c6
      clear c6
      (first | rw [c6b0] | (simp only [i64_w, i32_w]; rw [c6b0]) | skip)
      by_cases c7 : a0_1 = a1_1
      · rw [if_pos c7] at H
        have c7b0 : (a0_1 == a1_1) = true := beq_iff_eq.mpr c7
        have c7b1 : (a0_1 != a1_1) = false := bne_eq_false_iff_eq.mpr c7
        clear c7
        by_cases c8 : a0_2 = a1_2
        · rw [if_pos c8] at H
          have c8b0 : (a0_2 == a1_2) = true := beq_iff_eq.mpr c8
          have c8b1 : (a0_2 != a1_2) = false := bne_eq_false_iff_eq.mpr c8
          clear c8
          by_cases c9 : (a0_3 != a1_3) = true
          · rw [if_pos c9] at H
            have c9b0 : (a0_3 != a1_3) = true := c9
            (try (have c9b1 : decide (a0_3 = a1_3) = false := by simpa using c9))
            (try (have c9b2 : (a0_3 == a1_3) = false := by simpa using c9))
            (try (have c9b3 : ¬ (a0_3 = a1_3) := by simpa using c9))
            clear c9
            have H' := Aside0.mk H
            clear H
            have hnb10 := NB107_108.out
            have hnc10 := NB108_107.out
            have hcz11_0 : w5.cell? ⟨gb107, 0, none⟩ = some (.int .i64 a0_0) := (blk_cell BK107.out 0).trans rfl
            have hcz11_1 : w5.cell? ⟨gb107, 1, none⟩ = some (.int .i64 a0_1) := (blk_cell BK107.out 1).trans rfl
            have hcz11_2 : w5.cell? ⟨gb107, 2, none⟩ = some (.int .i64 a0_2) := (blk_cell BK107.out 2).trans rfl
            have hcz11_3 : w5.cell? ⟨gb107, 3, none⟩ = some (.bool a0_3) := (blk_cell BK107.out 3).trans rfl
            have hcz11_4 : w5.cell? ⟨gb107, 4, none⟩ = some (.bool a0_4) := (blk_cell BK107.out 4).trans rfl
            have hcz11_5 : w5.cell? ⟨gb107, 5, none⟩ = some (.bool a0_5) := (blk_cell BK107.out 5).trans rfl
            have hcz11_6 : w5.cell? ⟨gb107, 6, none⟩ = some (.bool a0_6) := (blk_cell BK107.out 6).trans rfl
            have hcz11_7 : w5.cell? ⟨gb107, 7, none⟩ = some (.bool a0_7) := (blk_cell BK107.out 7).trans rfl
            have hcz11_8 : w5.cell? ⟨gb107, 8, none⟩ = some (.bool a0_8) := (blk_cell BK107.out 8).trans rfl
            have hcz11_9 : w5.cell? ⟨gb107, 9, none⟩ = some (.bool a0_9) := (blk_cell BK107.out 9).trans rfl
            have hcz11_10 : w5.cell? ⟨gb107, 10, none⟩ = some (.bool a0_10) := (blk_cell BK107.out 10).trans rfl
            have hcz11_11 : w5.cell? ⟨gb107, 11, none⟩ = some (.int .i64 a0_11) := (blk_cell BK107.out 11).trans rfl
            have hcz11_12 : w5.cell? ⟨gb107, 12, none⟩ = some (.string a0_12) := (blk_cell BK107.out 12).trans rfl
            have hcz11_13 : w5.cell? ⟨gb107, 13, none⟩ = some (.int .i64 a0_13) := (blk_cell BK107.out 13).trans rfl
            have hcz11_14 : w5.cell? ⟨gb107, 14, none⟩ = some (.slice A0_14 l0_14.length c0_14) := (blk_cell BK107.out 14).trans rfl
            have hcz11_15 : w5.cell? ⟨gb107, 15, none⟩ = some (.slice A0_15 l0_15.length c0_15) := (blk_cell BK107.out 15).trans rfl
            have hcz11_16 : w5.cell? ⟨gb107, 16, none⟩ = some (.slice A0_16 l0_16.length c0_16) := (blk_cell BK107.out 16).trans rfl
            have hfz11_0 := blk_frozen BK107.out 0
            have hfz11_1 := blk_frozen BK107.out 1
            have hfz11_2 := blk_frozen BK107.out 2
            have hfz11_3 := blk_frozen BK107.out 3
            have hfz11_4 := blk_frozen BK107.out 4
            have hfz11_5 := blk_frozen BK107.out 5
            have hfz11_6 := blk_frozen BK107.out 6
            have hfz11_7 := blk_frozen BK107.out 7
            have hfz11_8 := blk_frozen BK107.out 8
            have hfz11_9 := blk_frozen BK107.out 9
            have hfz11_10 := blk_frozen BK107.out 10
            have hfz11_11 := blk_frozen BK107.out 11
            have hfz11_12 := blk_frozen BK107.out 12
            have hfz11_13 := blk_frozen BK107.out 13
            have hfz11_14 := blk_frozen BK107.out 14
            have hfz11_15 := blk_frozen BK107.out 15
            have hfz11_16 := blk_frozen BK107.out 16
            have hcz12_0 : w5.cell? ⟨gb108, 0, none⟩ = some (.int .i64 a1_0) := (blk_cell BK108.out 0).trans rfl
            have hcz12_1 : w5.cell? ⟨gb108, 1, none⟩ = some (.int .i64 a1_1) := (blk_cell BK108.out 1).trans rfl
            have hcz12_2 : w5.cell? ⟨gb108, 2, none⟩ = some (.int .i64 a1_2) := (blk_cell BK108.out 2).trans rfl
            have hcz12_3 : w5.cell? ⟨gb108, 3, none⟩ = some (.bool a1_3) := (blk_cell BK108.out 3).trans rfl
            have hcz12_4 : w5.cell? ⟨gb108, 4, none⟩ = some (.bool a1_4) := (blk_cell BK108.out 4).trans rfl
            have hcz12_5 : w5.cell? ⟨gb108, 5, none⟩ = some (.bool a1_5) := (blk_cell BK108.out 5).trans rfl
            have hcz12_6 : w5.cell? ⟨gb108, 6, none⟩ = some (.bool a1_6) := (blk_cell BK108.out 6).trans rfl
            have hcz12_7 : w5.cell? ⟨gb108, 7, none⟩ = some (.bool a1_7) := (blk_cell BK108.out 7).trans rfl
            have hcz12_8 : w5.cell? ⟨gb108, 8, none⟩ = some (.bool a1_8) := (blk_cell BK108.out 8).trans rfl
            have hcz12_9 : w5.cell? ⟨gb108, 9, none⟩ = some (.bool a1_9) := (blk_cell BK108.out 9).trans rfl
            have hcz12_10 : w5.cell? ⟨gb108, 10, none⟩ = some (.bool a1_10) := (blk_cell BK108.out 10).trans rfl
            have hcz12_11 : w5.cell? ⟨gb108, 11, none⟩ = some (.int .i64 a1_11) := (blk_cell BK108.out 11).trans rfl
            have hcz12_12 : w5.cell? ⟨gb108, 12, none⟩ = some (.string a1_12) := (blk_cell BK108.out 12).trans rfl
            have hcz12_13 : w5.cell? ⟨gb108, 13, none⟩ = some (.int .i64 a1_13) := (blk_cell BK108.out 13).trans rfl
            have hcz12_14 : w5.cell? ⟨gb108, 14, none⟩ = some (.slice A1_14 l1_14.length c1_14) := (blk_cell BK108.out 14).trans rfl
            have hcz12_15 : w5.cell? ⟨gb108, 15, none⟩ = some (.slice A1_15 l1_15.length c1_15) := (blk_cell BK108.out 15).trans rfl
            have hcz12_16 : w5.cell? ⟨gb108, 16, none⟩ = some (.slice A1_16 l1_16.length c1_16) := (blk_cell BK108.out 16).trans rfl
            have hfz12_0 := blk_frozen BK108.out 0
            have hfz12_1 := blk_frozen BK108.out 1
            have hfz12_2 := blk_frozen BK108.out 2
            have hfz12_3 := blk_frozen BK108.out 3
            have hfz12_4 := blk_frozen BK108.out 4
            have hfz12_5 := blk_frozen BK108.out 5
            have hfz12_6 := blk_frozen BK108.out 6
            have hfz12_7 := blk_frozen BK108.out 7
            have hfz12_8 := blk_frozen BK108.out 8
            have hfz12_9 := blk_frozen BK108.out 9
            have hfz12_10 := blk_frozen BK108.out 10
            have hfz12_11 := blk_frozen BK108.out 11
            have hfz12_12 := blk_frozen BK108.out 12
            have hfz12_13 := blk_frozen BK108.out 13
            have hfz12_14 := blk_frozen BK108.out 14
            have hfz12_15 := blk_frozen BK108.out 15
            have hfz12_16 := blk_frozen BK108.out 16
            go_wp2
            refine Met.intro ?_
            go_step
            (repeat apply Exists.intro)
            refine ⟨?rel, ?heq_⟩
            case heq_ => first | rfl | (rw [c6b0]) | (simp only [c6b0])
            case rel => exact ⟨_, (true), (by first | rfl | (simp; done) | (simp [*]; done) | ((try simp only [Bool.not_not]); (generalize ByteArray.toList _ = l_); cases l_ <;> rfl) | (simp; (generalize ByteArray.toList _ = l_); cases l_ <;> rfl)), H', ⟨by first | omega | exact Nat.le_refl _⟩, ⟨by (with_reducible repeat (first | refine blk_drewN ?_ _ | refine blk_drew ?_ | refine blk_alloc ?_ _)); exact BK107.out⟩, ⟨by (with_reducible repeat (first | refine blk_drewN ?_ _ | refine blk_drew ?_ | refine blk_alloc ?_ _)); exact BK108.out⟩, ⟨by repeat (first | (with_reducible first | exact HB.out | apply below_alloc | apply pw_below_drewN | apply below_drew1 | refine below_set ?_ GE107.out | refine below_set ?_ GE108.out) | exact HB.out)⟩⟩
          · rw [if_neg c9] at H
            have c9b0 : (a0_3 != a1_3) = false := by simpa using c9
            (try (have c9b1 : decide (a0_3 = a1_3) = true := by simpa using c9))
            (try (have c9b2 : (a0_3 == a1_3) = true := by simpa using c9))
            clear c9
            by_cases c13 : (a0_4 != a1_4) = true
            · rw [if_pos c13] at H
              have c13b0 : (a0_4 != a1_4) = true := c13
              (try (have c13b1 : decide (a0_4 = a1_4) = false := by simpa using c13))
              (try (have c13b2 : (a0_4 == a1_4) = false := by simpa using c13))
              (try (have c13b3 : ¬ (a0_4 = a1_4) := by simpa using c13))
              clear c13
              have H' := Aside0.mk H
              clear H
              have hnb14 := NB107_108.out
              have hnc14 := NB108_107.out
              have hcz15_0 : w5.cell? ⟨gb107, 0, none⟩ = some (.int .i64 a0_0) := (blk_cell BK107.out 0).trans rfl
              have hcz15_1 : w5.cell? ⟨gb107, 1, none⟩ = some (.int .i64 a0_1) := (blk_cell BK107.out 1).trans rfl
              have hcz15_2 : w5.cell? ⟨gb107, 2, none⟩ = some (.int .i64 a0_2) := (blk_cell BK107.out 2).trans rfl
              have hcz15_3 : w5.cell? ⟨gb107, 3, none⟩ = some (.bool a0_3) := (blk_cell BK107.out 3).trans rfl
              have hcz15_4 : w5.cell? ⟨gb107, 4, none⟩ = some (.bool a0_4) := (blk_cell BK107.out 4).trans rfl
              have hcz15_5 : w5.cell? ⟨gb107, 5, none⟩ = some (.bool a0_5) := (blk_cell BK107.out 5).trans rfl
              have hcz15_6 : w5.cell? ⟨gb107, 6, none⟩ = some (.bool a0_6) := (blk_cell BK107.out 6).trans rfl
              have hcz15_7 : w5.cell? ⟨gb107, 7, none⟩ = some (.bool a0_7) := (blk_cell BK107.out 7).trans rfl
              have hcz15_8 : w5.cell? ⟨gb107, 8, none⟩ = some (.bool a0_8) := (blk_cell BK107.out 8).trans rfl
              have hcz15_9 : w5.cell? ⟨gb107, 9, none⟩ = some (.bool a0_9) := (blk_cell BK107.out 9).trans rfl
              have hcz15_10 : w5.cell? ⟨gb107, 10, none⟩ = some (.bool a0_10) := (blk_cell BK107.out 10).trans rfl
              have hcz15_11 : w5.cell? ⟨gb107, 11, none⟩ = some (.int .i64 a0_11) := (blk_cell BK107.out 11).trans rfl
              have hcz15_12 : w5.cell? ⟨gb107, 12, none⟩ = some (.string a0_12) := (blk_cell BK107.out 12).trans rfl
              have hcz15_13 : w5.cell? ⟨gb107, 13, none⟩ = some (.int .i64 a0_13) := (blk_cell BK107.out 13).trans rfl
              have hcz15_14 : w5.cell? ⟨gb107, 14, none⟩ = some (.slice A0_14 l0_14.length c0_14) := (blk_cell BK107.out 14).trans rfl
              have hcz15_15 : w5.cell? ⟨gb107, 15, none⟩ = some (.slice A0_15 l0_15.length c0_15) := (blk_cell BK107.out 15).trans rfl
              have hcz15_16 : w5.cell? ⟨gb107, 16, none⟩ = some (.slice A0_16 l0_16.length c0_16) := (blk_cell BK107.out 16).trans rfl
              have hfz15_0 := blk_frozen BK107.out 0
              have hfz15_1 := blk_frozen BK107.out 1
              have hfz15_2 := blk_frozen BK107.out 2
              have hfz15_3 := blk_frozen BK107.out 3
              have hfz15_4 := blk_frozen BK107.out 4
              have hfz15_5 := blk_frozen BK107.out 5
              have hfz15_6 := blk_frozen BK107.out 6
              have hfz15_7 := blk_frozen BK107.out 7
              have hfz15_8 := blk_frozen BK107.out 8
              have hfz15_9 := blk_frozen BK107.out 9
              have hfz15_10 := blk_frozen BK107.out 10
              have hfz15_11 := blk_frozen BK107.out 11
              have hfz15_12 := blk_frozen BK107.out 12
              have hfz15_13 := blk_frozen BK107.out 13
              have hfz15_14 := blk_frozen BK107.out 14
              have hfz15_15 := blk_frozen BK107.out 15
              have hfz15_16 := blk_frozen BK107.out 16
              have hcz16_0 : w5.cell? ⟨gb108, 0, none⟩ = some (.int .i64 a1_0) := (blk_cell BK108.out 0).trans rfl
              have hcz16_1 : w5.cell? ⟨gb108, 1, none⟩ = some (.int .i64 a1_1) := (blk_cell BK108.out 1).trans rfl
              have hcz16_2 : w5.cell? ⟨gb108, 2, none⟩ = some (.int .i64 a1_2) := (blk_cell BK108.out 2).trans rfl
              have hcz16_3 : w5.cell? ⟨gb108, 3, none⟩ = some (.bool a1_3) := (blk_cell BK108.out 3).trans rfl
              have hcz16_4 : w5.cell? ⟨gb108, 4, none⟩ = some (.bool a1_4) := (blk_cell BK108.out 4).trans rfl
              have hcz16_5 : w5.cell? ⟨gb108, 5, none⟩ = some (.bool a1_5) := (blk_cell BK108.out 5).trans rfl
              have hcz16_6 : w5.cell? ⟨gb108, 6, none⟩ = some (.bool a1_6) := (blk_cell BK108.out 6).trans rfl
              have hcz16_7 : w5.cell? ⟨gb108, 7, none⟩ = some (.bool a1_7) := (blk_cell BK108.out 7).trans rfl
              have hcz16_8 : w5.cell? ⟨gb108, 8, none⟩ = some (.bool a1_8) := (blk_cell BK108.out 8).trans rfl
              have hcz16_9 : w5.cell? ⟨gb108, 9, none⟩ = some (.bool a1_9) := (blk_cell BK108.out 9).trans rfl
              have hcz16_10 : w5.cell? ⟨gb108, 10, none⟩ = some (.bool a1_10) := (blk_cell BK108.out 10).trans rfl
              have hcz16_11 : w5.cell? ⟨gb108, 11, none⟩ = some (.int .i64 a1_11) := (blk_cell BK108.out 11).trans rfl
              have hcz16_12 : w5.cell? ⟨gb108, 12, none⟩ = some (.string a1_12) := (blk_cell BK108.out 12).trans rfl
              have hcz16_13 : w5.cell? ⟨gb108, 13, none⟩ = some (.int .i64 a1_13) := (blk_cell BK108.out 13).trans rfl
              have hcz16_14 : w5.cell? ⟨gb108, 14, none⟩ = some (.slice A1_14 l1_14.length c1_14) := (blk_cell BK108.out 14).trans rfl
              have hcz16_15 : w5.cell? ⟨gb108, 15, none⟩ = some (.slice A1_15 l1_15.length c1_15) := (blk_cell BK108.out 15).trans rfl
              have hcz16_16 : w5.cell? ⟨gb108, 16, none⟩ = some (.slice A1_16 l1_16.length c1_16) := (blk_cell BK108.out 16).trans rfl
              have hfz16_0 := blk_frozen BK108.out 0
              have hfz16_1 := blk_frozen BK108.out 1
              have hfz16_2 := blk_frozen BK108.out 2
              have hfz16_3 := blk_frozen BK108.out 3
              have hfz16_4 := blk_frozen BK108.out 4
              have hfz16_5 := blk_frozen BK108.out 5
              have hfz16_6 := blk_frozen BK108.out 6
              have hfz16_7 := blk_frozen BK108.out 7
              have hfz16_8 := blk_frozen BK108.out 8
              have hfz16_9 := blk_frozen BK108.out 9
              have hfz16_10 := blk_frozen BK108.out 10
              have hfz16_11 := blk_frozen BK108.out 11
              have hfz16_12 := blk_frozen BK108.out 12
              have hfz16_13 := blk_frozen BK108.out 13
              have hfz16_14 := blk_frozen BK108.out 14
              have hfz16_15 := blk_frozen BK108.out 15
              have hfz16_16 := blk_frozen BK108.out 16
              go_wp2
              refine Met.intro ?_
              go_step
              (repeat apply Exists.intro)
              refine ⟨?rel, ?heq_⟩
              case heq_ => first | rfl | (rw [c6b0]) | (simp only [c6b0])
              case rel => exact ⟨_, (true), (by first | rfl | (simp; done) | (simp [*]; done) | ((try simp only [Bool.not_not]); (generalize ByteArray.toList _ = l_); cases l_ <;> rfl) | (simp; (generalize ByteArray.toList _ = l_); cases l_ <;> rfl)), H', ⟨by first | omega | exact Nat.le_refl _⟩, ⟨by (with_reducible repeat (first | refine blk_drewN ?_ _ | refine blk_drew ?_ | refine blk_alloc ?_ _)); exact BK107.out⟩, ⟨by (with_reducible repeat (first | refine blk_drewN ?_ _ | refine blk_drew ?_ | refine blk_alloc ?_ _)); exact BK108.out⟩, ⟨by repeat (first | (with_reducible first | exact HB.out | apply below_alloc | apply pw_below_drewN | apply below_drew1 | refine below_set ?_ GE107.out | refine below_set ?_ GE108.out) | exact HB.out)⟩⟩
            · rw [if_neg c13] at H
              have c13b0 : (a0_4 != a1_4) = false := by simpa using c13
              (try (have c13b1 : decide (a0_4 = a1_4) = true := by simpa using c13))
              (try (have c13b2 : (a0_4 == a1_4) = true := by simpa using c13))
              clear c13
              by_cases c17 : (a0_5 != a1_5) = true
              · rw [if_pos c17] at H
                have c17b0 : (a0_5 != a1_5) = true := c17
                (try (have c17b1 : decide (a0_5 = a1_5) = false := by simpa using c17))
                (try (have c17b2 : (a0_5 == a1_5) = false := by simpa using c17))
                (try (have c17b3 : ¬ (a0_5 = a1_5) := by simpa using c17))
                clear c17
                have H' := Aside0.mk H
                clear H
                have hnb18 := NB107_108.out
                have hnc18 := NB108_107.out
                have hcz19_0 : w5.cell? ⟨gb107, 0, none⟩ = some (.int .i64 a0_0) := (blk_cell BK107.out 0).trans rfl
                have hcz19_1 : w5.cell? ⟨gb107, 1, none⟩ = some (.int .i64 a0_1) := (blk_cell BK107.out 1).trans rfl
                have hcz19_2 : w5.cell? ⟨gb107, 2, none⟩ = some (.int .i64 a0_2) := (blk_cell BK107.out 2).trans rfl
                have hcz19_3 : w5.cell? ⟨gb107, 3, none⟩ = some (.bool a0_3) := (blk_cell BK107.out 3).trans rfl
                have hcz19_4 : w5.cell? ⟨gb107, 4, none⟩ = some (.bool a0_4) := (blk_cell BK107.out 4).trans rfl
                have hcz19_5 : w5.cell? ⟨gb107, 5, none⟩ = some (.bool a0_5) := (blk_cell BK107.out 5).trans rfl
                have hcz19_6 : w5.cell? ⟨gb107, 6, none⟩ = some (.bool a0_6) := (blk_cell BK107.out 6).trans rfl
                have hcz19_7 : w5.cell? ⟨gb107, 7, none⟩ = some (.bool a0_7) := (blk_cell BK107.out 7).trans rfl
                have hcz19_8 : w5.cell? ⟨gb107, 8, none⟩ = some (.bool a0_8) := (blk_cell BK107.out 8).trans rfl
                have hcz19_9 : w5.cell? ⟨gb107, 9, none⟩ = some (.bool a0_9) := (blk_cell BK107.out 9).trans rfl
                have hcz19_10 : w5.cell? ⟨gb107, 10, none⟩ = some (.bool a0_10) := (blk_cell BK107.out 10).trans rfl
                have hcz19_11 : w5.cell? ⟨gb107, 11, none⟩ = some (.int .i64 a0_11) := (blk_cell BK107.out 11).trans rfl
                have hcz19_12 : w5.cell? ⟨gb107, 12, none⟩ = some (.string a0_12) := (blk_cell BK107.out 12).trans rfl
                have hcz19_13 : w5.cell? ⟨gb107, 13, none⟩ = some (.int .i64 a0_13) := (blk_cell BK107.out 13).trans rfl
                have hcz19_14 : w5.cell? ⟨gb107, 14, none⟩ = some (.slice A0_14 l0_14.length c0_14) := (blk_cell BK107.out 14).trans rfl
                have hcz19_15 : w5.cell? ⟨gb107, 15, none⟩ = some (.slice A0_15 l0_15.length c0_15) := (blk_cell BK107.out 15).trans rfl
                have hcz19_16 : w5.cell? ⟨gb107, 16, none⟩ = some (.slice A0_16 l0_16.length c0_16) := (blk_cell BK107.out 16).trans rfl
                have hfz19_0 := blk_frozen BK107.out 0
                have hfz19_1 := blk_frozen BK107.out 1
                have hfz19_2 := blk_frozen BK107.out 2
                have hfz19_3 := blk_frozen BK107.out 3
                have hfz19_4 := blk_frozen BK107.out 4
                have hfz19_5 := blk_frozen BK107.out 5
                have hfz19_6 := blk_frozen BK107.out 6
                have hfz19_7 := blk_frozen BK107.out 7
                have hfz19_8 := blk_frozen BK107.out 8
                have hfz19_9 := blk_frozen BK107.out 9
                have hfz19_10 := blk_frozen BK107.out 10
                have hfz19_11 := blk_frozen BK107.out 11
                have hfz19_12 := blk_frozen BK107.out 12
                have hfz19_13 := blk_frozen BK107.out 13
                have hfz19_14 := blk_frozen BK107.out 14
                have hfz19_15 := blk_frozen BK107.out 15
                have hfz19_16 := blk_frozen BK107.out 16
                have hcz20_0 : w5.cell? ⟨gb108, 0, none⟩ = some (.int .i64 a1_0) := (blk_cell BK108.out 0).trans rfl
                have hcz20_1 : w5.cell? ⟨gb108, 1, none⟩ = some (.int .i64 a1_1) := (blk_cell BK108.out 1).trans rfl
                have hcz20_2 : w5.cell? ⟨gb108, 2, none⟩ = some (.int .i64 a1_2) := (blk_cell BK108.out 2).trans rfl
                have hcz20_3 : w5.cell? ⟨gb108, 3, none⟩ = some (.bool a1_3) := (blk_cell BK108.out 3).trans rfl
                have hcz20_4 : w5.cell? ⟨gb108, 4, none⟩ = some (.bool a1_4) := (blk_cell BK108.out 4).trans rfl
                have hcz20_5 : w5.cell? ⟨gb108, 5, none⟩ = some (.bool a1_5) := (blk_cell BK108.out 5).trans rfl
                have hcz20_6 : w5.cell? ⟨gb108, 6, none⟩ = some (.bool a1_6) := (blk_cell BK108.out 6).trans rfl
                have hcz20_7 : w5.cell? ⟨gb108, 7, none⟩ = some (.bool a1_7) := (blk_cell BK108.out 7).trans rfl
                have hcz20_8 : w5.cell? ⟨gb108, 8, none⟩ = some (.bool a1_8) := (blk_cell BK108.out 8).trans rfl
                have hcz20_9 : w5.cell? ⟨gb108, 9, none⟩ = some (.bool a1_9) := (blk_cell BK108.out 9).trans rfl
                have hcz20_10 : w5.cell? ⟨gb108, 10, none⟩ = some (.bool a1_10) := (blk_cell BK108.out 10).trans rfl
                have hcz20_11 : w5.cell? ⟨gb108, 11, none⟩ = some (.int .i64 a1_11) := (blk_cell BK108.out 11).trans rfl
                have hcz20_12 : w5.cell? ⟨gb108, 12, none⟩ = some (.string a1_12) := (blk_cell BK108.out 12).trans rfl
                have hcz20_13 : w5.cell? ⟨gb108, 13, none⟩ = some (.int .i64 a1_13) := (blk_cell BK108.out 13).trans rfl
                have hcz20_14 : w5.cell? ⟨gb108, 14, none⟩ = some (.slice A1_14 l1_14.length c1_14) := (blk_cell BK108.out 14).trans rfl
                have hcz20_15 : w5.cell? ⟨gb108, 15, none⟩ = some (.slice A1_15 l1_15.length c1_15) := (blk_cell BK108.out 15).trans rfl
                have hcz20_16 : w5.cell? ⟨gb108, 16, none⟩ = some (.slice A1_16 l1_16.length c1_16) := (blk_cell BK108.out 16).trans rfl
                have hfz20_0 := blk_frozen BK108.out 0
                have hfz20_1 := blk_frozen BK108.out 1
                have hfz20_2 := blk_frozen BK108.out 2
                have hfz20_3 := blk_frozen BK108.out 3
                have hfz20_4 := blk_frozen BK108.out 4
                have hfz20_5 := blk_frozen BK108.out 5
                have hfz20_6 := blk_frozen BK108.out 6
                have hfz20_7 := blk_frozen BK108.out 7
                have hfz20_8 := blk_frozen BK108.out 8
                have hfz20_9 := blk_frozen BK108.out 9
                have hfz20_10 := blk_frozen BK108.out 10
                have hfz20_11 := blk_frozen BK108.out 11
                have hfz20_12 := blk_frozen BK108.out 12
                have hfz20_13 := blk_frozen BK108.out 13
                have hfz20_14 := blk_frozen BK108.out 14
                have hfz20_15 := blk_frozen BK108.out 15
                have hfz20_16 := blk_frozen BK108.out 16
                go_wp2
                refine Met.intro ?_
                go_step
                (repeat apply Exists.intro)
                refine ⟨?rel, ?heq_⟩
                case heq_ => first | rfl | (rw [c6b0]) | (simp only [c6b0])
                case rel => exact ⟨_, (true), (by first | rfl | (simp; done) | (simp [*]; done) | ((try simp only [Bool.not_not]); (generalize ByteArray.toList _ = l_); cases l_ <;> rfl) | (simp; (generalize ByteArray.toList _ = l_); cases l_ <;> rfl)), H', ⟨by first | omega | exact Nat.le_refl _⟩, ⟨by (with_reducible repeat (first | refine blk_drewN ?_ _ | refine blk_drew ?_ | refine blk_alloc ?_ _)); exact BK107.out⟩, ⟨by (with_reducible repeat (first | refine blk_drewN ?_ _ | refine blk_drew ?_ | refine blk_alloc ?_ _)); exact BK108.out⟩, ⟨by repeat (first | (with_reducible first | exact HB.out | apply below_alloc | apply pw_below_drewN | apply below_drew1 | refine below_set ?_ GE107.out | refine below_set ?_ GE108.out) | exact HB.out)⟩⟩
              · rw [if_neg c17] at H
                have c17b0 : (a0_5 != a1_5) = false := by simpa using c17
                (try (have c17b1 : decide (a0_5 = a1_5) = true := by simpa using c17))
                (try (have c17b2 : (a0_5 == a1_5) = true := by simpa using c17))
                clear c17
                by_cases c21 : (a0_6 != a1_6) = true
                · rw [if_pos c21] at H
                  have c21b0 : (a0_6 != a1_6) = true := c21
                  (try (have c21b1 : decide (a0_6 = a1_6) = false := by simpa using c21))
                  (try (have c21b2 : (a0_6 == a1_6) = false := by simpa using c21))
                  (try (have c21b3 : ¬ (a0_6 = a1_6) := by simpa using c21))
                  clear c21
                  have H' := Aside0.mk H
                  clear H
                  have hnb22 := NB107_108.out
                  have hnc22 := NB108_107.out
                  have hcz23_0 : w5.cell? ⟨gb107, 0, none⟩ = some (.int .i64 a0_0) := (blk_cell BK107.out 0).trans rfl
                  have hcz23_1 : w5.cell? ⟨gb107, 1, none⟩ = some (.int .i64 a0_1) := (blk_cell BK107.out 1).trans rfl
                  have hcz23_2 : w5.cell? ⟨gb107, 2, none⟩ = some (.int .i64 a0_2) := (blk_cell BK107.out 2).trans rfl
                  have hcz23_3 : w5.cell? ⟨gb107, 3, none⟩ = some (.bool a0_3) := (blk_cell BK107.out 3).trans rfl
                  have hcz23_4 : w5.cell? ⟨gb107, 4, none⟩ = some (.bool a0_4) := (blk_cell BK107.out 4).trans rfl
                  have hcz23_5 : w5.cell? ⟨gb107, 5, none⟩ = some (.bool a0_5) := (blk_cell BK107.out 5).trans rfl
                  have hcz23_6 : w5.cell? ⟨gb107, 6, none⟩ = some (.bool a0_6) := (blk_cell BK107.out 6).trans rfl
                  have hcz23_7 : w5.cell? ⟨gb107, 7, none⟩ = some (.bool a0_7) := (blk_cell BK107.out 7).trans rfl
                  have hcz23_8 : w5.cell? ⟨gb107, 8, none⟩ = some (.bool a0_8) := (blk_cell BK107.out 8).trans rfl
                  have hcz23_9 : w5.cell? ⟨gb107, 9, none⟩ = some (.bool a0_9) := (blk_cell BK107.out 9).trans rfl
                  have hcz23_10 : w5.cell? ⟨gb107, 10, none⟩ = some (.bool a0_10) := (blk_cell BK107.out 10).trans rfl
                  have hcz23_11 : w5.cell? ⟨gb107, 11, none⟩ = some (.int .i64 a0_11) := (blk_cell BK107.out 11).trans rfl
                  have hcz23_12 : w5.cell? ⟨gb107, 12, none⟩ = some (.string a0_12) := (blk_cell BK107.out 12).trans rfl
                  have hcz23_13 : w5.cell? ⟨gb107, 13, none⟩ = some (.int .i64 a0_13) := (blk_cell BK107.out 13).trans rfl
                  have hcz23_14 : w5.cell? ⟨gb107, 14, none⟩ = some (.slice A0_14 l0_14.length c0_14) := (blk_cell BK107.out 14).trans rfl
                  have hcz23_15 : w5.cell? ⟨gb107, 15, none⟩ = some (.slice A0_15 l0_15.length c0_15) := (blk_cell BK107.out 15).trans rfl
                  have hcz23_16 : w5.cell? ⟨gb107, 16, none⟩ = some (.slice A0_16 l0_16.length c0_16) := (blk_cell BK107.out 16).trans rfl
                  have hfz23_0 := blk_frozen BK107.out 0
                  have hfz23_1 := blk_frozen BK107.out 1
                  have hfz23_2 := blk_frozen BK107.out 2
                  have hfz23_3 := blk_frozen BK107.out 3
                  have hfz23_4 := blk_frozen BK107.out 4
                  have hfz23_5 := blk_frozen BK107.out 5
                  have hfz23_6 := blk_frozen BK107.out 6
                  have hfz23_7 := blk_frozen BK107.out 7
                  have hfz23_8 := blk_frozen BK107.out 8
                  have hfz23_9 := blk_frozen BK107.out 9
                  have hfz23_10 := blk_frozen BK107.out 10
                  have hfz23_11 := blk_frozen BK107.out 11
                  have hfz23_12 := blk_frozen BK107.out 12
                  have hfz23_13 := blk_frozen BK107.out 13
                  have hfz23_14 := blk_frozen BK107.out 14
                  have hfz23_15 := blk_frozen BK107.out 15
                  have hfz23_16 := blk_frozen BK107.out 16
                  have hcz24_0 : w5.cell? ⟨gb108, 0, none⟩ = some (.int .i64 a1_0) := (blk_cell BK108.out 0).trans rfl
                  have hcz24_1 : w5.cell? ⟨gb108, 1, none⟩ = some (.int .i64 a1_1) := (blk_cell BK108.out 1).trans rfl
                  have hcz24_2 : w5.cell? ⟨gb108, 2, none⟩ = some (.int .i64 a1_2) := (blk_cell BK108.out 2).trans rfl
                  have hcz24_3 : w5.cell? ⟨gb108, 3, none⟩ = some (.bool a1_3) := (blk_cell BK108.out 3).trans rfl
                  have hcz24_4 : w5.cell? ⟨gb108, 4, none⟩ = some (.bool a1_4) := (blk_cell BK108.out 4).trans rfl
                  have hcz24_5 : w5.cell? ⟨gb108, 5, none⟩ = some (.bool a1_5) := (blk_cell BK108.out 5).trans rfl
                  have hcz24_6 : w5.cell? ⟨gb108, 6, none⟩ = some (.bool a1_6) := (blk_cell BK108.out 6).trans rfl
                  have hcz24_7 : w5.cell? ⟨gb108, 7, none⟩ = some (.bool a1_7) := (blk_cell BK108.out 7).trans rfl
                  have hcz24_8 : w5.cell? ⟨gb108, 8, none⟩ = some (.bool a1_8) := (blk_cell BK108.out 8).trans rfl
                  have hcz24_9 : w5.cell? ⟨gb108, 9, none⟩ = some (.bool a1_9) := (blk_cell BK108.out 9).trans rfl
                  have hcz24_10 : w5.cell? ⟨gb108, 10, none⟩ = some (.bool a1_10) := (blk_cell BK108.out 10).trans rfl
                  have hcz24_11 : w5.cell? ⟨gb108, 11, none⟩ = some (.int .i64 a1_11) := (blk_cell BK108.out 11).trans rfl
                  have hcz24_12 : w5.cell? ⟨gb108, 12, none⟩ = some (.string a1_12) := (blk_cell BK108.out 12).trans rfl
                  have hcz24_13 : w5.cell? ⟨gb108, 13, none⟩ = some (.int .i64 a1_13) := (blk_cell BK108.out 13).trans rfl
                  have hcz24_14 : w5.cell? ⟨gb108, 14, none⟩ = some (.slice A1_14 l1_14.length c1_14) := (blk_cell BK108.out 14).trans rfl
                  have hcz24_15 : w5.cell? ⟨gb108, 15, none⟩ = some (.slice A1_15 l1_15.length c1_15) := (blk_cell BK108.out 15).trans rfl
                  have hcz24_16 : w5.cell? ⟨gb108, 16, none⟩ = some (.slice A1_16 l1_16.length c1_16) := (blk_cell BK108.out 16).trans rfl
                  have hfz24_0 := blk_frozen BK108.out 0
                  have hfz24_1 := blk_frozen BK108.out 1
                  have hfz24_2 := blk_frozen BK108.out 2
                  have hfz24_3 := blk_frozen BK108.out 3
                  have hfz24_4 := blk_frozen BK108.out 4
                  have hfz24_5 := blk_frozen BK108.out 5
                  have hfz24_6 := blk_frozen BK108.out 6
                  have hfz24_7 := blk_frozen BK108.out 7
                  have hfz24_8 := blk_frozen BK108.out 8
                  have hfz24_9 := blk_frozen BK108.out 9
                  have hfz24_10 := blk_frozen BK108.out 10
                  have hfz24_11 := blk_frozen BK108.out 11
                  have hfz24_12 := blk_frozen BK108.out 12
                  have hfz24_13 := blk_frozen BK108.out 13
                  have hfz24_14 := blk_frozen BK108.out 14
                  have hfz24_15 := blk_frozen BK108.out 15
                  have hfz24_16 := blk_frozen BK108.out 16
                  go_wp2
                  refine Met.intro ?_
                  go_step
                  (repeat apply Exists.intro)
                  refine ⟨?rel, ?heq_⟩
                  case heq_ => first | rfl | (rw [c6b0]) | (simp only [c6b0])
                  case rel => exact ⟨_, (true), (by first | rfl | (simp; done) | (simp [*]; done) | ((try simp only [Bool.not_not]); (generalize ByteArray.toList _ = l_); cases l_ <;> rfl) | (simp; (generalize ByteArray.toList _ = l_); cases l_ <;> rfl)), H', ⟨by first | omega | exact Nat.le_refl _⟩, ⟨by (with_reducible repeat (first | refine blk_drewN ?_ _ | refine blk_drew ?_ | refine blk_alloc ?_ _)); exact BK107.out⟩, ⟨by (with_reducible repeat (first | refine blk_drewN ?_ _ | refine blk_drew ?_ | refine blk_alloc ?_ _)); exact BK108.out⟩, ⟨by repeat (first | (with_reducible first | exact HB.out | apply below_alloc | apply pw_below_drewN | apply below_drew1 | refine below_set ?_ GE107.out | refine below_set ?_ GE108.out) | exact HB.out)⟩⟩
                · rw [if_neg c21] at H
                  have c21b0 : (a0_6 != a1_6) = false := by simpa using c21
                  (try (have c21b1 : decide (a0_6 = a1_6) = true := by simpa using c21))
                  (try (have c21b2 : (a0_6 == a1_6) = true := by simpa using c21))
                  clear c21
                  have H' := Aside0.mk H
                  clear H
                  have hnb25 := NB107_108.out
                  have hnc25 := NB108_107.out
                  have hcz26_0 : w5.cell? ⟨gb107, 0, none⟩ = some (.int .i64 a0_0) := (blk_cell BK107.out 0).trans rfl
                  have hcz26_1 : w5.cell? ⟨gb107, 1, none⟩ = some (.int .i64 a0_1) := (blk_cell BK107.out 1).trans rfl
                  have hcz26_2 : w5.cell? ⟨gb107, 2, none⟩ = some (.int .i64 a0_2) := (blk_cell BK107.out 2).trans rfl
                  have hcz26_3 : w5.cell? ⟨gb107, 3, none⟩ = some (.bool a0_3) := (blk_cell BK107.out 3).trans rfl
                  have hcz26_4 : w5.cell? ⟨gb107, 4, none⟩ = some (.bool a0_4) := (blk_cell BK107.out 4).trans rfl
                  have hcz26_5 : w5.cell? ⟨gb107, 5, none⟩ = some (.bool a0_5) := (blk_cell BK107.out 5).trans rfl
                  have hcz26_6 : w5.cell? ⟨gb107, 6, none⟩ = some (.bool a0_6) := (blk_cell BK107.out 6).trans rfl
                  have hcz26_7 : w5.cell? ⟨gb107, 7, none⟩ = some (.bool a0_7) := (blk_cell BK107.out 7).trans rfl
                  have hcz26_8 : w5.cell? ⟨gb107, 8, none⟩ = some (.bool a0_8) := (blk_cell BK107.out 8).trans rfl
                  have hcz26_9 : w5.cell? ⟨gb107, 9, none⟩ = some (.bool a0_9) := (blk_cell BK107.out 9).trans rfl
                  have hcz26_10 : w5.cell? ⟨gb107, 10, none⟩ = some (.bool a0_10) := (blk_cell BK107.out 10).trans rfl
                  have hcz26_11 : w5.cell? ⟨gb107, 11, none⟩ = some (.int .i64 a0_11) := (blk_cell BK107.out 11).trans rfl
                  have hcz26_12 : w5.cell? ⟨gb107, 12, none⟩ = some (.string a0_12) := (blk_cell BK107.out 12).trans rfl
                  have hcz26_13 : w5.cell? ⟨gb107, 13, none⟩ = some (.int .i64 a0_13) := (blk_cell BK107.out 13).trans rfl
                  have hcz26_14 : w5.cell? ⟨gb107, 14, none⟩ = some (.slice A0_14 l0_14.length c0_14) := (blk_cell BK107.out 14).trans rfl
                  have hcz26_15 : w5.cell? ⟨gb107, 15, none⟩ = some (.slice A0_15 l0_15.length c0_15) := (blk_cell BK107.out 15).trans rfl
                  have hcz26_16 : w5.cell? ⟨gb107, 16, none⟩ = some (.slice A0_16 l0_16.length c0_16) := (blk_cell BK107.out 16).trans rfl
                  have hfz26_0 := blk_frozen BK107.out 0
                  have hfz26_1 := blk_frozen BK107.out 1
                  have hfz26_2 := blk_frozen BK107.out 2
                  have hfz26_3 := blk_frozen BK107.out 3
                  have hfz26_4 := blk_frozen BK107.out 4
                  have hfz26_5 := blk_frozen BK107.out 5
                  have hfz26_6 := blk_frozen BK107.out 6
                  have hfz26_7 := blk_frozen BK107.out 7
                  have hfz26_8 := blk_frozen BK107.out 8
                  have hfz26_9 := blk_frozen BK107.out 9
                  have hfz26_10 := blk_frozen BK107.out 10
                  have hfz26_11 := blk_frozen BK107.out 11
                  have hfz26_12 := blk_frozen BK107.out 12
                  have hfz26_13 := blk_frozen BK107.out 13
                  have hfz26_14 := blk_frozen BK107.out 14
                  have hfz26_15 := blk_frozen BK107.out 15
                  have hfz26_16 := blk_frozen BK107.out 16
                  have hcz27_0 : w5.cell? ⟨gb108, 0, none⟩ = some (.int .i64 a1_0) := (blk_cell BK108.out 0).trans rfl
                  have hcz27_1 : w5.cell? ⟨gb108, 1, none⟩ = some (.int .i64 a1_1) := (blk_cell BK108.out 1).trans rfl
                  have hcz27_2 : w5.cell? ⟨gb108, 2, none⟩ = some (.int .i64 a1_2) := (blk_cell BK108.out 2).trans rfl
                  have hcz27_3 : w5.cell? ⟨gb108, 3, none⟩ = some (.bool a1_3) := (blk_cell BK108.out 3).trans rfl
                  have hcz27_4 : w5.cell? ⟨gb108, 4, none⟩ = some (.bool a1_4) := (blk_cell BK108.out 4).trans rfl
                  have hcz27_5 : w5.cell? ⟨gb108, 5, none⟩ = some (.bool a1_5) := (blk_cell BK108.out 5).trans rfl
                  have hcz27_6 : w5.cell? ⟨gb108, 6, none⟩ = some (.bool a1_6) := (blk_cell BK108.out 6).trans rfl
                  have hcz27_7 : w5.cell? ⟨gb108, 7, none⟩ = some (.bool a1_7) := (blk_cell BK108.out 7).trans rfl
                  have hcz27_8 : w5.cell? ⟨gb108, 8, none⟩ = some (.bool a1_8) := (blk_cell BK108.out 8).trans rfl
                  have hcz27_9 : w5.cell? ⟨gb108, 9, none⟩ = some (.bool a1_9) := (blk_cell BK108.out 9).trans rfl
                  have hcz27_10 : w5.cell? ⟨gb108, 10, none⟩ = some (.bool a1_10) := (blk_cell BK108.out 10).trans rfl
                  have hcz27_11 : w5.cell? ⟨gb108, 11, none⟩ = some (.int .i64 a1_11) := (blk_cell BK108.out 11).trans rfl
                  have hcz27_12 : w5.cell? ⟨gb108, 12, none⟩ = some (.string a1_12) := (blk_cell BK108.out 12).trans rfl
                  have hcz27_13 : w5.cell? ⟨gb108, 13, none⟩ = some (.int .i64 a1_13) := (blk_cell BK108.out 13).trans rfl
                  have hcz27_14 : w5.cell? ⟨gb108, 14, none⟩ = some (.slice A1_14 l1_14.length c1_14) := (blk_cell BK108.out 14).trans rfl
                  have hcz27_15 : w5.cell? ⟨gb108, 15, none⟩ = some (.slice A1_15 l1_15.length c1_15) := (blk_cell BK108.out 15).trans rfl
                  have hcz27_16 : w5.cell? ⟨gb108, 16, none⟩ = some (.slice A1_16 l1_16.length c1_16) := (blk_cell BK108.out 16).trans rfl
                  have hfz27_0 := blk_frozen BK108.out 0
                  have hfz27_1 := blk_frozen BK108.out 1
                  have hfz27_2 := blk_frozen BK108.out 2
                  have hfz27_3 := blk_frozen BK108.out 3
                  have hfz27_4 := blk_frozen BK108.out 4
                  have hfz27_5 := blk_frozen BK108.out 5
                  have hfz27_6 := blk_frozen BK108.out 6
                  have hfz27_7 := blk_frozen BK108.out 7
                  have hfz27_8 := blk_frozen BK108.out 8
                  have hfz27_9 := blk_frozen BK108.out 9
                  have hfz27_10 := blk_frozen BK108.out 10
                  have hfz27_11 := blk_frozen BK108.out 11
                  have hfz27_12 := blk_frozen BK108.out 12
                  have hfz27_13 := blk_frozen BK108.out 13
                  have hfz27_14 := blk_frozen BK108.out 14
                  have hfz27_15 := blk_frozen BK108.out 15
                  have hfz27_16 := blk_frozen BK108.out 16
                  go_wp2
                  refine Met.intro ?_
                  go_step
                  (repeat apply Exists.intro)
                  refine ⟨?rel, ?heq_⟩
                  case heq_ => first | rfl | (rw [c6b0]) | (simp only [c6b0])
                  case rel => exact ⟨_, ((a0_7 != a1_7)), (by first | rfl | (simp; done) | (simp [*]; done) | ((try simp only [Bool.not_not]); (generalize ByteArray.toList _ = l_); cases l_ <;> rfl) | (simp; (generalize ByteArray.toList _ = l_); cases l_ <;> rfl)), H', ⟨by first | omega | exact Nat.le_refl _⟩, ⟨by (with_reducible repeat (first | refine blk_drewN ?_ _ | refine blk_drew ?_ | refine blk_alloc ?_ _)); exact BK107.out⟩, ⟨by (with_reducible repeat (first | refine blk_drewN ?_ _ | refine blk_drew ?_ | refine blk_alloc ?_ _)); exact BK108.out⟩, ⟨by repeat (first | (with_reducible first | exact HB.out | apply below_alloc | apply pw_below_drewN | apply below_drew1 | refine below_set ?_ GE107.out | refine below_set ?_ GE108.out) | exact HB.out)⟩⟩
        · rw [if_neg c8] at H
          have c8b0 : (a0_2 == a1_2) = false := beq_eq_false_iff_ne.mpr c8
          have c8b1 : (a0_2 != a1_2) = true := bne_iff_ne.mpr c8
          have H' := Aside0.mk H
          clear H
          have hnb28 := NB107_108.out
          have hnc28 := NB108_107.out
          have hcz29_0 : w5.cell? ⟨gb107, 0, none⟩ = some (.int .i64 a0_0) := (blk_cell BK107.out 0).trans rfl
          have hcz29_1 : w5.cell? ⟨gb107, 1, none⟩ = some (.int .i64 a0_1) := (blk_cell BK107.out 1).trans rfl
          have hcz29_2 : w5.cell? ⟨gb107, 2, none⟩ = some (.int .i64 a0_2) := (blk_cell BK107.out 2).trans rfl
          have hcz29_3 : w5.cell? ⟨gb107, 3, none⟩ = some (.bool a0_3) := (blk_cell BK107.out 3).trans rfl
          have hcz29_4 : w5.cell? ⟨gb107, 4, none⟩ = some (.bool a0_4) := (blk_cell BK107.out 4).trans rfl
          have hcz29_5 : w5.cell? ⟨gb107, 5, none⟩ = some (.bool a0_5) := (blk_cell BK107.out 5).trans rfl
          have hcz29_6 : w5.cell? ⟨gb107, 6, none⟩ = some (.bool a0_6) := (blk_cell BK107.out 6).trans rfl
          have hcz29_7 : w5.cell? ⟨gb107, 7, none⟩ = some (.bool a0_7) := (blk_cell BK107.out 7).trans rfl
          have hcz29_8 : w5.cell? ⟨gb107, 8, none⟩ = some (.bool a0_8) := (blk_cell BK107.out 8).trans rfl
          have hcz29_9 : w5.cell? ⟨gb107, 9, none⟩ = some (.bool a0_9) := (blk_cell BK107.out 9).trans rfl
          have hcz29_10 : w5.cell? ⟨gb107, 10, none⟩ = some (.bool a0_10) := (blk_cell BK107.out 10).trans rfl
          have hcz29_11 : w5.cell? ⟨gb107, 11, none⟩ = some (.int .i64 a0_11) := (blk_cell BK107.out 11).trans rfl
          have hcz29_12 : w5.cell? ⟨gb107, 12, none⟩ = some (.string a0_12) := (blk_cell BK107.out 12).trans rfl
          have hcz29_13 : w5.cell? ⟨gb107, 13, none⟩ = some (.int .i64 a0_13) := (blk_cell BK107.out 13).trans rfl
          have hcz29_14 : w5.cell? ⟨gb107, 14, none⟩ = some (.slice A0_14 l0_14.length c0_14) := (blk_cell BK107.out 14).trans rfl
          have hcz29_15 : w5.cell? ⟨gb107, 15, none⟩ = some (.slice A0_15 l0_15.length c0_15) := (blk_cell BK107.out 15).trans rfl
          have hcz29_16 : w5.cell? ⟨gb107, 16, none⟩ = some (.slice A0_16 l0_16.length c0_16) := (blk_cell BK107.out 16).trans rfl
          have hfz29_0 := blk_frozen BK107.out 0
          have hfz29_1 := blk_frozen BK107.out 1
          have hfz29_2 := blk_frozen BK107.out 2
          have hfz29_3 := blk_frozen BK107.out 3
          have hfz29_4 := blk_frozen BK107.out 4
          have hfz29_5 := blk_frozen BK107.out 5
          have hfz29_6 := blk_frozen BK107.out 6
          have hfz29_7 := blk_frozen BK107.out 7
          have hfz29_8 := blk_frozen BK107.out 8
          have hfz29_9 := blk_frozen BK107.out 9
          have hfz29_10 := blk_frozen BK107.out 10
          have hfz29_11 := blk_frozen BK107.out 11
          have hfz29_12 := blk_frozen BK107.out 12
          have hfz29_13 := blk_frozen BK107.out 13
          have hfz29_14 := blk_frozen BK107.out 14
          have hfz29_15 := blk_frozen BK107.out 15
          have hfz29_16 := blk_frozen BK107.out 16
          have hcz30_0 : w5.cell? ⟨gb108, 0, none⟩ = some (.int .i64 a1_0) := (blk_cell BK108.out 0).trans rfl
          have hcz30_1 : w5.cell? ⟨gb108, 1, none⟩ = some (.int .i64 a1_1) := (blk_cell BK108.out 1).trans rfl
          have hcz30_2 : w5.cell? ⟨gb108, 2, none⟩ = some (.int .i64 a1_2) := (blk_cell BK108.out 2).trans rfl
          have hcz30_3 : w5.cell? ⟨gb108, 3, none⟩ = some (.bool a1_3) := (blk_cell BK108.out 3).trans rfl
          have hcz30_4 : w5.cell? ⟨gb108, 4, none⟩ = some (.bool a1_4) := (blk_cell BK108.out 4).trans rfl
          have hcz30_5 : w5.cell? ⟨gb108, 5, none⟩ = some (.bool a1_5) := (blk_cell BK108.out 5).trans rfl
          have hcz30_6 : w5.cell? ⟨gb108, 6, none⟩ = some (.bool a1_6) := (blk_cell BK108.out 6).trans rfl
          have hcz30_7 : w5.cell? ⟨gb108, 7, none⟩ = some (.bool a1_7) := (blk_cell BK108.out 7).trans rfl
          have hcz30_8 : w5.cell? ⟨gb108, 8, none⟩ = some (.bool a1_8) := (blk_cell BK108.out 8).trans rfl
          have hcz30_9 : w5.cell? ⟨gb108, 9, none⟩ = some (.bool a1_9) := (blk_cell BK108.out 9).trans rfl
          have hcz30_10 : w5.cell? ⟨gb108, 10, none⟩ = some (.bool a1_10) := (blk_cell BK108.out 10).trans rfl
          have hcz30_11 : w5.cell? ⟨gb108, 11, none⟩ = some (.int .i64 a1_11) := (blk_cell BK108.out 11).trans rfl
          have hcz30_12 : w5.cell? ⟨gb108, 12, none⟩ = some (.string a1_12) := (blk_cell BK108.out 12).trans rfl
          have hcz30_13 : w5.cell? ⟨gb108, 13, none⟩ = some (.int .i64 a1_13) := (blk_cell BK108.out 13).trans rfl
          have hcz30_14 : w5.cell? ⟨gb108, 14, none⟩ = some (.slice A1_14 l1_14.length c1_14) := (blk_cell BK108.out 14).trans rfl
          have hcz30_15 : w5.cell? ⟨gb108, 15, none⟩ = some (.slice A1_15 l1_15.length c1_15) := (blk_cell BK108.out 15).trans rfl
          have hcz30_16 : w5.cell? ⟨gb108, 16, none⟩ = some (.slice A1_16 l1_16.length c1_16) := (blk_cell BK108.out 16).trans rfl
          have hfz30_0 := blk_frozen BK108.out 0
          have hfz30_1 := blk_frozen BK108.out 1
          have hfz30_2 := blk_frozen BK108.out 2
          have hfz30_3 := blk_frozen BK108.out 3
          have hfz30_4 := blk_frozen BK108.out 4
          have hfz30_5 := blk_frozen BK108.out 5
          have hfz30_6 := blk_frozen BK108.out 6
          have hfz30_7 := blk_frozen BK108.out 7
          have hfz30_8 := blk_frozen BK108.out 8
          have hfz30_9 := blk_frozen BK108.out 9
          have hfz30_10 := blk_frozen BK108.out 10
          have hfz30_11 := blk_frozen BK108.out 11
          have hfz30_12 := blk_frozen BK108.out 12
          have hfz30_13 := blk_frozen BK108.out 13
          have hfz30_14 := blk_frozen BK108.out 14
          have hfz30_15 := blk_frozen BK108.out 15
          have hfz30_16 := blk_frozen BK108.out 16
          go_wp2
          refine Met.intro ?_
          go_step
          (repeat apply Exists.intro)
          refine ⟨?rel, ?heq_⟩
          case heq_ => first | rfl | (rw [c6b0]) | (simp only [c6b0])
          case rel => exact ⟨_, (true), (by first | rfl | (simp; done) | (simp [*]; done) | ((try simp only [Bool.not_not]); (generalize ByteArray.toList _ = l_); cases l_ <;> rfl) | (simp; (generalize ByteArray.toList _ = l_); cases l_ <;> rfl)), H', ⟨by first | omega | exact Nat.le_refl _⟩, ⟨by (with_reducible repeat (first | refine blk_drewN ?_ _ | refine blk_drew ?_ | refine blk_alloc ?_ _)); exact BK107.out⟩, ⟨by (with_reducible repeat (first | refine blk_drewN ?_ _ | refine blk_drew ?_ | refine blk_alloc ?_ _)); exact BK108.out⟩, ⟨by repeat (first | (with_reducible first | exact HB.out | apply below_alloc | apply pw_below_drewN | apply below_drew1 | refine below_set ?_ GE107.out | refine below_set ?_ GE108.out) | exact HB.out)⟩⟩
      · rw [if_neg c7] at H
        have c7b0 : (a0_1 == a1_1) = false := beq_eq_false_iff_ne.mpr c7
        have c7b1 : (a0_1 != a1_1) = true := bne_iff_ne.mpr c7
        have H' := Aside0.mk H
        clear H
        have hnb31 := NB107_108.out
        have hnc31 := NB108_107.out
        have hcz32_0 : w5.cell? ⟨gb107, 0, none⟩ = some (.int .i64 a0_0) := (blk_cell BK107.out 0).trans rfl
        have hcz32_1 : w5.cell? ⟨gb107, 1, none⟩ = some (.int .i64 a0_1) := (blk_cell BK107.out 1).trans rfl
        have hcz32_2 : w5.cell? ⟨gb107, 2, none⟩ = some (.int .i64 a0_2) := (blk_cell BK107.out 2).trans rfl
        have hcz32_3 : w5.cell? ⟨gb107, 3, none⟩ = some (.bool a0_3) := (blk_cell BK107.out 3).trans rfl
        have hcz32_4 : w5.cell? ⟨gb107, 4, none⟩ = some (.bool a0_4) := (blk_cell BK107.out 4).trans rfl
        have hcz32_5 : w5.cell? ⟨gb107, 5, none⟩ = some (.bool a0_5) := (blk_cell BK107.out 5).trans rfl
        have hcz32_6 : w5.cell? ⟨gb107, 6, none⟩ = some (.bool a0_6) := (blk_cell BK107.out 6).trans rfl
        have hcz32_7 : w5.cell? ⟨gb107, 7, none⟩ = some (.bool a0_7) := (blk_cell BK107.out 7).trans rfl
        have hcz32_8 : w5.cell? ⟨gb107, 8, none⟩ = some (.bool a0_8) := (blk_cell BK107.out 8).trans rfl
        have hcz32_9 : w5.cell? ⟨gb107, 9, none⟩ = some (.bool a0_9) := (blk_cell BK107.out 9).trans rfl
        have hcz32_10 : w5.cell? ⟨gb107, 10, none⟩ = some (.bool a0_10) := (blk_cell BK107.out 10).trans rfl
        have hcz32_11 : w5.cell? ⟨gb107, 11, none⟩ = some (.int .i64 a0_11) := (blk_cell BK107.out 11).trans rfl
        have hcz32_12 : w5.cell? ⟨gb107, 12, none⟩ = some (.string a0_12) := (blk_cell BK107.out 12).trans rfl
        have hcz32_13 : w5.cell? ⟨gb107, 13, none⟩ = some (.int .i64 a0_13) := (blk_cell BK107.out 13).trans rfl
        have hcz32_14 : w5.cell? ⟨gb107, 14, none⟩ = some (.slice A0_14 l0_14.length c0_14) := (blk_cell BK107.out 14).trans rfl
        have hcz32_15 : w5.cell? ⟨gb107, 15, none⟩ = some (.slice A0_15 l0_15.length c0_15) := (blk_cell BK107.out 15).trans rfl
        have hcz32_16 : w5.cell? ⟨gb107, 16, none⟩ = some (.slice A0_16 l0_16.length c0_16) := (blk_cell BK107.out 16).trans rfl
        have hfz32_0 := blk_frozen BK107.out 0
        have hfz32_1 := blk_frozen BK107.out 1
        have hfz32_2 := blk_frozen BK107.out 2
        have hfz32_3 := blk_frozen BK107.out 3
        have hfz32_4 := blk_frozen BK107.out 4
        have hfz32_5 := blk_frozen BK107.out 5
        have hfz32_6 := blk_frozen BK107.out 6
        have hfz32_7 := blk_frozen BK107.out 7
        have hfz32_8 := blk_frozen BK107.out 8
        have hfz32_9 := blk_frozen BK107.out 9
        have hfz32_10 := blk_frozen BK107.out 10
        have hfz32_11 := blk_frozen BK107.out 11
        have hfz32_12 := blk_frozen BK107.out 12
        have hfz32_13 := blk_frozen BK107.out 13
        have hfz32_14 := blk_frozen BK107.out 14
        have hfz32_15 := blk_frozen BK107.out 15
        have hfz32_16 := blk_frozen BK107.out 16
        have hcz33_0 : w5.cell? ⟨gb108, 0, none⟩ = some (.int .i64 a1_0) := (blk_cell BK108.out 0).trans rfl
        have hcz33_1 : w5.cell? ⟨gb108, 1, none⟩ = some (.int .i64 a1_1) := (blk_cell BK108.out 1).trans rfl
        have hcz33_2 : w5.cell? ⟨gb108, 2, none⟩ = some (.int .i64 a1_2) := (blk_cell BK108.out 2).trans rfl
        have hcz33_3 : w5.cell? ⟨gb108, 3, none⟩ = some (.bool a1_3) := (blk_cell BK108.out 3).trans rfl
        have hcz33_4 : w5.cell? ⟨gb108, 4, none⟩ = some (.bool a1_4) := (blk_cell BK108.out 4).trans rfl
        have hcz33_5 : w5.cell? ⟨gb108, 5, none⟩ = some (.bool a1_5) := (blk_cell BK108.out 5).trans rfl
        have hcz33_6 : w5.cell? ⟨gb108, 6, none⟩ = some (.bool a1_6) := (blk_cell BK108.out 6).trans rfl
        have hcz33_7 : w5.cell? ⟨gb108, 7, none⟩ = some (.bool a1_7) := (blk_cell BK108.out 7).trans rfl
        have hcz33_8 : w5.cell? ⟨gb108, 8, none⟩ = some (.bool a1_8) := (blk_cell BK108.out 8).trans rfl
        have hcz33_9 : w5.cell? ⟨gb108, 9, none⟩ = some (.bool a1_9) := (blk_cell BK108.out 9).trans rfl
        have hcz33_10 : w5.cell? ⟨gb108, 10, none⟩ = some (.bool a1_10) := (blk_cell BK108.out 10).trans rfl
        have hcz33_11 : w5.cell? ⟨gb108, 11, none⟩ = some (.int .i64 a1_11) := (blk_cell BK108.out 11).trans rfl
        have hcz33_12 : w5.cell? ⟨gb108, 12, none⟩ = some (.string a1_12) := (blk_cell BK108.out 12).trans rfl
        have hcz33_13 : w5.cell? ⟨gb108, 13, none⟩ = some (.int .i64 a1_13) := (blk_cell BK108.out 13).trans rfl
        have hcz33_14 : w5.cell? ⟨gb108, 14, none⟩ = some (.slice A1_14 l1_14.length c1_14) := (blk_cell BK108.out 14).trans rfl
        have hcz33_15 : w5.cell? ⟨gb108, 15, none⟩ = some (.slice A1_15 l1_15.length c1_15) := (blk_cell BK108.out 15).trans rfl
        have hcz33_16 : w5.cell? ⟨gb108, 16, none⟩ = some (.slice A1_16 l1_16.length c1_16) := (blk_cell BK108.out 16).trans rfl
        have hfz33_0 := blk_frozen BK108.out 0
        have hfz33_1 := blk_frozen BK108.out 1
        have hfz33_2 := blk_frozen BK108.out 2
        have hfz33_3 := blk_frozen BK108.out 3
        have hfz33_4 := blk_frozen BK108.out 4
        have hfz33_5 := blk_frozen BK108.out 5
        have hfz33_6 := blk_frozen BK108.out 6
        have hfz33_7 := blk_frozen BK108.out 7
        have hfz33_8 := blk_frozen BK108.out 8
        have hfz33_9 := blk_frozen BK108.out 9
        have hfz33_10 := blk_frozen BK108.out 10
        have hfz33_11 := blk_frozen BK108.out 11
        have hfz33_12 := blk_frozen BK108.out 12
        have hfz33_13 := blk_frozen BK108.out 13
        have hfz33_14 := blk_frozen BK108.out 14
        have hfz33_15 := blk_frozen BK108.out 15
        have hfz33_16 := blk_frozen BK108.out 16
        go_wp2
        refine Met.intro ?_
        go_step
        (repeat apply Exists.intro)
        refine ⟨?rel, ?heq_⟩
        case heq_ => first | rfl | (rw [c6b0]) | (simp only [c6b0])
        case rel => exact ⟨_, (true), (by first | rfl | (simp; done) | (simp [*]; done) | ((try simp only [Bool.not_not]); (generalize ByteArray.toList _ = l_); cases l_ <;> rfl) | (simp; (generalize ByteArray.toList _ = l_); cases l_ <;> rfl)), H', ⟨by first | omega | exact Nat.le_refl _⟩, ⟨by (with_reducible repeat (first | refine blk_drewN ?_ _ | refine blk_drew ?_ | refine blk_alloc ?_ _)); exact BK107.out⟩, ⟨by (with_reducible repeat (first | refine blk_drewN ?_ _ | refine blk_drew ?_ | refine blk_alloc ?_ _)); exact BK108.out⟩, ⟨by repeat (first | (with_reducible first | exact HB.out | apply below_alloc | apply pw_below_drewN | apply below_drew1 | refine below_set ?_ GE107.out | refine below_set ?_ GE108.out) | exact HB.out)⟩⟩
    · rw [if_neg c6] at H
      have c6b0 : (a0_0 == a1_0) = false := beq_eq_false_iff_ne.mpr c6
      have c6b1 : (a0_0 != a1_0) = true := bne_iff_ne.mpr c6
      (first | rw [c6b0] | (simp only [i64_w, i32_w]; rw [c6b0]) | skip)
      have H' := Aside0.mk H
      clear H
      have hnb34 := NB107_108.out
      have hnc34 := NB108_107.out
      have hcz35_0 : w5.cell? ⟨gb107, 0, none⟩ = some (.int .i64 a0_0) := (blk_cell BK107.out 0).trans rfl
      have hcz35_1 : w5.cell? ⟨gb107, 1, none⟩ = some (.int .i64 a0_1) := (blk_cell BK107.out 1).trans rfl
      have hcz35_2 : w5.cell? ⟨gb107, 2, none⟩ = some (.int .i64 a0_2) := (blk_cell BK107.out 2).trans rfl
      have hcz35_3 : w5.cell? ⟨gb107, 3, none⟩ = some (.bool a0_3) := (blk_cell BK107.out 3).trans rfl
      have hcz35_4 : w5.cell? ⟨gb107, 4, none⟩ = some (.bool a0_4) := (blk_cell BK107.out 4).trans rfl
      have hcz35_5 : w5.cell? ⟨gb107, 5, none⟩ = some (.bool a0_5) := (blk_cell BK107.out 5).trans rfl
      have hcz35_6 : w5.cell? ⟨gb107, 6, none⟩ = some (.bool a0_6) := (blk_cell BK107.out 6).trans rfl
      have hcz35_7 : w5.cell? ⟨gb107, 7, none⟩ = some (.bool a0_7) := (blk_cell BK107.out 7).trans rfl
      have hcz35_8 : w5.cell? ⟨gb107, 8, none⟩ = some (.bool a0_8) := (blk_cell BK107.out 8).trans rfl
      have hcz35_9 : w5.cell? ⟨gb107, 9, none⟩ = some (.bool a0_9) := (blk_cell BK107.out 9).trans rfl
      have hcz35_10 : w5.cell? ⟨gb107, 10, none⟩ = some (.bool a0_10) := (blk_cell BK107.out 10).trans rfl
      have hcz35_11 : w5.cell? ⟨gb107, 11, none⟩ = some (.int .i64 a0_11) := (blk_cell BK107.out 11).trans rfl
      have hcz35_12 : w5.cell? ⟨gb107, 12, none⟩ = some (.string a0_12) := (blk_cell BK107.out 12).trans rfl
      have hcz35_13 : w5.cell? ⟨gb107, 13, none⟩ = some (.int .i64 a0_13) := (blk_cell BK107.out 13).trans rfl
      have hcz35_14 : w5.cell? ⟨gb107, 14, none⟩ = some (.slice A0_14 l0_14.length c0_14) := (blk_cell BK107.out 14).trans rfl
      have hcz35_15 : w5.cell? ⟨gb107, 15, none⟩ = some (.slice A0_15 l0_15.length c0_15) := (blk_cell BK107.out 15).trans rfl
      have hcz35_16 : w5.cell? ⟨gb107, 16, none⟩ = some (.slice A0_16 l0_16.length c0_16) := (blk_cell BK107.out 16).trans rfl
      have hfz35_0 := blk_frozen BK107.out 0
      have hfz35_1 := blk_frozen BK107.out 1
      have hfz35_2 := blk_frozen BK107.out 2
      have hfz35_3 := blk_frozen BK107.out 3
      have hfz35_4 := blk_frozen BK107.out 4
      have hfz35_5 := blk_frozen BK107.out 5
      have hfz35_6 := blk_frozen BK107.out 6
      have hfz35_7 := blk_frozen BK107.out 7
      have hfz35_8 := blk_frozen BK107.out 8
      have hfz35_9 := blk_frozen BK107.out 9
      have hfz35_10 := blk_frozen BK107.out 10
      have hfz35_11 := blk_frozen BK107.out 11
      have hfz35_12 := blk_frozen BK107.out 12
      have hfz35_13 := blk_frozen BK107.out 13
      have hfz35_14 := blk_frozen BK107.out 14
      have hfz35_15 := blk_frozen BK107.out 15
      have hfz35_16 := blk_frozen BK107.out 16
      have hcz36_0 : w5.cell? ⟨gb108, 0, none⟩ = some (.int .i64 a1_0) := (blk_cell BK108.out 0).trans rfl
      have hcz36_1 : w5.cell? ⟨gb108, 1, none⟩ = some (.int .i64 a1_1) := (blk_cell BK108.out 1).trans rfl
      have hcz36_2 : w5.cell? ⟨gb108, 2, none⟩ = some (.int .i64 a1_2) := (blk_cell BK108.out 2).trans rfl
      have hcz36_3 : w5.cell? ⟨gb108, 3, none⟩ = some (.bool a1_3) := (blk_cell BK108.out 3).trans rfl
      have hcz36_4 : w5.cell? ⟨gb108, 4, none⟩ = some (.bool a1_4) := (blk_cell BK108.out 4).trans rfl
      have hcz36_5 : w5.cell? ⟨gb108, 5, none⟩ = some (.bool a1_5) := (blk_cell BK108.out 5).trans rfl
      have hcz36_6 : w5.cell? ⟨gb108, 6, none⟩ = some (.bool a1_6) := (blk_cell BK108.out 6).trans rfl
      have hcz36_7 : w5.cell? ⟨gb108, 7, none⟩ = some (.bool a1_7) := (blk_cell BK108.out 7).trans rfl
      have hcz36_8 : w5.cell? ⟨gb108, 8, none⟩ = some (.bool a1_8) := (blk_cell BK108.out 8).trans rfl
      have hcz36_9 : w5.cell? ⟨gb108, 9, none⟩ = some (.bool a1_9) := (blk_cell BK108.out 9).trans rfl
      have hcz36_10 : w5.cell? ⟨gb108, 10, none⟩ = some (.bool a1_10) := (blk_cell BK108.out 10).trans rfl
      have hcz36_11 : w5.cell? ⟨gb108, 11, none⟩ = some (.int .i64 a1_11) := (blk_cell BK108.out 11).trans rfl
      have hcz36_12 : w5.cell? ⟨gb108, 12, none⟩ = some (.string a1_12) := (blk_cell BK108.out 12).trans rfl
      have hcz36_13 : w5.cell? ⟨gb108, 13, none⟩ = some (.int .i64 a1_13) := (blk_cell BK108.out 13).trans rfl
      have hcz36_14 : w5.cell? ⟨gb108, 14, none⟩ = some (.slice A1_14 l1_14.length c1_14) := (blk_cell BK108.out 14).trans rfl
      have hcz36_15 : w5.cell? ⟨gb108, 15, none⟩ = some (.slice A1_15 l1_15.length c1_15) := (blk_cell BK108.out 15).trans rfl
      have hcz36_16 : w5.cell? ⟨gb108, 16, none⟩ = some (.slice A1_16 l1_16.length c1_16) := (blk_cell BK108.out 16).trans rfl
      have hfz36_0 := blk_frozen BK108.out 0
      have hfz36_1 := blk_frozen BK108.out 1
      have hfz36_2 := blk_frozen BK108.out 2
      have hfz36_3 := blk_frozen BK108.out 3
      have hfz36_4 := blk_frozen BK108.out 4
      have hfz36_5 := blk_frozen BK108.out 5
      have hfz36_6 := blk_frozen BK108.out 6
      have hfz36_7 := blk_frozen BK108.out 7
      have hfz36_8 := blk_frozen BK108.out 8
      have hfz36_9 := blk_frozen BK108.out 9
      have hfz36_10 := blk_frozen BK108.out 10
      have hfz36_11 := blk_frozen BK108.out 11
      have hfz36_12 := blk_frozen BK108.out 12
      have hfz36_13 := blk_frozen BK108.out 13
      have hfz36_14 := blk_frozen BK108.out 14
      have hfz36_15 := blk_frozen BK108.out 15
      have hfz36_16 := blk_frozen BK108.out 16
      go_wp2
      refine Met.intro ?_
      go_step
      (repeat apply Exists.intro)
      refine ⟨?rel, ?heq_⟩
      case heq_ => first | rfl | (rw [c6b0]) | (simp only [c6b0])
      case rel => exact ⟨_, (true), (by first | rfl | (simp; done) | (simp [*]; done) | ((try simp only [Bool.not_not]); (generalize ByteArray.toList _ = l_); cases l_ <;> rfl) | (simp; (generalize ByteArray.toList _ = l_); cases l_ <;> rfl)), H', ⟨by first | omega | exact Nat.le_refl _⟩, ⟨by (with_reducible repeat (first | refine blk_drewN ?_ _ | refine blk_drew ?_ | refine blk_alloc ?_ _)); exact BK107.out⟩, ⟨by (with_reducible repeat (first | refine blk_drewN ?_ _ | refine blk_drew ?_ | refine blk_alloc ?_ _)); exact BK108.out⟩, ⟨by repeat (first | (with_reducible first | exact HB.out | apply below_alloc | apply pw_below_drewN | apply below_drew1 | refine below_set ?_ GE107.out | refine below_set ?_ GE108.out) | exact HB.out)⟩⟩
  case rest =>
    clear HC3
    try clear c1
    try clear c2
    try clear p2
    try clear c3
    try clear c6
    try clear c6b0
    try clear c6b1
    try clear c7
    try clear c7b0
    try clear c7b1
    try clear c8
    try clear c8b0
    try clear c8b1
    try clear c9
    try clear c9b0
    try clear c9b1
    try clear c9b2
    try clear c13
    try clear c13b0
    try clear c13b1
    try clear c13b2
    try clear c14
    try clear c17
    try clear c17b0
    try clear c17b1
    try clear c17b2
    try clear c18
    try clear c21
    try clear c21b0
    try clear c21b1
    try clear c21b2
    try clear c22
    try clear c25
    try clear c28
    try clear c31
    try clear c34
    try clear hcz12_15
    try clear hcz12_16
    try clear hcz15_0
    try clear hcz15_1
    try clear hcz15_10
    try clear hcz15_11
    try clear hcz15_12
    try clear hcz15_13
    try clear hcz15_14
    try clear hcz15_15
    try clear hcz15_16
    try clear hcz15_2
    try clear hcz15_3
    try clear hcz15_4
    try clear hcz15_5
    try clear hcz15_6
    try clear hcz15_7
    try clear hcz15_8
    try clear hcz15_9
    try clear hcz16_0
    try clear hcz16_1
    try clear hcz16_10
    try clear hcz16_11
    try clear hcz16_12
    try clear hcz16_13
    try clear hcz16_14
    try clear hcz16_15
    try clear hcz16_16
    try clear hcz16_2
    try clear hcz16_3
    try clear hcz16_4
    try clear hcz16_5
    try clear hcz16_6
    try clear hcz16_7
    try clear hcz16_8
    try clear hcz16_9
    try clear hcz19_0
    try clear hcz19_1
    try clear hcz19_10
    try clear hcz19_11
    try clear hcz19_12
    try clear hcz19_13
    try clear hcz19_14
    try clear hcz19_15
    try clear hcz19_16
    try clear hcz19_2
    try clear hcz19_3
    try clear hcz19_4
    try clear hcz19_5
    try clear hcz19_6
    try clear hcz19_7
    try clear hcz19_8
    try clear hcz19_9
    try clear hcz20_0
    try clear hcz20_1
    try clear hcz20_10
    try clear hcz20_11
    try clear hcz20_12
    try clear hcz20_13
    try clear hcz20_14
    try clear hcz20_15
    try clear hcz20_16
    try clear hcz20_2
    try clear hcz20_3
    try clear hcz20_4
    try clear hcz20_5
    try clear hcz20_6
    try clear hcz20_7
    try clear hcz20_8
    try clear hcz20_9
    try clear hcz23_0
    try clear hcz23_1
    try clear hcz23_10
    try clear hcz23_11
    try clear hcz23_12
    try clear hcz23_13
    try clear hcz23_14
    try clear hcz23_15
    try clear hcz23_16
    try clear hcz23_2
    try clear hcz23_3
    try clear hcz23_4
    try clear hcz23_5
    try clear hcz23_6
    try clear hcz23_7
    try clear hcz23_8
    try clear hcz23_9
    try clear hcz24_0
    try clear hcz24_1
    try clear hcz24_10
    try clear hcz24_11
    try clear hcz24_12
    try clear hcz24_13
    try clear hcz24_14
    try clear hcz24_15
    try clear hcz24_16
    try clear hcz24_2
    try clear hcz24_3
    try clear hcz24_4
    try clear hcz24_5
    try clear hcz24_6
    try clear hcz24_7
    try clear hcz24_8
    try clear hcz24_9
    try clear hcz26_0
    try clear hcz26_1
    try clear hcz26_10
    try clear hcz26_11
    try clear hcz26_12
    try clear hcz26_13
    try clear hcz26_14
    try clear hcz26_15
    try clear hcz26_16
    try clear hcz26_2
    try clear hcz26_3
    try clear hcz26_4
    try clear hcz26_5
    try clear hcz26_6
    try clear hcz26_7
    try clear hcz26_8
    try clear hcz26_9
    try clear hcz27_0
    try clear hcz27_1
    try clear hcz27_10
    try clear hcz27_11
    try clear hcz27_12
    try clear hcz27_13
    try clear hcz27_14
    try clear hcz27_15
    try clear hcz27_16
    try clear hcz27_2
    try clear hcz27_3
    try clear hcz27_4
    try clear hcz27_5
    try clear hcz27_6
    try clear hcz27_7
    try clear hcz27_8
    try clear hcz27_9
    try clear hcz29_0
    try clear hcz29_1
    try clear hcz29_10
    try clear hcz29_11
    try clear hcz29_12
    try clear hcz29_13
    try clear hcz29_14
    try clear hcz29_15
    try clear hcz29_16
    try clear hcz29_2
    try clear hcz29_3
    try clear hcz29_4
    try clear hcz29_5
    try clear hcz29_6
    try clear hcz29_7
    try clear hcz29_8
    try clear hcz29_9
    try clear hcz30_0
    try clear hcz30_1
    try clear hcz30_10
    try clear hcz30_11
    try clear hcz30_12
    try clear hcz30_13
    try clear hcz30_14
    try clear hcz30_15
    try clear hcz30_16
    try clear hcz30_2
    try clear hcz30_3
    try clear hcz30_4
    try clear hcz30_5
    try clear hcz30_6
    try clear hcz30_7
    try clear hcz30_8
    try clear hcz30_9
    try clear hcz32_0
    try clear hcz32_1
    try clear hcz32_10
    try clear hcz32_11
    try clear hcz32_12
    try clear hcz32_13
    try clear hcz32_14
    try clear hcz32_15
    try clear hcz32_16
    try clear hcz32_2
    try clear hcz32_3
    try clear hcz32_4
    try clear hcz32_5
    try clear hcz32_6
    try clear hcz32_7
    try clear hcz32_8
    try clear hcz32_9
    try clear hcz33_0
    try clear hcz33_1
    try clear hcz33_10
    try clear hcz33_11
    try clear hcz33_12
    try clear hcz33_13
    try clear hcz33_14
    try clear hcz33_15
    try clear hcz33_16
    try clear hcz33_2
    try clear hcz33_3
    try clear hcz33_4
    try clear hcz33_5
    try clear hcz33_6
    try clear hcz33_7
    try clear hcz33_8
    try clear hcz33_9
    try clear hcz35_0
    try clear hcz35_1
    try clear hcz35_10
    try clear hcz35_11
    try clear hcz35_12
    try clear hcz35_13
    try clear hcz35_14
    try clear hcz35_15
    try clear hcz35_16
    try clear hcz35_2
    try clear hcz35_3
    try clear hcz35_4
    try clear hcz35_5
    try clear hcz35_6
    try clear hcz35_7
    try clear hcz35_8
    try clear hcz35_9
    try clear hcz36_0
    try clear hcz36_1
    try clear hcz36_10
    try clear hcz36_11
    try clear hcz36_12
    try clear hcz36_13
    try clear hcz36_14
    try clear hcz36_15
    try clear hcz36_16
    try clear hcz36_2
    try clear hcz36_3
    try clear hcz36_4
    try clear hcz36_5
    try clear hcz36_6
    try clear hcz36_7
    try clear hcz36_8
    try clear hcz36_9
    try clear hfz12_0
    try clear hfz12_1
    try clear hfz12_10
    try clear hfz12_11
    try clear hfz12_12
    try clear hfz12_13
    try clear hfz12_14
    try clear hfz12_15
    try clear hfz12_16
    try clear hfz12_2
    try clear hfz12_3
    try clear hfz12_4
    try clear hfz12_5
    try clear hfz12_6
    try clear hfz12_7
    try clear hfz12_8
    try clear hfz12_9
    try clear hfz15_0
    try clear hfz15_1
    try clear hfz15_10
    try clear hfz15_11
    try clear hfz15_12
    try clear hfz15_13
    try clear hfz15_14
    try clear hfz15_15
    try clear hfz15_16
    try clear hfz15_2
    try clear hfz15_3
    try clear hfz15_4
    try clear hfz15_5
    try clear hfz15_6
    try clear hfz15_7
    try clear hfz15_8
    try clear hfz15_9
    try clear hfz16_0
    try clear hfz16_1
    try clear hfz16_10
    try clear hfz16_11
    try clear hfz16_12
    try clear hfz16_13
    try clear hfz16_14
    try clear hfz16_15
    try clear hfz16_16
    try clear hfz16_2
    try clear hfz16_3
    try clear hfz16_4
    try clear hfz16_5
    try clear hfz16_6
    try clear hfz16_7
    try clear hfz16_8
    try clear hfz16_9
    try clear hfz19_0
    try clear hfz19_1
    try clear hfz19_10
    try clear hfz19_11
    try clear hfz19_12
    try clear hfz19_13
    try clear hfz19_14
    try clear hfz19_15
    try clear hfz19_16
    try clear hfz19_2
    try clear hfz19_3
    try clear hfz19_4
    try clear hfz19_5
    try clear hfz19_6
    try clear hfz19_7
    try clear hfz19_8
    try clear hfz19_9
    try clear hfz20_0
    try clear hfz20_1
    try clear hfz20_10
    try clear hfz20_11
    try clear hfz20_12
    try clear hfz20_13
    try clear hfz20_14
    try clear hfz20_15
    try clear hfz20_16
    try clear hfz20_2
    try clear hfz20_3
    try clear hfz20_4
    try clear hfz20_5
    try clear hfz20_6
    try clear hfz20_7
    try clear hfz20_8
    try clear hfz20_9
    try clear hfz23_0
    try clear hfz23_1
    try clear hfz23_10
    try clear hfz23_11
    try clear hfz23_12
    try clear hfz23_13
    try clear hfz23_14
    try clear hfz23_15
    try clear hfz23_16
    try clear hfz23_2
    try clear hfz23_3
    try clear hfz23_4
    try clear hfz23_5
    try clear hfz23_6
    try clear hfz23_7
    try clear hfz23_8
    try clear hfz23_9
    try clear hfz24_0
    try clear hfz24_1
    try clear hfz24_10
    try clear hfz24_11
    try clear hfz24_12
    try clear hfz24_13
    try clear hfz24_14
    try clear hfz24_15
    try clear hfz24_16
    try clear hfz24_2
    try clear hfz24_3
    try clear hfz24_4
    try clear hfz24_5
    try clear hfz24_6
    try clear hfz24_7
    try clear hfz24_8
    try clear hfz24_9
    try clear hfz26_0
    try clear hfz26_1
    try clear hfz26_10
    try clear hfz26_11
    try clear hfz26_12
    try clear hfz26_13
    try clear hfz26_14
    try clear hfz26_15
    try clear hfz26_16
    try clear hfz26_2
    try clear hfz26_3
    try clear hfz26_4
    try clear hfz26_5
    try clear hfz26_6
    try clear hfz26_7
    try clear hfz26_8
    try clear hfz26_9
    try clear hfz27_0
    try clear hfz27_1
    try clear hfz27_10
    try clear hfz27_11
    try clear hfz27_12
    try clear hfz27_13
    try clear hfz27_14
    try clear hfz27_15
    try clear hfz27_16
    try clear hfz27_2
    try clear hfz27_3
    try clear hfz27_4
    try clear hfz27_5
    try clear hfz27_6
    try clear hfz27_7
    try clear hfz27_8
    try clear hfz27_9
    try clear hfz29_0
    try clear hfz29_1
    try clear hfz29_10
    try clear hfz29_11
    try clear hfz29_12
    try clear hfz29_13
    try clear hfz29_14
    try clear hfz29_15
    try clear hfz29_16
    try clear hfz29_2
    try clear hfz29_3
    try clear hfz29_4
    try clear hfz29_5
    try clear hfz29_6
    try clear hfz29_7
    try clear hfz29_8
    try clear hfz29_9
    try clear hfz30_0
    try clear hfz30_1
    try clear hfz30_10
    try clear hfz30_11
    try clear hfz30_12
    try clear hfz30_13
    try clear hfz30_14
    try clear hfz30_15
    try clear hfz30_16
    try clear hfz30_2
    try clear hfz30_3
    try clear hfz30_4
    try clear hfz30_5
    try clear hfz30_6
    try clear hfz30_7
    try clear hfz30_8
    try clear hfz30_9
    try clear hfz32_0
    try clear hfz32_1
    try clear hfz32_10
    try clear hfz32_11
    try clear hfz32_12
    try clear hfz32_13
    try clear hfz32_14
    try clear hfz32_15
    try clear hfz32_16
    try clear hfz32_2
    try clear hfz32_3
    try clear hfz32_4
    try clear hfz32_5
    try clear hfz32_6
    try clear hfz32_7
    try clear hfz32_8
    try clear hfz32_9
    try clear hfz33_0
    try clear hfz33_1
    try clear hfz33_10
    try clear hfz33_11
    try clear hfz33_12
    try clear hfz33_13
    try clear hfz33_14
    try clear hfz33_15
    try clear hfz33_16
    try clear hfz33_2
    try clear hfz33_3
    try clear hfz33_4
    try clear hfz33_5
    try clear hfz33_6
    try clear hfz33_7
    try clear hfz33_8
    try clear hfz33_9
    try clear hfz35_0
    try clear hfz35_1
    try clear hfz35_10
    try clear hfz35_11
    try clear hfz35_12
    try clear hfz35_13
    try clear hfz35_14
    try clear hfz35_15
    try clear hfz35_16
    try clear hfz35_2
    try clear hfz35_3
    try clear hfz35_4
    try clear hfz35_5
    try clear hfz35_6
    try clear hfz35_7
    try clear hfz35_8
    try clear hfz35_9
    try clear hfz36_0
    try clear hfz36_1
    try clear hfz36_10
    try clear hfz36_11
    try clear hfz36_12
    try clear hfz36_13
    try clear hfz36_14
    try clear hfz36_15
    try clear hfz36_16
    try clear hfz36_2
    try clear hfz36_3
    try clear hfz36_4
    try clear hfz36_5
    try clear hfz36_6
    try clear hfz36_7
    try clear hfz36_8
    try clear hfz36_9
    obtain ⟨kq, x58_2, rfl, HA, HJ2, BK107, BK108, HB⟩ := hcut
    cases kq with
    | zero => exact absurd HA.out (by simp [ddilaw08_same.j0])
    | succ kj2 =>
      have H := HA.out
      clear HA
      simp only [ddilaw08_same.j0] at H
      by_cases c37 : x58_2 = true
      · subst c37
        have H1 : (some false) = some r := by rw [if_pos rfl] at H; exact H
        clear H
        have H := H1
        clear H1
        obtain rfl := Option.some.inj H
        go_wp2
        go_ret
        exact ⟨by first | rfl | (simp [errW_none, errW_some] <;> rfl) | (simp [*, errW_none, errW_some] <;> rfl), by repeat (first | (with_reducible first | exact HB.out | apply below_alloc | apply pw_below_drewN | apply below_drew1 | refine below_set ?_ GE107.out | refine below_set ?_ GE108.out) | exact HB.out)⟩
      · replace c37 := Bool.eq_false_iff.mpr c37
        subst c37
        have H1 : (if (a0_8 != a1_8) = true then (ddilaw08_same.j1 kj2 true a0_0 a0_1 a0_2 a0_3 a0_4 a0_5 a0_6 a0_7 a0_8 a0_9 a0_10 a0_11 a0_12 a0_13 l0_14 l0_15 l0_16 a1_0 a1_1 a1_2 a1_3 a1_4 a1_5 a1_6 a1_7 a1_8 a1_9 a1_10 a1_11 a1_12 a1_13 l1_14 l1_15 l1_16) else (if (a0_9 != a1_9) = true then (ddilaw08_same.j1 kj2 true a0_0 a0_1 a0_2 a0_3 a0_4 a0_5 a0_6 a0_7 a0_8 a0_9 a0_10 a0_11 a0_12 a0_13 l0_14 l0_15 l0_16 a1_0 a1_1 a1_2 a1_3 a1_4 a1_5 a1_6 a1_7 a1_8 a1_9 a1_10 a1_11 a1_12 a1_13 l1_14 l1_15 l1_16) else (if (a0_10 != a1_10) = true then (ddilaw08_same.j1 kj2 true a0_0 a0_1 a0_2 a0_3 a0_4 a0_5 a0_6 a0_7 a0_8 a0_9 a0_10 a0_11 a0_12 a0_13 l0_14 l0_15 l0_16 a1_0 a1_1 a1_2 a1_3 a1_4 a1_5 a1_6 a1_7 a1_8 a1_9 a1_10 a1_11 a1_12 a1_13 l1_14 l1_15 l1_16) else (if a0_11 = a1_11 then (ddilaw08_same.j1 kj2 (!(a0_12.toList == a1_12.toList) || (!(a0_13 == a1_13))) a0_0 a0_1 a0_2 a0_3 a0_4 a0_5 a0_6 a0_7 a0_8 a0_9 a0_10 a0_11 a0_12 a0_13 l0_14 l0_15 l0_16 a1_0 a1_1 a1_2 a1_3 a1_4 a1_5 a1_6 a1_7 a1_8 a1_9 a1_10 a1_11 a1_12 a1_13 l1_14 l1_15 l1_16) else (ddilaw08_same.j1 kj2 true a0_0 a0_1 a0_2 a0_3 a0_4 a0_5 a0_6 a0_7 a0_8 a0_9 a0_10 a0_11 a0_12 a0_13 l0_14 l0_15 l0_16 a1_0 a1_1 a1_2 a1_3 a1_4 a1_5 a1_6 a1_7 a1_8 a1_9 a1_10 a1_11 a1_12 a1_13 l1_14 l1_15 l1_16))))) = some r := by rw [if_neg (show ¬ (false = true) by decide)] at H; exact H
        clear H
        have H := H1
        clear H1
        have HC38 := Aside0.mk H
        clear H
        go_upto_region 3 with (fail)
        go_cut [91] (fun v91 wc => ∃ (kq : Nat) (x91_37 : Bool), v91 = .bool x91_37 ∧ Aside0 (ddilaw08_same.j1 kq x91_37 a0_0 a0_1 a0_2 a0_3 a0_4 a0_5 a0_6 a0_7 a0_8 a0_9 a0_10 a0_11 a0_12 a0_13 l0_14 l0_15 l0_16 a1_0 a1_1 a1_2 a1_3 a1_4 a1_5 a1_6 a1_7 a1_8 a1_9 a1_10 a1_11 a1_12 a1_13 l1_14 l1_15 l1_16 = some r) ∧ Aside0 (kq ≤ kj2) ∧ Aside0 (wc.heap[gb107]? = some (.cells #[.int .i64 a0_0, .int .i64 a0_1, .int .i64 a0_2, .bool a0_3, .bool a0_4, .bool a0_5, .bool a0_6, .bool a0_7, .bool a0_8, .bool a0_9, .bool a0_10, .int .i64 a0_11, .string a0_12, .int .i64 a0_13, (.slice A0_14 l0_14.length c0_14), (.slice A0_15 l0_15.length c0_15), (.slice A0_16 l0_16.length c0_16)] 26 (0, 0))) ∧ Aside0 (wc.heap[gb108]? = some (.cells #[.int .i64 a1_0, .int .i64 a1_1, .int .i64 a1_2, .bool a1_3, .bool a1_4, .bool a1_5, .bool a1_6, .bool a1_7, .bool a1_8, .bool a1_9, .bool a1_10, .int .i64 a1_11, .string a1_12, .int .i64 a1_13, (.slice A1_14 l1_14.length c1_14), (.slice A1_15 l1_15.length c1_15), (.slice A1_16 l1_16.length c1_16)] 26 (0, 0))) ∧ Aside0 (Below w.heap.size w wc))
        case first =>
          have H := HC38.out
          clear HC38
          by_cases c39 : (a0_8 != a1_8) = true
          · rw [if_pos c39] at H
            have c39b0 : (a0_8 != a1_8) = true := c39
            (try (have c39b1 : decide (a0_8 = a1_8) = false := by simpa using c39))
            (try (have c39b2 : (a0_8 == a1_8) = false := by simpa using c39))
            (try (have c39b3 : ¬ (a0_8 = a1_8) := by simpa using c39))
            clear c39
            (first | rw [c39b0] | (simp only [i64_w, i32_w]; rw [c39b0]) | skip)
            have H' := Aside0.mk H
            clear H
            have hnb40 := NB107_108.out
            have hnc40 := NB108_107.out
            have hcz41_0 : wc.cell? ⟨gb107, 0, none⟩ = some (.int .i64 a0_0) := (blk_cell BK107.out 0).trans rfl
            have hcz41_1 : wc.cell? ⟨gb107, 1, none⟩ = some (.int .i64 a0_1) := (blk_cell BK107.out 1).trans rfl
            have hcz41_2 : wc.cell? ⟨gb107, 2, none⟩ = some (.int .i64 a0_2) := (blk_cell BK107.out 2).trans rfl
            have hcz41_3 : wc.cell? ⟨gb107, 3, none⟩ = some (.bool a0_3) := (blk_cell BK107.out 3).trans rfl
            have hcz41_4 : wc.cell? ⟨gb107, 4, none⟩ = some (.bool a0_4) := (blk_cell BK107.out 4).trans rfl
            have hcz41_5 : wc.cell? ⟨gb107, 5, none⟩ = some (.bool a0_5) := (blk_cell BK107.out 5).trans rfl
            have hcz41_6 : wc.cell? ⟨gb107, 6, none⟩ = some (.bool a0_6) := (blk_cell BK107.out 6).trans rfl
            have hcz41_7 : wc.cell? ⟨gb107, 7, none⟩ = some (.bool a0_7) := (blk_cell BK107.out 7).trans rfl
            have hcz41_8 : wc.cell? ⟨gb107, 8, none⟩ = some (.bool a0_8) := (blk_cell BK107.out 8).trans rfl
            have hcz41_9 : wc.cell? ⟨gb107, 9, none⟩ = some (.bool a0_9) := (blk_cell BK107.out 9).trans rfl
            have hcz41_10 : wc.cell? ⟨gb107, 10, none⟩ = some (.bool a0_10) := (blk_cell BK107.out 10).trans rfl
            have hcz41_11 : wc.cell? ⟨gb107, 11, none⟩ = some (.int .i64 a0_11) := (blk_cell BK107.out 11).trans rfl
            have hcz41_12 : wc.cell? ⟨gb107, 12, none⟩ = some (.string a0_12) := (blk_cell BK107.out 12).trans rfl
            have hcz41_13 : wc.cell? ⟨gb107, 13, none⟩ = some (.int .i64 a0_13) := (blk_cell BK107.out 13).trans rfl
            have hcz41_14 : wc.cell? ⟨gb107, 14, none⟩ = some (.slice A0_14 l0_14.length c0_14) := (blk_cell BK107.out 14).trans rfl
            have hcz41_15 : wc.cell? ⟨gb107, 15, none⟩ = some (.slice A0_15 l0_15.length c0_15) := (blk_cell BK107.out 15).trans rfl
            have hcz41_16 : wc.cell? ⟨gb107, 16, none⟩ = some (.slice A0_16 l0_16.length c0_16) := (blk_cell BK107.out 16).trans rfl
            have hfz41_0 := blk_frozen BK107.out 0
            have hfz41_1 := blk_frozen BK107.out 1
            have hfz41_2 := blk_frozen BK107.out 2
            have hfz41_3 := blk_frozen BK107.out 3
            have hfz41_4 := blk_frozen BK107.out 4
            have hfz41_5 := blk_frozen BK107.out 5
            have hfz41_6 := blk_frozen BK107.out 6
            have hfz41_7 := blk_frozen BK107.out 7
            have hfz41_8 := blk_frozen BK107.out 8
            have hfz41_9 := blk_frozen BK107.out 9
            have hfz41_10 := blk_frozen BK107.out 10
            have hfz41_11 := blk_frozen BK107.out 11
            have hfz41_12 := blk_frozen BK107.out 12
            have hfz41_13 := blk_frozen BK107.out 13
            have hfz41_14 := blk_frozen BK107.out 14
            have hfz41_15 := blk_frozen BK107.out 15
            have hfz41_16 := blk_frozen BK107.out 16
            have hcz42_0 : wc.cell? ⟨gb108, 0, none⟩ = some (.int .i64 a1_0) := (blk_cell BK108.out 0).trans rfl
            have hcz42_1 : wc.cell? ⟨gb108, 1, none⟩ = some (.int .i64 a1_1) := (blk_cell BK108.out 1).trans rfl
            have hcz42_2 : wc.cell? ⟨gb108, 2, none⟩ = some (.int .i64 a1_2) := (blk_cell BK108.out 2).trans rfl
            have hcz42_3 : wc.cell? ⟨gb108, 3, none⟩ = some (.bool a1_3) := (blk_cell BK108.out 3).trans rfl
            have hcz42_4 : wc.cell? ⟨gb108, 4, none⟩ = some (.bool a1_4) := (blk_cell BK108.out 4).trans rfl
            have hcz42_5 : wc.cell? ⟨gb108, 5, none⟩ = some (.bool a1_5) := (blk_cell BK108.out 5).trans rfl
            have hcz42_6 : wc.cell? ⟨gb108, 6, none⟩ = some (.bool a1_6) := (blk_cell BK108.out 6).trans rfl
            have hcz42_7 : wc.cell? ⟨gb108, 7, none⟩ = some (.bool a1_7) := (blk_cell BK108.out 7).trans rfl
            have hcz42_8 : wc.cell? ⟨gb108, 8, none⟩ = some (.bool a1_8) := (blk_cell BK108.out 8).trans rfl
            have hcz42_9 : wc.cell? ⟨gb108, 9, none⟩ = some (.bool a1_9) := (blk_cell BK108.out 9).trans rfl
            have hcz42_10 : wc.cell? ⟨gb108, 10, none⟩ = some (.bool a1_10) := (blk_cell BK108.out 10).trans rfl
            have hcz42_11 : wc.cell? ⟨gb108, 11, none⟩ = some (.int .i64 a1_11) := (blk_cell BK108.out 11).trans rfl
            have hcz42_12 : wc.cell? ⟨gb108, 12, none⟩ = some (.string a1_12) := (blk_cell BK108.out 12).trans rfl
            have hcz42_13 : wc.cell? ⟨gb108, 13, none⟩ = some (.int .i64 a1_13) := (blk_cell BK108.out 13).trans rfl
            have hcz42_14 : wc.cell? ⟨gb108, 14, none⟩ = some (.slice A1_14 l1_14.length c1_14) := (blk_cell BK108.out 14).trans rfl
            have hcz42_15 : wc.cell? ⟨gb108, 15, none⟩ = some (.slice A1_15 l1_15.length c1_15) := (blk_cell BK108.out 15).trans rfl
            have hcz42_16 : wc.cell? ⟨gb108, 16, none⟩ = some (.slice A1_16 l1_16.length c1_16) := (blk_cell BK108.out 16).trans rfl
            have hfz42_0 := blk_frozen BK108.out 0
            have hfz42_1 := blk_frozen BK108.out 1
            have hfz42_2 := blk_frozen BK108.out 2
            have hfz42_3 := blk_frozen BK108.out 3
            have hfz42_4 := blk_frozen BK108.out 4
            have hfz42_5 := blk_frozen BK108.out 5
            have hfz42_6 := blk_frozen BK108.out 6
            have hfz42_7 := blk_frozen BK108.out 7
            have hfz42_8 := blk_frozen BK108.out 8
            have hfz42_9 := blk_frozen BK108.out 9
            have hfz42_10 := blk_frozen BK108.out 10
            have hfz42_11 := blk_frozen BK108.out 11
            have hfz42_12 := blk_frozen BK108.out 12
            have hfz42_13 := blk_frozen BK108.out 13
            have hfz42_14 := blk_frozen BK108.out 14
            have hfz42_15 := blk_frozen BK108.out 15
            have hfz42_16 := blk_frozen BK108.out 16
            go_wp2
            refine Met.intro ?_
            go_step
            (repeat apply Exists.intro)
            refine ⟨?rel, ?heq_⟩
            case heq_ => first | rfl | (rw [c39b0]) | (simp only [c39b0])
            case rel => exact ⟨_, (true), (by first | rfl | (simp; done) | (simp [*]; done) | ((try simp only [Bool.not_not]); (generalize ByteArray.toList _ = l_); cases l_ <;> rfl) | (simp; (generalize ByteArray.toList _ = l_); cases l_ <;> rfl)), H', ⟨by have := HJ2.out; first | omega | exact Nat.le_refl _⟩, ⟨by (with_reducible repeat (first | refine blk_drewN ?_ _ | refine blk_drew ?_ | refine blk_alloc ?_ _)); exact BK107.out⟩, ⟨by (with_reducible repeat (first | refine blk_drewN ?_ _ | refine blk_drew ?_ | refine blk_alloc ?_ _)); exact BK108.out⟩, ⟨by repeat (first | (with_reducible first | exact HB.out | apply below_alloc | apply pw_below_drewN | apply below_drew1 | refine below_set ?_ GE107.out | refine below_set ?_ GE108.out) | exact HB.out)⟩⟩
          · rw [if_neg c39] at H
            have c39b0 : (a0_8 != a1_8) = false := by simpa using c39
            (try (have c39b1 : decide (a0_8 = a1_8) = true := by simpa using c39))
            (try (have c39b2 : (a0_8 == a1_8) = true := by simpa using c39))
            clear c39
            (first | rw [c39b0] | (simp only [i64_w, i32_w]; rw [c39b0]) | skip)
            by_cases c43 : (a0_9 != a1_9) = true
            · rw [if_pos c43] at H
              have c43b0 : (a0_9 != a1_9) = true := c43
              (try (have c43b1 : decide (a0_9 = a1_9) = false := by simpa using c43))
              (try (have c43b2 : (a0_9 == a1_9) = false := by simpa using c43))
              (try (have c43b3 : ¬ (a0_9 = a1_9) := by simpa using c43))
              clear c43
              have H' := Aside0.mk H
              clear H
              have hnb44 := NB107_108.out
              have hnc44 := NB108_107.out
              have hcz45_0 : wc.cell? ⟨gb107, 0, none⟩ = some (.int .i64 a0_0) := (blk_cell BK107.out 0).trans rfl
              have hcz45_1 : wc.cell? ⟨gb107, 1, none⟩ = some (.int .i64 a0_1) := (blk_cell BK107.out 1).trans rfl
              have hcz45_2 : wc.cell? ⟨gb107, 2, none⟩ = some (.int .i64 a0_2) := (blk_cell BK107.out 2).trans rfl
              have hcz45_3 : wc.cell? ⟨gb107, 3, none⟩ = some (.bool a0_3) := (blk_cell BK107.out 3).trans rfl
              have hcz45_4 : wc.cell? ⟨gb107, 4, none⟩ = some (.bool a0_4) := (blk_cell BK107.out 4).trans rfl
              have hcz45_5 : wc.cell? ⟨gb107, 5, none⟩ = some (.bool a0_5) := (blk_cell BK107.out 5).trans rfl
              have hcz45_6 : wc.cell? ⟨gb107, 6, none⟩ = some (.bool a0_6) := (blk_cell BK107.out 6).trans rfl
              have hcz45_7 : wc.cell? ⟨gb107, 7, none⟩ = some (.bool a0_7) := (blk_cell BK107.out 7).trans rfl
              have hcz45_8 : wc.cell? ⟨gb107, 8, none⟩ = some (.bool a0_8) := (blk_cell BK107.out 8).trans rfl
              have hcz45_9 : wc.cell? ⟨gb107, 9, none⟩ = some (.bool a0_9) := (blk_cell BK107.out 9).trans rfl
              have hcz45_10 : wc.cell? ⟨gb107, 10, none⟩ = some (.bool a0_10) := (blk_cell BK107.out 10).trans rfl
              have hcz45_11 : wc.cell? ⟨gb107, 11, none⟩ = some (.int .i64 a0_11) := (blk_cell BK107.out 11).trans rfl
              have hcz45_12 : wc.cell? ⟨gb107, 12, none⟩ = some (.string a0_12) := (blk_cell BK107.out 12).trans rfl
              have hcz45_13 : wc.cell? ⟨gb107, 13, none⟩ = some (.int .i64 a0_13) := (blk_cell BK107.out 13).trans rfl
              have hcz45_14 : wc.cell? ⟨gb107, 14, none⟩ = some (.slice A0_14 l0_14.length c0_14) := (blk_cell BK107.out 14).trans rfl
              have hcz45_15 : wc.cell? ⟨gb107, 15, none⟩ = some (.slice A0_15 l0_15.length c0_15) := (blk_cell BK107.out 15).trans rfl
              have hcz45_16 : wc.cell? ⟨gb107, 16, none⟩ = some (.slice A0_16 l0_16.length c0_16) := (blk_cell BK107.out 16).trans rfl
              have hfz45_0 := blk_frozen BK107.out 0
              have hfz45_1 := blk_frozen BK107.out 1
              have hfz45_2 := blk_frozen BK107.out 2
              have hfz45_3 := blk_frozen BK107.out 3
              have hfz45_4 := blk_frozen BK107.out 4
              have hfz45_5 := blk_frozen BK107.out 5
              have hfz45_6 := blk_frozen BK107.out 6
              have hfz45_7 := blk_frozen BK107.out 7
              have hfz45_8 := blk_frozen BK107.out 8
              have hfz45_9 := blk_frozen BK107.out 9
              have hfz45_10 := blk_frozen BK107.out 10
              have hfz45_11 := blk_frozen BK107.out 11
              have hfz45_12 := blk_frozen BK107.out 12
              have hfz45_13 := blk_frozen BK107.out 13
              have hfz45_14 := blk_frozen BK107.out 14
              have hfz45_15 := blk_frozen BK107.out 15
              have hfz45_16 := blk_frozen BK107.out 16
              have hcz46_0 : wc.cell? ⟨gb108, 0, none⟩ = some (.int .i64 a1_0) := (blk_cell BK108.out 0).trans rfl
              have hcz46_1 : wc.cell? ⟨gb108, 1, none⟩ = some (.int .i64 a1_1) := (blk_cell BK108.out 1).trans rfl
              have hcz46_2 : wc.cell? ⟨gb108, 2, none⟩ = some (.int .i64 a1_2) := (blk_cell BK108.out 2).trans rfl
              have hcz46_3 : wc.cell? ⟨gb108, 3, none⟩ = some (.bool a1_3) := (blk_cell BK108.out 3).trans rfl
              have hcz46_4 : wc.cell? ⟨gb108, 4, none⟩ = some (.bool a1_4) := (blk_cell BK108.out 4).trans rfl
              have hcz46_5 : wc.cell? ⟨gb108, 5, none⟩ = some (.bool a1_5) := (blk_cell BK108.out 5).trans rfl
              have hcz46_6 : wc.cell? ⟨gb108, 6, none⟩ = some (.bool a1_6) := (blk_cell BK108.out 6).trans rfl
              have hcz46_7 : wc.cell? ⟨gb108, 7, none⟩ = some (.bool a1_7) := (blk_cell BK108.out 7).trans rfl
              have hcz46_8 : wc.cell? ⟨gb108, 8, none⟩ = some (.bool a1_8) := (blk_cell BK108.out 8).trans rfl
              have hcz46_9 : wc.cell? ⟨gb108, 9, none⟩ = some (.bool a1_9) := (blk_cell BK108.out 9).trans rfl
              have hcz46_10 : wc.cell? ⟨gb108, 10, none⟩ = some (.bool a1_10) := (blk_cell BK108.out 10).trans rfl
              have hcz46_11 : wc.cell? ⟨gb108, 11, none⟩ = some (.int .i64 a1_11) := (blk_cell BK108.out 11).trans rfl
              have hcz46_12 : wc.cell? ⟨gb108, 12, none⟩ = some (.string a1_12) := (blk_cell BK108.out 12).trans rfl
              have hcz46_13 : wc.cell? ⟨gb108, 13, none⟩ = some (.int .i64 a1_13) := (blk_cell BK108.out 13).trans rfl
              have hcz46_14 : wc.cell? ⟨gb108, 14, none⟩ = some (.slice A1_14 l1_14.length c1_14) := (blk_cell BK108.out 14).trans rfl
              have hcz46_15 : wc.cell? ⟨gb108, 15, none⟩ = some (.slice A1_15 l1_15.length c1_15) := (blk_cell BK108.out 15).trans rfl
              have hcz46_16 : wc.cell? ⟨gb108, 16, none⟩ = some (.slice A1_16 l1_16.length c1_16) := (blk_cell BK108.out 16).trans rfl
              have hfz46_0 := blk_frozen BK108.out 0
              have hfz46_1 := blk_frozen BK108.out 1
              have hfz46_2 := blk_frozen BK108.out 2
              have hfz46_3 := blk_frozen BK108.out 3
              have hfz46_4 := blk_frozen BK108.out 4
              have hfz46_5 := blk_frozen BK108.out 5
              have hfz46_6 := blk_frozen BK108.out 6
              have hfz46_7 := blk_frozen BK108.out 7
              have hfz46_8 := blk_frozen BK108.out 8
              have hfz46_9 := blk_frozen BK108.out 9
              have hfz46_10 := blk_frozen BK108.out 10
              have hfz46_11 := blk_frozen BK108.out 11
              have hfz46_12 := blk_frozen BK108.out 12
              have hfz46_13 := blk_frozen BK108.out 13
              have hfz46_14 := blk_frozen BK108.out 14
              have hfz46_15 := blk_frozen BK108.out 15
              have hfz46_16 := blk_frozen BK108.out 16
              go_wp2
              refine Met.intro ?_
              go_step
              (repeat apply Exists.intro)
              refine ⟨?rel, ?heq_⟩
              case heq_ => first | rfl | (rw [c39b0]) | (simp only [c39b0])
              case rel => exact ⟨_, (true), (by first | rfl | (simp; done) | (simp [*]; done) | ((try simp only [Bool.not_not]); (generalize ByteArray.toList _ = l_); cases l_ <;> rfl) | (simp; (generalize ByteArray.toList _ = l_); cases l_ <;> rfl)), H', ⟨by have := HJ2.out; first | omega | exact Nat.le_refl _⟩, ⟨by (with_reducible repeat (first | refine blk_drewN ?_ _ | refine blk_drew ?_ | refine blk_alloc ?_ _)); exact BK107.out⟩, ⟨by (with_reducible repeat (first | refine blk_drewN ?_ _ | refine blk_drew ?_ | refine blk_alloc ?_ _)); exact BK108.out⟩, ⟨by repeat (first | (with_reducible first | exact HB.out | apply below_alloc | apply pw_below_drewN | apply below_drew1 | refine below_set ?_ GE107.out | refine below_set ?_ GE108.out) | exact HB.out)⟩⟩
            · rw [if_neg c43] at H
              have c43b0 : (a0_9 != a1_9) = false := by simpa using c43
              (try (have c43b1 : decide (a0_9 = a1_9) = true := by simpa using c43))
              (try (have c43b2 : (a0_9 == a1_9) = true := by simpa using c43))
              clear c43
              by_cases c47 : (a0_10 != a1_10) = true
              · rw [if_pos c47] at H
                have c47b0 : (a0_10 != a1_10) = true := c47
                (try (have c47b1 : decide (a0_10 = a1_10) = false := by simpa using c47))
                (try (have c47b2 : (a0_10 == a1_10) = false := by simpa using c47))
                (try (have c47b3 : ¬ (a0_10 = a1_10) := by simpa using c47))
                clear c47
                have H' := Aside0.mk H
                clear H
                have hnb48 := NB107_108.out
                have hnc48 := NB108_107.out
                have hcz49_0 : wc.cell? ⟨gb107, 0, none⟩ = some (.int .i64 a0_0) := (blk_cell BK107.out 0).trans rfl
                have hcz49_1 : wc.cell? ⟨gb107, 1, none⟩ = some (.int .i64 a0_1) := (blk_cell BK107.out 1).trans rfl
                have hcz49_2 : wc.cell? ⟨gb107, 2, none⟩ = some (.int .i64 a0_2) := (blk_cell BK107.out 2).trans rfl
                have hcz49_3 : wc.cell? ⟨gb107, 3, none⟩ = some (.bool a0_3) := (blk_cell BK107.out 3).trans rfl
                have hcz49_4 : wc.cell? ⟨gb107, 4, none⟩ = some (.bool a0_4) := (blk_cell BK107.out 4).trans rfl
                have hcz49_5 : wc.cell? ⟨gb107, 5, none⟩ = some (.bool a0_5) := (blk_cell BK107.out 5).trans rfl
                have hcz49_6 : wc.cell? ⟨gb107, 6, none⟩ = some (.bool a0_6) := (blk_cell BK107.out 6).trans rfl
                have hcz49_7 : wc.cell? ⟨gb107, 7, none⟩ = some (.bool a0_7) := (blk_cell BK107.out 7).trans rfl
                have hcz49_8 : wc.cell? ⟨gb107, 8, none⟩ = some (.bool a0_8) := (blk_cell BK107.out 8).trans rfl
                have hcz49_9 : wc.cell? ⟨gb107, 9, none⟩ = some (.bool a0_9) := (blk_cell BK107.out 9).trans rfl
                have hcz49_10 : wc.cell? ⟨gb107, 10, none⟩ = some (.bool a0_10) := (blk_cell BK107.out 10).trans rfl
                have hcz49_11 : wc.cell? ⟨gb107, 11, none⟩ = some (.int .i64 a0_11) := (blk_cell BK107.out 11).trans rfl
                have hcz49_12 : wc.cell? ⟨gb107, 12, none⟩ = some (.string a0_12) := (blk_cell BK107.out 12).trans rfl
                have hcz49_13 : wc.cell? ⟨gb107, 13, none⟩ = some (.int .i64 a0_13) := (blk_cell BK107.out 13).trans rfl
                have hcz49_14 : wc.cell? ⟨gb107, 14, none⟩ = some (.slice A0_14 l0_14.length c0_14) := (blk_cell BK107.out 14).trans rfl
                have hcz49_15 : wc.cell? ⟨gb107, 15, none⟩ = some (.slice A0_15 l0_15.length c0_15) := (blk_cell BK107.out 15).trans rfl
                have hcz49_16 : wc.cell? ⟨gb107, 16, none⟩ = some (.slice A0_16 l0_16.length c0_16) := (blk_cell BK107.out 16).trans rfl
                have hfz49_0 := blk_frozen BK107.out 0
                have hfz49_1 := blk_frozen BK107.out 1
                have hfz49_2 := blk_frozen BK107.out 2
                have hfz49_3 := blk_frozen BK107.out 3
                have hfz49_4 := blk_frozen BK107.out 4
                have hfz49_5 := blk_frozen BK107.out 5
                have hfz49_6 := blk_frozen BK107.out 6
                have hfz49_7 := blk_frozen BK107.out 7
                have hfz49_8 := blk_frozen BK107.out 8
                have hfz49_9 := blk_frozen BK107.out 9
                have hfz49_10 := blk_frozen BK107.out 10
                have hfz49_11 := blk_frozen BK107.out 11
                have hfz49_12 := blk_frozen BK107.out 12
                have hfz49_13 := blk_frozen BK107.out 13
                have hfz49_14 := blk_frozen BK107.out 14
                have hfz49_15 := blk_frozen BK107.out 15
                have hfz49_16 := blk_frozen BK107.out 16
                have hcz50_0 : wc.cell? ⟨gb108, 0, none⟩ = some (.int .i64 a1_0) := (blk_cell BK108.out 0).trans rfl
                have hcz50_1 : wc.cell? ⟨gb108, 1, none⟩ = some (.int .i64 a1_1) := (blk_cell BK108.out 1).trans rfl
                have hcz50_2 : wc.cell? ⟨gb108, 2, none⟩ = some (.int .i64 a1_2) := (blk_cell BK108.out 2).trans rfl
                have hcz50_3 : wc.cell? ⟨gb108, 3, none⟩ = some (.bool a1_3) := (blk_cell BK108.out 3).trans rfl
                have hcz50_4 : wc.cell? ⟨gb108, 4, none⟩ = some (.bool a1_4) := (blk_cell BK108.out 4).trans rfl
                have hcz50_5 : wc.cell? ⟨gb108, 5, none⟩ = some (.bool a1_5) := (blk_cell BK108.out 5).trans rfl
                have hcz50_6 : wc.cell? ⟨gb108, 6, none⟩ = some (.bool a1_6) := (blk_cell BK108.out 6).trans rfl
                have hcz50_7 : wc.cell? ⟨gb108, 7, none⟩ = some (.bool a1_7) := (blk_cell BK108.out 7).trans rfl
                have hcz50_8 : wc.cell? ⟨gb108, 8, none⟩ = some (.bool a1_8) := (blk_cell BK108.out 8).trans rfl
                have hcz50_9 : wc.cell? ⟨gb108, 9, none⟩ = some (.bool a1_9) := (blk_cell BK108.out 9).trans rfl
                have hcz50_10 : wc.cell? ⟨gb108, 10, none⟩ = some (.bool a1_10) := (blk_cell BK108.out 10).trans rfl
                have hcz50_11 : wc.cell? ⟨gb108, 11, none⟩ = some (.int .i64 a1_11) := (blk_cell BK108.out 11).trans rfl
                have hcz50_12 : wc.cell? ⟨gb108, 12, none⟩ = some (.string a1_12) := (blk_cell BK108.out 12).trans rfl
                have hcz50_13 : wc.cell? ⟨gb108, 13, none⟩ = some (.int .i64 a1_13) := (blk_cell BK108.out 13).trans rfl
                have hcz50_14 : wc.cell? ⟨gb108, 14, none⟩ = some (.slice A1_14 l1_14.length c1_14) := (blk_cell BK108.out 14).trans rfl
                have hcz50_15 : wc.cell? ⟨gb108, 15, none⟩ = some (.slice A1_15 l1_15.length c1_15) := (blk_cell BK108.out 15).trans rfl
                have hcz50_16 : wc.cell? ⟨gb108, 16, none⟩ = some (.slice A1_16 l1_16.length c1_16) := (blk_cell BK108.out 16).trans rfl
                have hfz50_0 := blk_frozen BK108.out 0
                have hfz50_1 := blk_frozen BK108.out 1
                have hfz50_2 := blk_frozen BK108.out 2
                have hfz50_3 := blk_frozen BK108.out 3
                have hfz50_4 := blk_frozen BK108.out 4
                have hfz50_5 := blk_frozen BK108.out 5
                have hfz50_6 := blk_frozen BK108.out 6
                have hfz50_7 := blk_frozen BK108.out 7
                have hfz50_8 := blk_frozen BK108.out 8
                have hfz50_9 := blk_frozen BK108.out 9
                have hfz50_10 := blk_frozen BK108.out 10
                have hfz50_11 := blk_frozen BK108.out 11
                have hfz50_12 := blk_frozen BK108.out 12
                have hfz50_13 := blk_frozen BK108.out 13
                have hfz50_14 := blk_frozen BK108.out 14
                have hfz50_15 := blk_frozen BK108.out 15
                have hfz50_16 := blk_frozen BK108.out 16
                go_wp2
                refine Met.intro ?_
                go_step
                (repeat apply Exists.intro)
                refine ⟨?rel, ?heq_⟩
                case heq_ => first | rfl | (rw [c39b0]) | (simp only [c39b0])
                case rel => exact ⟨_, (true), (by first | rfl | (simp; done) | (simp [*]; done) | ((try simp only [Bool.not_not]); (generalize ByteArray.toList _ = l_); cases l_ <;> rfl) | (simp; (generalize ByteArray.toList _ = l_); cases l_ <;> rfl)), H', ⟨by have := HJ2.out; first | omega | exact Nat.le_refl _⟩, ⟨by (with_reducible repeat (first | refine blk_drewN ?_ _ | refine blk_drew ?_ | refine blk_alloc ?_ _)); exact BK107.out⟩, ⟨by (with_reducible repeat (first | refine blk_drewN ?_ _ | refine blk_drew ?_ | refine blk_alloc ?_ _)); exact BK108.out⟩, ⟨by repeat (first | (with_reducible first | exact HB.out | apply below_alloc | apply pw_below_drewN | apply below_drew1 | refine below_set ?_ GE107.out | refine below_set ?_ GE108.out) | exact HB.out)⟩⟩
              · rw [if_neg c47] at H
                have c47b0 : (a0_10 != a1_10) = false := by simpa using c47
                (try (have c47b1 : decide (a0_10 = a1_10) = true := by simpa using c47))
                (try (have c47b2 : (a0_10 == a1_10) = true := by simpa using c47))
                clear c47
                by_cases c51 : a0_11 = a1_11
                · rw [if_pos c51] at H
                  have c51b0 : (a0_11 == a1_11) = true := beq_iff_eq.mpr c51
                  have c51b1 : (a0_11 != a1_11) = false := bne_eq_false_iff_eq.mpr c51
                  clear c51
                  have H' := Aside0.mk H
                  clear H
                  have hnb52 := NB107_108.out
                  have hnc52 := NB108_107.out
                  have hcz53_0 : wc.cell? ⟨gb107, 0, none⟩ = some (.int .i64 a0_0) := (blk_cell BK107.out 0).trans rfl
                  have hcz53_1 : wc.cell? ⟨gb107, 1, none⟩ = some (.int .i64 a0_1) := (blk_cell BK107.out 1).trans rfl
                  have hcz53_2 : wc.cell? ⟨gb107, 2, none⟩ = some (.int .i64 a0_2) := (blk_cell BK107.out 2).trans rfl
                  have hcz53_3 : wc.cell? ⟨gb107, 3, none⟩ = some (.bool a0_3) := (blk_cell BK107.out 3).trans rfl
                  have hcz53_4 : wc.cell? ⟨gb107, 4, none⟩ = some (.bool a0_4) := (blk_cell BK107.out 4).trans rfl
                  have hcz53_5 : wc.cell? ⟨gb107, 5, none⟩ = some (.bool a0_5) := (blk_cell BK107.out 5).trans rfl
                  have hcz53_6 : wc.cell? ⟨gb107, 6, none⟩ = some (.bool a0_6) := (blk_cell BK107.out 6).trans rfl
                  have hcz53_7 : wc.cell? ⟨gb107, 7, none⟩ = some (.bool a0_7) := (blk_cell BK107.out 7).trans rfl
                  have hcz53_8 : wc.cell? ⟨gb107, 8, none⟩ = some (.bool a0_8) := (blk_cell BK107.out 8).trans rfl
                  have hcz53_9 : wc.cell? ⟨gb107, 9, none⟩ = some (.bool a0_9) := (blk_cell BK107.out 9).trans rfl
                  have hcz53_10 : wc.cell? ⟨gb107, 10, none⟩ = some (.bool a0_10) := (blk_cell BK107.out 10).trans rfl
                  have hcz53_11 : wc.cell? ⟨gb107, 11, none⟩ = some (.int .i64 a0_11) := (blk_cell BK107.out 11).trans rfl
                  have hcz53_12 : wc.cell? ⟨gb107, 12, none⟩ = some (.string a0_12) := (blk_cell BK107.out 12).trans rfl
                  have hcz53_13 : wc.cell? ⟨gb107, 13, none⟩ = some (.int .i64 a0_13) := (blk_cell BK107.out 13).trans rfl
                  have hcz53_14 : wc.cell? ⟨gb107, 14, none⟩ = some (.slice A0_14 l0_14.length c0_14) := (blk_cell BK107.out 14).trans rfl
                  have hcz53_15 : wc.cell? ⟨gb107, 15, none⟩ = some (.slice A0_15 l0_15.length c0_15) := (blk_cell BK107.out 15).trans rfl
                  have hcz53_16 : wc.cell? ⟨gb107, 16, none⟩ = some (.slice A0_16 l0_16.length c0_16) := (blk_cell BK107.out 16).trans rfl
                  have hfz53_0 := blk_frozen BK107.out 0
                  have hfz53_1 := blk_frozen BK107.out 1
                  have hfz53_2 := blk_frozen BK107.out 2
                  have hfz53_3 := blk_frozen BK107.out 3
                  have hfz53_4 := blk_frozen BK107.out 4
                  have hfz53_5 := blk_frozen BK107.out 5
                  have hfz53_6 := blk_frozen BK107.out 6
                  have hfz53_7 := blk_frozen BK107.out 7
                  have hfz53_8 := blk_frozen BK107.out 8
                  have hfz53_9 := blk_frozen BK107.out 9
                  have hfz53_10 := blk_frozen BK107.out 10
                  have hfz53_11 := blk_frozen BK107.out 11
                  have hfz53_12 := blk_frozen BK107.out 12
                  have hfz53_13 := blk_frozen BK107.out 13
                  have hfz53_14 := blk_frozen BK107.out 14
                  have hfz53_15 := blk_frozen BK107.out 15
                  have hfz53_16 := blk_frozen BK107.out 16
                  have hcz54_0 : wc.cell? ⟨gb108, 0, none⟩ = some (.int .i64 a1_0) := (blk_cell BK108.out 0).trans rfl
                  have hcz54_1 : wc.cell? ⟨gb108, 1, none⟩ = some (.int .i64 a1_1) := (blk_cell BK108.out 1).trans rfl
                  have hcz54_2 : wc.cell? ⟨gb108, 2, none⟩ = some (.int .i64 a1_2) := (blk_cell BK108.out 2).trans rfl
                  have hcz54_3 : wc.cell? ⟨gb108, 3, none⟩ = some (.bool a1_3) := (blk_cell BK108.out 3).trans rfl
                  have hcz54_4 : wc.cell? ⟨gb108, 4, none⟩ = some (.bool a1_4) := (blk_cell BK108.out 4).trans rfl
                  have hcz54_5 : wc.cell? ⟨gb108, 5, none⟩ = some (.bool a1_5) := (blk_cell BK108.out 5).trans rfl
                  have hcz54_6 : wc.cell? ⟨gb108, 6, none⟩ = some (.bool a1_6) := (blk_cell BK108.out 6).trans rfl
                  have hcz54_7 : wc.cell? ⟨gb108, 7, none⟩ = some (.bool a1_7) := (blk_cell BK108.out 7).trans rfl
                  have hcz54_8 : wc.cell? ⟨gb108, 8, none⟩ = some (.bool a1_8) := (blk_cell BK108.out 8).trans rfl
                  have hcz54_9 : wc.cell? ⟨gb108, 9, none⟩ = some (.bool a1_9) := (blk_cell BK108.out 9).trans rfl
                  have hcz54_10 : wc.cell? ⟨gb108, 10, none⟩ = some (.bool a1_10) := (blk_cell BK108.out 10).trans rfl
                  have hcz54_11 : wc.cell? ⟨gb108, 11, none⟩ = some (.int .i64 a1_11) := (blk_cell BK108.out 11).trans rfl
                  have hcz54_12 : wc.cell? ⟨gb108, 12, none⟩ = some (.string a1_12) := (blk_cell BK108.out 12).trans rfl
                  have hcz54_13 : wc.cell? ⟨gb108, 13, none⟩ = some (.int .i64 a1_13) := (blk_cell BK108.out 13).trans rfl
                  have hcz54_14 : wc.cell? ⟨gb108, 14, none⟩ = some (.slice A1_14 l1_14.length c1_14) := (blk_cell BK108.out 14).trans rfl
                  have hcz54_15 : wc.cell? ⟨gb108, 15, none⟩ = some (.slice A1_15 l1_15.length c1_15) := (blk_cell BK108.out 15).trans rfl
                  have hcz54_16 : wc.cell? ⟨gb108, 16, none⟩ = some (.slice A1_16 l1_16.length c1_16) := (blk_cell BK108.out 16).trans rfl
                  have hfz54_0 := blk_frozen BK108.out 0
                  have hfz54_1 := blk_frozen BK108.out 1
                  have hfz54_2 := blk_frozen BK108.out 2
                  have hfz54_3 := blk_frozen BK108.out 3
                  have hfz54_4 := blk_frozen BK108.out 4
                  have hfz54_5 := blk_frozen BK108.out 5
                  have hfz54_6 := blk_frozen BK108.out 6
                  have hfz54_7 := blk_frozen BK108.out 7
                  have hfz54_8 := blk_frozen BK108.out 8
                  have hfz54_9 := blk_frozen BK108.out 9
                  have hfz54_10 := blk_frozen BK108.out 10
                  have hfz54_11 := blk_frozen BK108.out 11
                  have hfz54_12 := blk_frozen BK108.out 12
                  have hfz54_13 := blk_frozen BK108.out 13
                  have hfz54_14 := blk_frozen BK108.out 14
                  have hfz54_15 := blk_frozen BK108.out 15
                  have hfz54_16 := blk_frozen BK108.out 16
                  go_wp2
                  refine Met.intro ?_
                  go_step
                  (repeat apply Exists.intro)
                  refine ⟨?rel, ?heq_⟩
                  case heq_ => first | rfl | (rw [c39b0]) | (simp only [c39b0])
                  case rel => exact ⟨_, ((!(a0_12.toList == a1_12.toList) || (!(a0_13 == a1_13)))), (by first | rfl | (simp; done) | (simp [*]; done) | ((try simp only [Bool.not_not]); (generalize ByteArray.toList _ = l_); cases l_ <;> rfl) | (simp; (generalize ByteArray.toList _ = l_); cases l_ <;> rfl)), H', ⟨by have := HJ2.out; first | omega | exact Nat.le_refl _⟩, ⟨by (with_reducible repeat (first | refine blk_drewN ?_ _ | refine blk_drew ?_ | refine blk_alloc ?_ _)); exact BK107.out⟩, ⟨by (with_reducible repeat (first | refine blk_drewN ?_ _ | refine blk_drew ?_ | refine blk_alloc ?_ _)); exact BK108.out⟩, ⟨by repeat (first | (with_reducible first | exact HB.out | apply below_alloc | apply pw_below_drewN | apply below_drew1 | refine below_set ?_ GE107.out | refine below_set ?_ GE108.out) | exact HB.out)⟩⟩
                · rw [if_neg c51] at H
                  have c51b0 : (a0_11 == a1_11) = false := beq_eq_false_iff_ne.mpr c51
                  have c51b1 : (a0_11 != a1_11) = true := bne_iff_ne.mpr c51
                  have H' := Aside0.mk H
                  clear H
                  have hnb55 := NB107_108.out
                  have hnc55 := NB108_107.out
                  have hcz56_0 : wc.cell? ⟨gb107, 0, none⟩ = some (.int .i64 a0_0) := (blk_cell BK107.out 0).trans rfl
                  have hcz56_1 : wc.cell? ⟨gb107, 1, none⟩ = some (.int .i64 a0_1) := (blk_cell BK107.out 1).trans rfl
                  have hcz56_2 : wc.cell? ⟨gb107, 2, none⟩ = some (.int .i64 a0_2) := (blk_cell BK107.out 2).trans rfl
                  have hcz56_3 : wc.cell? ⟨gb107, 3, none⟩ = some (.bool a0_3) := (blk_cell BK107.out 3).trans rfl
                  have hcz56_4 : wc.cell? ⟨gb107, 4, none⟩ = some (.bool a0_4) := (blk_cell BK107.out 4).trans rfl
                  have hcz56_5 : wc.cell? ⟨gb107, 5, none⟩ = some (.bool a0_5) := (blk_cell BK107.out 5).trans rfl
                  have hcz56_6 : wc.cell? ⟨gb107, 6, none⟩ = some (.bool a0_6) := (blk_cell BK107.out 6).trans rfl
                  have hcz56_7 : wc.cell? ⟨gb107, 7, none⟩ = some (.bool a0_7) := (blk_cell BK107.out 7).trans rfl
                  have hcz56_8 : wc.cell? ⟨gb107, 8, none⟩ = some (.bool a0_8) := (blk_cell BK107.out 8).trans rfl
                  have hcz56_9 : wc.cell? ⟨gb107, 9, none⟩ = some (.bool a0_9) := (blk_cell BK107.out 9).trans rfl
                  have hcz56_10 : wc.cell? ⟨gb107, 10, none⟩ = some (.bool a0_10) := (blk_cell BK107.out 10).trans rfl
                  have hcz56_11 : wc.cell? ⟨gb107, 11, none⟩ = some (.int .i64 a0_11) := (blk_cell BK107.out 11).trans rfl
                  have hcz56_12 : wc.cell? ⟨gb107, 12, none⟩ = some (.string a0_12) := (blk_cell BK107.out 12).trans rfl
                  have hcz56_13 : wc.cell? ⟨gb107, 13, none⟩ = some (.int .i64 a0_13) := (blk_cell BK107.out 13).trans rfl
                  have hcz56_14 : wc.cell? ⟨gb107, 14, none⟩ = some (.slice A0_14 l0_14.length c0_14) := (blk_cell BK107.out 14).trans rfl
                  have hcz56_15 : wc.cell? ⟨gb107, 15, none⟩ = some (.slice A0_15 l0_15.length c0_15) := (blk_cell BK107.out 15).trans rfl
                  have hcz56_16 : wc.cell? ⟨gb107, 16, none⟩ = some (.slice A0_16 l0_16.length c0_16) := (blk_cell BK107.out 16).trans rfl
                  have hfz56_0 := blk_frozen BK107.out 0
                  have hfz56_1 := blk_frozen BK107.out 1
                  have hfz56_2 := blk_frozen BK107.out 2
                  have hfz56_3 := blk_frozen BK107.out 3
                  have hfz56_4 := blk_frozen BK107.out 4
                  have hfz56_5 := blk_frozen BK107.out 5
                  have hfz56_6 := blk_frozen BK107.out 6
                  have hfz56_7 := blk_frozen BK107.out 7
                  have hfz56_8 := blk_frozen BK107.out 8
                  have hfz56_9 := blk_frozen BK107.out 9
                  have hfz56_10 := blk_frozen BK107.out 10
                  have hfz56_11 := blk_frozen BK107.out 11
                  have hfz56_12 := blk_frozen BK107.out 12
                  have hfz56_13 := blk_frozen BK107.out 13
                  have hfz56_14 := blk_frozen BK107.out 14
                  have hfz56_15 := blk_frozen BK107.out 15
                  have hfz56_16 := blk_frozen BK107.out 16
                  have hcz57_0 : wc.cell? ⟨gb108, 0, none⟩ = some (.int .i64 a1_0) := (blk_cell BK108.out 0).trans rfl
                  have hcz57_1 : wc.cell? ⟨gb108, 1, none⟩ = some (.int .i64 a1_1) := (blk_cell BK108.out 1).trans rfl
                  have hcz57_2 : wc.cell? ⟨gb108, 2, none⟩ = some (.int .i64 a1_2) := (blk_cell BK108.out 2).trans rfl
                  have hcz57_3 : wc.cell? ⟨gb108, 3, none⟩ = some (.bool a1_3) := (blk_cell BK108.out 3).trans rfl
                  have hcz57_4 : wc.cell? ⟨gb108, 4, none⟩ = some (.bool a1_4) := (blk_cell BK108.out 4).trans rfl
                  have hcz57_5 : wc.cell? ⟨gb108, 5, none⟩ = some (.bool a1_5) := (blk_cell BK108.out 5).trans rfl
                  have hcz57_6 : wc.cell? ⟨gb108, 6, none⟩ = some (.bool a1_6) := (blk_cell BK108.out 6).trans rfl
                  have hcz57_7 : wc.cell? ⟨gb108, 7, none⟩ = some (.bool a1_7) := (blk_cell BK108.out 7).trans rfl
                  have hcz57_8 : wc.cell? ⟨gb108, 8, none⟩ = some (.bool a1_8) := (blk_cell BK108.out 8).trans rfl
                  have hcz57_9 : wc.cell? ⟨gb108, 9, none⟩ = some (.bool a1_9) := (blk_cell BK108.out 9).trans rfl
                  have hcz57_10 : wc.cell? ⟨gb108, 10, none⟩ = some (.bool a1_10) := (blk_cell BK108.out 10).trans rfl
                  have hcz57_11 : wc.cell? ⟨gb108, 11, none⟩ = some (.int .i64 a1_11) := (blk_cell BK108.out 11).trans rfl
                  have hcz57_12 : wc.cell? ⟨gb108, 12, none⟩ = some (.string a1_12) := (blk_cell BK108.out 12).trans rfl
                  have hcz57_13 : wc.cell? ⟨gb108, 13, none⟩ = some (.int .i64 a1_13) := (blk_cell BK108.out 13).trans rfl
                  have hcz57_14 : wc.cell? ⟨gb108, 14, none⟩ = some (.slice A1_14 l1_14.length c1_14) := (blk_cell BK108.out 14).trans rfl
                  have hcz57_15 : wc.cell? ⟨gb108, 15, none⟩ = some (.slice A1_15 l1_15.length c1_15) := (blk_cell BK108.out 15).trans rfl
                  have hcz57_16 : wc.cell? ⟨gb108, 16, none⟩ = some (.slice A1_16 l1_16.length c1_16) := (blk_cell BK108.out 16).trans rfl
                  have hfz57_0 := blk_frozen BK108.out 0
                  have hfz57_1 := blk_frozen BK108.out 1
                  have hfz57_2 := blk_frozen BK108.out 2
                  have hfz57_3 := blk_frozen BK108.out 3
                  have hfz57_4 := blk_frozen BK108.out 4
                  have hfz57_5 := blk_frozen BK108.out 5
                  have hfz57_6 := blk_frozen BK108.out 6
                  have hfz57_7 := blk_frozen BK108.out 7
                  have hfz57_8 := blk_frozen BK108.out 8
                  have hfz57_9 := blk_frozen BK108.out 9
                  have hfz57_10 := blk_frozen BK108.out 10
                  have hfz57_11 := blk_frozen BK108.out 11
                  have hfz57_12 := blk_frozen BK108.out 12
                  have hfz57_13 := blk_frozen BK108.out 13
                  have hfz57_14 := blk_frozen BK108.out 14
                  have hfz57_15 := blk_frozen BK108.out 15
                  have hfz57_16 := blk_frozen BK108.out 16
                  go_wp2
                  refine Met.intro ?_
                  go_step
                  (repeat apply Exists.intro)
                  refine ⟨?rel, ?heq_⟩
                  case heq_ => first | rfl | (rw [c39b0]) | (simp only [c39b0])
                  case rel => exact ⟨_, (true), (by first | rfl | (simp; done) | (simp [*]; done) | ((try simp only [Bool.not_not]); (generalize ByteArray.toList _ = l_); cases l_ <;> rfl) | (simp; (generalize ByteArray.toList _ = l_); cases l_ <;> rfl)), H', ⟨by have := HJ2.out; first | omega | exact Nat.le_refl _⟩, ⟨by (with_reducible repeat (first | refine blk_drewN ?_ _ | refine blk_drew ?_ | refine blk_alloc ?_ _)); exact BK107.out⟩, ⟨by (with_reducible repeat (first | refine blk_drewN ?_ _ | refine blk_drew ?_ | refine blk_alloc ?_ _)); exact BK108.out⟩, ⟨by repeat (first | (with_reducible first | exact HB.out | apply below_alloc | apply pw_below_drewN | apply below_drew1 | refine below_set ?_ GE107.out | refine below_set ?_ GE108.out) | exact HB.out)⟩⟩
        case rest =>
          clear HC38
          try clear c1
          try clear p2
          try clear c3
          try clear c4
          try clear c5
          try clear c37
          try clear c39
          try clear c39b0
          try clear c39b1
          try clear c39b2
          try clear c40
          try clear c43
          try clear c43b0
          try clear c43b1
          try clear c43b2
          try clear c44
          try clear c47
          try clear c47b0
          try clear c47b1
          try clear c47b2
          try clear c48
          try clear c51
          try clear c51b0
          try clear c51b1
          try clear c52
          try clear c55
          try clear hcz41_0
          try clear hcz41_1
          try clear hcz41_10
          try clear hcz41_11
          try clear hcz41_12
          try clear hcz41_13
          try clear hcz41_14
          try clear hcz41_15
          try clear hcz41_16
          try clear hcz41_2
          try clear hcz41_3
          try clear hcz41_4
          try clear hcz41_5
          try clear hcz41_6
          try clear hcz41_7
          try clear hcz41_8
          try clear hcz41_9
          try clear hcz42_0
          try clear hcz42_1
          try clear hcz42_10
          try clear hcz42_11
          try clear hcz42_12
          try clear hcz42_13
          try clear hcz42_14
          try clear hcz42_15
          try clear hcz42_16
          try clear hcz42_2
          try clear hcz42_3
          try clear hcz42_4
          try clear hcz42_5
          try clear hcz42_6
          try clear hcz42_7
          try clear hcz42_8
          try clear hcz42_9
          try clear hcz45_0
          try clear hcz45_1
          try clear hcz45_10
          try clear hcz45_11
          try clear hcz45_12
          try clear hcz45_13
          try clear hcz45_14
          try clear hcz45_15
          try clear hcz45_16
          try clear hcz45_2
          try clear hcz45_3
          try clear hcz45_4
          try clear hcz45_5
          try clear hcz45_6
          try clear hcz45_7
          try clear hcz45_8
          try clear hcz45_9
          try clear hcz46_0
          try clear hcz46_1
          try clear hcz46_10
          try clear hcz46_11
          try clear hcz46_12
          try clear hcz46_13
          try clear hcz46_14
          try clear hcz46_15
          try clear hcz46_16
          try clear hcz46_2
          try clear hcz46_3
          try clear hcz46_4
          try clear hcz46_5
          try clear hcz46_6
          try clear hcz46_7
          try clear hcz46_8
          try clear hcz46_9
          try clear hcz49_0
          try clear hcz49_1
          try clear hcz49_10
          try clear hcz49_11
          try clear hcz49_12
          try clear hcz49_13
          try clear hcz49_14
          try clear hcz49_15
          try clear hcz49_16
          try clear hcz49_2
          try clear hcz49_3
          try clear hcz49_4
          try clear hcz49_5
          try clear hcz49_6
          try clear hcz49_7
          try clear hcz49_8
          try clear hcz49_9
          try clear hcz50_0
          try clear hcz50_1
          try clear hcz50_10
          try clear hcz50_11
          try clear hcz50_12
          try clear hcz50_13
          try clear hcz50_14
          try clear hcz50_15
          try clear hcz50_16
          try clear hcz50_2
          try clear hcz50_3
          try clear hcz50_4
          try clear hcz50_5
          try clear hcz50_6
          try clear hcz50_7
          try clear hcz50_8
          try clear hcz50_9
          try clear hcz53_0
          try clear hcz53_1
          try clear hcz53_10
          try clear hcz53_11
          try clear hcz53_12
          try clear hcz53_13
          try clear hcz53_14
          try clear hcz53_15
          try clear hcz53_16
          try clear hcz53_2
          try clear hcz53_3
          try clear hcz53_4
          try clear hcz53_5
          try clear hcz53_6
          try clear hcz53_7
          try clear hcz53_8
          try clear hcz53_9
          try clear hcz54_0
          try clear hcz54_1
          try clear hcz54_10
          try clear hcz54_11
          try clear hcz54_12
          try clear hcz54_13
          try clear hcz54_14
          try clear hcz54_15
          try clear hcz54_16
          try clear hcz54_2
          try clear hcz54_3
          try clear hcz54_4
          try clear hcz54_5
          try clear hcz54_6
          try clear hcz54_7
          try clear hcz54_8
          try clear hcz54_9
          try clear hcz56_0
          try clear hcz56_1
          try clear hcz56_10
          try clear hcz56_11
          try clear hcz56_12
          try clear hcz56_13
          try clear hcz56_14
          try clear hcz56_15
          try clear hcz56_16
          try clear hcz56_2
          try clear hcz56_3
          try clear hcz56_4
          try clear hcz56_5
          try clear hcz56_6
          try clear hcz56_7
          try clear hcz56_8
          try clear hcz56_9
          try clear hcz57_0
          try clear hcz57_1
          try clear hcz57_10
          try clear hcz57_11
          try clear hcz57_12
          try clear hcz57_13
          try clear hcz57_14
          try clear hcz57_15
          try clear hcz57_16
          try clear hcz57_2
          try clear hcz57_3
          try clear hcz57_4
          try clear hcz57_5
          try clear hcz57_6
          try clear hcz57_7
          try clear hcz57_8
          try clear hcz57_9
          try clear hfz24_14
          try clear hfz24_15
          try clear hfz24_16
          try clear hfz24_2
          try clear hfz24_3
          try clear hfz24_4
          try clear hfz24_5
          try clear hfz24_6
          try clear hfz24_7
          try clear hfz24_8
          try clear hfz24_9
          try clear hfz26_0
          try clear hfz26_1
          try clear hfz26_10
          try clear hfz26_11
          try clear hfz26_12
          try clear hfz26_13
          try clear hfz26_14
          try clear hfz26_15
          try clear hfz26_16
          try clear hfz26_2
          try clear hfz26_3
          try clear hfz26_4
          try clear hfz26_5
          try clear hfz26_6
          try clear hfz26_7
          try clear hfz26_8
          try clear hfz26_9
          try clear hfz27_0
          try clear hfz27_1
          try clear hfz27_10
          try clear hfz27_11
          try clear hfz27_12
          try clear hfz27_13
          try clear hfz27_14
          try clear hfz27_15
          try clear hfz27_16
          try clear hfz27_2
          try clear hfz27_3
          try clear hfz27_4
          try clear hfz27_5
          try clear hfz27_6
          try clear hfz27_7
          try clear hfz27_8
          try clear hfz27_9
          try clear hfz29_0
          try clear hfz29_1
          try clear hfz29_10
          try clear hfz29_11
          try clear hfz29_12
          try clear hfz29_13
          try clear hfz29_14
          try clear hfz29_15
          try clear hfz29_16
          try clear hfz29_2
          try clear hfz29_3
          try clear hfz29_4
          try clear hfz29_5
          try clear hfz29_6
          try clear hfz29_7
          try clear hfz29_8
          try clear hfz29_9
          try clear hfz30_0
          try clear hfz30_1
          try clear hfz30_10
          try clear hfz30_11
          try clear hfz30_12
          try clear hfz30_13
          try clear hfz30_14
          try clear hfz30_15
          try clear hfz30_16
          try clear hfz30_2
          try clear hfz30_3
          try clear hfz30_4
          try clear hfz30_5
          try clear hfz30_6
          try clear hfz30_7
          try clear hfz30_8
          try clear hfz30_9
          try clear hfz32_0
          try clear hfz32_1
          try clear hfz32_10
          try clear hfz32_11
          try clear hfz32_12
          try clear hfz32_13
          try clear hfz32_14
          try clear hfz32_15
          try clear hfz32_16
          try clear hfz32_2
          try clear hfz32_3
          try clear hfz32_4
          try clear hfz32_5
          try clear hfz32_6
          try clear hfz32_7
          try clear hfz32_8
          try clear hfz32_9
          try clear hfz33_0
          try clear hfz33_1
          try clear hfz33_10
          try clear hfz33_11
          try clear hfz33_12
          try clear hfz33_13
          try clear hfz33_14
          try clear hfz33_15
          try clear hfz33_16
          try clear hfz33_2
          try clear hfz33_3
          try clear hfz33_4
          try clear hfz33_5
          try clear hfz33_6
          try clear hfz33_7
          try clear hfz33_8
          try clear hfz33_9
          try clear hfz35_0
          try clear hfz35_1
          try clear hfz35_10
          try clear hfz35_11
          try clear hfz35_12
          try clear hfz35_13
          try clear hfz35_14
          try clear hfz35_15
          try clear hfz35_16
          try clear hfz35_2
          try clear hfz35_3
          try clear hfz35_4
          try clear hfz35_5
          try clear hfz35_6
          try clear hfz35_7
          try clear hfz35_8
          try clear hfz35_9
          try clear hfz36_0
          try clear hfz36_1
          try clear hfz36_10
          try clear hfz36_11
          try clear hfz36_12
          try clear hfz36_13
          try clear hfz36_14
          try clear hfz36_15
          try clear hfz36_16
          try clear hfz36_2
          try clear hfz36_3
          try clear hfz36_4
          try clear hfz36_5
          try clear hfz36_6
          try clear hfz36_7
          try clear hfz36_8
          try clear hfz36_9
          try clear hfz41_0
          try clear hfz41_1
          try clear hfz41_10
          try clear hfz41_11
          try clear hfz41_12
          try clear hfz41_13
          try clear hfz41_14
          try clear hfz41_15
          try clear hfz41_16
          try clear hfz41_2
          try clear hfz41_3
          try clear hfz41_4
          try clear hfz41_5
          try clear hfz41_6
          try clear hfz41_7
          try clear hfz41_8
          try clear hfz41_9
          try clear hfz42_0
          try clear hfz42_1
          try clear hfz42_10
          try clear hfz42_11
          try clear hfz42_12
          try clear hfz42_13
          try clear hfz42_14
          try clear hfz42_15
          try clear hfz42_16
          try clear hfz42_2
          try clear hfz42_3
          try clear hfz42_4
          try clear hfz42_5
          try clear hfz42_6
          try clear hfz42_7
          try clear hfz42_8
          try clear hfz42_9
          try clear hfz45_0
          try clear hfz45_1
          try clear hfz45_10
          try clear hfz45_11
          try clear hfz45_12
          try clear hfz45_13
          try clear hfz45_14
          try clear hfz45_15
          try clear hfz45_16
          try clear hfz45_2
          try clear hfz45_3
          try clear hfz45_4
          try clear hfz45_5
          try clear hfz45_6
          try clear hfz45_7
          try clear hfz45_8
          try clear hfz45_9
          try clear hfz46_0
          try clear hfz46_1
          try clear hfz46_10
          try clear hfz46_11
          try clear hfz46_12
          try clear hfz46_13
          try clear hfz46_14
          try clear hfz46_15
          try clear hfz46_16
          try clear hfz46_2
          try clear hfz46_3
          try clear hfz46_4
          try clear hfz46_5
          try clear hfz46_6
          try clear hfz46_7
          try clear hfz46_8
          try clear hfz46_9
          try clear hfz49_0
          try clear hfz49_1
          try clear hfz49_10
          try clear hfz49_11
          try clear hfz49_12
          try clear hfz49_13
          try clear hfz49_14
          try clear hfz49_15
          try clear hfz49_16
          try clear hfz49_2
          try clear hfz49_3
          try clear hfz49_4
          try clear hfz49_5
          try clear hfz49_6
          try clear hfz49_7
          try clear hfz49_8
          try clear hfz49_9
          try clear hfz50_0
          try clear hfz50_1
          try clear hfz50_10
          try clear hfz50_11
          try clear hfz50_12
          try clear hfz50_13
          try clear hfz50_14
          try clear hfz50_15
          try clear hfz50_16
          try clear hfz50_2
          try clear hfz50_3
          try clear hfz50_4
          try clear hfz50_5
          try clear hfz50_6
          try clear hfz50_7
          try clear hfz50_8
          try clear hfz50_9
          try clear hfz53_0
          try clear hfz53_1
          try clear hfz53_10
          try clear hfz53_11
          try clear hfz53_12
          try clear hfz53_13
          try clear hfz53_14
          try clear hfz53_15
          try clear hfz53_16
          try clear hfz53_2
          try clear hfz53_3
          try clear hfz53_4
          try clear hfz53_5
          try clear hfz53_6
          try clear hfz53_7
          try clear hfz53_8
          try clear hfz53_9
          try clear hfz54_0
          try clear hfz54_1
          try clear hfz54_10
          try clear hfz54_11
          try clear hfz54_12
          try clear hfz54_13
          try clear hfz54_14
          try clear hfz54_15
          try clear hfz54_16
          try clear hfz54_2
          try clear hfz54_3
          try clear hfz54_4
          try clear hfz54_5
          try clear hfz54_6
          try clear hfz54_7
          try clear hfz54_8
          try clear hfz54_9
          try clear hfz56_0
          try clear hfz56_1
          try clear hfz56_10
          try clear hfz56_11
          try clear hfz56_12
          try clear hfz56_13
          try clear hfz56_14
          try clear hfz56_15
          try clear hfz56_16
          try clear hfz56_2
          try clear hfz56_3
          try clear hfz56_4
          try clear hfz56_5
          try clear hfz56_6
          try clear hfz56_7
          try clear hfz56_8
          try clear hfz56_9
          try clear hfz57_0
          try clear hfz57_1
          try clear hfz57_10
          try clear hfz57_11
          try clear hfz57_12
          try clear hfz57_13
          try clear hfz57_14
          try clear hfz57_15
          try clear hfz57_16
          try clear hfz57_2
          try clear hfz57_3
          try clear hfz57_4
          try clear hfz57_5
          try clear hfz57_6
          try clear hfz57_7
          try clear hfz57_8
          try clear hfz57_9
          obtain ⟨kq, x91_37, rfl, HA, HJ37, BK107, BK108, HB⟩ := hcut
          cases kq with
          | zero => exact absurd HA.out (by simp [ddilaw08_same.j1])
          | succ kj37 =>
            have H := HA.out
            clear HA
            simp only [ddilaw08_same.j1] at H
            by_cases c58 : x91_37 = true
            · subst c58
              have H1 : (some false) = some r := by rw [if_pos rfl] at H; exact H
              clear H
              have H := H1
              clear H1
              obtain rfl := Option.some.inj H
              go_wp2
              go_ret
              exact ⟨by first | rfl | (simp [errW_none, errW_some] <;> rfl) | (simp [*, errW_none, errW_some] <;> rfl), by repeat (first | (with_reducible first | exact HB.out | apply below_alloc | apply pw_below_drewN | apply below_drew1 | refine below_set ?_ GE107.out | refine below_set ?_ GE108.out) | exact HB.out)⟩
            · replace c58 := Bool.eq_false_iff.mpr c58
              subst c58
              have H1 : ((ddilaw08_records.f kj37 l0_14 l1_14).bind fun t109 => (if t109 = true then ((ddilaw08_records.f kj37 l0_15 l1_15).bind fun t110 => (if t110 = true then ((ddilaw08_records.f kj37 l0_16 l1_16).bind fun t111 => (some t111)) else (some false))) else (some false))) = some r := by rw [if_neg (show ¬ (false = true) by decide)] at H; exact H
              clear H
              have H := H1
              clear H1
              replace H := Option.bind_eq_some_iff.mp H
              obtain ⟨t109, A590, H⟩ := H
              replace H : (if t109 = true then ((ddilaw08_records.f kj37 l0_15 l1_15).bind fun t110 => (if t110 = true then ((ddilaw08_records.f kj37 l0_16 l1_16).bind fun t111 => (some t111)) else (some false))) else (some false)) = some r := H
              have A59 := Aside0.mk A590
              clear A590
              by_cases c60 : t109 = true
              · subst c60
                have H1 : ((ddilaw08_records.f kj37 l0_15 l1_15).bind fun t110 => (if t110 = true then ((ddilaw08_records.f kj37 l0_16 l1_16).bind fun t111 => (some t111)) else (some false))) = some r := by rw [if_pos rfl] at H; exact H
                clear H
                have H := H1
                clear H1
                replace H := Option.bind_eq_some_iff.mp H
                obtain ⟨t110, A610, H⟩ := H
                replace H : (if t110 = true then ((ddilaw08_records.f kj37 l0_16 l1_16).bind fun t111 => (some t111)) else (some false)) = some r := H
                have A61 := Aside0.mk A610
                clear A610
                by_cases c62 : t110 = true
                · subst c62
                  have H1 : ((ddilaw08_records.f kj37 l0_16 l1_16).bind fun t111 => (some t111)) = some r := by rw [if_pos rfl] at H; exact H
                  clear H
                  have H := H1
                  clear H1
                  replace H := Option.bind_eq_some_iff.mp H
                  obtain ⟨t111, A630, H⟩ := H
                  replace H : (some t111) = some r := H
                  have A63 := Aside0.mk A630
                  clear A630
                  obtain rfl := Option.some.inj H
                  have hnb64 := NB107_108.out
                  have hnc64 := NB108_107.out
                  have hcz65_0 : wc.cell? ⟨gb107, 0, none⟩ = some (.int .i64 a0_0) := (blk_cell BK107.out 0).trans rfl
                  have hcz65_1 : wc.cell? ⟨gb107, 1, none⟩ = some (.int .i64 a0_1) := (blk_cell BK107.out 1).trans rfl
                  have hcz65_2 : wc.cell? ⟨gb107, 2, none⟩ = some (.int .i64 a0_2) := (blk_cell BK107.out 2).trans rfl
                  have hcz65_3 : wc.cell? ⟨gb107, 3, none⟩ = some (.bool a0_3) := (blk_cell BK107.out 3).trans rfl
                  have hcz65_4 : wc.cell? ⟨gb107, 4, none⟩ = some (.bool a0_4) := (blk_cell BK107.out 4).trans rfl
                  have hcz65_5 : wc.cell? ⟨gb107, 5, none⟩ = some (.bool a0_5) := (blk_cell BK107.out 5).trans rfl
                  have hcz65_6 : wc.cell? ⟨gb107, 6, none⟩ = some (.bool a0_6) := (blk_cell BK107.out 6).trans rfl
                  have hcz65_7 : wc.cell? ⟨gb107, 7, none⟩ = some (.bool a0_7) := (blk_cell BK107.out 7).trans rfl
                  have hcz65_8 : wc.cell? ⟨gb107, 8, none⟩ = some (.bool a0_8) := (blk_cell BK107.out 8).trans rfl
                  have hcz65_9 : wc.cell? ⟨gb107, 9, none⟩ = some (.bool a0_9) := (blk_cell BK107.out 9).trans rfl
                  have hcz65_10 : wc.cell? ⟨gb107, 10, none⟩ = some (.bool a0_10) := (blk_cell BK107.out 10).trans rfl
                  have hcz65_11 : wc.cell? ⟨gb107, 11, none⟩ = some (.int .i64 a0_11) := (blk_cell BK107.out 11).trans rfl
                  have hcz65_12 : wc.cell? ⟨gb107, 12, none⟩ = some (.string a0_12) := (blk_cell BK107.out 12).trans rfl
                  have hcz65_13 : wc.cell? ⟨gb107, 13, none⟩ = some (.int .i64 a0_13) := (blk_cell BK107.out 13).trans rfl
                  have hcz65_14 : wc.cell? ⟨gb107, 14, none⟩ = some (.slice A0_14 l0_14.length c0_14) := (blk_cell BK107.out 14).trans rfl
                  have hcz65_15 : wc.cell? ⟨gb107, 15, none⟩ = some (.slice A0_15 l0_15.length c0_15) := (blk_cell BK107.out 15).trans rfl
                  have hcz65_16 : wc.cell? ⟨gb107, 16, none⟩ = some (.slice A0_16 l0_16.length c0_16) := (blk_cell BK107.out 16).trans rfl
                  have hfz65_0 := blk_frozen BK107.out 0
                  have hfz65_1 := blk_frozen BK107.out 1
                  have hfz65_2 := blk_frozen BK107.out 2
                  have hfz65_3 := blk_frozen BK107.out 3
                  have hfz65_4 := blk_frozen BK107.out 4
                  have hfz65_5 := blk_frozen BK107.out 5
                  have hfz65_6 := blk_frozen BK107.out 6
                  have hfz65_7 := blk_frozen BK107.out 7
                  have hfz65_8 := blk_frozen BK107.out 8
                  have hfz65_9 := blk_frozen BK107.out 9
                  have hfz65_10 := blk_frozen BK107.out 10
                  have hfz65_11 := blk_frozen BK107.out 11
                  have hfz65_12 := blk_frozen BK107.out 12
                  have hfz65_13 := blk_frozen BK107.out 13
                  have hfz65_14 := blk_frozen BK107.out 14
                  have hfz65_15 := blk_frozen BK107.out 15
                  have hfz65_16 := blk_frozen BK107.out 16
                  have hcz66_0 : wc.cell? ⟨gb108, 0, none⟩ = some (.int .i64 a1_0) := (blk_cell BK108.out 0).trans rfl
                  have hcz66_1 : wc.cell? ⟨gb108, 1, none⟩ = some (.int .i64 a1_1) := (blk_cell BK108.out 1).trans rfl
                  have hcz66_2 : wc.cell? ⟨gb108, 2, none⟩ = some (.int .i64 a1_2) := (blk_cell BK108.out 2).trans rfl
                  have hcz66_3 : wc.cell? ⟨gb108, 3, none⟩ = some (.bool a1_3) := (blk_cell BK108.out 3).trans rfl
                  have hcz66_4 : wc.cell? ⟨gb108, 4, none⟩ = some (.bool a1_4) := (blk_cell BK108.out 4).trans rfl
                  have hcz66_5 : wc.cell? ⟨gb108, 5, none⟩ = some (.bool a1_5) := (blk_cell BK108.out 5).trans rfl
                  have hcz66_6 : wc.cell? ⟨gb108, 6, none⟩ = some (.bool a1_6) := (blk_cell BK108.out 6).trans rfl
                  have hcz66_7 : wc.cell? ⟨gb108, 7, none⟩ = some (.bool a1_7) := (blk_cell BK108.out 7).trans rfl
                  have hcz66_8 : wc.cell? ⟨gb108, 8, none⟩ = some (.bool a1_8) := (blk_cell BK108.out 8).trans rfl
                  have hcz66_9 : wc.cell? ⟨gb108, 9, none⟩ = some (.bool a1_9) := (blk_cell BK108.out 9).trans rfl
                  have hcz66_10 : wc.cell? ⟨gb108, 10, none⟩ = some (.bool a1_10) := (blk_cell BK108.out 10).trans rfl
                  have hcz66_11 : wc.cell? ⟨gb108, 11, none⟩ = some (.int .i64 a1_11) := (blk_cell BK108.out 11).trans rfl
                  have hcz66_12 : wc.cell? ⟨gb108, 12, none⟩ = some (.string a1_12) := (blk_cell BK108.out 12).trans rfl
                  have hcz66_13 : wc.cell? ⟨gb108, 13, none⟩ = some (.int .i64 a1_13) := (blk_cell BK108.out 13).trans rfl
                  have hcz66_14 : wc.cell? ⟨gb108, 14, none⟩ = some (.slice A1_14 l1_14.length c1_14) := (blk_cell BK108.out 14).trans rfl
                  have hcz66_15 : wc.cell? ⟨gb108, 15, none⟩ = some (.slice A1_15 l1_15.length c1_15) := (blk_cell BK108.out 15).trans rfl
                  have hcz66_16 : wc.cell? ⟨gb108, 16, none⟩ = some (.slice A1_16 l1_16.length c1_16) := (blk_cell BK108.out 16).trans rfl
                  have hfz66_0 := blk_frozen BK108.out 0
                  have hfz66_1 := blk_frozen BK108.out 1
                  have hfz66_2 := blk_frozen BK108.out 2
                  have hfz66_3 := blk_frozen BK108.out 3
                  have hfz66_4 := blk_frozen BK108.out 4
                  have hfz66_5 := blk_frozen BK108.out 5
                  have hfz66_6 := blk_frozen BK108.out 6
                  have hfz66_7 := blk_frozen BK108.out 7
                  have hfz66_8 := blk_frozen BK108.out 8
                  have hfz66_9 := blk_frozen BK108.out 9
                  have hfz66_10 := blk_frozen BK108.out 10
                  have hfz66_11 := blk_frozen BK108.out 11
                  have hfz66_12 := blk_frozen BK108.out 12
                  have hfz66_13 := blk_frozen BK108.out 13
                  have hfz66_14 := blk_frozen BK108.out 14
                  have hfz66_15 := blk_frozen BK108.out 15
                  have hfz66_16 := blk_frozen BK108.out 16
                  go_wp2_with (first | ((with_reducible refine gate_callee (f := 9) rfl ?_); refine goesL_ (some 96) rfl rfl Try.func9 (by kernel_rfl) rfl #[.slice A0_14 l0_14.length c0_14, .slice A1_14 l1_14.length c1_14] rfl (by (try simp only [List.map_toArray, List.map_cons, List.map_nil]); first | done | rfl | (simp only [List.length_drop, List.length_take]; rfl)) ?_; (with_reducible refine (ddilaw08_records.calls kj37 _ _ l0_14 _ _ l1_14 true _ ?side1 ?side2 ?side3 ?side4 A59.out).mono ?_); (case side1 => repeat (first | exact (Kd.C_below HR0_14.out HB.out) | (with_reducible refine Kd.C_alloc ?_ _) | (with_reducible refine Kd.C_drewN ?_ _) | (with_reducible refine Kd.C_drew ?_))); (case side2 => exact HC0_14.out); (case side3 => repeat (first | exact (Kd.C_below HR1_14.out HB.out) | (with_reducible refine Kd.C_alloc ?_ _) | (with_reducible refine Kd.C_drewN ?_ _) | (with_reducible refine Kd.C_drew ?_))); (case side4 => exact HC1_14.out); rintro e w' ⟨rfl, ⟨nd, rfl⟩⟩; refine ⟨_, rfl, ?_⟩) | (go_at_call 9; (with_reducible refine (ddilaw08_records.calls kj37 _ _ l0_15 _ _ l1_15 true _ ?side1 ?side2 ?side3 ?side4 A61.out).mono ?_); (case side1 => repeat (first | exact (Kd.C_below HR0_15.out (by repeat (first | (with_reducible first | exact HB.out | apply below_alloc | apply pw_below_drewN | apply below_drew1 | refine below_set ?_ GE107.out | refine below_set ?_ GE108.out) | exact HB.out))) | (with_reducible refine Kd.C_alloc ?_ _) | (with_reducible refine Kd.C_drewN ?_ _) | (with_reducible refine Kd.C_drew ?_))); (case side2 => exact HC0_15.out); (case side3 => repeat (first | exact (Kd.C_below HR1_15.out (by repeat (first | (with_reducible first | exact HB.out | apply below_alloc | apply pw_below_drewN | apply below_drew1 | refine below_set ?_ GE107.out | refine below_set ?_ GE108.out) | exact HB.out))) | (with_reducible refine Kd.C_alloc ?_ _) | (with_reducible refine Kd.C_drewN ?_ _) | (with_reducible refine Kd.C_drew ?_))); (case side4 => exact HC1_15.out); rintro e w' ⟨rfl, ⟨nd, rfl⟩⟩) | (go_at_call 9; (with_reducible refine (ddilaw08_records.calls kj37 _ _ l0_16 _ _ l1_16 t111 _ ?side1 ?side2 ?side3 ?side4 A63.out).mono ?_); (case side1 => repeat (first | exact (Kd.C_below HR0_16.out (by repeat (first | (with_reducible first | exact HB.out | apply below_alloc | apply pw_below_drewN | apply below_drew1 | refine below_set ?_ GE107.out | refine below_set ?_ GE108.out) | exact HB.out))) | (with_reducible refine Kd.C_alloc ?_ _) | (with_reducible refine Kd.C_drewN ?_ _) | (with_reducible refine Kd.C_drew ?_))); (case side2 => exact HC0_16.out); (case side3 => repeat (first | exact (Kd.C_below HR1_16.out (by repeat (first | (with_reducible first | exact HB.out | apply below_alloc | apply pw_below_drewN | apply below_drew1 | refine below_set ?_ GE107.out | refine below_set ?_ GE108.out) | exact HB.out))) | (with_reducible refine Kd.C_alloc ?_ _) | (with_reducible refine Kd.C_drewN ?_ _) | (with_reducible refine Kd.C_drew ?_))); (case side4 => exact HC1_16.out); rintro e w' ⟨rfl, ⟨nd, rfl⟩⟩))
                  go_ret
                  exact ⟨by first | rfl | (simp [errW_none, errW_some] <;> rfl) | (simp [*, errW_none, errW_some] <;> rfl), by repeat (first | (with_reducible first | exact HB.out | apply below_alloc | apply pw_below_drewN | apply below_drew1 | refine below_set ?_ GE107.out | refine below_set ?_ GE108.out) | exact HB.out)⟩
                · replace c62 := Bool.eq_false_iff.mpr c62
                  subst c62
                  have H1 : (some false) = some r := by rw [if_neg (show ¬ (false = true) by decide)] at H; exact H
                  clear H
                  have H := H1
                  clear H1
                  obtain rfl := Option.some.inj H
                  have hnb67 := NB107_108.out
                  have hnc67 := NB108_107.out
                  have hcz68_0 : wc.cell? ⟨gb107, 0, none⟩ = some (.int .i64 a0_0) := (blk_cell BK107.out 0).trans rfl
                  have hcz68_1 : wc.cell? ⟨gb107, 1, none⟩ = some (.int .i64 a0_1) := (blk_cell BK107.out 1).trans rfl
                  have hcz68_2 : wc.cell? ⟨gb107, 2, none⟩ = some (.int .i64 a0_2) := (blk_cell BK107.out 2).trans rfl
                  have hcz68_3 : wc.cell? ⟨gb107, 3, none⟩ = some (.bool a0_3) := (blk_cell BK107.out 3).trans rfl
                  have hcz68_4 : wc.cell? ⟨gb107, 4, none⟩ = some (.bool a0_4) := (blk_cell BK107.out 4).trans rfl
                  have hcz68_5 : wc.cell? ⟨gb107, 5, none⟩ = some (.bool a0_5) := (blk_cell BK107.out 5).trans rfl
                  have hcz68_6 : wc.cell? ⟨gb107, 6, none⟩ = some (.bool a0_6) := (blk_cell BK107.out 6).trans rfl
                  have hcz68_7 : wc.cell? ⟨gb107, 7, none⟩ = some (.bool a0_7) := (blk_cell BK107.out 7).trans rfl
                  have hcz68_8 : wc.cell? ⟨gb107, 8, none⟩ = some (.bool a0_8) := (blk_cell BK107.out 8).trans rfl
                  have hcz68_9 : wc.cell? ⟨gb107, 9, none⟩ = some (.bool a0_9) := (blk_cell BK107.out 9).trans rfl
                  have hcz68_10 : wc.cell? ⟨gb107, 10, none⟩ = some (.bool a0_10) := (blk_cell BK107.out 10).trans rfl
                  have hcz68_11 : wc.cell? ⟨gb107, 11, none⟩ = some (.int .i64 a0_11) := (blk_cell BK107.out 11).trans rfl
                  have hcz68_12 : wc.cell? ⟨gb107, 12, none⟩ = some (.string a0_12) := (blk_cell BK107.out 12).trans rfl
                  have hcz68_13 : wc.cell? ⟨gb107, 13, none⟩ = some (.int .i64 a0_13) := (blk_cell BK107.out 13).trans rfl
                  have hcz68_14 : wc.cell? ⟨gb107, 14, none⟩ = some (.slice A0_14 l0_14.length c0_14) := (blk_cell BK107.out 14).trans rfl
                  have hcz68_15 : wc.cell? ⟨gb107, 15, none⟩ = some (.slice A0_15 l0_15.length c0_15) := (blk_cell BK107.out 15).trans rfl
                  have hcz68_16 : wc.cell? ⟨gb107, 16, none⟩ = some (.slice A0_16 l0_16.length c0_16) := (blk_cell BK107.out 16).trans rfl
                  have hfz68_0 := blk_frozen BK107.out 0
                  have hfz68_1 := blk_frozen BK107.out 1
                  have hfz68_2 := blk_frozen BK107.out 2
                  have hfz68_3 := blk_frozen BK107.out 3
                  have hfz68_4 := blk_frozen BK107.out 4
                  have hfz68_5 := blk_frozen BK107.out 5
                  have hfz68_6 := blk_frozen BK107.out 6
                  have hfz68_7 := blk_frozen BK107.out 7
                  have hfz68_8 := blk_frozen BK107.out 8
                  have hfz68_9 := blk_frozen BK107.out 9
                  have hfz68_10 := blk_frozen BK107.out 10
                  have hfz68_11 := blk_frozen BK107.out 11
                  have hfz68_12 := blk_frozen BK107.out 12
                  have hfz68_13 := blk_frozen BK107.out 13
                  have hfz68_14 := blk_frozen BK107.out 14
                  have hfz68_15 := blk_frozen BK107.out 15
                  have hfz68_16 := blk_frozen BK107.out 16
                  have hcz69_0 : wc.cell? ⟨gb108, 0, none⟩ = some (.int .i64 a1_0) := (blk_cell BK108.out 0).trans rfl
                  have hcz69_1 : wc.cell? ⟨gb108, 1, none⟩ = some (.int .i64 a1_1) := (blk_cell BK108.out 1).trans rfl
                  have hcz69_2 : wc.cell? ⟨gb108, 2, none⟩ = some (.int .i64 a1_2) := (blk_cell BK108.out 2).trans rfl
                  have hcz69_3 : wc.cell? ⟨gb108, 3, none⟩ = some (.bool a1_3) := (blk_cell BK108.out 3).trans rfl
                  have hcz69_4 : wc.cell? ⟨gb108, 4, none⟩ = some (.bool a1_4) := (blk_cell BK108.out 4).trans rfl
                  have hcz69_5 : wc.cell? ⟨gb108, 5, none⟩ = some (.bool a1_5) := (blk_cell BK108.out 5).trans rfl
                  have hcz69_6 : wc.cell? ⟨gb108, 6, none⟩ = some (.bool a1_6) := (blk_cell BK108.out 6).trans rfl
                  have hcz69_7 : wc.cell? ⟨gb108, 7, none⟩ = some (.bool a1_7) := (blk_cell BK108.out 7).trans rfl
                  have hcz69_8 : wc.cell? ⟨gb108, 8, none⟩ = some (.bool a1_8) := (blk_cell BK108.out 8).trans rfl
                  have hcz69_9 : wc.cell? ⟨gb108, 9, none⟩ = some (.bool a1_9) := (blk_cell BK108.out 9).trans rfl
                  have hcz69_10 : wc.cell? ⟨gb108, 10, none⟩ = some (.bool a1_10) := (blk_cell BK108.out 10).trans rfl
                  have hcz69_11 : wc.cell? ⟨gb108, 11, none⟩ = some (.int .i64 a1_11) := (blk_cell BK108.out 11).trans rfl
                  have hcz69_12 : wc.cell? ⟨gb108, 12, none⟩ = some (.string a1_12) := (blk_cell BK108.out 12).trans rfl
                  have hcz69_13 : wc.cell? ⟨gb108, 13, none⟩ = some (.int .i64 a1_13) := (blk_cell BK108.out 13).trans rfl
                  have hcz69_14 : wc.cell? ⟨gb108, 14, none⟩ = some (.slice A1_14 l1_14.length c1_14) := (blk_cell BK108.out 14).trans rfl
                  have hcz69_15 : wc.cell? ⟨gb108, 15, none⟩ = some (.slice A1_15 l1_15.length c1_15) := (blk_cell BK108.out 15).trans rfl
                  have hcz69_16 : wc.cell? ⟨gb108, 16, none⟩ = some (.slice A1_16 l1_16.length c1_16) := (blk_cell BK108.out 16).trans rfl
                  have hfz69_0 := blk_frozen BK108.out 0
                  have hfz69_1 := blk_frozen BK108.out 1
                  have hfz69_2 := blk_frozen BK108.out 2
                  have hfz69_3 := blk_frozen BK108.out 3
                  have hfz69_4 := blk_frozen BK108.out 4
                  have hfz69_5 := blk_frozen BK108.out 5
                  have hfz69_6 := blk_frozen BK108.out 6
                  have hfz69_7 := blk_frozen BK108.out 7
                  have hfz69_8 := blk_frozen BK108.out 8
                  have hfz69_9 := blk_frozen BK108.out 9
                  have hfz69_10 := blk_frozen BK108.out 10
                  have hfz69_11 := blk_frozen BK108.out 11
                  have hfz69_12 := blk_frozen BK108.out 12
                  have hfz69_13 := blk_frozen BK108.out 13
                  have hfz69_14 := blk_frozen BK108.out 14
                  have hfz69_15 := blk_frozen BK108.out 15
                  have hfz69_16 := blk_frozen BK108.out 16
                  go_wp2_with (first | ((with_reducible refine gate_callee (f := 9) rfl ?_); refine goesL_ (some 96) rfl rfl Try.func9 (by kernel_rfl) rfl #[.slice A0_14 l0_14.length c0_14, .slice A1_14 l1_14.length c1_14] rfl (by (try simp only [List.map_toArray, List.map_cons, List.map_nil]); first | done | rfl | (simp only [List.length_drop, List.length_take]; rfl)) ?_; (with_reducible refine (ddilaw08_records.calls kj37 _ _ l0_14 _ _ l1_14 true _ ?side1 ?side2 ?side3 ?side4 A59.out).mono ?_); (case side1 => repeat (first | exact (Kd.C_below HR0_14.out HB.out) | (with_reducible refine Kd.C_alloc ?_ _) | (with_reducible refine Kd.C_drewN ?_ _) | (with_reducible refine Kd.C_drew ?_))); (case side2 => exact HC0_14.out); (case side3 => repeat (first | exact (Kd.C_below HR1_14.out HB.out) | (with_reducible refine Kd.C_alloc ?_ _) | (with_reducible refine Kd.C_drewN ?_ _) | (with_reducible refine Kd.C_drew ?_))); (case side4 => exact HC1_14.out); rintro e w' ⟨rfl, ⟨nd, rfl⟩⟩; refine ⟨_, rfl, ?_⟩) | (go_at_call 9; (with_reducible refine (ddilaw08_records.calls kj37 _ _ l0_15 _ _ l1_15 false _ ?side1 ?side2 ?side3 ?side4 A61.out).mono ?_); (case side1 => repeat (first | exact (Kd.C_below HR0_15.out (by repeat (first | (with_reducible first | exact HB.out | apply below_alloc | apply pw_below_drewN | apply below_drew1 | refine below_set ?_ GE107.out | refine below_set ?_ GE108.out) | exact HB.out))) | (with_reducible refine Kd.C_alloc ?_ _) | (with_reducible refine Kd.C_drewN ?_ _) | (with_reducible refine Kd.C_drew ?_))); (case side2 => exact HC0_15.out); (case side3 => repeat (first | exact (Kd.C_below HR1_15.out (by repeat (first | (with_reducible first | exact HB.out | apply below_alloc | apply pw_below_drewN | apply below_drew1 | refine below_set ?_ GE107.out | refine below_set ?_ GE108.out) | exact HB.out))) | (with_reducible refine Kd.C_alloc ?_ _) | (with_reducible refine Kd.C_drewN ?_ _) | (with_reducible refine Kd.C_drew ?_))); (case side4 => exact HC1_15.out); rintro e w' ⟨rfl, ⟨nd, rfl⟩⟩))
                  go_ret
                  exact ⟨by first | rfl | (simp [errW_none, errW_some] <;> rfl) | (simp [*, errW_none, errW_some] <;> rfl), by repeat (first | (with_reducible first | exact HB.out | apply below_alloc | apply pw_below_drewN | apply below_drew1 | refine below_set ?_ GE107.out | refine below_set ?_ GE108.out) | exact HB.out)⟩
              · replace c60 := Bool.eq_false_iff.mpr c60
                subst c60
                have H1 : (some false) = some r := by rw [if_neg (show ¬ (false = true) by decide)] at H; exact H
                clear H
                have H := H1
                clear H1
                obtain rfl := Option.some.inj H
                have hnb70 := NB107_108.out
                have hnc70 := NB108_107.out
                have hcz71_0 : wc.cell? ⟨gb107, 0, none⟩ = some (.int .i64 a0_0) := (blk_cell BK107.out 0).trans rfl
                have hcz71_1 : wc.cell? ⟨gb107, 1, none⟩ = some (.int .i64 a0_1) := (blk_cell BK107.out 1).trans rfl
                have hcz71_2 : wc.cell? ⟨gb107, 2, none⟩ = some (.int .i64 a0_2) := (blk_cell BK107.out 2).trans rfl
                have hcz71_3 : wc.cell? ⟨gb107, 3, none⟩ = some (.bool a0_3) := (blk_cell BK107.out 3).trans rfl
                have hcz71_4 : wc.cell? ⟨gb107, 4, none⟩ = some (.bool a0_4) := (blk_cell BK107.out 4).trans rfl
                have hcz71_5 : wc.cell? ⟨gb107, 5, none⟩ = some (.bool a0_5) := (blk_cell BK107.out 5).trans rfl
                have hcz71_6 : wc.cell? ⟨gb107, 6, none⟩ = some (.bool a0_6) := (blk_cell BK107.out 6).trans rfl
                have hcz71_7 : wc.cell? ⟨gb107, 7, none⟩ = some (.bool a0_7) := (blk_cell BK107.out 7).trans rfl
                have hcz71_8 : wc.cell? ⟨gb107, 8, none⟩ = some (.bool a0_8) := (blk_cell BK107.out 8).trans rfl
                have hcz71_9 : wc.cell? ⟨gb107, 9, none⟩ = some (.bool a0_9) := (blk_cell BK107.out 9).trans rfl
                have hcz71_10 : wc.cell? ⟨gb107, 10, none⟩ = some (.bool a0_10) := (blk_cell BK107.out 10).trans rfl
                have hcz71_11 : wc.cell? ⟨gb107, 11, none⟩ = some (.int .i64 a0_11) := (blk_cell BK107.out 11).trans rfl
                have hcz71_12 : wc.cell? ⟨gb107, 12, none⟩ = some (.string a0_12) := (blk_cell BK107.out 12).trans rfl
                have hcz71_13 : wc.cell? ⟨gb107, 13, none⟩ = some (.int .i64 a0_13) := (blk_cell BK107.out 13).trans rfl
                have hcz71_14 : wc.cell? ⟨gb107, 14, none⟩ = some (.slice A0_14 l0_14.length c0_14) := (blk_cell BK107.out 14).trans rfl
                have hcz71_15 : wc.cell? ⟨gb107, 15, none⟩ = some (.slice A0_15 l0_15.length c0_15) := (blk_cell BK107.out 15).trans rfl
                have hcz71_16 : wc.cell? ⟨gb107, 16, none⟩ = some (.slice A0_16 l0_16.length c0_16) := (blk_cell BK107.out 16).trans rfl
                have hfz71_0 := blk_frozen BK107.out 0
                have hfz71_1 := blk_frozen BK107.out 1
                have hfz71_2 := blk_frozen BK107.out 2
                have hfz71_3 := blk_frozen BK107.out 3
                have hfz71_4 := blk_frozen BK107.out 4
                have hfz71_5 := blk_frozen BK107.out 5
                have hfz71_6 := blk_frozen BK107.out 6
                have hfz71_7 := blk_frozen BK107.out 7
                have hfz71_8 := blk_frozen BK107.out 8
                have hfz71_9 := blk_frozen BK107.out 9
                have hfz71_10 := blk_frozen BK107.out 10
                have hfz71_11 := blk_frozen BK107.out 11
                have hfz71_12 := blk_frozen BK107.out 12
                have hfz71_13 := blk_frozen BK107.out 13
                have hfz71_14 := blk_frozen BK107.out 14
                have hfz71_15 := blk_frozen BK107.out 15
                have hfz71_16 := blk_frozen BK107.out 16
                have hcz72_0 : wc.cell? ⟨gb108, 0, none⟩ = some (.int .i64 a1_0) := (blk_cell BK108.out 0).trans rfl
                have hcz72_1 : wc.cell? ⟨gb108, 1, none⟩ = some (.int .i64 a1_1) := (blk_cell BK108.out 1).trans rfl
                have hcz72_2 : wc.cell? ⟨gb108, 2, none⟩ = some (.int .i64 a1_2) := (blk_cell BK108.out 2).trans rfl
                have hcz72_3 : wc.cell? ⟨gb108, 3, none⟩ = some (.bool a1_3) := (blk_cell BK108.out 3).trans rfl
                have hcz72_4 : wc.cell? ⟨gb108, 4, none⟩ = some (.bool a1_4) := (blk_cell BK108.out 4).trans rfl
                have hcz72_5 : wc.cell? ⟨gb108, 5, none⟩ = some (.bool a1_5) := (blk_cell BK108.out 5).trans rfl
                have hcz72_6 : wc.cell? ⟨gb108, 6, none⟩ = some (.bool a1_6) := (blk_cell BK108.out 6).trans rfl
                have hcz72_7 : wc.cell? ⟨gb108, 7, none⟩ = some (.bool a1_7) := (blk_cell BK108.out 7).trans rfl
                have hcz72_8 : wc.cell? ⟨gb108, 8, none⟩ = some (.bool a1_8) := (blk_cell BK108.out 8).trans rfl
                have hcz72_9 : wc.cell? ⟨gb108, 9, none⟩ = some (.bool a1_9) := (blk_cell BK108.out 9).trans rfl
                have hcz72_10 : wc.cell? ⟨gb108, 10, none⟩ = some (.bool a1_10) := (blk_cell BK108.out 10).trans rfl
                have hcz72_11 : wc.cell? ⟨gb108, 11, none⟩ = some (.int .i64 a1_11) := (blk_cell BK108.out 11).trans rfl
                have hcz72_12 : wc.cell? ⟨gb108, 12, none⟩ = some (.string a1_12) := (blk_cell BK108.out 12).trans rfl
                have hcz72_13 : wc.cell? ⟨gb108, 13, none⟩ = some (.int .i64 a1_13) := (blk_cell BK108.out 13).trans rfl
                have hcz72_14 : wc.cell? ⟨gb108, 14, none⟩ = some (.slice A1_14 l1_14.length c1_14) := (blk_cell BK108.out 14).trans rfl
                have hcz72_15 : wc.cell? ⟨gb108, 15, none⟩ = some (.slice A1_15 l1_15.length c1_15) := (blk_cell BK108.out 15).trans rfl
                have hcz72_16 : wc.cell? ⟨gb108, 16, none⟩ = some (.slice A1_16 l1_16.length c1_16) := (blk_cell BK108.out 16).trans rfl
                have hfz72_0 := blk_frozen BK108.out 0
                have hfz72_1 := blk_frozen BK108.out 1
                have hfz72_2 := blk_frozen BK108.out 2
                have hfz72_3 := blk_frozen BK108.out 3
                have hfz72_4 := blk_frozen BK108.out 4
                have hfz72_5 := blk_frozen BK108.out 5
                have hfz72_6 := blk_frozen BK108.out 6
                have hfz72_7 := blk_frozen BK108.out 7
                have hfz72_8 := blk_frozen BK108.out 8
                have hfz72_9 := blk_frozen BK108.out 9
                have hfz72_10 := blk_frozen BK108.out 10
                have hfz72_11 := blk_frozen BK108.out 11
                have hfz72_12 := blk_frozen BK108.out 12
                have hfz72_13 := blk_frozen BK108.out 13
                have hfz72_14 := blk_frozen BK108.out 14
                have hfz72_15 := blk_frozen BK108.out 15
                have hfz72_16 := blk_frozen BK108.out 16
                go_wp2_with (first | ((with_reducible refine gate_callee (f := 9) rfl ?_); refine goesL_ (some 96) rfl rfl Try.func9 (by kernel_rfl) rfl #[.slice A0_14 l0_14.length c0_14, .slice A1_14 l1_14.length c1_14] rfl (by (try simp only [List.map_toArray, List.map_cons, List.map_nil]); first | done | rfl | (simp only [List.length_drop, List.length_take]; rfl)) ?_; (with_reducible refine (ddilaw08_records.calls kj37 _ _ l0_14 _ _ l1_14 false _ ?side1 ?side2 ?side3 ?side4 A59.out).mono ?_); (case side1 => repeat (first | exact (Kd.C_below HR0_14.out HB.out) | (with_reducible refine Kd.C_alloc ?_ _) | (with_reducible refine Kd.C_drewN ?_ _) | (with_reducible refine Kd.C_drew ?_))); (case side2 => exact HC0_14.out); (case side3 => repeat (first | exact (Kd.C_below HR1_14.out HB.out) | (with_reducible refine Kd.C_alloc ?_ _) | (with_reducible refine Kd.C_drewN ?_ _) | (with_reducible refine Kd.C_drew ?_))); (case side4 => exact HC1_14.out); rintro e w' ⟨rfl, ⟨nd, rfl⟩⟩; refine ⟨_, rfl, ?_⟩))
                go_ret
                exact ⟨by first | rfl | (simp [errW_none, errW_some] <;> rfl) | (simp [*, errW_none, errW_some] <;> rfl), by repeat (first | (with_reducible first | exact HB.out | apply below_alloc | apply pw_below_drewN | apply below_drew1 | refine below_set ?_ GE107.out | refine below_set ?_ GE108.out) | exact HB.out)⟩

end Go.Proofs.Ytoacomiijohpmaa.P
