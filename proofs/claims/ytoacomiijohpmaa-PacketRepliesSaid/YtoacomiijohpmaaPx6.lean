/- The Go functions in Lean, with the proofs that the code comes to these answers: printed by this session's program (wip/px) out of the seat's translation. Conditions: each theorem's own. -/
import Derived.Test.YtoacomiijohpmaaPx0
import Derived.Test.YtoacomiijohpmaaPx3
import Derived.Test.YtoacomiijohpmaaPx4
import Derived.Test.YtoacomiijohpmaaPx5
namespace Go.Proofs.Ytoacomiijohpmaa.P
open Go.RowKit Go.Proofs.YtoacomiijohpmaaW.PrintWords Go.Proofs.YtoacomiijohpmaaW.PrintLast Go.Proofs.YtoacomiijohpmaaW.PrintMore
attribute [local go_sem] max2_int min2_int max_two min_two max_three min_three max_four min_four   -- for this text's walks alone
attribute [local go_sem ↓] Ext.isSome_setCell
set_option linter.unusedVariables false
set_option linter.unusedSimpArgs false

/-! ### ddilaw08_PacketReplies: function 3 -/
def ddilaw08_PacketReplies.j0 : Nat → Int → Bool → Int → Int → Int → Bool → Bool → Bool → Bool → Bool → Bool → Bool → Bool → Int → ByteArray → Int → List (S38) → List (S38) → List (S38) → Option (Bool)
  | 0, _, _, _, _, _, _, _, _, _, _, _, _, _, _, _, _, _, _, _ => none
  | k + 1, x1, x30, x117000, x117001, x117002, x117003, x117004, x117005, x117006, x117007, x117008, x117009, x117010, x117011, x117012, x117013, x117014, x117015, x117016 => if x30 = true then (some false) else ((packet_Reply.f x117000 x117001 x117002 x117003 x117004 x117005 x117006 x117007 x117008 x117009 x117010 x117011 x117012 x117013 x117014 x117015 x117016 x1).bind fun bt142 => ((ddiref08_Reply.f x117000 x117001 x117002 x117003 x117004 x117005 x117006 x117007 x117008 x117009 x117010 x117011 x117012 x117013 x117014 x117015 x117016 x1).bind fun bt165 => ((ddilaw08_same.f k bt142.1 bt142.2.1 bt142.2.2.1 bt142.2.2.2.1 bt142.2.2.2.2.1 bt142.2.2.2.2.2.1 bt142.2.2.2.2.2.2.1 bt142.2.2.2.2.2.2.2.1 bt142.2.2.2.2.2.2.2.2.1 bt142.2.2.2.2.2.2.2.2.2.1 bt142.2.2.2.2.2.2.2.2.2.2.1 bt142.2.2.2.2.2.2.2.2.2.2.2.1 bt142.2.2.2.2.2.2.2.2.2.2.2.2.1 bt142.2.2.2.2.2.2.2.2.2.2.2.2.2.1 bt142.2.2.2.2.2.2.2.2.2.2.2.2.2.2.1 bt142.2.2.2.2.2.2.2.2.2.2.2.2.2.2.2.1 bt142.2.2.2.2.2.2.2.2.2.2.2.2.2.2.2.2 bt165.1 bt165.2.1 bt165.2.2.1 bt165.2.2.2.1 bt165.2.2.2.2.1 bt165.2.2.2.2.2.1 bt165.2.2.2.2.2.2.1 bt165.2.2.2.2.2.2.2.1 bt165.2.2.2.2.2.2.2.2.1 bt165.2.2.2.2.2.2.2.2.2.1 bt165.2.2.2.2.2.2.2.2.2.2.1 bt165.2.2.2.2.2.2.2.2.2.2.2.1 bt165.2.2.2.2.2.2.2.2.2.2.2.2.1 bt165.2.2.2.2.2.2.2.2.2.2.2.2.2.1 bt165.2.2.2.2.2.2.2.2.2.2.2.2.2.2.1 bt165.2.2.2.2.2.2.2.2.2.2.2.2.2.2.2.1 bt165.2.2.2.2.2.2.2.2.2.2.2.2.2.2.2.2).bind fun t188 => (if t188 = true then ((packet_Space.f x117000 x117001 x117002 x117003 x117004 x117005 x117006 x117007 x117008 x117009 x117010 x117011 x117012 x117013 x117014 x117015 x117016).bind fun t189 => ((ddiref08_Space.f x117000 x117001 x117002 x117003 x117004 x117005 x117006 x117007 x117008 x117009 x117010 x117011 x117012 x117013 x117014 x117015 x117016).bind fun t190 => (some (t189 == t190)))) else (some false)))))
def ddilaw08_PacketReplies.f (k : Nat) (a0_0 : Int) (a0_1 : Int) (a0_2 : Int) (a0_3 : Bool) (a0_4 : Bool) (a0_5 : Bool) (a0_6 : Bool) (a0_7 : Bool) (a0_8 : Bool) (a0_9 : Bool) (a0_10 : Bool) (a0_11 : Int) (a0_12 : ByteArray) (a0_13 : Int) (l0_14 : List (S38)) (l0_15 : List (S38)) (l0_16 : List (S38)) (a1 : Int) : Option (Bool) := (packet_Reply.f 7 0 0 false false false true false false false false 512 (⟨#[]⟩ : ByteArray) 0 ([] : List (S38)) ([] : List (S38)) ([] : List (S38)) 3).bind fun bt117 => (if bt117.1 = 7 then (if bt117.2.2.2.1 = true then (if bt117.2.2.2.2.2.2.2.2.2.2.2.1 = 1232 then (if bt117.2.2.1 = 3 then ((packet_Space.f 0 0 0 false false false false false false false false 0 (⟨#[]⟩ : ByteArray) 0 ([] : List (S38)) ([] : List (S38)) ([] : List (S38))).bind fun t141 => (ddilaw08_PacketReplies.j0 k a1 (t141 != 512) a0_0 a0_1 a0_2 a0_3 a0_4 a0_5 a0_6 a0_7 a0_8 a0_9 a0_10 a0_11 a0_12 a0_13 l0_14 l0_15 l0_16)) else (ddilaw08_PacketReplies.j0 k a1 true a0_0 a0_1 a0_2 a0_3 a0_4 a0_5 a0_6 a0_7 a0_8 a0_9 a0_10 a0_11 a0_12 a0_13 l0_14 l0_15 l0_16)) else (ddilaw08_PacketReplies.j0 k a1 true a0_0 a0_1 a0_2 a0_3 a0_4 a0_5 a0_6 a0_7 a0_8 a0_9 a0_10 a0_11 a0_12 a0_13 l0_14 l0_15 l0_16)) else (ddilaw08_PacketReplies.j0 k a1 true a0_0 a0_1 a0_2 a0_3 a0_4 a0_5 a0_6 a0_7 a0_8 a0_9 a0_10 a0_11 a0_12 a0_13 l0_14 l0_15 l0_16)) else (ddilaw08_PacketReplies.j0 k a1 true a0_0 a0_1 a0_2 a0_3 a0_4 a0_5 a0_6 a0_7 a0_8 a0_9 a0_10 a0_11 a0_12 a0_13 l0_14 l0_15 l0_16))
theorem ddilaw08_PacketReplies.mono_l : ∀ k, (∀ y0 y1 y2 y3 y4 y5 y6 y7 y8 y9 y10 y11 y12 y13 y14 y15 y16 y17 y18, LeO (ddilaw08_PacketReplies.j0 k y0 y1 y2 y3 y4 y5 y6 y7 y8 y9 y10 y11 y12 y13 y14 y15 y16 y17 y18) (ddilaw08_PacketReplies.j0 (k + 1) y0 y1 y2 y3 y4 y5 y6 y7 y8 y9 y10 y11 y12 y13 y14 y15 y16 y17 y18))
  | 0 => fun _ _ _ _ _ _ _ _ _ _ _ _ _ _ _ _ _ _ _ r h => by simp [ddilaw08_PacketReplies.j0] at h
  | k + 1 => by
    have ih0 := ddilaw08_PacketReplies.mono_l k
    · intro y0 y1 y2 y3 y4 y5 y6 y7 y8 y9 y10 y11 y12 y13 y14 y15 y16 y17 y18
      unfold ddilaw08_PacketReplies.j0
      repeat' first
      | (with_reducible exact ih0 _ _ _ _ _ _ _ _ _ _ _ _ _ _ _ _ _ _ _)
      | (with_reducible exact ddilaw08_same.mono _ _ _ _ _ _ _ _ _ _ _ _ _ _ _ _ _ _ _ _ _ _ _ _ _ _ _ _ _ _ _ _ _ _ _)
      | (with_reducible exact LeO.refl _)
      | (with_reducible exact LeO.none _)
      | (with_reducible refine LeO.ite ?_ ?_)
      | (with_reducible refine LeO.bind ?_ (fun _ => ?_))
      | exact ih0 _ _ _ _ _ _ _ _ _ _ _ _ _ _ _ _ _ _ _
      | exact ddilaw08_same.mono _ _ _ _ _ _ _ _ _ _ _ _ _ _ _ _ _ _ _ _ _ _ _ _ _ _ _ _ _ _ _ _ _ _ _
      | exact LeO.none _
      | refine LeO.ite ?_ ?_
      | refine LeO.bind ?_ (fun _ => ?_)
theorem ddilaw08_PacketReplies.mono : ∀ a0 a1 a2 a3 a4 a5 a6 a7 a8 a9 a10 a11 a12 a13 a14 a15 a16 a17 k, LeO (ddilaw08_PacketReplies.f k a0 a1 a2 a3 a4 a5 a6 a7 a8 a9 a10 a11 a12 a13 a14 a15 a16 a17) (ddilaw08_PacketReplies.f (k + 1) a0 a1 a2 a3 a4 a5 a6 a7 a8 a9 a10 a11 a12 a13 a14 a15 a16 a17) := by
  intro a0 a1 a2 a3 a4 a5 a6 a7 a8 a9 a10 a11 a12 a13 a14 a15 a16 a17 k
  have ih0 := ddilaw08_PacketReplies.mono_l k
  unfold ddilaw08_PacketReplies.f
  repeat' first
      | (with_reducible exact ih0 _ _ _ _ _ _ _ _ _ _ _ _ _ _ _ _ _ _ _)
      | (with_reducible exact ddilaw08_same.mono _ _ _ _ _ _ _ _ _ _ _ _ _ _ _ _ _ _ _ _ _ _ _ _ _ _ _ _ _ _ _ _ _ _ _)
      | (with_reducible exact LeO.refl _)
      | (with_reducible exact LeO.none _)
      | (with_reducible refine LeO.ite ?_ ?_)
      | (with_reducible refine LeO.bind ?_ (fun _ => ?_))
      | exact ih0 _ _ _ _ _ _ _ _ _ _ _ _ _ _ _ _ _ _ _
      | exact ddilaw08_same.mono _ _ _ _ _ _ _ _ _ _ _ _ _ _ _ _ _ _ _ _ _ _ _ _ _ _ _ _ _ _ _ _ _ _ _
      | exact LeO.none _
      | refine LeO.ite ?_ ?_
      | refine LeO.bind ?_ (fun _ => ?_)
def ddilaw08_PacketReplies.T4 : Bool × List (List Nat × List Nat) := (true, [([], []), ([], []), ([0, 1], [0, 1]), ([], []), ([], []), ([3, 4, 2], [3, 4]), ([2, 5, 5], [2, 5]), ([6, 6], [6]), ([7], [7]), ([8, 7, 7], [7, 8]), ([7], [7]), ([10, 9, 7], [7, 10]), ([9, 11, 7], [7, 9, 11]), ([7, 12], [7, 12]), ([13, 11, 0, 1, 2, 3, 4, 5, 6, 7, 8, 9, 10, 11, 12, 13], [13])])
def ddilaw08_PacketReplies.B4 : List Nat := [0, 0, 3, 0, 0, 31, 63, 127, 255, 511, 255, 2047, 4095, 8191, 16383]
theorem ddilaw08_PacketReplies.tab4 : rtab .any (opsOf Try.f3 4) = ddilaw08_PacketReplies.T4 := by kernel_rfl
theorem ddilaw08_PacketReplies.bits4 : waitsOk ddilaw08_PacketReplies.T4.2 ddilaw08_PacketReplies.B4 = true := by kernel_rfl
set_option maxHeartbeats 40000000 in
set_option maxRecDepth 100000 in
theorem ddilaw08_PacketReplies.calls (k : Nat) (a0_0 : Int) (a0_1 : Int) (a0_2 : Int) (a0_3 : Bool) (a0_4 : Bool) (a0_5 : Bool) (a0_6 : Bool) (a0_7 : Bool) (a0_8 : Bool) (a0_9 : Bool) (a0_10 : Bool) (a0_11 : Int) (a0_12 : ByteArray) (a0_13 : Int) (A0_14 : Option Addr) (c0_14 : Nat) (l0_14 : List (S38)) (A0_15 : Option Addr) (c0_15 : Nat) (l0_15 : List (S38)) (A0_16 : Option Addr) (c0_16 : Nat) (l0_16 : List (S38)) (a1 : Int) (r : Bool) (w : World) (hr0_14 : Kd.C k38 w A0_14 l0_14.length l0_14) (hc0_14 : l0_14.length ≤ c0_14) (hr0_15 : Kd.C k38 w A0_15 l0_15.length l0_15) (hc0_15 : l0_15.length ≤ c0_15) (hr0_16 : Kd.C k38 w A0_16 l0_16.length l0_16) (hc0_16 : l0_16.length ≤ c0_16) (h : ddilaw08_PacketReplies.f k a0_0 a0_1 a0_2 a0_3 a0_4 a0_5 a0_6 a0_7 a0_8 a0_9 a0_10 a0_11 a0_12 a0_13 l0_14 l0_15 l0_16 a1 = some r) :
    Calls Try.prog 3 #[.agg #[.int .i64 a0_0, .int .i64 a0_1, .int .i64 a0_2, .bool a0_3, .bool a0_4, .bool a0_5, .bool a0_6, .bool a0_7, .bool a0_8, .bool a0_9, .bool a0_10, .int .i64 a0_11, .string a0_12, .int .i64 a0_13, .slice A0_14 l0_14.length c0_14, .slice A0_15 l0_15.length c0_15, .slice A0_16 l0_16.length c0_16], .int .i64 a1] w fun e w' => e = .returned (.bool r) ∧ Below w.heap.size w w' := by
  have hbl6 : ∀ (x1_ : Int) (x2_ : Bool) (x3_ : Int), Try.prog.built 26 [(0, (.int .i64 x1_)), (6, (.bool x2_)), (11, (.int .i64 x3_))] = some #[(.int .i64 x1_), (.int .i64 0), (.int .i64 0), (.bool false), (.bool false), (.bool false), (.bool x2_), (.bool false), (.bool false), (.bool false), (.bool false), (.int .i64 x3_), (.string (⟨#[]⟩ : ByteArray)), (.int .i64 0), (.slice none 0 0), (.slice none 0 0), (.slice none 0 0)] := by intros; kernel_rfl
  have hbl27 : Try.prog.built 26 [] = some #[(.int .i64 0), (.int .i64 0), (.int .i64 0), (.bool false), (.bool false), (.bool false), (.bool false), (.bool false), (.bool false), (.bool false), (.bool false), (.int .i64 0), (.string (⟨#[]⟩ : ByteArray)), (.int .i64 0), (.slice none 0 0), (.slice none 0 0), (.slice none 0 0)] := by kernel_rfl
  have hu26 := Try.underlying26
  have HR0_14 := Aside0.mk hr0_14
  have HC0_14 := Aside0.mk hc0_14
  clear hr0_14 hc0_14
  have HR0_15 := Aside0.mk hr0_15
  have HC0_15 := Aside0.mk hc0_15
  clear hr0_15 hc0_15
  have HR0_16 := Aside0.mk hr0_16
  have HC0_16 := Aside0.mk hc0_16
  clear hr0_16 hc0_16
  have HB := Aside0.mk (Below.refl w.heap.size w)
  have H : ((packet_Reply.f 7 0 0 false false false true false false false false 512 (⟨#[]⟩ : ByteArray) 0 ([] : List (S38)) ([] : List (S38)) ([] : List (S38)) 3).bind fun bt117 => (if bt117.1 = 7 then (if bt117.2.2.2.1 = true then (if bt117.2.2.2.2.2.2.2.2.2.2.2.1 = 1232 then (if bt117.2.2.1 = 3 then ((packet_Space.f 0 0 0 false false false false false false false false 0 (⟨#[]⟩ : ByteArray) 0 ([] : List (S38)) ([] : List (S38)) ([] : List (S38))).bind fun t141 => (ddilaw08_PacketReplies.j0 k a1 (t141 != 512) a0_0 a0_1 a0_2 a0_3 a0_4 a0_5 a0_6 a0_7 a0_8 a0_9 a0_10 a0_11 a0_12 a0_13 l0_14 l0_15 l0_16)) else (ddilaw08_PacketReplies.j0 k a1 true a0_0 a0_1 a0_2 a0_3 a0_4 a0_5 a0_6 a0_7 a0_8 a0_9 a0_10 a0_11 a0_12 a0_13 l0_14 l0_15 l0_16)) else (ddilaw08_PacketReplies.j0 k a1 true a0_0 a0_1 a0_2 a0_3 a0_4 a0_5 a0_6 a0_7 a0_8 a0_9 a0_10 a0_11 a0_12 a0_13 l0_14 l0_15 l0_16)) else (ddilaw08_PacketReplies.j0 k a1 true a0_0 a0_1 a0_2 a0_3 a0_4 a0_5 a0_6 a0_7 a0_8 a0_9 a0_10 a0_11 a0_12 a0_13 l0_14 l0_15 l0_16)) else (ddilaw08_PacketReplies.j0 k a1 true a0_0 a0_1 a0_2 a0_3 a0_4 a0_5 a0_6 a0_7 a0_8 a0_9 a0_10 a0_11 a0_12 a0_13 l0_14 l0_15 l0_16))) = some r := h
  clear h
  replace H := Option.bind_eq_some_iff.mp H
  obtain ⟨⟨t117, t118, t119, t120, t121, t122, t123, t124, t125, t126, t127, t128, t129, t130, t131, t134, t137⟩, A30, H⟩ := H
  replace H : (if t117 = 7 then (if t120 = true then (if t128 = 1232 then (if t119 = 3 then ((packet_Space.f 0 0 0 false false false false false false false false 0 (⟨#[]⟩ : ByteArray) 0 ([] : List (S38)) ([] : List (S38)) ([] : List (S38))).bind fun t141 => (ddilaw08_PacketReplies.j0 k a1 (t141 != 512) a0_0 a0_1 a0_2 a0_3 a0_4 a0_5 a0_6 a0_7 a0_8 a0_9 a0_10 a0_11 a0_12 a0_13 l0_14 l0_15 l0_16)) else (ddilaw08_PacketReplies.j0 k a1 true a0_0 a0_1 a0_2 a0_3 a0_4 a0_5 a0_6 a0_7 a0_8 a0_9 a0_10 a0_11 a0_12 a0_13 l0_14 l0_15 l0_16)) else (ddilaw08_PacketReplies.j0 k a1 true a0_0 a0_1 a0_2 a0_3 a0_4 a0_5 a0_6 a0_7 a0_8 a0_9 a0_10 a0_11 a0_12 a0_13 l0_14 l0_15 l0_16)) else (ddilaw08_PacketReplies.j0 k a1 true a0_0 a0_1 a0_2 a0_3 a0_4 a0_5 a0_6 a0_7 a0_8 a0_9 a0_10 a0_11 a0_12 a0_13 l0_14 l0_15 l0_16)) else (ddilaw08_PacketReplies.j0 k a1 true a0_0 a0_1 a0_2 a0_3 a0_4 a0_5 a0_6 a0_7 a0_8 a0_9 a0_10 a0_11 a0_12 a0_13 l0_14 l0_15 l0_16)) = some r := H
  have A3 := Aside0.mk A30
  clear A30
  have HC4 := Aside0.mk H
  clear H
  go_enter Try.func3, Try.ntmps3
  go_upto_region 2 with (first | ((with_reducible refine gate_dst (N := 2) rfl ?_); refine box_event ?hg (N := 2) ?hd (cs := #[.int .i64 a0_0, .int .i64 a0_1, .int .i64 a0_2, .bool a0_3, .bool a0_4, .bool a0_5, .bool a0_6, .bool a0_7, .bool a0_8, .bool a0_9, .bool a0_10, .int .i64 a0_11, .string a0_12, .int .i64 a0_13, .slice A0_14 l0_14.length c0_14, .slice A0_15 l0_15.length c0_15, .slice A0_16 l0_16.length c0_16]) (t := 26) ?hr ?_; (case hd => rfl); (case hg => rfl); (case hr => first | (go_simp; done) | (go_simp; rfl)); intro gb116 hg w5 hbox hb; have n0_ := Aside0.mk (below_step (by repeat (first | (with_reducible first | exact HB.out | apply below_alloc | apply pw_below_drewN | apply below_drew1) | exact HB.out)) hb); have n1_ := Aside0.mk (hbox); have n2_ := Aside0.mk ((by rw [hg]; exact (below_size (by repeat (first | (with_reducible first | exact HB.out | apply below_alloc | apply pw_below_drewN | apply below_drew1) | exact HB.out))) : w.heap.size ≤ gb116)); have n3_ := Aside0.mk ((by rw [hg]; exact (below_size (by repeat (first | (with_reducible first | exact HB.out | apply below_alloc | apply pw_below_drewN | apply below_drew1) | exact HB.out))) : w.heap.size ≤ gb116)); clear HB; have HB := n0_; have BK116 := n1_; have GW116 := n2_; have GE116 := n3_; clear n0_ n1_ n2_ n3_; clear hb hbox hg) | ((with_reducible refine gate_callee (f := 4) rfl ?_); refine goesL_ (some 7) rfl rfl Try.func4 (by kernel_rfl) rfl #[.agg #[.int .i64 7, .int .i64 0, .int .i64 0, .bool false, .bool false, .bool false, .bool true, .bool false, .bool false, .bool false, .bool false, .int .i64 512, .string (⟨#[]⟩ : ByteArray), .int .i64 0, .slice none 0 0, .slice none 0 0, .slice none 0 0], .int .i64 3] rfl (by (try simp only [List.map_toArray, List.map_cons, List.map_nil]); first | done | rfl | (simp only [List.length_drop, List.length_take]; rfl)) ?_; (refine (packet_Reply.calls 7 0 0 false false false true false false false false 512 (⟨#[]⟩ : ByteArray) 0 _ _ ([] : List (S38)) _ _ ([] : List (S38)) _ _ ([] : List (S38)) 3 t117 t118 t119 t120 t121 t122 t123 t124 t125 t126 t127 t128 t129 t130 t131 t134 t137 _ ?side1 ?side2 ?side3 ?side4 ?side5 ?side6 A3.out).mono ?_); (case side1 => exact Kd.C_nil _ _); (case side2 => exact Nat.le_refl _); (case side3 => exact Kd.C_nil _ _); (case side4 => exact Nat.le_refl _); (case side5 => exact Kd.C_nil _ _); (case side6 => exact Nat.le_refl _); rintro e w6 ⟨v132, v135, v138, rfl, ho0, ho1, ho2, hb⟩; refine ⟨_, rfl, ?_⟩; have n0_ := Aside0.mk (Kd.R_lower ho0 (below_size (by repeat (first | (with_reducible first | exact HB.out | apply below_alloc | apply pw_below_drewN | apply below_drew1 | refine below_set ?_ GE116.out) | exact HB.out)))); have n1_ := Aside0.mk (Kd.R_lower ho1 (below_size (by repeat (first | (with_reducible first | exact HB.out | apply below_alloc | apply pw_below_drewN | apply below_drew1 | refine below_set ?_ GE116.out) | exact HB.out)))); have n2_ := Aside0.mk (Kd.R_lower ho2 (below_size (by repeat (first | (with_reducible first | exact HB.out | apply below_alloc | apply pw_below_drewN | apply below_drew1 | refine below_set ?_ GE116.out) | exact HB.out)))); have n3_ := Aside0.mk (blk_below (g := gb116) (o := .cells #[.int .i64 a0_0, .int .i64 a0_1, .int .i64 a0_2, .bool a0_3, .bool a0_4, .bool a0_5, .bool a0_6, .bool a0_7, .bool a0_8, .bool a0_9, .bool a0_10, .int .i64 a0_11, .string a0_12, .int .i64 a0_13, .slice A0_14 l0_14.length c0_14, .slice A0_15 l0_15.length c0_15, .slice A0_16 l0_16.length c0_16] 26 (0, 0)) (by (with_reducible repeat (first | refine blk_drewN ?_ _ | refine blk_drew ?_ | refine blk_alloc ?_ _)); exact BK116.out) hb); have n4_ := Aside0.mk (below_step (by repeat (first | (with_reducible first | exact HB.out | apply below_alloc | apply pw_below_drewN | apply below_drew1 | refine below_set ?_ GE116.out) | exact HB.out)) hb); clear BK116; clear HB; have HO133 := n0_; have HO136 := n1_; have HO139 := n2_; have BK116 := n3_; have HB := n4_; clear n0_ n1_ n2_ n3_ n4_; (try clear hb); (try clear hb2); (try clear hk); (try clear hi); (try clear ho0); (try clear ho1); (try clear ho2)) | ((with_reducible refine gate_dst (N := 5) rfl ?_); refine box_event ?hg (N := 5) ?hd (cs := #[.int .i64 0, .int .i64 0, .int .i64 0, .bool false, .bool false, .bool false, .bool false, .bool false, .bool false, .bool false, .bool false, .int .i64 0, .string (⟨#[]⟩ : ByteArray), .int .i64 0, .slice none 0 0, .slice none 0 0, .slice none 0 0]) (t := 26) ?hr ?_; (case hd => rfl); (case hg => rfl); (case hr => first | (go_simp; done) | (go_simp; rfl)); intro gb140 hg w7 hbox hb; have n0_ := Aside0.mk (Kd.R_below (by (with_reducible repeat (first | apply Kd.R_alloc | apply Kd.R_drewN | apply Kd.R_drew)); exact HO133.out) hb); have n1_ := Aside0.mk (Kd.R_below (by (with_reducible repeat (first | apply Kd.R_alloc | apply Kd.R_drewN | apply Kd.R_drew)); exact HO136.out) hb); have n2_ := Aside0.mk (Kd.R_below (by (with_reducible repeat (first | apply Kd.R_alloc | apply Kd.R_drewN | apply Kd.R_drew)); exact HO139.out) hb); have n3_ := Aside0.mk (blk_below (g := gb116) (o := .cells #[.int .i64 a0_0, .int .i64 a0_1, .int .i64 a0_2, .bool a0_3, .bool a0_4, .bool a0_5, .bool a0_6, .bool a0_7, .bool a0_8, .bool a0_9, .bool a0_10, .int .i64 a0_11, .string a0_12, .int .i64 a0_13, .slice A0_14 l0_14.length c0_14, .slice A0_15 l0_15.length c0_15, .slice A0_16 l0_16.length c0_16] 26 (0, 0)) (by (with_reducible repeat (first | refine blk_drewN ?_ _ | refine blk_drew ?_ | refine blk_alloc ?_ _)); exact BK116.out) hb); have n4_ := Aside0.mk (below_step (by repeat (first | (with_reducible first | exact HB.out | apply below_alloc | apply pw_below_drewN | apply below_drew1 | refine below_set ?_ GE116.out) | exact HB.out)) hb); have n5_ := Aside0.mk (hbox); have n6_ := Aside0.mk ((by rw [hg]; exact (below_size (by repeat (first | (with_reducible first | exact HB.out | apply below_alloc | apply pw_below_drewN | apply below_drew1 | refine below_set ?_ GE116.out) | exact HB.out))) : w.heap.size ≤ gb140)); have n7_ := Aside0.mk ((by rw [hg]; exact (below_size (by repeat (first | (with_reducible first | exact HB.out | apply below_alloc | apply pw_below_drewN | apply below_drew1 | refine below_set ?_ GE116.out) | exact HB.out))) : w.heap.size ≤ gb140)); have n8_ := Aside0.mk ((by rw [hg]; exact Nat.ne_of_lt (blk_lt (g := gb116) (o := .cells #[.int .i64 a0_0, .int .i64 a0_1, .int .i64 a0_2, .bool a0_3, .bool a0_4, .bool a0_5, .bool a0_6, .bool a0_7, .bool a0_8, .bool a0_9, .bool a0_10, .int .i64 a0_11, .string a0_12, .int .i64 a0_13, .slice A0_14 l0_14.length c0_14, .slice A0_15 l0_15.length c0_15, .slice A0_16 l0_16.length c0_16] 26 (0, 0)) (by (with_reducible repeat (first | refine blk_drewN ?_ _ | refine blk_drew ?_ | refine blk_alloc ?_ _)); exact BK116.out)) : gb116 ≠ gb140)); have n9_ := Aside0.mk ((by rw [hg]; exact Nat.ne_of_gt (blk_lt (g := gb116) (o := .cells #[.int .i64 a0_0, .int .i64 a0_1, .int .i64 a0_2, .bool a0_3, .bool a0_4, .bool a0_5, .bool a0_6, .bool a0_7, .bool a0_8, .bool a0_9, .bool a0_10, .int .i64 a0_11, .string a0_12, .int .i64 a0_13, .slice A0_14 l0_14.length c0_14, .slice A0_15 l0_15.length c0_15, .slice A0_16 l0_16.length c0_16] 26 (0, 0)) (by (with_reducible repeat (first | refine blk_drewN ?_ _ | refine blk_drew ?_ | refine blk_alloc ?_ _)); exact BK116.out)) : gb140 ≠ gb116)); clear HO133; clear HO136; clear HO139; clear BK116; clear HB; have HO133 := n0_; have HO136 := n1_; have HO139 := n2_; have BK116 := n3_; have HB := n4_; have BK140 := n5_; have GW140 := n6_; have GE140 := n7_; have NB116_140 := n8_; have NB140_116 := n9_; clear n0_ n1_ n2_ n3_ n4_ n5_ n6_ n7_ n8_ n9_; clear hb hbox hg; have hnb8 := NB140_116.out; have hnc8 := NB116_140.out; have hcz9_0 : w7.cell? ⟨gb140, 0, none⟩ = some (.int .i64 0) := (blk_cell BK140.out 0).trans rfl; have hcz9_1 : w7.cell? ⟨gb140, 1, none⟩ = some (.int .i64 0) := (blk_cell BK140.out 1).trans rfl; have hcz9_2 : w7.cell? ⟨gb140, 2, none⟩ = some (.int .i64 0) := (blk_cell BK140.out 2).trans rfl; have hcz9_3 : w7.cell? ⟨gb140, 3, none⟩ = some (.bool false) := (blk_cell BK140.out 3).trans rfl; have hcz9_4 : w7.cell? ⟨gb140, 4, none⟩ = some (.bool false) := (blk_cell BK140.out 4).trans rfl; have hcz9_5 : w7.cell? ⟨gb140, 5, none⟩ = some (.bool false) := (blk_cell BK140.out 5).trans rfl; have hcz9_6 : w7.cell? ⟨gb140, 6, none⟩ = some (.bool false) := (blk_cell BK140.out 6).trans rfl; have hcz9_7 : w7.cell? ⟨gb140, 7, none⟩ = some (.bool false) := (blk_cell BK140.out 7).trans rfl; have hcz9_8 : w7.cell? ⟨gb140, 8, none⟩ = some (.bool false) := (blk_cell BK140.out 8).trans rfl; have hcz9_9 : w7.cell? ⟨gb140, 9, none⟩ = some (.bool false) := (blk_cell BK140.out 9).trans rfl; have hcz9_10 : w7.cell? ⟨gb140, 10, none⟩ = some (.bool false) := (blk_cell BK140.out 10).trans rfl; have hcz9_11 : w7.cell? ⟨gb140, 11, none⟩ = some (.int .i64 0) := (blk_cell BK140.out 11).trans rfl; have hcz9_12 : w7.cell? ⟨gb140, 12, none⟩ = some (.string (⟨#[]⟩ : ByteArray)) := (blk_cell BK140.out 12).trans rfl; have hcz9_13 : w7.cell? ⟨gb140, 13, none⟩ = some (.int .i64 0) := (blk_cell BK140.out 13).trans rfl; have hcz9_14 : w7.cell? ⟨gb140, 14, none⟩ = some (.slice none 0 0) := (blk_cell BK140.out 14).trans rfl; have hcz9_15 : w7.cell? ⟨gb140, 15, none⟩ = some (.slice none 0 0) := (blk_cell BK140.out 15).trans rfl; have hcz9_16 : w7.cell? ⟨gb140, 16, none⟩ = some (.slice none 0 0) := (blk_cell BK140.out 16).trans rfl; have hfz9_0 := blk_frozen BK140.out 0; have hfz9_1 := blk_frozen BK140.out 1; have hfz9_2 := blk_frozen BK140.out 2; have hfz9_3 := blk_frozen BK140.out 3; have hfz9_4 := blk_frozen BK140.out 4; have hfz9_5 := blk_frozen BK140.out 5; have hfz9_6 := blk_frozen BK140.out 6; have hfz9_7 := blk_frozen BK140.out 7; have hfz9_8 := blk_frozen BK140.out 8; have hfz9_9 := blk_frozen BK140.out 9; have hfz9_10 := blk_frozen BK140.out 10; have hfz9_11 := blk_frozen BK140.out 11; have hfz9_12 := blk_frozen BK140.out 12; have hfz9_13 := blk_frozen BK140.out 13; have hfz9_14 := blk_frozen BK140.out 14; have hfz9_15 := blk_frozen BK140.out 15; have hfz9_16 := blk_frozen BK140.out 16; obtain ⟨Ao10, co10, eo10⟩ := Kd.R_slice HO133.out; subst eo10; obtain ⟨Ao11, co11, eo11⟩ := Kd.R_slice HO136.out; subst eo11; obtain ⟨Ao12, co12, eo12⟩ := Kd.R_slice HO139.out; subst eo12) | ((with_reducible refine gate_store (t := 26) (p := 5) rfl ?_); refine store_event (t := 26) (p := 5) (v := ?vo_w13) (w1 := (((((((((((((((((w7.setCell ⟨gb140, 0, none⟩ (.int .i64 t117)).setCell ⟨gb140, 1, none⟩ (.int .i64 t118)).setCell ⟨gb140, 2, none⟩ (.int .i64 t119)).setCell ⟨gb140, 3, none⟩ (.bool t120)).setCell ⟨gb140, 4, none⟩ (.bool t121)).setCell ⟨gb140, 5, none⟩ (.bool t122)).setCell ⟨gb140, 6, none⟩ (.bool t123)).setCell ⟨gb140, 7, none⟩ (.bool t124)).setCell ⟨gb140, 8, none⟩ (.bool t125)).setCell ⟨gb140, 9, none⟩ (.bool t126)).setCell ⟨gb140, 10, none⟩ (.bool t127)).setCell ⟨gb140, 11, none⟩ (.int .i64 t128)).setCell ⟨gb140, 12, none⟩ (.string t129)).setCell ⟨gb140, 13, none⟩ (.int .i64 t130)).setCell ⟨gb140, 14, none⟩ (.slice Ao10 t131.length co10)).setCell ⟨gb140, 15, none⟩ (.slice Ao11 t134.length co11)).setCell ⟨gb140, 16, none⟩ (.slice Ao12 t137.length co12))) ?hg ?ho ?hn ?hr ?_; (case ho => rfl); (case hg => rfl); (case hn => rfl); (case hr => first | (exact Ext.run_store_chain 26 _ _ rfl _ _ _ _ rfl rfl BK140.out (by kernel_rfl) rfl rfl rfl) | (go_simp; done) | (go_simp; rfl)); intro w13 hw; have n0_ : Aside0 (Kd.R k38 38 w13 w.heap.size (fun k_ => some k_ ≠ (.slice Ao11 t134.length co11 : Value).ownBlock ∧ some k_ ≠ (.slice Ao12 t137.length co12 : Value).ownBlock) (.slice Ao10 t131.length co10) t131) := ⟨(by rw [hw]; exact (by (with_reducible repeat (first | apply Kd.R_alloc | apply Kd.R_drewN | apply Kd.R_drew)); exact Kd.R_mono (Kd.R_far (p := ⟨gb140, 16, none⟩) (Kd.R_far (p := ⟨gb140, 15, none⟩) (Kd.R_far (p := ⟨gb140, 14, none⟩) (Kd.R_far (p := ⟨gb140, 13, none⟩) (Kd.R_far (p := ⟨gb140, 12, none⟩) (Kd.R_far (p := ⟨gb140, 11, none⟩) (Kd.R_far (p := ⟨gb140, 10, none⟩) (Kd.R_far (p := ⟨gb140, 9, none⟩) (Kd.R_far (p := ⟨gb140, 8, none⟩) (Kd.R_far (p := ⟨gb140, 7, none⟩) (Kd.R_far (p := ⟨gb140, 6, none⟩) (Kd.R_far (p := ⟨gb140, 5, none⟩) (Kd.R_far (p := ⟨gb140, 4, none⟩) (Kd.R_far (p := ⟨gb140, 3, none⟩) (Kd.R_far (p := ⟨gb140, 2, none⟩) (Kd.R_far (p := ⟨gb140, 1, none⟩) (Kd.R_far (p := ⟨gb140, 0, none⟩) (Kd.R_types HO133.out BK140.out (by decide)) (fun _ hk => hk.2) (.int .i64 t117)) (fun _ hk => hk.2) (.int .i64 t118)) (fun _ hk => hk.2) (.int .i64 t119)) (fun _ hk => hk.2) (.bool t120)) (fun _ hk => hk.2) (.bool t121)) (fun _ hk => hk.2) (.bool t122)) (fun _ hk => hk.2) (.bool t123)) (fun _ hk => hk.2) (.bool t124)) (fun _ hk => hk.2) (.bool t125)) (fun _ hk => hk.2) (.bool t126)) (fun _ hk => hk.2) (.bool t127)) (fun _ hk => hk.2) (.int .i64 t128)) (fun _ hk => hk.2) (.string t129)) (fun _ hk => hk.2) (.int .i64 t130)) (fun _ hk => hk.2) (.slice Ao10 t131.length co10)) (fun _ hk => hk.2) (.slice Ao11 t134.length co11)) (fun _ hk => hk.2) (.slice Ao12 t137.length co12)) (fun _ hk => ⟨hk.1.1, hk.1.2⟩)))⟩; have n1_ : Aside0 (Kd.R k38 38 w13 w.heap.size (fun k_ => some k_ ≠ (.slice Ao10 t131.length co10 : Value).ownBlock ∧ some k_ ≠ (.slice Ao12 t137.length co12 : Value).ownBlock) (.slice Ao11 t134.length co11) t134) := ⟨(by rw [hw]; exact (by (with_reducible repeat (first | apply Kd.R_alloc | apply Kd.R_drewN | apply Kd.R_drew)); exact Kd.R_mono (Kd.R_far (p := ⟨gb140, 16, none⟩) (Kd.R_far (p := ⟨gb140, 15, none⟩) (Kd.R_far (p := ⟨gb140, 14, none⟩) (Kd.R_far (p := ⟨gb140, 13, none⟩) (Kd.R_far (p := ⟨gb140, 12, none⟩) (Kd.R_far (p := ⟨gb140, 11, none⟩) (Kd.R_far (p := ⟨gb140, 10, none⟩) (Kd.R_far (p := ⟨gb140, 9, none⟩) (Kd.R_far (p := ⟨gb140, 8, none⟩) (Kd.R_far (p := ⟨gb140, 7, none⟩) (Kd.R_far (p := ⟨gb140, 6, none⟩) (Kd.R_far (p := ⟨gb140, 5, none⟩) (Kd.R_far (p := ⟨gb140, 4, none⟩) (Kd.R_far (p := ⟨gb140, 3, none⟩) (Kd.R_far (p := ⟨gb140, 2, none⟩) (Kd.R_far (p := ⟨gb140, 1, none⟩) (Kd.R_far (p := ⟨gb140, 0, none⟩) (Kd.R_types HO136.out BK140.out (by decide)) (fun _ hk => hk.2) (.int .i64 t117)) (fun _ hk => hk.2) (.int .i64 t118)) (fun _ hk => hk.2) (.int .i64 t119)) (fun _ hk => hk.2) (.bool t120)) (fun _ hk => hk.2) (.bool t121)) (fun _ hk => hk.2) (.bool t122)) (fun _ hk => hk.2) (.bool t123)) (fun _ hk => hk.2) (.bool t124)) (fun _ hk => hk.2) (.bool t125)) (fun _ hk => hk.2) (.bool t126)) (fun _ hk => hk.2) (.bool t127)) (fun _ hk => hk.2) (.int .i64 t128)) (fun _ hk => hk.2) (.string t129)) (fun _ hk => hk.2) (.int .i64 t130)) (fun _ hk => hk.2) (.slice Ao10 t131.length co10)) (fun _ hk => hk.2) (.slice Ao11 t134.length co11)) (fun _ hk => hk.2) (.slice Ao12 t137.length co12)) (fun _ hk => ⟨hk.1.1, hk.1.2⟩)))⟩; have n2_ : Aside0 (Kd.R k38 38 w13 w.heap.size (fun k_ => some k_ ≠ (.slice Ao10 t131.length co10 : Value).ownBlock ∧ some k_ ≠ (.slice Ao11 t134.length co11 : Value).ownBlock) (.slice Ao12 t137.length co12) t137) := ⟨(by rw [hw]; exact (by (with_reducible repeat (first | apply Kd.R_alloc | apply Kd.R_drewN | apply Kd.R_drew)); exact Kd.R_mono (Kd.R_far (p := ⟨gb140, 16, none⟩) (Kd.R_far (p := ⟨gb140, 15, none⟩) (Kd.R_far (p := ⟨gb140, 14, none⟩) (Kd.R_far (p := ⟨gb140, 13, none⟩) (Kd.R_far (p := ⟨gb140, 12, none⟩) (Kd.R_far (p := ⟨gb140, 11, none⟩) (Kd.R_far (p := ⟨gb140, 10, none⟩) (Kd.R_far (p := ⟨gb140, 9, none⟩) (Kd.R_far (p := ⟨gb140, 8, none⟩) (Kd.R_far (p := ⟨gb140, 7, none⟩) (Kd.R_far (p := ⟨gb140, 6, none⟩) (Kd.R_far (p := ⟨gb140, 5, none⟩) (Kd.R_far (p := ⟨gb140, 4, none⟩) (Kd.R_far (p := ⟨gb140, 3, none⟩) (Kd.R_far (p := ⟨gb140, 2, none⟩) (Kd.R_far (p := ⟨gb140, 1, none⟩) (Kd.R_far (p := ⟨gb140, 0, none⟩) (Kd.R_types HO139.out BK140.out (by decide)) (fun _ hk => hk.2) (.int .i64 t117)) (fun _ hk => hk.2) (.int .i64 t118)) (fun _ hk => hk.2) (.int .i64 t119)) (fun _ hk => hk.2) (.bool t120)) (fun _ hk => hk.2) (.bool t121)) (fun _ hk => hk.2) (.bool t122)) (fun _ hk => hk.2) (.bool t123)) (fun _ hk => hk.2) (.bool t124)) (fun _ hk => hk.2) (.bool t125)) (fun _ hk => hk.2) (.bool t126)) (fun _ hk => hk.2) (.bool t127)) (fun _ hk => hk.2) (.int .i64 t128)) (fun _ hk => hk.2) (.string t129)) (fun _ hk => hk.2) (.int .i64 t130)) (fun _ hk => hk.2) (.slice Ao10 t131.length co10)) (fun _ hk => hk.2) (.slice Ao11 t134.length co11)) (fun _ hk => hk.2) (.slice Ao12 t137.length co12)) (fun _ hk => ⟨hk.1.1, hk.1.2⟩)))⟩; have n3_ : Aside0 (w13.heap[gb116]? = some (.cells #[.int .i64 a0_0, .int .i64 a0_1, .int .i64 a0_2, .bool a0_3, .bool a0_4, .bool a0_5, .bool a0_6, .bool a0_7, .bool a0_8, .bool a0_9, .bool a0_10, .int .i64 a0_11, .string a0_12, .int .i64 a0_13, .slice A0_14 l0_14.length c0_14, .slice A0_15 l0_15.length c0_15, .slice A0_16 l0_16.length c0_16] 26 (0, 0))) := ⟨(by rw [hw]; exact (by (with_reducible repeat (first | refine blk_drewN ?_ _ | refine blk_drew ?_ | refine blk_alloc ?_ _)); refine blk_far ?_ NB116_140.out _; (with_reducible repeat (first | refine blk_drewN ?_ _ | refine blk_drew ?_ | refine blk_alloc ?_ _)); refine blk_far ?_ NB116_140.out _; (with_reducible repeat (first | refine blk_drewN ?_ _ | refine blk_drew ?_ | refine blk_alloc ?_ _)); refine blk_far ?_ NB116_140.out _; (with_reducible repeat (first | refine blk_drewN ?_ _ | refine blk_drew ?_ | refine blk_alloc ?_ _)); refine blk_far ?_ NB116_140.out _; (with_reducible repeat (first | refine blk_drewN ?_ _ | refine blk_drew ?_ | refine blk_alloc ?_ _)); refine blk_far ?_ NB116_140.out _; (with_reducible repeat (first | refine blk_drewN ?_ _ | refine blk_drew ?_ | refine blk_alloc ?_ _)); refine blk_far ?_ NB116_140.out _; (with_reducible repeat (first | refine blk_drewN ?_ _ | refine blk_drew ?_ | refine blk_alloc ?_ _)); refine blk_far ?_ NB116_140.out _; (with_reducible repeat (first | refine blk_drewN ?_ _ | refine blk_drew ?_ | refine blk_alloc ?_ _)); refine blk_far ?_ NB116_140.out _; (with_reducible repeat (first | refine blk_drewN ?_ _ | refine blk_drew ?_ | refine blk_alloc ?_ _)); refine blk_far ?_ NB116_140.out _; (with_reducible repeat (first | refine blk_drewN ?_ _ | refine blk_drew ?_ | refine blk_alloc ?_ _)); refine blk_far ?_ NB116_140.out _; (with_reducible repeat (first | refine blk_drewN ?_ _ | refine blk_drew ?_ | refine blk_alloc ?_ _)); refine blk_far ?_ NB116_140.out _; (with_reducible repeat (first | refine blk_drewN ?_ _ | refine blk_drew ?_ | refine blk_alloc ?_ _)); refine blk_far ?_ NB116_140.out _; (with_reducible repeat (first | refine blk_drewN ?_ _ | refine blk_drew ?_ | refine blk_alloc ?_ _)); refine blk_far ?_ NB116_140.out _; (with_reducible repeat (first | refine blk_drewN ?_ _ | refine blk_drew ?_ | refine blk_alloc ?_ _)); refine blk_far ?_ NB116_140.out _; (with_reducible repeat (first | refine blk_drewN ?_ _ | refine blk_drew ?_ | refine blk_alloc ?_ _)); refine blk_far ?_ NB116_140.out _; (with_reducible repeat (first | refine blk_drewN ?_ _ | refine blk_drew ?_ | refine blk_alloc ?_ _)); refine blk_far ?_ NB116_140.out _; (with_reducible repeat (first | refine blk_drewN ?_ _ | refine blk_drew ?_ | refine blk_alloc ?_ _)); refine blk_far ?_ NB116_140.out _; (with_reducible repeat (first | refine blk_drewN ?_ _ | refine blk_drew ?_ | refine blk_alloc ?_ _)); exact BK116.out))⟩; have n4_ : Aside0 (w13.heap[gb140]? = some (.cells #[.int .i64 t117, .int .i64 t118, .int .i64 t119, .bool t120, .bool t121, .bool t122, .bool t123, .bool t124, .bool t125, .bool t126, .bool t127, .int .i64 t128, .string t129, .int .i64 t130, .slice Ao10 t131.length co10, .slice Ao11 t134.length co11, .slice Ao12 t137.length co12] 26 (0, 0))) := ⟨(by rw [hw]; exact (by (with_reducible repeat (first | refine blk_drewN ?_ _ | refine blk_drew ?_ | refine blk_alloc ?_ _)); refine blk_put (cs := #[.int .i64 t117, .int .i64 t118, .int .i64 t119, .bool t120, .bool t121, .bool t122, .bool t123, .bool t124, .bool t125, .bool t126, .bool t127, .int .i64 t128, .string t129, .int .i64 t130, .slice Ao10 t131.length co10, .slice Ao11 t134.length co11, .slice none 0 0]) ?_ 16 _ rfl; (with_reducible repeat (first | refine blk_drewN ?_ _ | refine blk_drew ?_ | refine blk_alloc ?_ _)); refine blk_put (cs := #[.int .i64 t117, .int .i64 t118, .int .i64 t119, .bool t120, .bool t121, .bool t122, .bool t123, .bool t124, .bool t125, .bool t126, .bool t127, .int .i64 t128, .string t129, .int .i64 t130, .slice Ao10 t131.length co10, .slice none 0 0, .slice none 0 0]) ?_ 15 _ rfl; (with_reducible repeat (first | refine blk_drewN ?_ _ | refine blk_drew ?_ | refine blk_alloc ?_ _)); refine blk_put (cs := #[.int .i64 t117, .int .i64 t118, .int .i64 t119, .bool t120, .bool t121, .bool t122, .bool t123, .bool t124, .bool t125, .bool t126, .bool t127, .int .i64 t128, .string t129, .int .i64 t130, .slice none 0 0, .slice none 0 0, .slice none 0 0]) ?_ 14 _ rfl; (with_reducible repeat (first | refine blk_drewN ?_ _ | refine blk_drew ?_ | refine blk_alloc ?_ _)); refine blk_put (cs := #[.int .i64 t117, .int .i64 t118, .int .i64 t119, .bool t120, .bool t121, .bool t122, .bool t123, .bool t124, .bool t125, .bool t126, .bool t127, .int .i64 t128, .string t129, .int .i64 0, .slice none 0 0, .slice none 0 0, .slice none 0 0]) ?_ 13 _ rfl; (with_reducible repeat (first | refine blk_drewN ?_ _ | refine blk_drew ?_ | refine blk_alloc ?_ _)); refine blk_put (cs := #[.int .i64 t117, .int .i64 t118, .int .i64 t119, .bool t120, .bool t121, .bool t122, .bool t123, .bool t124, .bool t125, .bool t126, .bool t127, .int .i64 t128, .string (⟨#[]⟩ : ByteArray), .int .i64 0, .slice none 0 0, .slice none 0 0, .slice none 0 0]) ?_ 12 _ rfl; (with_reducible repeat (first | refine blk_drewN ?_ _ | refine blk_drew ?_ | refine blk_alloc ?_ _)); refine blk_put (cs := #[.int .i64 t117, .int .i64 t118, .int .i64 t119, .bool t120, .bool t121, .bool t122, .bool t123, .bool t124, .bool t125, .bool t126, .bool t127, .int .i64 0, .string (⟨#[]⟩ : ByteArray), .int .i64 0, .slice none 0 0, .slice none 0 0, .slice none 0 0]) ?_ 11 _ rfl; (with_reducible repeat (first | refine blk_drewN ?_ _ | refine blk_drew ?_ | refine blk_alloc ?_ _)); refine blk_put (cs := #[.int .i64 t117, .int .i64 t118, .int .i64 t119, .bool t120, .bool t121, .bool t122, .bool t123, .bool t124, .bool t125, .bool t126, .bool false, .int .i64 0, .string (⟨#[]⟩ : ByteArray), .int .i64 0, .slice none 0 0, .slice none 0 0, .slice none 0 0]) ?_ 10 _ rfl; (with_reducible repeat (first | refine blk_drewN ?_ _ | refine blk_drew ?_ | refine blk_alloc ?_ _)); refine blk_put (cs := #[.int .i64 t117, .int .i64 t118, .int .i64 t119, .bool t120, .bool t121, .bool t122, .bool t123, .bool t124, .bool t125, .bool false, .bool false, .int .i64 0, .string (⟨#[]⟩ : ByteArray), .int .i64 0, .slice none 0 0, .slice none 0 0, .slice none 0 0]) ?_ 9 _ rfl; (with_reducible repeat (first | refine blk_drewN ?_ _ | refine blk_drew ?_ | refine blk_alloc ?_ _)); refine blk_put (cs := #[.int .i64 t117, .int .i64 t118, .int .i64 t119, .bool t120, .bool t121, .bool t122, .bool t123, .bool t124, .bool false, .bool false, .bool false, .int .i64 0, .string (⟨#[]⟩ : ByteArray), .int .i64 0, .slice none 0 0, .slice none 0 0, .slice none 0 0]) ?_ 8 _ rfl; (with_reducible repeat (first | refine blk_drewN ?_ _ | refine blk_drew ?_ | refine blk_alloc ?_ _)); refine blk_put (cs := #[.int .i64 t117, .int .i64 t118, .int .i64 t119, .bool t120, .bool t121, .bool t122, .bool t123, .bool false, .bool false, .bool false, .bool false, .int .i64 0, .string (⟨#[]⟩ : ByteArray), .int .i64 0, .slice none 0 0, .slice none 0 0, .slice none 0 0]) ?_ 7 _ rfl; (with_reducible repeat (first | refine blk_drewN ?_ _ | refine blk_drew ?_ | refine blk_alloc ?_ _)); refine blk_put (cs := #[.int .i64 t117, .int .i64 t118, .int .i64 t119, .bool t120, .bool t121, .bool t122, .bool false, .bool false, .bool false, .bool false, .bool false, .int .i64 0, .string (⟨#[]⟩ : ByteArray), .int .i64 0, .slice none 0 0, .slice none 0 0, .slice none 0 0]) ?_ 6 _ rfl; (with_reducible repeat (first | refine blk_drewN ?_ _ | refine blk_drew ?_ | refine blk_alloc ?_ _)); refine blk_put (cs := #[.int .i64 t117, .int .i64 t118, .int .i64 t119, .bool t120, .bool t121, .bool false, .bool false, .bool false, .bool false, .bool false, .bool false, .int .i64 0, .string (⟨#[]⟩ : ByteArray), .int .i64 0, .slice none 0 0, .slice none 0 0, .slice none 0 0]) ?_ 5 _ rfl; (with_reducible repeat (first | refine blk_drewN ?_ _ | refine blk_drew ?_ | refine blk_alloc ?_ _)); refine blk_put (cs := #[.int .i64 t117, .int .i64 t118, .int .i64 t119, .bool t120, .bool false, .bool false, .bool false, .bool false, .bool false, .bool false, .bool false, .int .i64 0, .string (⟨#[]⟩ : ByteArray), .int .i64 0, .slice none 0 0, .slice none 0 0, .slice none 0 0]) ?_ 4 _ rfl; (with_reducible repeat (first | refine blk_drewN ?_ _ | refine blk_drew ?_ | refine blk_alloc ?_ _)); refine blk_put (cs := #[.int .i64 t117, .int .i64 t118, .int .i64 t119, .bool false, .bool false, .bool false, .bool false, .bool false, .bool false, .bool false, .bool false, .int .i64 0, .string (⟨#[]⟩ : ByteArray), .int .i64 0, .slice none 0 0, .slice none 0 0, .slice none 0 0]) ?_ 3 _ rfl; (with_reducible repeat (first | refine blk_drewN ?_ _ | refine blk_drew ?_ | refine blk_alloc ?_ _)); refine blk_put (cs := #[.int .i64 t117, .int .i64 t118, .int .i64 0, .bool false, .bool false, .bool false, .bool false, .bool false, .bool false, .bool false, .bool false, .int .i64 0, .string (⟨#[]⟩ : ByteArray), .int .i64 0, .slice none 0 0, .slice none 0 0, .slice none 0 0]) ?_ 2 _ rfl; (with_reducible repeat (first | refine blk_drewN ?_ _ | refine blk_drew ?_ | refine blk_alloc ?_ _)); refine blk_put (cs := #[.int .i64 t117, .int .i64 0, .int .i64 0, .bool false, .bool false, .bool false, .bool false, .bool false, .bool false, .bool false, .bool false, .int .i64 0, .string (⟨#[]⟩ : ByteArray), .int .i64 0, .slice none 0 0, .slice none 0 0, .slice none 0 0]) ?_ 1 _ rfl; (with_reducible repeat (first | refine blk_drewN ?_ _ | refine blk_drew ?_ | refine blk_alloc ?_ _)); refine blk_put (cs := #[.int .i64 0, .int .i64 0, .int .i64 0, .bool false, .bool false, .bool false, .bool false, .bool false, .bool false, .bool false, .bool false, .int .i64 0, .string (⟨#[]⟩ : ByteArray), .int .i64 0, .slice none 0 0, .slice none 0 0, .slice none 0 0]) ?_ 0 _ rfl; (with_reducible repeat (first | refine blk_drewN ?_ _ | refine blk_drew ?_ | refine blk_alloc ?_ _)); exact BK140.out))⟩; have n5_ : Aside0 (Below w.heap.size w w13) := ⟨(by rw [hw]; exact (by repeat (first | (with_reducible first | exact HB.out | apply below_alloc | apply pw_below_drewN | apply below_drew1 | refine below_set ?_ GE116.out | refine below_set ?_ GE140.out) | exact HB.out)))⟩; clear hw; clear HO133; clear HO136; clear HO139; clear BK116; clear BK140; clear HB; have HO133 := n0_; have HO136 := n1_; have HO139 := n2_; have BK116 := n3_; have BK140 := n4_; have HB := n5_; clear n0_ n1_ n2_ n3_ n4_ n5_))
  (try simp only [Act.put, List.setIfInBounds_toArray, List.set_cons_zero, List.set_cons_succ])
  go_cut [30] (fun v30 wc => ∃ (kq : Nat) (x30_3 : Bool), v30 = .bool x30_3 ∧ Aside0 (ddilaw08_PacketReplies.j0 kq a1 x30_3 a0_0 a0_1 a0_2 a0_3 a0_4 a0_5 a0_6 a0_7 a0_8 a0_9 a0_10 a0_11 a0_12 a0_13 l0_14 l0_15 l0_16 = some r) ∧ Aside0 (kq ≤ k) ∧ Aside0 (Kd.R k38 38 wc w.heap.size (fun k_ => some k_ ≠ ((.slice Ao11 t134.length co11) : Value).ownBlock ∧ some k_ ≠ ((.slice Ao12 t137.length co12) : Value).ownBlock) (.slice Ao10 t131.length co10) t131) ∧ Aside0 (Kd.R k38 38 wc w.heap.size (fun k_ => some k_ ≠ ((.slice Ao10 t131.length co10) : Value).ownBlock ∧ some k_ ≠ ((.slice Ao12 t137.length co12) : Value).ownBlock) (.slice Ao11 t134.length co11) t134) ∧ Aside0 (Kd.R k38 38 wc w.heap.size (fun k_ => some k_ ≠ ((.slice Ao10 t131.length co10) : Value).ownBlock ∧ some k_ ≠ ((.slice Ao11 t134.length co11) : Value).ownBlock) (.slice Ao12 t137.length co12) t137) ∧ Aside0 (wc.heap[gb116]? = some (.cells #[.int .i64 a0_0, .int .i64 a0_1, .int .i64 a0_2, .bool a0_3, .bool a0_4, .bool a0_5, .bool a0_6, .bool a0_7, .bool a0_8, .bool a0_9, .bool a0_10, .int .i64 a0_11, .string a0_12, .int .i64 a0_13, (.slice A0_14 l0_14.length c0_14), (.slice A0_15 l0_15.length c0_15), (.slice A0_16 l0_16.length c0_16)] 26 (0, 0))) ∧ Aside0 (wc.heap[gb140]? = some (.cells #[.int .i64 t117, .int .i64 t118, .int .i64 t119, .bool t120, .bool t121, .bool t122, .bool t123, .bool t124, .bool t125, .bool t126, .bool t127, .int .i64 t128, .string t129, .int .i64 t130, (.slice Ao10 t131.length co10), (.slice Ao11 t134.length co11), (.slice Ao12 t137.length co12)] 26 (0, 0))) ∧ Aside0 (Below w.heap.size w wc))
  case first =>
    have H := HC4.out
    clear HC4
    by_cases c14 : t117 = 7
    · rw [if_pos c14] at H
      have c14b0 : (t117 == 7) = true := beq_iff_eq.mpr c14
      have c14b1 : (t117 != 7) = false := bne_eq_false_iff_eq.mpr c14
      clear c14
      (first | rw [c14b0] | (simp only [i64_w, i32_w]; rw [c14b0]) | skip)
      by_cases c15 : t120 = true
      · subst c15
        have H1 : (if t128 = 1232 then (if t119 = 3 then ((packet_Space.f 0 0 0 false false false false false false false false 0 (⟨#[]⟩ : ByteArray) 0 ([] : List (S38)) ([] : List (S38)) ([] : List (S38))).bind fun t141 => (ddilaw08_PacketReplies.j0 k a1 (t141 != 512) a0_0 a0_1 a0_2 a0_3 a0_4 a0_5 a0_6 a0_7 a0_8 a0_9 a0_10 a0_11 a0_12 a0_13 l0_14 l0_15 l0_16)) else (ddilaw08_PacketReplies.j0 k a1 true a0_0 a0_1 a0_2 a0_3 a0_4 a0_5 a0_6 a0_7 a0_8 a0_9 a0_10 a0_11 a0_12 a0_13 l0_14 l0_15 l0_16)) else (ddilaw08_PacketReplies.j0 k a1 true a0_0 a0_1 a0_2 a0_3 a0_4 a0_5 a0_6 a0_7 a0_8 a0_9 a0_10 a0_11 a0_12 a0_13 l0_14 l0_15 l0_16)) = some r := by rw [if_pos rfl] at H; exact H
        clear H
        have H := H1
        clear H1
        by_cases c16 : t128 = 1232
        · rw [if_pos c16] at H
          have c16b0 : (t128 == 1232) = true := beq_iff_eq.mpr c16
          have c16b1 : (t128 != 1232) = false := bne_eq_false_iff_eq.mpr c16
          clear c16
          by_cases c17 : t119 = 3
          · rw [if_pos c17] at H
            have c17b0 : (t119 == 3) = true := beq_iff_eq.mpr c17
            have c17b1 : (t119 != 3) = false := bne_eq_false_iff_eq.mpr c17
            clear c17
            replace H := Option.bind_eq_some_iff.mp H
            obtain ⟨t141, A180, H⟩ := H
            replace H : (ddilaw08_PacketReplies.j0 k a1 (t141 != 512) a0_0 a0_1 a0_2 a0_3 a0_4 a0_5 a0_6 a0_7 a0_8 a0_9 a0_10 a0_11 a0_12 a0_13 l0_14 l0_15 l0_16) = some r := H
            have A18 := Aside0.mk A180
            clear A180
            have H' := Aside0.mk H
            clear H
            have hnb19 := NB140_116.out
            have hnc19 := NB116_140.out
            have hcz20_0 : w13.cell? ⟨gb140, 0, none⟩ = some (.int .i64 t117) := (blk_cell BK140.out 0).trans rfl
            have hcz20_1 : w13.cell? ⟨gb140, 1, none⟩ = some (.int .i64 t118) := (blk_cell BK140.out 1).trans rfl
            have hcz20_2 : w13.cell? ⟨gb140, 2, none⟩ = some (.int .i64 t119) := (blk_cell BK140.out 2).trans rfl
            have hcz20_3 : w13.cell? ⟨gb140, 3, none⟩ = some (.bool true) := (blk_cell BK140.out 3).trans rfl
            have hcz20_4 : w13.cell? ⟨gb140, 4, none⟩ = some (.bool t121) := (blk_cell BK140.out 4).trans rfl
            have hcz20_5 : w13.cell? ⟨gb140, 5, none⟩ = some (.bool t122) := (blk_cell BK140.out 5).trans rfl
            have hcz20_6 : w13.cell? ⟨gb140, 6, none⟩ = some (.bool t123) := (blk_cell BK140.out 6).trans rfl
            have hcz20_7 : w13.cell? ⟨gb140, 7, none⟩ = some (.bool t124) := (blk_cell BK140.out 7).trans rfl
            have hcz20_8 : w13.cell? ⟨gb140, 8, none⟩ = some (.bool t125) := (blk_cell BK140.out 8).trans rfl
            have hcz20_9 : w13.cell? ⟨gb140, 9, none⟩ = some (.bool t126) := (blk_cell BK140.out 9).trans rfl
            have hcz20_10 : w13.cell? ⟨gb140, 10, none⟩ = some (.bool t127) := (blk_cell BK140.out 10).trans rfl
            have hcz20_11 : w13.cell? ⟨gb140, 11, none⟩ = some (.int .i64 t128) := (blk_cell BK140.out 11).trans rfl
            have hcz20_12 : w13.cell? ⟨gb140, 12, none⟩ = some (.string t129) := (blk_cell BK140.out 12).trans rfl
            have hcz20_13 : w13.cell? ⟨gb140, 13, none⟩ = some (.int .i64 t130) := (blk_cell BK140.out 13).trans rfl
            have hcz20_14 : w13.cell? ⟨gb140, 14, none⟩ = some (.slice Ao10 t131.length co10) := (blk_cell BK140.out 14).trans rfl
            have hcz20_15 : w13.cell? ⟨gb140, 15, none⟩ = some (.slice Ao11 t134.length co11) := (blk_cell BK140.out 15).trans rfl
            have hcz20_16 : w13.cell? ⟨gb140, 16, none⟩ = some (.slice Ao12 t137.length co12) := (blk_cell BK140.out 16).trans rfl
            have hfz20_0 := blk_frozen BK140.out 0
            have hfz20_1 := blk_frozen BK140.out 1
            have hfz20_2 := blk_frozen BK140.out 2
            have hfz20_3 := blk_frozen BK140.out 3
            have hfz20_4 := blk_frozen BK140.out 4
            have hfz20_5 := blk_frozen BK140.out 5
            have hfz20_6 := blk_frozen BK140.out 6
            have hfz20_7 := blk_frozen BK140.out 7
            have hfz20_8 := blk_frozen BK140.out 8
            have hfz20_9 := blk_frozen BK140.out 9
            have hfz20_10 := blk_frozen BK140.out 10
            have hfz20_11 := blk_frozen BK140.out 11
            have hfz20_12 := blk_frozen BK140.out 12
            have hfz20_13 := blk_frozen BK140.out 13
            have hfz20_14 := blk_frozen BK140.out 14
            have hfz20_15 := blk_frozen BK140.out 15
            have hfz20_16 := blk_frozen BK140.out 16
            go_wp2_with (first | ((with_reducible refine gate_dst (N := 6) rfl ?_); refine Ext.wpList_buildC ?hgd 26 _ ?ho ?hb ?_; (case hgd => rfl); (case ho => rfl); (case hb => ((try go_simp); exact hbl6 _ _ _))) | ((with_reducible refine gate_dst (N := 27) rfl ?_); refine gate_guard (by rfl) ?_; dsimp only; refine Ext.wpList_buildC ?hgd 26 _ ?ho ?hb ?_; (case hgd => rfl); (case ho => rfl); (case hb => ((try go_simp); exact hbl27))) | ((with_reducible refine gate_ (.load 26 (.tmp 2)) rfl ?_); refine wpList_load_row (by rfl) 26 (.tmp 2) (by rfl) _ (by rfl) 26 _ (0, 0) _ (by first | exact BK116.out | exact BK140.out | exact blk_put BK116.out _ _ (by simp only [List.setIfInBounds_toArray, List.set_cons_zero, List.set_cons_succ]) | exact blk_put BK140.out _ _ (by simp only [List.setIfInBounds_toArray, List.set_cons_zero, List.set_cons_succ])) hu26 (by rfl) (by kernel_rfl) ?_) | ((with_reducible refine gate_ (.load 26 (.tmp 2)) rfl ?_); refine gate_guard (by rfl) ?_; dsimp only; refine wpList_load_row (by rfl) 26 (.tmp 2) (by rfl) _ (by rfl) 26 _ (0, 0) _ (by first | exact BK116.out | exact BK140.out | exact blk_put BK116.out _ _ (by simp only [List.setIfInBounds_toArray, List.set_cons_zero, List.set_cons_succ]) | exact blk_put BK140.out _ _ (by simp only [List.setIfInBounds_toArray, List.set_cons_zero, List.set_cons_succ])) hu26 (by rfl) (by kernel_rfl) ?_) | (go_at_call 5; (refine (packet_Space.calls 0 0 0 false false false false false false false false 0 (⟨#[]⟩ : ByteArray) 0 _ _ ([] : List (S38)) _ _ ([] : List (S38)) _ _ ([] : List (S38)) t141 _ ?side1 ?side2 ?side3 ?side4 ?side5 ?side6 A18.out).mono ?_); (case side1 => exact Kd.C_nil _ _); (case side2 => exact Nat.le_refl _); (case side3 => exact Kd.C_nil _ _); (case side4 => exact Nat.le_refl _); (case side5 => exact Kd.C_nil _ _); (case side6 => exact Nat.le_refl _); rintro e w21 ⟨rfl, hb⟩; have n0_ := Aside0.mk (Kd.R_below (by (with_reducible repeat (first | apply Kd.R_alloc | apply Kd.R_drewN | apply Kd.R_drew)); exact HO133.out) hb); have n1_ := Aside0.mk (Kd.R_below (by (with_reducible repeat (first | apply Kd.R_alloc | apply Kd.R_drewN | apply Kd.R_drew)); exact HO136.out) hb); have n2_ := Aside0.mk (Kd.R_below (by (with_reducible repeat (first | apply Kd.R_alloc | apply Kd.R_drewN | apply Kd.R_drew)); exact HO139.out) hb); have n3_ := Aside0.mk (blk_below (g := gb116) (o := .cells #[.int .i64 a0_0, .int .i64 a0_1, .int .i64 a0_2, .bool a0_3, .bool a0_4, .bool a0_5, .bool a0_6, .bool a0_7, .bool a0_8, .bool a0_9, .bool a0_10, .int .i64 a0_11, .string a0_12, .int .i64 a0_13, .slice A0_14 l0_14.length c0_14, .slice A0_15 l0_15.length c0_15, .slice A0_16 l0_16.length c0_16] 26 (0, 0)) (by (with_reducible repeat (first | refine blk_drewN ?_ _ | refine blk_drew ?_ | refine blk_alloc ?_ _)); exact BK116.out) hb); have n4_ := Aside0.mk (blk_below (g := gb140) (o := .cells #[.int .i64 t117, .int .i64 t118, .int .i64 t119, .bool true, .bool t121, .bool t122, .bool t123, .bool t124, .bool t125, .bool t126, .bool t127, .int .i64 t128, .string t129, .int .i64 t130, .slice Ao10 t131.length co10, .slice Ao11 t134.length co11, .slice Ao12 t137.length co12] 26 (0, 0)) (by (with_reducible repeat (first | refine blk_drewN ?_ _ | refine blk_drew ?_ | refine blk_alloc ?_ _)); exact BK140.out) hb); have n5_ := Aside0.mk (below_step (by repeat (first | (with_reducible first | exact HB.out | apply below_alloc | apply pw_below_drewN | apply below_drew1 | refine below_set ?_ GE116.out | refine below_set ?_ GE140.out) | exact HB.out)) hb); clear HO133; clear HO136; clear HO139; clear BK116; clear BK140; clear HB; have HO133 := n0_; have HO136 := n1_; have HO139 := n2_; have BK116 := n3_; have BK140 := n4_; have HB := n5_; clear n0_ n1_ n2_ n3_ n4_ n5_; (try clear hb); (try clear hb2); (try clear hk); (try clear hi)))
            refine Met.intro ?_
            go_step
            (repeat apply Exists.intro)
            refine ⟨?rel, ?heq_⟩
            case heq_ => first | rfl | (rw [c14b0]) | (simp only [c14b0])
            case rel => exact ⟨_, ((t141 != 512)), (by first | rfl | (simp; done) | (simp [*]; done) | ((try simp only [Bool.not_not]); (generalize ByteArray.toList _ = l_); cases l_ <;> rfl) | (simp; (generalize ByteArray.toList _ = l_); cases l_ <;> rfl)), H', ⟨by first | omega | exact Nat.le_refl _⟩, ⟨by (with_reducible repeat (first | apply Kd.R_alloc | apply Kd.R_drewN | apply Kd.R_drew)); exact HO133.out⟩, ⟨by (with_reducible repeat (first | apply Kd.R_alloc | apply Kd.R_drewN | apply Kd.R_drew)); exact HO136.out⟩, ⟨by (with_reducible repeat (first | apply Kd.R_alloc | apply Kd.R_drewN | apply Kd.R_drew)); exact HO139.out⟩, ⟨by (with_reducible repeat (first | refine blk_drewN ?_ _ | refine blk_drew ?_ | refine blk_alloc ?_ _)); exact BK116.out⟩, ⟨by (with_reducible repeat (first | refine blk_drewN ?_ _ | refine blk_drew ?_ | refine blk_alloc ?_ _)); exact BK140.out⟩, ⟨by repeat (first | (with_reducible first | exact HB.out | apply below_alloc | apply pw_below_drewN | apply below_drew1 | refine below_set ?_ GE116.out | refine below_set ?_ GE140.out) | exact HB.out)⟩⟩
          · rw [if_neg c17] at H
            have c17b0 : (t119 == 3) = false := beq_eq_false_iff_ne.mpr c17
            have c17b1 : (t119 != 3) = true := bne_iff_ne.mpr c17
            have H' := Aside0.mk H
            clear H
            have hnb22 := NB140_116.out
            have hnc22 := NB116_140.out
            have hcz23_0 : w13.cell? ⟨gb140, 0, none⟩ = some (.int .i64 t117) := (blk_cell BK140.out 0).trans rfl
            have hcz23_1 : w13.cell? ⟨gb140, 1, none⟩ = some (.int .i64 t118) := (blk_cell BK140.out 1).trans rfl
            have hcz23_2 : w13.cell? ⟨gb140, 2, none⟩ = some (.int .i64 t119) := (blk_cell BK140.out 2).trans rfl
            have hcz23_3 : w13.cell? ⟨gb140, 3, none⟩ = some (.bool true) := (blk_cell BK140.out 3).trans rfl
            have hcz23_4 : w13.cell? ⟨gb140, 4, none⟩ = some (.bool t121) := (blk_cell BK140.out 4).trans rfl
            have hcz23_5 : w13.cell? ⟨gb140, 5, none⟩ = some (.bool t122) := (blk_cell BK140.out 5).trans rfl
            have hcz23_6 : w13.cell? ⟨gb140, 6, none⟩ = some (.bool t123) := (blk_cell BK140.out 6).trans rfl
            have hcz23_7 : w13.cell? ⟨gb140, 7, none⟩ = some (.bool t124) := (blk_cell BK140.out 7).trans rfl
            have hcz23_8 : w13.cell? ⟨gb140, 8, none⟩ = some (.bool t125) := (blk_cell BK140.out 8).trans rfl
            have hcz23_9 : w13.cell? ⟨gb140, 9, none⟩ = some (.bool t126) := (blk_cell BK140.out 9).trans rfl
            have hcz23_10 : w13.cell? ⟨gb140, 10, none⟩ = some (.bool t127) := (blk_cell BK140.out 10).trans rfl
            have hcz23_11 : w13.cell? ⟨gb140, 11, none⟩ = some (.int .i64 t128) := (blk_cell BK140.out 11).trans rfl
            have hcz23_12 : w13.cell? ⟨gb140, 12, none⟩ = some (.string t129) := (blk_cell BK140.out 12).trans rfl
            have hcz23_13 : w13.cell? ⟨gb140, 13, none⟩ = some (.int .i64 t130) := (blk_cell BK140.out 13).trans rfl
            have hcz23_14 : w13.cell? ⟨gb140, 14, none⟩ = some (.slice Ao10 t131.length co10) := (blk_cell BK140.out 14).trans rfl
            have hcz23_15 : w13.cell? ⟨gb140, 15, none⟩ = some (.slice Ao11 t134.length co11) := (blk_cell BK140.out 15).trans rfl
            have hcz23_16 : w13.cell? ⟨gb140, 16, none⟩ = some (.slice Ao12 t137.length co12) := (blk_cell BK140.out 16).trans rfl
            have hfz23_0 := blk_frozen BK140.out 0
            have hfz23_1 := blk_frozen BK140.out 1
            have hfz23_2 := blk_frozen BK140.out 2
            have hfz23_3 := blk_frozen BK140.out 3
            have hfz23_4 := blk_frozen BK140.out 4
            have hfz23_5 := blk_frozen BK140.out 5
            have hfz23_6 := blk_frozen BK140.out 6
            have hfz23_7 := blk_frozen BK140.out 7
            have hfz23_8 := blk_frozen BK140.out 8
            have hfz23_9 := blk_frozen BK140.out 9
            have hfz23_10 := blk_frozen BK140.out 10
            have hfz23_11 := blk_frozen BK140.out 11
            have hfz23_12 := blk_frozen BK140.out 12
            have hfz23_13 := blk_frozen BK140.out 13
            have hfz23_14 := blk_frozen BK140.out 14
            have hfz23_15 := blk_frozen BK140.out 15
            have hfz23_16 := blk_frozen BK140.out 16
            go_wp2_with (first | ((with_reducible refine gate_dst (N := 6) rfl ?_); refine Ext.wpList_buildC ?hgd 26 _ ?ho ?hb ?_; (case hgd => rfl); (case ho => rfl); (case hb => ((try go_simp); exact hbl6 _ _ _))) | ((with_reducible refine gate_dst (N := 27) rfl ?_); refine gate_guard (by rfl) ?_; dsimp only; refine Ext.wpList_buildC ?hgd 26 _ ?ho ?hb ?_; (case hgd => rfl); (case ho => rfl); (case hb => ((try go_simp); exact hbl27))) | ((with_reducible refine gate_ (.load 26 (.tmp 2)) rfl ?_); refine wpList_load_row (by rfl) 26 (.tmp 2) (by rfl) _ (by rfl) 26 _ (0, 0) _ (by first | exact BK116.out | exact BK140.out | exact blk_put BK116.out _ _ (by simp only [List.setIfInBounds_toArray, List.set_cons_zero, List.set_cons_succ]) | exact blk_put BK140.out _ _ (by simp only [List.setIfInBounds_toArray, List.set_cons_zero, List.set_cons_succ])) hu26 (by rfl) (by kernel_rfl) ?_) | ((with_reducible refine gate_ (.load 26 (.tmp 2)) rfl ?_); refine gate_guard (by rfl) ?_; dsimp only; refine wpList_load_row (by rfl) 26 (.tmp 2) (by rfl) _ (by rfl) 26 _ (0, 0) _ (by first | exact BK116.out | exact BK140.out | exact blk_put BK116.out _ _ (by simp only [List.setIfInBounds_toArray, List.set_cons_zero, List.set_cons_succ]) | exact blk_put BK140.out _ _ (by simp only [List.setIfInBounds_toArray, List.set_cons_zero, List.set_cons_succ])) hu26 (by rfl) (by kernel_rfl) ?_))
            refine Met.intro ?_
            go_step
            (repeat apply Exists.intro)
            refine ⟨?rel, ?heq_⟩
            case heq_ => first | rfl | (rw [c14b0]) | (simp only [c14b0])
            case rel => exact ⟨_, (true), (by first | rfl | (simp; done) | (simp [*]; done) | ((try simp only [Bool.not_not]); (generalize ByteArray.toList _ = l_); cases l_ <;> rfl) | (simp; (generalize ByteArray.toList _ = l_); cases l_ <;> rfl)), H', ⟨by first | omega | exact Nat.le_refl _⟩, ⟨by (with_reducible repeat (first | apply Kd.R_alloc | apply Kd.R_drewN | apply Kd.R_drew)); exact HO133.out⟩, ⟨by (with_reducible repeat (first | apply Kd.R_alloc | apply Kd.R_drewN | apply Kd.R_drew)); exact HO136.out⟩, ⟨by (with_reducible repeat (first | apply Kd.R_alloc | apply Kd.R_drewN | apply Kd.R_drew)); exact HO139.out⟩, ⟨by (with_reducible repeat (first | refine blk_drewN ?_ _ | refine blk_drew ?_ | refine blk_alloc ?_ _)); exact BK116.out⟩, ⟨by (with_reducible repeat (first | refine blk_drewN ?_ _ | refine blk_drew ?_ | refine blk_alloc ?_ _)); exact BK140.out⟩, ⟨by repeat (first | (with_reducible first | exact HB.out | apply below_alloc | apply pw_below_drewN | apply below_drew1 | refine below_set ?_ GE116.out | refine below_set ?_ GE140.out) | exact HB.out)⟩⟩
        · rw [if_neg c16] at H
          have c16b0 : (t128 == 1232) = false := beq_eq_false_iff_ne.mpr c16
          have c16b1 : (t128 != 1232) = true := bne_iff_ne.mpr c16
          have H' := Aside0.mk H
          clear H
          have hnb24 := NB140_116.out
          have hnc24 := NB116_140.out
          have hcz25_0 : w13.cell? ⟨gb140, 0, none⟩ = some (.int .i64 t117) := (blk_cell BK140.out 0).trans rfl
          have hcz25_1 : w13.cell? ⟨gb140, 1, none⟩ = some (.int .i64 t118) := (blk_cell BK140.out 1).trans rfl
          have hcz25_2 : w13.cell? ⟨gb140, 2, none⟩ = some (.int .i64 t119) := (blk_cell BK140.out 2).trans rfl
          have hcz25_3 : w13.cell? ⟨gb140, 3, none⟩ = some (.bool true) := (blk_cell BK140.out 3).trans rfl
          have hcz25_4 : w13.cell? ⟨gb140, 4, none⟩ = some (.bool t121) := (blk_cell BK140.out 4).trans rfl
          have hcz25_5 : w13.cell? ⟨gb140, 5, none⟩ = some (.bool t122) := (blk_cell BK140.out 5).trans rfl
          have hcz25_6 : w13.cell? ⟨gb140, 6, none⟩ = some (.bool t123) := (blk_cell BK140.out 6).trans rfl
          have hcz25_7 : w13.cell? ⟨gb140, 7, none⟩ = some (.bool t124) := (blk_cell BK140.out 7).trans rfl
          have hcz25_8 : w13.cell? ⟨gb140, 8, none⟩ = some (.bool t125) := (blk_cell BK140.out 8).trans rfl
          have hcz25_9 : w13.cell? ⟨gb140, 9, none⟩ = some (.bool t126) := (blk_cell BK140.out 9).trans rfl
          have hcz25_10 : w13.cell? ⟨gb140, 10, none⟩ = some (.bool t127) := (blk_cell BK140.out 10).trans rfl
          have hcz25_11 : w13.cell? ⟨gb140, 11, none⟩ = some (.int .i64 t128) := (blk_cell BK140.out 11).trans rfl
          have hcz25_12 : w13.cell? ⟨gb140, 12, none⟩ = some (.string t129) := (blk_cell BK140.out 12).trans rfl
          have hcz25_13 : w13.cell? ⟨gb140, 13, none⟩ = some (.int .i64 t130) := (blk_cell BK140.out 13).trans rfl
          have hcz25_14 : w13.cell? ⟨gb140, 14, none⟩ = some (.slice Ao10 t131.length co10) := (blk_cell BK140.out 14).trans rfl
          have hcz25_15 : w13.cell? ⟨gb140, 15, none⟩ = some (.slice Ao11 t134.length co11) := (blk_cell BK140.out 15).trans rfl
          have hcz25_16 : w13.cell? ⟨gb140, 16, none⟩ = some (.slice Ao12 t137.length co12) := (blk_cell BK140.out 16).trans rfl
          have hfz25_0 := blk_frozen BK140.out 0
          have hfz25_1 := blk_frozen BK140.out 1
          have hfz25_2 := blk_frozen BK140.out 2
          have hfz25_3 := blk_frozen BK140.out 3
          have hfz25_4 := blk_frozen BK140.out 4
          have hfz25_5 := blk_frozen BK140.out 5
          have hfz25_6 := blk_frozen BK140.out 6
          have hfz25_7 := blk_frozen BK140.out 7
          have hfz25_8 := blk_frozen BK140.out 8
          have hfz25_9 := blk_frozen BK140.out 9
          have hfz25_10 := blk_frozen BK140.out 10
          have hfz25_11 := blk_frozen BK140.out 11
          have hfz25_12 := blk_frozen BK140.out 12
          have hfz25_13 := blk_frozen BK140.out 13
          have hfz25_14 := blk_frozen BK140.out 14
          have hfz25_15 := blk_frozen BK140.out 15
          have hfz25_16 := blk_frozen BK140.out 16
          go_wp2_with (first | ((with_reducible refine gate_dst (N := 6) rfl ?_); refine Ext.wpList_buildC ?hgd 26 _ ?ho ?hb ?_; (case hgd => rfl); (case ho => rfl); (case hb => ((try go_simp); exact hbl6 _ _ _))) | ((with_reducible refine gate_dst (N := 27) rfl ?_); refine gate_guard (by rfl) ?_; dsimp only; refine Ext.wpList_buildC ?hgd 26 _ ?ho ?hb ?_; (case hgd => rfl); (case ho => rfl); (case hb => ((try go_simp); exact hbl27))) | ((with_reducible refine gate_ (.load 26 (.tmp 2)) rfl ?_); refine wpList_load_row (by rfl) 26 (.tmp 2) (by rfl) _ (by rfl) 26 _ (0, 0) _ (by first | exact BK116.out | exact BK140.out | exact blk_put BK116.out _ _ (by simp only [List.setIfInBounds_toArray, List.set_cons_zero, List.set_cons_succ]) | exact blk_put BK140.out _ _ (by simp only [List.setIfInBounds_toArray, List.set_cons_zero, List.set_cons_succ])) hu26 (by rfl) (by kernel_rfl) ?_) | ((with_reducible refine gate_ (.load 26 (.tmp 2)) rfl ?_); refine gate_guard (by rfl) ?_; dsimp only; refine wpList_load_row (by rfl) 26 (.tmp 2) (by rfl) _ (by rfl) 26 _ (0, 0) _ (by first | exact BK116.out | exact BK140.out | exact blk_put BK116.out _ _ (by simp only [List.setIfInBounds_toArray, List.set_cons_zero, List.set_cons_succ]) | exact blk_put BK140.out _ _ (by simp only [List.setIfInBounds_toArray, List.set_cons_zero, List.set_cons_succ])) hu26 (by rfl) (by kernel_rfl) ?_))
          refine Met.intro ?_
          go_step
          (repeat apply Exists.intro)
          refine ⟨?rel, ?heq_⟩
          case heq_ => first | rfl | (rw [c14b0]) | (simp only [c14b0])
          case rel => exact ⟨_, (true), (by first | rfl | (simp; done) | (simp [*]; done) | ((try simp only [Bool.not_not]); (generalize ByteArray.toList _ = l_); cases l_ <;> rfl) | (simp; (generalize ByteArray.toList _ = l_); cases l_ <;> rfl)), H', ⟨by first | omega | exact Nat.le_refl _⟩, ⟨by (with_reducible repeat (first | apply Kd.R_alloc | apply Kd.R_drewN | apply Kd.R_drew)); exact HO133.out⟩, ⟨by (with_reducible repeat (first | apply Kd.R_alloc | apply Kd.R_drewN | apply Kd.R_drew)); exact HO136.out⟩, ⟨by (with_reducible repeat (first | apply Kd.R_alloc | apply Kd.R_drewN | apply Kd.R_drew)); exact HO139.out⟩, ⟨by (with_reducible repeat (first | refine blk_drewN ?_ _ | refine blk_drew ?_ | refine blk_alloc ?_ _)); exact BK116.out⟩, ⟨by (with_reducible repeat (first | refine blk_drewN ?_ _ | refine blk_drew ?_ | refine blk_alloc ?_ _)); exact BK140.out⟩, ⟨by repeat (first | (with_reducible first | exact HB.out | apply below_alloc | apply pw_below_drewN | apply below_drew1 | refine below_set ?_ GE116.out | refine below_set ?_ GE140.out) | exact HB.out)⟩⟩
      · replace c15 := Bool.eq_false_iff.mpr c15
        subst c15
        have H1 : (ddilaw08_PacketReplies.j0 k a1 true a0_0 a0_1 a0_2 a0_3 a0_4 a0_5 a0_6 a0_7 a0_8 a0_9 a0_10 a0_11 a0_12 a0_13 l0_14 l0_15 l0_16) = some r := by rw [if_neg (show ¬ (false = true) by decide)] at H; exact H
        clear H
        have H := H1
        clear H1
        have H' := Aside0.mk H
        clear H
        have hnb26 := NB140_116.out
        have hnc26 := NB116_140.out
        have hcz27_0 : w13.cell? ⟨gb140, 0, none⟩ = some (.int .i64 t117) := (blk_cell BK140.out 0).trans rfl
        have hcz27_1 : w13.cell? ⟨gb140, 1, none⟩ = some (.int .i64 t118) := (blk_cell BK140.out 1).trans rfl
        have hcz27_2 : w13.cell? ⟨gb140, 2, none⟩ = some (.int .i64 t119) := (blk_cell BK140.out 2).trans rfl
        have hcz27_3 : w13.cell? ⟨gb140, 3, none⟩ = some (.bool false) := (blk_cell BK140.out 3).trans rfl
        have hcz27_4 : w13.cell? ⟨gb140, 4, none⟩ = some (.bool t121) := (blk_cell BK140.out 4).trans rfl
        have hcz27_5 : w13.cell? ⟨gb140, 5, none⟩ = some (.bool t122) := (blk_cell BK140.out 5).trans rfl
        have hcz27_6 : w13.cell? ⟨gb140, 6, none⟩ = some (.bool t123) := (blk_cell BK140.out 6).trans rfl
        have hcz27_7 : w13.cell? ⟨gb140, 7, none⟩ = some (.bool t124) := (blk_cell BK140.out 7).trans rfl
        have hcz27_8 : w13.cell? ⟨gb140, 8, none⟩ = some (.bool t125) := (blk_cell BK140.out 8).trans rfl
        have hcz27_9 : w13.cell? ⟨gb140, 9, none⟩ = some (.bool t126) := (blk_cell BK140.out 9).trans rfl
        have hcz27_10 : w13.cell? ⟨gb140, 10, none⟩ = some (.bool t127) := (blk_cell BK140.out 10).trans rfl
        have hcz27_11 : w13.cell? ⟨gb140, 11, none⟩ = some (.int .i64 t128) := (blk_cell BK140.out 11).trans rfl
        have hcz27_12 : w13.cell? ⟨gb140, 12, none⟩ = some (.string t129) := (blk_cell BK140.out 12).trans rfl
        have hcz27_13 : w13.cell? ⟨gb140, 13, none⟩ = some (.int .i64 t130) := (blk_cell BK140.out 13).trans rfl
        have hcz27_14 : w13.cell? ⟨gb140, 14, none⟩ = some (.slice Ao10 t131.length co10) := (blk_cell BK140.out 14).trans rfl
        have hcz27_15 : w13.cell? ⟨gb140, 15, none⟩ = some (.slice Ao11 t134.length co11) := (blk_cell BK140.out 15).trans rfl
        have hcz27_16 : w13.cell? ⟨gb140, 16, none⟩ = some (.slice Ao12 t137.length co12) := (blk_cell BK140.out 16).trans rfl
        have hfz27_0 := blk_frozen BK140.out 0
        have hfz27_1 := blk_frozen BK140.out 1
        have hfz27_2 := blk_frozen BK140.out 2
        have hfz27_3 := blk_frozen BK140.out 3
        have hfz27_4 := blk_frozen BK140.out 4
        have hfz27_5 := blk_frozen BK140.out 5
        have hfz27_6 := blk_frozen BK140.out 6
        have hfz27_7 := blk_frozen BK140.out 7
        have hfz27_8 := blk_frozen BK140.out 8
        have hfz27_9 := blk_frozen BK140.out 9
        have hfz27_10 := blk_frozen BK140.out 10
        have hfz27_11 := blk_frozen BK140.out 11
        have hfz27_12 := blk_frozen BK140.out 12
        have hfz27_13 := blk_frozen BK140.out 13
        have hfz27_14 := blk_frozen BK140.out 14
        have hfz27_15 := blk_frozen BK140.out 15
        have hfz27_16 := blk_frozen BK140.out 16
        go_wp2_with (first | ((with_reducible refine gate_dst (N := 6) rfl ?_); refine Ext.wpList_buildC ?hgd 26 _ ?ho ?hb ?_; (case hgd => rfl); (case ho => rfl); (case hb => ((try go_simp); exact hbl6 _ _ _))) | ((with_reducible refine gate_dst (N := 27) rfl ?_); refine gate_guard (by rfl) ?_; dsimp only; refine Ext.wpList_buildC ?hgd 26 _ ?ho ?hb ?_; (case hgd => rfl); (case ho => rfl); (case hb => ((try go_simp); exact hbl27))) | ((with_reducible refine gate_ (.load 26 (.tmp 2)) rfl ?_); refine wpList_load_row (by rfl) 26 (.tmp 2) (by rfl) _ (by rfl) 26 _ (0, 0) _ (by first | exact BK116.out | exact BK140.out | exact blk_put BK116.out _ _ (by simp only [List.setIfInBounds_toArray, List.set_cons_zero, List.set_cons_succ]) | exact blk_put BK140.out _ _ (by simp only [List.setIfInBounds_toArray, List.set_cons_zero, List.set_cons_succ])) hu26 (by rfl) (by kernel_rfl) ?_) | ((with_reducible refine gate_ (.load 26 (.tmp 2)) rfl ?_); refine gate_guard (by rfl) ?_; dsimp only; refine wpList_load_row (by rfl) 26 (.tmp 2) (by rfl) _ (by rfl) 26 _ (0, 0) _ (by first | exact BK116.out | exact BK140.out | exact blk_put BK116.out _ _ (by simp only [List.setIfInBounds_toArray, List.set_cons_zero, List.set_cons_succ]) | exact blk_put BK140.out _ _ (by simp only [List.setIfInBounds_toArray, List.set_cons_zero, List.set_cons_succ])) hu26 (by rfl) (by kernel_rfl) ?_))
        refine Met.intro ?_
        go_step
        (repeat apply Exists.intro)
        refine ⟨?rel, ?heq_⟩
        case heq_ => first | rfl | (rw [c14b0]) | (simp only [c14b0])
        case rel => exact ⟨_, (true), (by first | rfl | (simp; done) | (simp [*]; done) | ((try simp only [Bool.not_not]); (generalize ByteArray.toList _ = l_); cases l_ <;> rfl) | (simp; (generalize ByteArray.toList _ = l_); cases l_ <;> rfl)), H', ⟨by first | omega | exact Nat.le_refl _⟩, ⟨by (with_reducible repeat (first | apply Kd.R_alloc | apply Kd.R_drewN | apply Kd.R_drew)); exact HO133.out⟩, ⟨by (with_reducible repeat (first | apply Kd.R_alloc | apply Kd.R_drewN | apply Kd.R_drew)); exact HO136.out⟩, ⟨by (with_reducible repeat (first | apply Kd.R_alloc | apply Kd.R_drewN | apply Kd.R_drew)); exact HO139.out⟩, ⟨by (with_reducible repeat (first | refine blk_drewN ?_ _ | refine blk_drew ?_ | refine blk_alloc ?_ _)); exact BK116.out⟩, ⟨by (with_reducible repeat (first | refine blk_drewN ?_ _ | refine blk_drew ?_ | refine blk_alloc ?_ _)); exact BK140.out⟩, ⟨by repeat (first | (with_reducible first | exact HB.out | apply below_alloc | apply pw_below_drewN | apply below_drew1 | refine below_set ?_ GE116.out | refine below_set ?_ GE140.out) | exact HB.out)⟩⟩
    · rw [if_neg c14] at H
      have c14b0 : (t117 == 7) = false := beq_eq_false_iff_ne.mpr c14
      have c14b1 : (t117 != 7) = true := bne_iff_ne.mpr c14
      (first | rw [c14b0] | (simp only [i64_w, i32_w]; rw [c14b0]) | skip)
      have H' := Aside0.mk H
      clear H
      have hnb28 := NB140_116.out
      have hnc28 := NB116_140.out
      have hcz29_0 : w13.cell? ⟨gb140, 0, none⟩ = some (.int .i64 t117) := (blk_cell BK140.out 0).trans rfl
      have hcz29_1 : w13.cell? ⟨gb140, 1, none⟩ = some (.int .i64 t118) := (blk_cell BK140.out 1).trans rfl
      have hcz29_2 : w13.cell? ⟨gb140, 2, none⟩ = some (.int .i64 t119) := (blk_cell BK140.out 2).trans rfl
      have hcz29_3 : w13.cell? ⟨gb140, 3, none⟩ = some (.bool t120) := (blk_cell BK140.out 3).trans rfl
      have hcz29_4 : w13.cell? ⟨gb140, 4, none⟩ = some (.bool t121) := (blk_cell BK140.out 4).trans rfl
      have hcz29_5 : w13.cell? ⟨gb140, 5, none⟩ = some (.bool t122) := (blk_cell BK140.out 5).trans rfl
      have hcz29_6 : w13.cell? ⟨gb140, 6, none⟩ = some (.bool t123) := (blk_cell BK140.out 6).trans rfl
      have hcz29_7 : w13.cell? ⟨gb140, 7, none⟩ = some (.bool t124) := (blk_cell BK140.out 7).trans rfl
      have hcz29_8 : w13.cell? ⟨gb140, 8, none⟩ = some (.bool t125) := (blk_cell BK140.out 8).trans rfl
      have hcz29_9 : w13.cell? ⟨gb140, 9, none⟩ = some (.bool t126) := (blk_cell BK140.out 9).trans rfl
      have hcz29_10 : w13.cell? ⟨gb140, 10, none⟩ = some (.bool t127) := (blk_cell BK140.out 10).trans rfl
      have hcz29_11 : w13.cell? ⟨gb140, 11, none⟩ = some (.int .i64 t128) := (blk_cell BK140.out 11).trans rfl
      have hcz29_12 : w13.cell? ⟨gb140, 12, none⟩ = some (.string t129) := (blk_cell BK140.out 12).trans rfl
      have hcz29_13 : w13.cell? ⟨gb140, 13, none⟩ = some (.int .i64 t130) := (blk_cell BK140.out 13).trans rfl
      have hcz29_14 : w13.cell? ⟨gb140, 14, none⟩ = some (.slice Ao10 t131.length co10) := (blk_cell BK140.out 14).trans rfl
      have hcz29_15 : w13.cell? ⟨gb140, 15, none⟩ = some (.slice Ao11 t134.length co11) := (blk_cell BK140.out 15).trans rfl
      have hcz29_16 : w13.cell? ⟨gb140, 16, none⟩ = some (.slice Ao12 t137.length co12) := (blk_cell BK140.out 16).trans rfl
      have hfz29_0 := blk_frozen BK140.out 0
      have hfz29_1 := blk_frozen BK140.out 1
      have hfz29_2 := blk_frozen BK140.out 2
      have hfz29_3 := blk_frozen BK140.out 3
      have hfz29_4 := blk_frozen BK140.out 4
      have hfz29_5 := blk_frozen BK140.out 5
      have hfz29_6 := blk_frozen BK140.out 6
      have hfz29_7 := blk_frozen BK140.out 7
      have hfz29_8 := blk_frozen BK140.out 8
      have hfz29_9 := blk_frozen BK140.out 9
      have hfz29_10 := blk_frozen BK140.out 10
      have hfz29_11 := blk_frozen BK140.out 11
      have hfz29_12 := blk_frozen BK140.out 12
      have hfz29_13 := blk_frozen BK140.out 13
      have hfz29_14 := blk_frozen BK140.out 14
      have hfz29_15 := blk_frozen BK140.out 15
      have hfz29_16 := blk_frozen BK140.out 16
      go_wp2_with (first | ((with_reducible refine gate_dst (N := 6) rfl ?_); refine Ext.wpList_buildC ?hgd 26 _ ?ho ?hb ?_; (case hgd => rfl); (case ho => rfl); (case hb => ((try go_simp); exact hbl6 _ _ _))) | ((with_reducible refine gate_dst (N := 27) rfl ?_); refine gate_guard (by rfl) ?_; dsimp only; refine Ext.wpList_buildC ?hgd 26 _ ?ho ?hb ?_; (case hgd => rfl); (case ho => rfl); (case hb => ((try go_simp); exact hbl27))) | ((with_reducible refine gate_ (.load 26 (.tmp 2)) rfl ?_); refine wpList_load_row (by rfl) 26 (.tmp 2) (by rfl) _ (by rfl) 26 _ (0, 0) _ (by first | exact BK116.out | exact BK140.out | exact blk_put BK116.out _ _ (by simp only [List.setIfInBounds_toArray, List.set_cons_zero, List.set_cons_succ]) | exact blk_put BK140.out _ _ (by simp only [List.setIfInBounds_toArray, List.set_cons_zero, List.set_cons_succ])) hu26 (by rfl) (by kernel_rfl) ?_) | ((with_reducible refine gate_ (.load 26 (.tmp 2)) rfl ?_); refine gate_guard (by rfl) ?_; dsimp only; refine wpList_load_row (by rfl) 26 (.tmp 2) (by rfl) _ (by rfl) 26 _ (0, 0) _ (by first | exact BK116.out | exact BK140.out | exact blk_put BK116.out _ _ (by simp only [List.setIfInBounds_toArray, List.set_cons_zero, List.set_cons_succ]) | exact blk_put BK140.out _ _ (by simp only [List.setIfInBounds_toArray, List.set_cons_zero, List.set_cons_succ])) hu26 (by rfl) (by kernel_rfl) ?_))
      refine Met.intro ?_
      go_step
      (repeat apply Exists.intro)
      refine ⟨?rel, ?heq_⟩
      case heq_ => first | rfl | (rw [c14b0]) | (simp only [c14b0])
      case rel => exact ⟨_, (true), (by first | rfl | (simp; done) | (simp [*]; done) | ((try simp only [Bool.not_not]); (generalize ByteArray.toList _ = l_); cases l_ <;> rfl) | (simp; (generalize ByteArray.toList _ = l_); cases l_ <;> rfl)), H', ⟨by first | omega | exact Nat.le_refl _⟩, ⟨by (with_reducible repeat (first | apply Kd.R_alloc | apply Kd.R_drewN | apply Kd.R_drew)); exact HO133.out⟩, ⟨by (with_reducible repeat (first | apply Kd.R_alloc | apply Kd.R_drewN | apply Kd.R_drew)); exact HO136.out⟩, ⟨by (with_reducible repeat (first | apply Kd.R_alloc | apply Kd.R_drewN | apply Kd.R_drew)); exact HO139.out⟩, ⟨by (with_reducible repeat (first | refine blk_drewN ?_ _ | refine blk_drew ?_ | refine blk_alloc ?_ _)); exact BK116.out⟩, ⟨by (with_reducible repeat (first | refine blk_drewN ?_ _ | refine blk_drew ?_ | refine blk_alloc ?_ _)); exact BK140.out⟩, ⟨by repeat (first | (with_reducible first | exact HB.out | apply below_alloc | apply pw_below_drewN | apply below_drew1 | refine below_set ?_ GE116.out | refine below_set ?_ GE140.out) | exact HB.out)⟩⟩
  case rest =>
    clear HC4
    try clear c1
    try clear c2
    try clear p2
    try clear c3
    try clear c4
    try clear c8
    try clear c14
    try clear c14b0
    try clear c14b1
    try clear c15
    try clear c16
    try clear c16b0
    try clear c16b1
    try clear c17
    try clear c17b0
    try clear c17b1
    try clear c19
    try clear c22
    try clear c24
    try clear c26
    try clear c28
    try clear hcz20_0
    try clear hcz20_1
    try clear hcz20_10
    try clear hcz20_11
    try clear hcz20_12
    try clear hcz20_13
    try clear hcz20_14
    try clear hcz20_15
    try clear hcz20_16
    try clear hcz20_2
    try clear hcz20_3
    try clear hcz20_4
    try clear hcz20_5
    try clear hcz20_6
    try clear hcz20_7
    try clear hcz20_8
    try clear hcz20_9
    try clear hcz23_0
    try clear hcz23_1
    try clear hcz23_10
    try clear hcz23_11
    try clear hcz23_12
    try clear hcz23_13
    try clear hcz23_14
    try clear hcz23_15
    try clear hcz23_16
    try clear hcz23_2
    try clear hcz23_3
    try clear hcz23_4
    try clear hcz23_5
    try clear hcz23_6
    try clear hcz23_7
    try clear hcz23_8
    try clear hcz23_9
    try clear hcz25_0
    try clear hcz25_1
    try clear hcz25_10
    try clear hcz25_11
    try clear hcz25_12
    try clear hcz25_13
    try clear hcz25_14
    try clear hcz25_15
    try clear hcz25_16
    try clear hcz25_2
    try clear hcz25_3
    try clear hcz25_4
    try clear hcz25_5
    try clear hcz25_6
    try clear hcz25_7
    try clear hcz25_8
    try clear hcz25_9
    try clear hcz27_0
    try clear hcz27_1
    try clear hcz27_10
    try clear hcz27_11
    try clear hcz27_12
    try clear hcz27_13
    try clear hcz27_14
    try clear hcz27_15
    try clear hcz27_16
    try clear hcz27_2
    try clear hcz27_3
    try clear hcz27_4
    try clear hcz27_5
    try clear hcz27_6
    try clear hcz27_7
    try clear hcz27_8
    try clear hcz27_9
    try clear hcz29_0
    try clear hcz29_1
    try clear hcz29_10
    try clear hcz29_11
    try clear hcz29_12
    try clear hcz29_13
    try clear hcz29_14
    try clear hcz29_15
    try clear hcz29_16
    try clear hcz29_2
    try clear hcz29_3
    try clear hcz29_4
    try clear hcz29_5
    try clear hcz29_6
    try clear hcz29_7
    try clear hcz29_8
    try clear hcz29_9
    try clear hcz9_0
    try clear hcz9_1
    try clear hcz9_10
    try clear hcz9_11
    try clear hcz9_12
    try clear hcz9_13
    try clear hcz9_14
    try clear hcz9_15
    try clear hcz9_16
    try clear hcz9_2
    try clear hcz9_3
    try clear hcz9_4
    try clear hcz9_5
    try clear hcz9_6
    try clear hcz9_7
    try clear hcz9_8
    try clear hcz9_9
    try clear hfz20_0
    try clear hfz20_1
    try clear hfz20_10
    try clear hfz20_11
    try clear hfz20_12
    try clear hfz20_13
    try clear hfz20_14
    try clear hfz20_15
    try clear hfz20_16
    try clear hfz20_2
    try clear hfz20_3
    try clear hfz20_4
    try clear hfz20_5
    try clear hfz20_6
    try clear hfz20_7
    try clear hfz20_8
    try clear hfz20_9
    try clear hfz23_0
    try clear hfz23_1
    try clear hfz23_10
    try clear hfz23_11
    try clear hfz23_12
    try clear hfz23_13
    try clear hfz23_14
    try clear hfz23_15
    try clear hfz23_16
    try clear hfz23_2
    try clear hfz23_3
    try clear hfz23_4
    try clear hfz23_5
    try clear hfz23_6
    try clear hfz23_7
    try clear hfz23_8
    try clear hfz23_9
    try clear hfz25_0
    try clear hfz25_1
    try clear hfz25_10
    try clear hfz25_11
    try clear hfz25_12
    try clear hfz25_13
    try clear hfz25_14
    try clear hfz25_15
    try clear hfz25_16
    try clear hfz25_2
    try clear hfz25_3
    try clear hfz25_4
    try clear hfz25_5
    try clear hfz25_6
    try clear hfz25_7
    try clear hfz25_8
    try clear hfz25_9
    try clear hfz27_0
    try clear hfz27_1
    try clear hfz27_10
    try clear hfz27_11
    try clear hfz27_12
    try clear hfz27_13
    try clear hfz27_14
    try clear hfz27_15
    try clear hfz27_16
    try clear hfz27_2
    try clear hfz27_3
    try clear hfz27_4
    try clear hfz27_5
    try clear hfz27_6
    try clear hfz27_7
    try clear hfz27_8
    try clear hfz27_9
    try clear hfz29_0
    try clear hfz29_1
    try clear hfz29_10
    try clear hfz29_11
    try clear hfz29_12
    try clear hfz29_13
    try clear hfz29_14
    try clear hfz29_15
    try clear hfz29_16
    try clear hfz29_2
    try clear hfz29_3
    try clear hfz29_4
    try clear hfz29_5
    try clear hfz29_6
    try clear hfz29_7
    try clear hfz29_8
    try clear hfz29_9
    try clear hfz9_0
    try clear hfz9_1
    try clear hfz9_10
    try clear hfz9_11
    try clear hfz9_12
    try clear hfz9_13
    try clear hfz9_14
    try clear hfz9_15
    try clear hfz9_16
    try clear hfz9_2
    try clear hfz9_3
    try clear hfz9_4
    try clear hfz9_5
    try clear hfz9_6
    try clear hfz9_7
    try clear hfz9_8
    try clear hfz9_9
    obtain ⟨kq, x30_3, rfl, HA, HJ3, HO_141014, HO_141015, HO_141016, BK116, BK140, HB⟩ := hcut
    cases kq with
    | zero => exact absurd HA.out (by simp [ddilaw08_PacketReplies.j0])
    | succ kj3 =>
      have H := HA.out
      clear HA
      simp only [ddilaw08_PacketReplies.j0] at H
      by_cases c30 : x30_3 = true
      · subst c30
        have H1 : (some false) = some r := by rw [if_pos rfl] at H; exact H
        clear H
        have H := H1
        clear H1
        obtain rfl := Option.some.inj H
        go_wp2_with (first | ((with_reducible refine gate_dst (N := 6) rfl ?_); refine Ext.wpList_buildC ?hgd 26 _ ?ho ?hb ?_; (case hgd => rfl); (case ho => rfl); (case hb => ((try go_simp); exact hbl6 _ _ _))) | ((with_reducible refine gate_dst (N := 27) rfl ?_); refine gate_guard (by rfl) ?_; dsimp only; refine Ext.wpList_buildC ?hgd 26 _ ?ho ?hb ?_; (case hgd => rfl); (case ho => rfl); (case hb => ((try go_simp); exact hbl27))) | ((with_reducible refine gate_ (.load 26 (.tmp 2)) rfl ?_); refine wpList_load_row (by rfl) 26 (.tmp 2) (by rfl) _ (by rfl) 26 _ (0, 0) _ (by first | exact BK116.out | exact BK140.out | exact blk_put BK116.out _ _ (by simp only [List.setIfInBounds_toArray, List.set_cons_zero, List.set_cons_succ]) | exact blk_put BK140.out _ _ (by simp only [List.setIfInBounds_toArray, List.set_cons_zero, List.set_cons_succ])) hu26 (by rfl) (by kernel_rfl) ?_) | ((with_reducible refine gate_ (.load 26 (.tmp 2)) rfl ?_); refine gate_guard (by rfl) ?_; dsimp only; refine wpList_load_row (by rfl) 26 (.tmp 2) (by rfl) _ (by rfl) 26 _ (0, 0) _ (by first | exact BK116.out | exact BK140.out | exact blk_put BK116.out _ _ (by simp only [List.setIfInBounds_toArray, List.set_cons_zero, List.set_cons_succ]) | exact blk_put BK140.out _ _ (by simp only [List.setIfInBounds_toArray, List.set_cons_zero, List.set_cons_succ])) hu26 (by rfl) (by kernel_rfl) ?_))
        go_ret
        exact ⟨by first | rfl | (simp [errW_none, errW_some] <;> rfl) | (simp [*, errW_none, errW_some] <;> rfl), by repeat (first | (with_reducible first | exact HB.out | apply below_alloc | apply pw_below_drewN | apply below_drew1 | refine below_set ?_ GE116.out | refine below_set ?_ GE140.out) | exact HB.out)⟩
      · replace c30 := Bool.eq_false_iff.mpr c30
        subst c30
        have H1 : ((packet_Reply.f a0_0 a0_1 a0_2 a0_3 a0_4 a0_5 a0_6 a0_7 a0_8 a0_9 a0_10 a0_11 a0_12 a0_13 l0_14 l0_15 l0_16 a1).bind fun bt142 => ((ddiref08_Reply.f a0_0 a0_1 a0_2 a0_3 a0_4 a0_5 a0_6 a0_7 a0_8 a0_9 a0_10 a0_11 a0_12 a0_13 l0_14 l0_15 l0_16 a1).bind fun bt165 => ((ddilaw08_same.f kj3 bt142.1 bt142.2.1 bt142.2.2.1 bt142.2.2.2.1 bt142.2.2.2.2.1 bt142.2.2.2.2.2.1 bt142.2.2.2.2.2.2.1 bt142.2.2.2.2.2.2.2.1 bt142.2.2.2.2.2.2.2.2.1 bt142.2.2.2.2.2.2.2.2.2.1 bt142.2.2.2.2.2.2.2.2.2.2.1 bt142.2.2.2.2.2.2.2.2.2.2.2.1 bt142.2.2.2.2.2.2.2.2.2.2.2.2.1 bt142.2.2.2.2.2.2.2.2.2.2.2.2.2.1 bt142.2.2.2.2.2.2.2.2.2.2.2.2.2.2.1 bt142.2.2.2.2.2.2.2.2.2.2.2.2.2.2.2.1 bt142.2.2.2.2.2.2.2.2.2.2.2.2.2.2.2.2 bt165.1 bt165.2.1 bt165.2.2.1 bt165.2.2.2.1 bt165.2.2.2.2.1 bt165.2.2.2.2.2.1 bt165.2.2.2.2.2.2.1 bt165.2.2.2.2.2.2.2.1 bt165.2.2.2.2.2.2.2.2.1 bt165.2.2.2.2.2.2.2.2.2.1 bt165.2.2.2.2.2.2.2.2.2.2.1 bt165.2.2.2.2.2.2.2.2.2.2.2.1 bt165.2.2.2.2.2.2.2.2.2.2.2.2.1 bt165.2.2.2.2.2.2.2.2.2.2.2.2.2.1 bt165.2.2.2.2.2.2.2.2.2.2.2.2.2.2.1 bt165.2.2.2.2.2.2.2.2.2.2.2.2.2.2.2.1 bt165.2.2.2.2.2.2.2.2.2.2.2.2.2.2.2.2).bind fun t188 => (if t188 = true then ((packet_Space.f a0_0 a0_1 a0_2 a0_3 a0_4 a0_5 a0_6 a0_7 a0_8 a0_9 a0_10 a0_11 a0_12 a0_13 l0_14 l0_15 l0_16).bind fun t189 => ((ddiref08_Space.f a0_0 a0_1 a0_2 a0_3 a0_4 a0_5 a0_6 a0_7 a0_8 a0_9 a0_10 a0_11 a0_12 a0_13 l0_14 l0_15 l0_16).bind fun t190 => (some (t189 == t190)))) else (some false))))) = some r := by rw [if_neg (show ¬ (false = true) by decide)] at H; exact H
        clear H
        have H := H1
        clear H1
        replace H := Option.bind_eq_some_iff.mp H
        obtain ⟨⟨t142, t143, t144, t145, t146, t147, t148, t149, t150, t151, t152, t153, t154, t155, t156, t159, t162⟩, A310, H⟩ := H
        replace H : ((ddiref08_Reply.f a0_0 a0_1 a0_2 a0_3 a0_4 a0_5 a0_6 a0_7 a0_8 a0_9 a0_10 a0_11 a0_12 a0_13 l0_14 l0_15 l0_16 a1).bind fun bt165 => ((ddilaw08_same.f kj3 t142 t143 t144 t145 t146 t147 t148 t149 t150 t151 t152 t153 t154 t155 t156 t159 t162 bt165.1 bt165.2.1 bt165.2.2.1 bt165.2.2.2.1 bt165.2.2.2.2.1 bt165.2.2.2.2.2.1 bt165.2.2.2.2.2.2.1 bt165.2.2.2.2.2.2.2.1 bt165.2.2.2.2.2.2.2.2.1 bt165.2.2.2.2.2.2.2.2.2.1 bt165.2.2.2.2.2.2.2.2.2.2.1 bt165.2.2.2.2.2.2.2.2.2.2.2.1 bt165.2.2.2.2.2.2.2.2.2.2.2.2.1 bt165.2.2.2.2.2.2.2.2.2.2.2.2.2.1 bt165.2.2.2.2.2.2.2.2.2.2.2.2.2.2.1 bt165.2.2.2.2.2.2.2.2.2.2.2.2.2.2.2.1 bt165.2.2.2.2.2.2.2.2.2.2.2.2.2.2.2.2).bind fun t188 => (if t188 = true then ((packet_Space.f a0_0 a0_1 a0_2 a0_3 a0_4 a0_5 a0_6 a0_7 a0_8 a0_9 a0_10 a0_11 a0_12 a0_13 l0_14 l0_15 l0_16).bind fun t189 => ((ddiref08_Space.f a0_0 a0_1 a0_2 a0_3 a0_4 a0_5 a0_6 a0_7 a0_8 a0_9 a0_10 a0_11 a0_12 a0_13 l0_14 l0_15 l0_16).bind fun t190 => (some (t189 == t190)))) else (some false)))) = some r := H
        have A31 := Aside0.mk A310
        clear A310
        replace H := Option.bind_eq_some_iff.mp H
        obtain ⟨⟨t165, t166, t167, t168, t169, t170, t171, t172, t173, t174, t175, t176, t177, t178, t179, t182, t185⟩, A320, H⟩ := H
        replace H : ((ddilaw08_same.f kj3 t142 t143 t144 t145 t146 t147 t148 t149 t150 t151 t152 t153 t154 t155 t156 t159 t162 t165 t166 t167 t168 t169 t170 t171 t172 t173 t174 t175 t176 t177 t178 t179 t182 t185).bind fun t188 => (if t188 = true then ((packet_Space.f a0_0 a0_1 a0_2 a0_3 a0_4 a0_5 a0_6 a0_7 a0_8 a0_9 a0_10 a0_11 a0_12 a0_13 l0_14 l0_15 l0_16).bind fun t189 => ((ddiref08_Space.f a0_0 a0_1 a0_2 a0_3 a0_4 a0_5 a0_6 a0_7 a0_8 a0_9 a0_10 a0_11 a0_12 a0_13 l0_14 l0_15 l0_16).bind fun t190 => (some (t189 == t190)))) else (some false))) = some r := H
        have A32 := Aside0.mk A320
        clear A320
        replace H := Option.bind_eq_some_iff.mp H
        obtain ⟨t188, A330, H⟩ := H
        replace H : (if t188 = true then ((packet_Space.f a0_0 a0_1 a0_2 a0_3 a0_4 a0_5 a0_6 a0_7 a0_8 a0_9 a0_10 a0_11 a0_12 a0_13 l0_14 l0_15 l0_16).bind fun t189 => ((ddiref08_Space.f a0_0 a0_1 a0_2 a0_3 a0_4 a0_5 a0_6 a0_7 a0_8 a0_9 a0_10 a0_11 a0_12 a0_13 l0_14 l0_15 l0_16).bind fun t190 => (some (t189 == t190)))) else (some false)) = some r := H
        have A33 := Aside0.mk A330
        clear A330
        by_cases c34 : t188 = true
        · subst c34
          have H1 : ((packet_Space.f a0_0 a0_1 a0_2 a0_3 a0_4 a0_5 a0_6 a0_7 a0_8 a0_9 a0_10 a0_11 a0_12 a0_13 l0_14 l0_15 l0_16).bind fun t189 => ((ddiref08_Space.f a0_0 a0_1 a0_2 a0_3 a0_4 a0_5 a0_6 a0_7 a0_8 a0_9 a0_10 a0_11 a0_12 a0_13 l0_14 l0_15 l0_16).bind fun t190 => (some (t189 == t190)))) = some r := by rw [if_pos rfl] at H; exact H
          clear H
          have H := H1
          clear H1
          replace H := Option.bind_eq_some_iff.mp H
          obtain ⟨t189, A350, H⟩ := H
          replace H : ((ddiref08_Space.f a0_0 a0_1 a0_2 a0_3 a0_4 a0_5 a0_6 a0_7 a0_8 a0_9 a0_10 a0_11 a0_12 a0_13 l0_14 l0_15 l0_16).bind fun t190 => (some (t189 == t190))) = some r := H
          have A35 := Aside0.mk A350
          clear A350
          replace H := Option.bind_eq_some_iff.mp H
          obtain ⟨t190, A360, H⟩ := H
          replace H : (some (t189 == t190)) = some r := H
          have A36 := Aside0.mk A360
          clear A360
          obtain rfl := Option.some.inj H
          try go_wp2_with (first | ((with_reducible refine gate_dst (N := 6) rfl ?_); refine Ext.wpList_buildC ?hgd 26 _ ?ho ?hb ?_; (case hgd => rfl); (case ho => rfl); (case hb => ((try go_simp); exact hbl6 _ _ _))) | ((with_reducible refine gate_dst (N := 27) rfl ?_); refine gate_guard (by rfl) ?_; dsimp only; refine Ext.wpList_buildC ?hgd 26 _ ?ho ?hb ?_; (case hgd => rfl); (case ho => rfl); (case hb => ((try go_simp); exact hbl27))) | ((with_reducible refine gate_ (.load 26 (.tmp 2)) rfl ?_); refine wpList_load_row (by rfl) 26 (.tmp 2) (by rfl) _ (by rfl) 26 _ (0, 0) _ (by first | exact BK116.out | exact BK140.out | exact blk_put BK116.out _ _ (by simp only [List.setIfInBounds_toArray, List.set_cons_zero, List.set_cons_succ]) | exact blk_put BK140.out _ _ (by simp only [List.setIfInBounds_toArray, List.set_cons_zero, List.set_cons_succ])) hu26 (by rfl) (by kernel_rfl) ?_) | ((with_reducible refine gate_ (.load 26 (.tmp 2)) rfl ?_); refine gate_guard (by rfl) ?_; dsimp only; refine wpList_load_row (by rfl) 26 (.tmp 2) (by rfl) _ (by rfl) 26 _ (0, 0) _ (by first | exact BK116.out | exact BK140.out | exact blk_put BK116.out _ _ (by simp only [List.setIfInBounds_toArray, List.set_cons_zero, List.set_cons_succ]) | exact blk_put BK140.out _ _ (by simp only [List.setIfInBounds_toArray, List.set_cons_zero, List.set_cons_succ])) hu26 (by rfl) (by kernel_rfl) ?_))
          have n0_ := Aside0.mk (Kd.R_drew HO_141014.out)
          have n1_ := Aside0.mk (Kd.R_drew HO_141015.out)
          have n2_ := Aside0.mk (Kd.R_drew HO_141016.out)
          have n3_ := Aside0.mk (blk_drew BK116.out)
          have n4_ := Aside0.mk (blk_drew BK140.out)
          have n5_ := Aside0.mk (below_drew1 HB.out)
          clear HO_141014
          clear HO_141015
          clear HO_141016
          clear BK116
          clear BK140
          clear HB
          have HO_141014 := n0_
          have HO_141015 := n1_
          have HO_141016 := n2_
          have BK116 := n3_
          have BK140 := n4_
          have HB := n5_
          clear n0_ n1_ n2_ n3_ n4_ n5_
          refine start_ (n := 15) (S := fun w' => w'.cell? ⟨gb116, 0, none⟩ = some (.int .i64 a0_0) ∧ w'.cell? ⟨gb116, 1, none⟩ = some (.int .i64 a0_1) ∧ w'.cell? ⟨gb116, 2, none⟩ = some (.int .i64 a0_2) ∧ w'.cell? ⟨gb116, 3, none⟩ = some (.bool a0_3) ∧ w'.cell? ⟨gb116, 4, none⟩ = some (.bool a0_4) ∧ w'.cell? ⟨gb116, 5, none⟩ = some (.bool a0_5) ∧ w'.cell? ⟨gb116, 6, none⟩ = some (.bool a0_6) ∧ w'.cell? ⟨gb116, 7, none⟩ = some (.bool a0_7) ∧ w'.cell? ⟨gb116, 8, none⟩ = some (.bool a0_8) ∧ w'.cell? ⟨gb116, 9, none⟩ = some (.bool a0_9) ∧ w'.cell? ⟨gb116, 10, none⟩ = some (.bool a0_10) ∧ w'.cell? ⟨gb116, 11, none⟩ = some (.int .i64 a0_11) ∧ w'.cell? ⟨gb116, 12, none⟩ = some (.string a0_12) ∧ w'.cell? ⟨gb116, 13, none⟩ = some (.int .i64 a0_13) ∧ w'.cell? ⟨gb116, 14, none⟩ = some (.slice A0_14 l0_14.length c0_14) ∧ w'.cell? ⟨gb116, 15, none⟩ = some (.slice A0_15 l0_15.length c0_15) ∧ w'.cell? ⟨gb116, 16, none⟩ = some (.slice A0_16 l0_16.length c0_16)) (ds := []) #[false, false, false, false, false, false, false, false, false, false, false, false, false, false, false] (by kernel_rfl) rfl rfl ⟨(blk_cell BK116.out 0).trans rfl, (blk_cell BK116.out 1).trans rfl, (blk_cell BK116.out 2).trans rfl, (blk_cell BK116.out 3).trans rfl, (blk_cell BK116.out 4).trans rfl, (blk_cell BK116.out 5).trans rfl, (blk_cell BK116.out 6).trans rfl, (blk_cell BK116.out 7).trans rfl, (blk_cell BK116.out 8).trans rfl, (blk_cell BK116.out 9).trans rfl, (blk_cell BK116.out 10).trans rfl, (blk_cell BK116.out 11).trans rfl, (blk_cell BK116.out 12).trans rfl, (blk_cell BK116.out 13).trans rfl, (blk_cell BK116.out 14).trans rfl, (blk_cell BK116.out 15).trans rfl, (blk_cell BK116.out 16).trans rfl⟩ (fun hHeld => ?_); refine with_tabW ddilaw08_PacketReplies.tab4 ddilaw08_PacketReplies.bits4 (fun HT_ HW_ => ?_)
          generalize wc.drew = w37 at HO_141014 HO_141015 HO_141016 BK116 BK140 HB hHeld ⊢
          refine pure_ (i := 1) (N := some 32) (v := ?_) (a' := ?_) #[false, true, false, false, false, false, false, false, false, false, false, false, false, false, false] rfl rfl (any_of HT_.out (by kernel_rfl)) (fun _ _ _ h => h) (Or.inl ⟨by rfl, ?_⟩) ?_ ?_
          rotate_left
          · intro w'
            go_simp
            with_reducible rfl
          rotate_left
          · simp only [Act.put, List.setIfInBounds_toArray, List.set_cons_zero, List.set_cons_succ, i64_w, i32_w]
            rfl
          refine pure_ (i := 4) (N := some 35) (v := ?_) (a' := ?_) #[false, true, false, false, true, false, false, false, false, false, false, false, false, false, false] rfl rfl (any_of HT_.out (by kernel_rfl)) (fun _ _ _ h => h) (Or.inl ⟨by rfl, ?_⟩) ?_ ?_
          rotate_left
          · intro w'
            go_simp
            with_reducible rfl
          rotate_left
          · simp only [Act.put, List.setIfInBounds_toArray, List.set_cons_zero, List.set_cons_succ, i64_w, i32_w]
            rfl
          refine take_ (i := 0) (N := some 31) (v := ?_) (a' := ?_) #[true, true, false, false, true, false, false, false, false, false, false, false, false, false, false] rfl rfl (take_ofW HT_.out HW_.out (by kernel_rfl)) (fun _ _ _ h => h) (Or.inl ⟨by rfl, ?_⟩) hHeld ?_ ?_
          rotate_left
          · rintro w' ⟨s0, s1, s2, s3, s4, s5, s6, s7, s8, s9, s10, s11, s12, s13, s14, s15, s16⟩
            first
            | (refine Eq.trans (Ext.run_load_wide 26 _ (by rfl) gb116 #[.int .i64 a0_0, .int .i64 a0_1, .int .i64 a0_2, .bool a0_3, .bool a0_4, .bool a0_5, .bool a0_6, .bool a0_7, .bool a0_8, .bool a0_9, .bool a0_10, .int .i64 a0_11, .string a0_12, .int .i64 a0_13, .slice A0_14 l0_14.length c0_14, .slice A0_15 l0_15.length c0_15, .slice A0_16 l0_16.length c0_16] _ (by rfl) hu26 (by rfl) (by kernel_rfl) ⟨s0, s1, s2, s3, s4, s5, s6, s7, s8, s9, s10, s11, s12, s13, s14, s15, s16, trivial⟩) ?_; with_reducible rfl)
            | (go_simp; with_reducible rfl)
          rotate_left
          · simp only [Act.put, List.setIfInBounds_toArray, List.set_cons_zero, List.set_cons_succ, i64_w, i32_w]
            rfl
          refine take_ (i := 3) (N := some 34) (v := ?_) (a' := ?_) #[true, true, false, true, true, false, false, false, false, false, false, false, false, false, false] rfl rfl (take_ofW HT_.out HW_.out (by kernel_rfl)) (fun _ _ _ h => h) (Or.inl ⟨by rfl, ?_⟩) hHeld ?_ ?_
          rotate_left
          · rintro w' ⟨s0, s1, s2, s3, s4, s5, s6, s7, s8, s9, s10, s11, s12, s13, s14, s15, s16⟩
            first
            | (refine Eq.trans (Ext.run_load_wide 26 _ (by rfl) gb116 #[.int .i64 a0_0, .int .i64 a0_1, .int .i64 a0_2, .bool a0_3, .bool a0_4, .bool a0_5, .bool a0_6, .bool a0_7, .bool a0_8, .bool a0_9, .bool a0_10, .int .i64 a0_11, .string a0_12, .int .i64 a0_13, .slice A0_14 l0_14.length c0_14, .slice A0_15 l0_15.length c0_15, .slice A0_16 l0_16.length c0_16] _ (by rfl) hu26 (by rfl) (by kernel_rfl) ⟨s0, s1, s2, s3, s4, s5, s6, s7, s8, s9, s10, s11, s12, s13, s14, s15, s16, trivial⟩) ?_; with_reducible rfl)
            | (go_simp; with_reducible rfl)
          rotate_left
          · simp only [Act.put, List.setIfInBounds_toArray, List.set_cons_zero, List.set_cons_succ, i64_w, i32_w]
            rfl
          refine one_ (i := 2) (N := some 33) #[true, true, true, true, true, false, false, false, false, false, false, false, false, false, false] rfl rfl (one_of HT_.out (by kernel_rfl)) (by decide) (fun K hK => ?_)
          refine goes_ Try.func4 (by kernel_rfl) rfl #[.agg #[.int .i64 a0_0, .int .i64 a0_1, .int .i64 a0_2, .bool a0_3, .bool a0_4, .bool a0_5, .bool a0_6, .bool a0_7, .bool a0_8, .bool a0_9, .bool a0_10, .int .i64 a0_11, .string a0_12, .int .i64 a0_13, .slice A0_14 l0_14.length c0_14, .slice A0_15 l0_15.length c0_15, .slice A0_16 l0_16.length c0_16], .int .i64 a1] (by rfl) rfl rfl (by (try simp only [List.map_toArray, List.map_cons, List.map_nil]); first | done | rfl | (simp only [List.length_drop, List.length_take]; rfl)) ?_
          with_reducible refine (packet_Reply.calls a0_0 a0_1 a0_2 a0_3 a0_4 a0_5 a0_6 a0_7 a0_8 a0_9 a0_10 a0_11 a0_12 a0_13 _ _ l0_14 _ _ l0_15 _ _ l0_16 a1 t142 t143 t144 t145 t146 t147 t148 t149 t150 t151 t152 t153 t154 t155 t156 t159 t162 _ ?side1 ?side2 ?side3 ?side4 ?side5 ?side6 A31.out).mono ?_
          (case side1 => repeat (first | exact (Kd.C_below HR0_14.out HB.out) | (with_reducible refine Kd.C_alloc ?_ _) | (with_reducible refine Kd.C_drewN ?_ _) | (with_reducible refine Kd.C_drew ?_)))
          (case side2 => exact HC0_14.out)
          (case side3 => repeat (first | exact (Kd.C_below HR0_15.out HB.out) | (with_reducible refine Kd.C_alloc ?_ _) | (with_reducible refine Kd.C_drewN ?_ _) | (with_reducible refine Kd.C_drew ?_)))
          (case side4 => exact HC0_15.out)
          (case side5 => repeat (first | exact (Kd.C_below HR0_16.out HB.out) | (with_reducible refine Kd.C_alloc ?_ _) | (with_reducible refine Kd.C_drewN ?_ _) | (with_reducible refine Kd.C_drew ?_)))
          (case side6 => exact HC0_16.out)
          rintro e w38 ⟨v157, v160, v163, rfl, ho0, ho1, ho2, hb⟩
          refine ⟨_, rfl, ?_⟩
          have n0_ := Aside0.mk (Kd.R_mono (Kd.R_told (Kd.R_told (Kd.R_told (Kd.R_old (by (with_reducible repeat (first | apply Kd.R_alloc | apply Kd.R_drewN | apply Kd.R_drew)); exact HO_141014.out) hb) (Kd.R_base ho0)) (Kd.R_base ho1)) (Kd.R_base ho2)) (fun _ h_ => h_.1))
          have n1_ := Aside0.mk (Kd.R_mono (Kd.R_told (Kd.R_told (Kd.R_told (Kd.R_old (by (with_reducible repeat (first | apply Kd.R_alloc | apply Kd.R_drewN | apply Kd.R_drew)); exact HO_141015.out) hb) (Kd.R_base ho0)) (Kd.R_base ho1)) (Kd.R_base ho2)) (fun _ h_ => h_.1))
          have n2_ := Aside0.mk (Kd.R_mono (Kd.R_told (Kd.R_told (Kd.R_told (Kd.R_old (by (with_reducible repeat (first | apply Kd.R_alloc | apply Kd.R_drewN | apply Kd.R_drew)); exact HO_141016.out) hb) (Kd.R_base ho0)) (Kd.R_base ho1)) (Kd.R_base ho2)) (fun _ h_ => h_.1))
          have n3_ := Aside0.mk (Kd.R_lower (Kd.R_new' (Kd.R_new' (Kd.R_new' ho0 (Kd.R_lt (by (with_reducible repeat (first | apply Kd.R_alloc | apply Kd.R_drewN | apply Kd.R_drew)); exact HO_141014.out))) (Kd.R_lt (by (with_reducible repeat (first | apply Kd.R_alloc | apply Kd.R_drewN | apply Kd.R_drew)); exact HO_141015.out))) (Kd.R_lt (by (with_reducible repeat (first | apply Kd.R_alloc | apply Kd.R_drewN | apply Kd.R_drew)); exact HO_141016.out))) (below_size (by repeat (first | (with_reducible first | exact HB.out | apply below_alloc | apply pw_below_drewN | apply below_drew1 | refine below_set ?_ GE116.out | refine below_set ?_ GE140.out) | exact HB.out))))
          have n4_ := Aside0.mk (Kd.R_lower (Kd.R_new' (Kd.R_new' (Kd.R_new' ho1 (Kd.R_lt (by (with_reducible repeat (first | apply Kd.R_alloc | apply Kd.R_drewN | apply Kd.R_drew)); exact HO_141014.out))) (Kd.R_lt (by (with_reducible repeat (first | apply Kd.R_alloc | apply Kd.R_drewN | apply Kd.R_drew)); exact HO_141015.out))) (Kd.R_lt (by (with_reducible repeat (first | apply Kd.R_alloc | apply Kd.R_drewN | apply Kd.R_drew)); exact HO_141016.out))) (below_size (by repeat (first | (with_reducible first | exact HB.out | apply below_alloc | apply pw_below_drewN | apply below_drew1 | refine below_set ?_ GE116.out | refine below_set ?_ GE140.out) | exact HB.out))))
          have n5_ := Aside0.mk (Kd.R_lower (Kd.R_new' (Kd.R_new' (Kd.R_new' ho2 (Kd.R_lt (by (with_reducible repeat (first | apply Kd.R_alloc | apply Kd.R_drewN | apply Kd.R_drew)); exact HO_141014.out))) (Kd.R_lt (by (with_reducible repeat (first | apply Kd.R_alloc | apply Kd.R_drewN | apply Kd.R_drew)); exact HO_141015.out))) (Kd.R_lt (by (with_reducible repeat (first | apply Kd.R_alloc | apply Kd.R_drewN | apply Kd.R_drew)); exact HO_141016.out))) (below_size (by repeat (first | (with_reducible first | exact HB.out | apply below_alloc | apply pw_below_drewN | apply below_drew1 | refine below_set ?_ GE116.out | refine below_set ?_ GE140.out) | exact HB.out))))
          have n6_ := Aside0.mk (blk_below (g := gb116) (o := .cells #[.int .i64 a0_0, .int .i64 a0_1, .int .i64 a0_2, .bool a0_3, .bool a0_4, .bool a0_5, .bool a0_6, .bool a0_7, .bool a0_8, .bool a0_9, .bool a0_10, .int .i64 a0_11, .string a0_12, .int .i64 a0_13, .slice A0_14 l0_14.length c0_14, .slice A0_15 l0_15.length c0_15, .slice A0_16 l0_16.length c0_16] 26 (0, 0)) (by (with_reducible repeat (first | refine blk_drewN ?_ _ | refine blk_drew ?_ | refine blk_alloc ?_ _)); exact BK116.out) hb)
          have n7_ := Aside0.mk (blk_below (g := gb140) (o := .cells #[.int .i64 t117, .int .i64 t118, .int .i64 t119, .bool t120, .bool t121, .bool t122, .bool t123, .bool t124, .bool t125, .bool t126, .bool t127, .int .i64 t128, .string t129, .int .i64 t130, .slice Ao10 t131.length co10, .slice Ao11 t134.length co11, .slice Ao12 t137.length co12] 26 (0, 0)) (by (with_reducible repeat (first | refine blk_drewN ?_ _ | refine blk_drew ?_ | refine blk_alloc ?_ _)); exact BK140.out) hb)
          have n8_ := Aside0.mk (below_step (by repeat (first | (with_reducible first | exact HB.out | apply below_alloc | apply pw_below_drewN | apply below_drew1 | refine below_set ?_ GE116.out | refine below_set ?_ GE140.out) | exact HB.out)) hb)
          clear HO_141014
          clear HO_141015
          clear HO_141016
          clear BK116
          clear BK140
          clear HB
          have HO_141014 := n0_
          have HO_141015 := n1_
          have HO_141016 := n2_
          have HO158 := n3_
          have HO161 := n4_
          have HO164 := n5_
          have BK116 := n6_
          have BK140 := n7_
          have HB := n8_
          clear n0_ n1_ n2_ n3_ n4_ n5_ n6_ n7_ n8_
          (try clear hb)
          (try clear hb2)
          (try clear hk)
          (try clear hi)
          (try clear ho0)
          (try clear ho1)
          (try clear ho2)
          refine hK.out _ _ ⟨(blk_cell BK116.out 0).trans rfl, (blk_cell BK116.out 1).trans rfl, (blk_cell BK116.out 2).trans rfl, (blk_cell BK116.out 3).trans rfl, (blk_cell BK116.out 4).trans rfl, (blk_cell BK116.out 5).trans rfl, (blk_cell BK116.out 6).trans rfl, (blk_cell BK116.out 7).trans rfl, (blk_cell BK116.out 8).trans rfl, (blk_cell BK116.out 9).trans rfl, (blk_cell BK116.out 10).trans rfl, (blk_cell BK116.out 11).trans rfl, (blk_cell BK116.out 12).trans rfl, (blk_cell BK116.out 13).trans rfl, (blk_cell BK116.out 14).trans rfl, (blk_cell BK116.out 15).trans rfl, (blk_cell BK116.out 16).trans rfl⟩ (fun hHeld => ?_)
          clear hK K
          refine norm_ (a' := ?_) ?_ ?_
          rotate_left
          · show Act.put _ (some 33) _ = _
            simp only [Act.put, List.setIfInBounds_toArray, List.set_cons_zero, List.set_cons_succ, i64_w, i32_w]
            rfl
          refine one_ (i := 5) (N := some 36) #[true, true, true, true, true, true, false, false, false, false, false, false, false, false, false] rfl rfl (one_of HT_.out (by kernel_rfl)) (by decide) (fun K hK => ?_)
          refine goes_ Try.func7 (by kernel_rfl) rfl #[.agg #[.int .i64 a0_0, .int .i64 a0_1, .int .i64 a0_2, .bool a0_3, .bool a0_4, .bool a0_5, .bool a0_6, .bool a0_7, .bool a0_8, .bool a0_9, .bool a0_10, .int .i64 a0_11, .string a0_12, .int .i64 a0_13, .slice A0_14 l0_14.length c0_14, .slice A0_15 l0_15.length c0_15, .slice A0_16 l0_16.length c0_16], .int .i64 a1] (by rfl) rfl rfl (by (try simp only [List.map_toArray, List.map_cons, List.map_nil]); first | done | rfl | (simp only [List.length_drop, List.length_take]; rfl)) ?_
          with_reducible refine (ddiref08_Reply.calls a0_0 a0_1 a0_2 a0_3 a0_4 a0_5 a0_6 a0_7 a0_8 a0_9 a0_10 a0_11 a0_12 a0_13 _ _ l0_14 _ _ l0_15 _ _ l0_16 a1 t165 t166 t167 t168 t169 t170 t171 t172 t173 t174 t175 t176 t177 t178 t179 t182 t185 _ ?side1 ?side2 ?side3 ?side4 ?side5 ?side6 A32.out).mono ?_
          (case side1 => repeat (first | exact (Kd.C_below HR0_14.out HB.out) | (with_reducible refine Kd.C_alloc ?_ _) | (with_reducible refine Kd.C_drewN ?_ _) | (with_reducible refine Kd.C_drew ?_)))
          (case side2 => exact HC0_14.out)
          (case side3 => repeat (first | exact (Kd.C_below HR0_15.out HB.out) | (with_reducible refine Kd.C_alloc ?_ _) | (with_reducible refine Kd.C_drewN ?_ _) | (with_reducible refine Kd.C_drew ?_)))
          (case side4 => exact HC0_15.out)
          (case side5 => repeat (first | exact (Kd.C_below HR0_16.out HB.out) | (with_reducible refine Kd.C_alloc ?_ _) | (with_reducible refine Kd.C_drewN ?_ _) | (with_reducible refine Kd.C_drew ?_)))
          (case side6 => exact HC0_16.out)
          rintro e w39 ⟨v180, v183, v186, rfl, ho0, ho1, ho2, hb⟩
          refine ⟨_, rfl, ?_⟩
          have n0_ := Aside0.mk (Kd.R_mono (Kd.R_told (Kd.R_told (Kd.R_told (Kd.R_old (by (with_reducible repeat (first | apply Kd.R_alloc | apply Kd.R_drewN | apply Kd.R_drew)); exact HO_141014.out) hb) (Kd.R_base ho0)) (Kd.R_base ho1)) (Kd.R_base ho2)) (fun _ h_ => h_.1))
          have n1_ := Aside0.mk (Kd.R_mono (Kd.R_told (Kd.R_told (Kd.R_told (Kd.R_old (by (with_reducible repeat (first | apply Kd.R_alloc | apply Kd.R_drewN | apply Kd.R_drew)); exact HO_141015.out) hb) (Kd.R_base ho0)) (Kd.R_base ho1)) (Kd.R_base ho2)) (fun _ h_ => h_.1))
          have n2_ := Aside0.mk (Kd.R_mono (Kd.R_told (Kd.R_told (Kd.R_told (Kd.R_old (by (with_reducible repeat (first | apply Kd.R_alloc | apply Kd.R_drewN | apply Kd.R_drew)); exact HO_141016.out) hb) (Kd.R_base ho0)) (Kd.R_base ho1)) (Kd.R_base ho2)) (fun _ h_ => h_.1))
          have n3_ := Aside0.mk (Kd.R_mono (Kd.R_told (Kd.R_told (Kd.R_told (Kd.R_old (by (with_reducible repeat (first | apply Kd.R_alloc | apply Kd.R_drewN | apply Kd.R_drew)); exact HO158.out) hb) (Kd.R_base ho0)) (Kd.R_base ho1)) (Kd.R_base ho2)) (fun _ h_ => h_.1))
          have n4_ := Aside0.mk (Kd.R_mono (Kd.R_told (Kd.R_told (Kd.R_told (Kd.R_old (by (with_reducible repeat (first | apply Kd.R_alloc | apply Kd.R_drewN | apply Kd.R_drew)); exact HO161.out) hb) (Kd.R_base ho0)) (Kd.R_base ho1)) (Kd.R_base ho2)) (fun _ h_ => h_.1))
          have n5_ := Aside0.mk (Kd.R_mono (Kd.R_told (Kd.R_told (Kd.R_told (Kd.R_old (by (with_reducible repeat (first | apply Kd.R_alloc | apply Kd.R_drewN | apply Kd.R_drew)); exact HO164.out) hb) (Kd.R_base ho0)) (Kd.R_base ho1)) (Kd.R_base ho2)) (fun _ h_ => h_.1))
          have n6_ := Aside0.mk (Kd.R_lower (Kd.R_new' (Kd.R_new' (Kd.R_new' (Kd.R_new' (Kd.R_new' (Kd.R_new' ho0 (Kd.R_lt (by (with_reducible repeat (first | apply Kd.R_alloc | apply Kd.R_drewN | apply Kd.R_drew)); exact HO_141014.out))) (Kd.R_lt (by (with_reducible repeat (first | apply Kd.R_alloc | apply Kd.R_drewN | apply Kd.R_drew)); exact HO_141015.out))) (Kd.R_lt (by (with_reducible repeat (first | apply Kd.R_alloc | apply Kd.R_drewN | apply Kd.R_drew)); exact HO_141016.out))) (Kd.R_lt (by (with_reducible repeat (first | apply Kd.R_alloc | apply Kd.R_drewN | apply Kd.R_drew)); exact HO158.out))) (Kd.R_lt (by (with_reducible repeat (first | apply Kd.R_alloc | apply Kd.R_drewN | apply Kd.R_drew)); exact HO161.out))) (Kd.R_lt (by (with_reducible repeat (first | apply Kd.R_alloc | apply Kd.R_drewN | apply Kd.R_drew)); exact HO164.out))) (below_size (by repeat (first | (with_reducible first | exact HB.out | apply below_alloc | apply pw_below_drewN | apply below_drew1 | refine below_set ?_ GE116.out | refine below_set ?_ GE140.out) | exact HB.out))))
          have n7_ := Aside0.mk (Kd.R_lower (Kd.R_new' (Kd.R_new' (Kd.R_new' (Kd.R_new' (Kd.R_new' (Kd.R_new' ho1 (Kd.R_lt (by (with_reducible repeat (first | apply Kd.R_alloc | apply Kd.R_drewN | apply Kd.R_drew)); exact HO_141014.out))) (Kd.R_lt (by (with_reducible repeat (first | apply Kd.R_alloc | apply Kd.R_drewN | apply Kd.R_drew)); exact HO_141015.out))) (Kd.R_lt (by (with_reducible repeat (first | apply Kd.R_alloc | apply Kd.R_drewN | apply Kd.R_drew)); exact HO_141016.out))) (Kd.R_lt (by (with_reducible repeat (first | apply Kd.R_alloc | apply Kd.R_drewN | apply Kd.R_drew)); exact HO158.out))) (Kd.R_lt (by (with_reducible repeat (first | apply Kd.R_alloc | apply Kd.R_drewN | apply Kd.R_drew)); exact HO161.out))) (Kd.R_lt (by (with_reducible repeat (first | apply Kd.R_alloc | apply Kd.R_drewN | apply Kd.R_drew)); exact HO164.out))) (below_size (by repeat (first | (with_reducible first | exact HB.out | apply below_alloc | apply pw_below_drewN | apply below_drew1 | refine below_set ?_ GE116.out | refine below_set ?_ GE140.out) | exact HB.out))))
          have n8_ := Aside0.mk (Kd.R_lower (Kd.R_new' (Kd.R_new' (Kd.R_new' (Kd.R_new' (Kd.R_new' (Kd.R_new' ho2 (Kd.R_lt (by (with_reducible repeat (first | apply Kd.R_alloc | apply Kd.R_drewN | apply Kd.R_drew)); exact HO_141014.out))) (Kd.R_lt (by (with_reducible repeat (first | apply Kd.R_alloc | apply Kd.R_drewN | apply Kd.R_drew)); exact HO_141015.out))) (Kd.R_lt (by (with_reducible repeat (first | apply Kd.R_alloc | apply Kd.R_drewN | apply Kd.R_drew)); exact HO_141016.out))) (Kd.R_lt (by (with_reducible repeat (first | apply Kd.R_alloc | apply Kd.R_drewN | apply Kd.R_drew)); exact HO158.out))) (Kd.R_lt (by (with_reducible repeat (first | apply Kd.R_alloc | apply Kd.R_drewN | apply Kd.R_drew)); exact HO161.out))) (Kd.R_lt (by (with_reducible repeat (first | apply Kd.R_alloc | apply Kd.R_drewN | apply Kd.R_drew)); exact HO164.out))) (below_size (by repeat (first | (with_reducible first | exact HB.out | apply below_alloc | apply pw_below_drewN | apply below_drew1 | refine below_set ?_ GE116.out | refine below_set ?_ GE140.out) | exact HB.out))))
          have n9_ := Aside0.mk (blk_below (g := gb116) (o := .cells #[.int .i64 a0_0, .int .i64 a0_1, .int .i64 a0_2, .bool a0_3, .bool a0_4, .bool a0_5, .bool a0_6, .bool a0_7, .bool a0_8, .bool a0_9, .bool a0_10, .int .i64 a0_11, .string a0_12, .int .i64 a0_13, .slice A0_14 l0_14.length c0_14, .slice A0_15 l0_15.length c0_15, .slice A0_16 l0_16.length c0_16] 26 (0, 0)) (by (with_reducible repeat (first | refine blk_drewN ?_ _ | refine blk_drew ?_ | refine blk_alloc ?_ _)); exact BK116.out) hb)
          have n10_ := Aside0.mk (blk_below (g := gb140) (o := .cells #[.int .i64 t117, .int .i64 t118, .int .i64 t119, .bool t120, .bool t121, .bool t122, .bool t123, .bool t124, .bool t125, .bool t126, .bool t127, .int .i64 t128, .string t129, .int .i64 t130, .slice Ao10 t131.length co10, .slice Ao11 t134.length co11, .slice Ao12 t137.length co12] 26 (0, 0)) (by (with_reducible repeat (first | refine blk_drewN ?_ _ | refine blk_drew ?_ | refine blk_alloc ?_ _)); exact BK140.out) hb)
          have n11_ := Aside0.mk (below_step (by repeat (first | (with_reducible first | exact HB.out | apply below_alloc | apply pw_below_drewN | apply below_drew1 | refine below_set ?_ GE116.out | refine below_set ?_ GE140.out) | exact HB.out)) hb)
          clear HO_141014
          clear HO_141015
          clear HO_141016
          clear HO158
          clear HO161
          clear HO164
          clear BK116
          clear BK140
          clear HB
          have HO_141014 := n0_
          have HO_141015 := n1_
          have HO_141016 := n2_
          have HO158 := n3_
          have HO161 := n4_
          have HO164 := n5_
          have HO181 := n6_
          have HO184 := n7_
          have HO187 := n8_
          have BK116 := n9_
          have BK140 := n10_
          have HB := n11_
          clear n0_ n1_ n2_ n3_ n4_ n5_ n6_ n7_ n8_ n9_ n10_ n11_
          (try clear hb)
          (try clear hb2)
          (try clear hk)
          (try clear hi)
          (try clear ho0)
          (try clear ho1)
          (try clear ho2)
          obtain ⟨Ao40, co40, eo40⟩ := Kd.R_slice HO158.out
          (first | subst eo40 | (injection eo40 with f1_ f2_ f3_; have f4_ := f1_.symm; have f5_ := f3_.symm; clear f1_ f2_ f3_; subst f4_; subst f5_))
          obtain ⟨Ao41, co41, eo41⟩ := Kd.R_slice HO161.out
          (first | subst eo41 | (injection eo41 with f1_ f2_ f3_; have f4_ := f1_.symm; have f5_ := f3_.symm; clear f1_ f2_ f3_; subst f4_; subst f5_))
          obtain ⟨Ao42, co42, eo42⟩ := Kd.R_slice HO164.out
          (first | subst eo42 | (injection eo42 with f1_ f2_ f3_; have f4_ := f1_.symm; have f5_ := f3_.symm; clear f1_ f2_ f3_; subst f4_; subst f5_))
          obtain ⟨Ao43, co43, eo43⟩ := Kd.R_slice HO181.out
          (first | subst eo43 | (injection eo43 with f1_ f2_ f3_; have f4_ := f1_.symm; have f5_ := f3_.symm; clear f1_ f2_ f3_; subst f4_; subst f5_))
          obtain ⟨Ao44, co44, eo44⟩ := Kd.R_slice HO184.out
          (first | subst eo44 | (injection eo44 with f1_ f2_ f3_; have f4_ := f1_.symm; have f5_ := f3_.symm; clear f1_ f2_ f3_; subst f4_; subst f5_))
          obtain ⟨Ao45, co45, eo45⟩ := Kd.R_slice HO187.out
          (first | subst eo45 | (injection eo45 with f1_ f2_ f3_; have f4_ := f1_.symm; have f5_ := f3_.symm; clear f1_ f2_ f3_; subst f4_; subst f5_))
          refine hK.out _ _ ⟨(blk_cell BK116.out 0).trans rfl, (blk_cell BK116.out 1).trans rfl, (blk_cell BK116.out 2).trans rfl, (blk_cell BK116.out 3).trans rfl, (blk_cell BK116.out 4).trans rfl, (blk_cell BK116.out 5).trans rfl, (blk_cell BK116.out 6).trans rfl, (blk_cell BK116.out 7).trans rfl, (blk_cell BK116.out 8).trans rfl, (blk_cell BK116.out 9).trans rfl, (blk_cell BK116.out 10).trans rfl, (blk_cell BK116.out 11).trans rfl, (blk_cell BK116.out 12).trans rfl, (blk_cell BK116.out 13).trans rfl, (blk_cell BK116.out 14).trans rfl, (blk_cell BK116.out 15).trans rfl, (blk_cell BK116.out 16).trans rfl⟩ (fun hHeld => ?_)
          clear hK K
          refine norm_ (a' := ?_) ?_ ?_
          rotate_left
          · show Act.put _ (some 36) _ = _
            simp only [Act.put, List.setIfInBounds_toArray, List.set_cons_zero, List.set_cons_succ, i64_w, i32_w]
            rfl
          refine one_ (i := 6) (N := some 37) #[true, true, true, true, true, true, true, false, false, false, false, false, false, false, false] rfl rfl (one_of HT_.out (by kernel_rfl)) (by decide) (fun K hK => ?_)
          refine goes_ Try.func6 (by kernel_rfl) rfl #[.agg #[.int .i64 t142, .int .i64 t143, .int .i64 t144, .bool t145, .bool t146, .bool t147, .bool t148, .bool t149, .bool t150, .bool t151, .bool t152, .int .i64 t153, .string t154, .int .i64 t155, .slice Ao40 t156.length co40, .slice Ao41 t159.length co41, .slice Ao42 t162.length co42], .agg #[.int .i64 t165, .int .i64 t166, .int .i64 t167, .bool t168, .bool t169, .bool t170, .bool t171, .bool t172, .bool t173, .bool t174, .bool t175, .int .i64 t176, .string t177, .int .i64 t178, .slice Ao43 t179.length co43, .slice Ao44 t182.length co44, .slice Ao45 t185.length co45]] (by rfl) rfl rfl (by (try simp only [List.map_toArray, List.map_cons, List.map_nil]); first | done | rfl | (simp only [List.length_drop, List.length_take]; rfl)) ?_
          with_reducible refine (ddilaw08_same.calls kj3 t142 t143 t144 t145 t146 t147 t148 t149 t150 t151 t152 t153 t154 t155 _ _ t156 _ _ t159 _ _ t162 t165 t166 t167 t168 t169 t170 t171 t172 t173 t174 t175 t176 t177 t178 _ _ t179 _ _ t182 _ _ t185 true _ ?side1 ?side2 ?side3 ?side4 ?side5 ?side6 ?side7 ?side8 ?side9 ?side10 ?side11 ?side12 A33.out).mono ?_
          (case side1 => repeat (first | exact (Kd.R_reads' HO158.out).2.2 | (with_reducible refine Kd.C_alloc ?_ _) | (with_reducible refine Kd.C_drewN ?_ _) | (with_reducible refine Kd.C_drew ?_)))
          (case side2 => exact (Kd.R_reads' HO158.out).2.1)
          (case side3 => repeat (first | exact (Kd.R_reads' HO161.out).2.2 | (with_reducible refine Kd.C_alloc ?_ _) | (with_reducible refine Kd.C_drewN ?_ _) | (with_reducible refine Kd.C_drew ?_)))
          (case side4 => exact (Kd.R_reads' HO161.out).2.1)
          (case side5 => repeat (first | exact (Kd.R_reads' HO164.out).2.2 | (with_reducible refine Kd.C_alloc ?_ _) | (with_reducible refine Kd.C_drewN ?_ _) | (with_reducible refine Kd.C_drew ?_)))
          (case side6 => exact (Kd.R_reads' HO164.out).2.1)
          (case side7 => repeat (first | exact (Kd.R_reads' HO181.out).2.2 | (with_reducible refine Kd.C_alloc ?_ _) | (with_reducible refine Kd.C_drewN ?_ _) | (with_reducible refine Kd.C_drew ?_)))
          (case side8 => exact (Kd.R_reads' HO181.out).2.1)
          (case side9 => repeat (first | exact (Kd.R_reads' HO184.out).2.2 | (with_reducible refine Kd.C_alloc ?_ _) | (with_reducible refine Kd.C_drewN ?_ _) | (with_reducible refine Kd.C_drew ?_)))
          (case side10 => exact (Kd.R_reads' HO184.out).2.1)
          (case side11 => repeat (first | exact (Kd.R_reads' HO187.out).2.2 | (with_reducible refine Kd.C_alloc ?_ _) | (with_reducible refine Kd.C_drewN ?_ _) | (with_reducible refine Kd.C_drew ?_)))
          (case side12 => exact (Kd.R_reads' HO187.out).2.1)
          rintro e w46 ⟨rfl, hb⟩
          refine ⟨_, rfl, ?_⟩
          have n0_ := Aside0.mk (Kd.R_below (by (with_reducible repeat (first | apply Kd.R_alloc | apply Kd.R_drewN | apply Kd.R_drew)); exact HO_141014.out) hb)
          have n1_ := Aside0.mk (Kd.R_below (by (with_reducible repeat (first | apply Kd.R_alloc | apply Kd.R_drewN | apply Kd.R_drew)); exact HO_141015.out) hb)
          have n2_ := Aside0.mk (Kd.R_below (by (with_reducible repeat (first | apply Kd.R_alloc | apply Kd.R_drewN | apply Kd.R_drew)); exact HO_141016.out) hb)
          have n3_ := Aside0.mk (Kd.R_below (by (with_reducible repeat (first | apply Kd.R_alloc | apply Kd.R_drewN | apply Kd.R_drew)); exact HO158.out) hb)
          have n4_ := Aside0.mk (Kd.R_below (by (with_reducible repeat (first | apply Kd.R_alloc | apply Kd.R_drewN | apply Kd.R_drew)); exact HO161.out) hb)
          have n5_ := Aside0.mk (Kd.R_below (by (with_reducible repeat (first | apply Kd.R_alloc | apply Kd.R_drewN | apply Kd.R_drew)); exact HO164.out) hb)
          have n6_ := Aside0.mk (Kd.R_below (by (with_reducible repeat (first | apply Kd.R_alloc | apply Kd.R_drewN | apply Kd.R_drew)); exact HO181.out) hb)
          have n7_ := Aside0.mk (Kd.R_below (by (with_reducible repeat (first | apply Kd.R_alloc | apply Kd.R_drewN | apply Kd.R_drew)); exact HO184.out) hb)
          have n8_ := Aside0.mk (Kd.R_below (by (with_reducible repeat (first | apply Kd.R_alloc | apply Kd.R_drewN | apply Kd.R_drew)); exact HO187.out) hb)
          have n9_ := Aside0.mk (blk_below (g := gb116) (o := .cells #[.int .i64 a0_0, .int .i64 a0_1, .int .i64 a0_2, .bool a0_3, .bool a0_4, .bool a0_5, .bool a0_6, .bool a0_7, .bool a0_8, .bool a0_9, .bool a0_10, .int .i64 a0_11, .string a0_12, .int .i64 a0_13, .slice A0_14 l0_14.length c0_14, .slice A0_15 l0_15.length c0_15, .slice A0_16 l0_16.length c0_16] 26 (0, 0)) (by (with_reducible repeat (first | refine blk_drewN ?_ _ | refine blk_drew ?_ | refine blk_alloc ?_ _)); exact BK116.out) hb)
          have n10_ := Aside0.mk (blk_below (g := gb140) (o := .cells #[.int .i64 t117, .int .i64 t118, .int .i64 t119, .bool t120, .bool t121, .bool t122, .bool t123, .bool t124, .bool t125, .bool t126, .bool t127, .int .i64 t128, .string t129, .int .i64 t130, .slice Ao10 t131.length co10, .slice Ao11 t134.length co11, .slice Ao12 t137.length co12] 26 (0, 0)) (by (with_reducible repeat (first | refine blk_drewN ?_ _ | refine blk_drew ?_ | refine blk_alloc ?_ _)); exact BK140.out) hb)
          have n11_ := Aside0.mk (below_step (by repeat (first | (with_reducible first | exact HB.out | apply below_alloc | apply pw_below_drewN | apply below_drew1 | refine below_set ?_ GE116.out | refine below_set ?_ GE140.out) | exact HB.out)) hb)
          clear HO_141014
          clear HO_141015
          clear HO_141016
          clear HO158
          clear HO161
          clear HO164
          clear HO181
          clear HO184
          clear HO187
          clear BK116
          clear BK140
          clear HB
          have HO_141014 := n0_
          have HO_141015 := n1_
          have HO_141016 := n2_
          have HO158 := n3_
          have HO161 := n4_
          have HO164 := n5_
          have HO181 := n6_
          have HO184 := n7_
          have HO187 := n8_
          have BK116 := n9_
          have BK140 := n10_
          have HB := n11_
          clear n0_ n1_ n2_ n3_ n4_ n5_ n6_ n7_ n8_ n9_ n10_ n11_
          (try clear hb)
          (try clear hb2)
          (try clear hk)
          (try clear hi)
          refine hK.out _ _ ⟨(blk_cell BK116.out 0).trans rfl, (blk_cell BK116.out 1).trans rfl, (blk_cell BK116.out 2).trans rfl, (blk_cell BK116.out 3).trans rfl, (blk_cell BK116.out 4).trans rfl, (blk_cell BK116.out 5).trans rfl, (blk_cell BK116.out 6).trans rfl, (blk_cell BK116.out 7).trans rfl, (blk_cell BK116.out 8).trans rfl, (blk_cell BK116.out 9).trans rfl, (blk_cell BK116.out 10).trans rfl, (blk_cell BK116.out 11).trans rfl, (blk_cell BK116.out 12).trans rfl, (blk_cell BK116.out 13).trans rfl, (blk_cell BK116.out 14).trans rfl, (blk_cell BK116.out 15).trans rfl, (blk_cell BK116.out 16).trans rfl⟩ (fun hHeld => ?_)
          clear hK K
          refine norm_ (a' := ?_) ?_ ?_
          rotate_left
          · show Act.put _ (some 37) _ = _
            simp only [Act.put, List.setIfInBounds_toArray, List.set_cons_zero, List.set_cons_succ, i64_w, i32_w]
            rfl
          refine pure_ (i := 7) (N := some 38) (v := ?_) (a' := ?_) #[true, true, true, true, true, true, true, true, false, false, false, false, false, false, false] rfl rfl (any_of HT_.out (by kernel_rfl)) (fun _ _ _ h => h) (Or.inl ⟨by rfl, ?_⟩) ?_ ?_
          rotate_left
          · intro w'
            go_simp
            with_reducible rfl
          rotate_left
          · simp only [Act.put, List.setIfInBounds_toArray, List.set_cons_zero, List.set_cons_succ, i64_w, i32_w]
            rfl
          refine take_ (i := 8) (N := some 39) (v := ?_) (a' := ?_) #[true, true, true, true, true, true, true, true, true, false, false, false, false, false, false] rfl rfl (take_ofW HT_.out HW_.out (by kernel_rfl)) (fun _ _ _ h => h) (Or.inl ⟨by rfl, ?_⟩) hHeld ?_ ?_
          rotate_left
          · rintro w' ⟨s0, s1, s2, s3, s4, s5, s6, s7, s8, s9, s10, s11, s12, s13, s14, s15, s16⟩
            first
            | (refine Eq.trans (Ext.run_load_wide 26 _ (by rfl) gb116 #[.int .i64 a0_0, .int .i64 a0_1, .int .i64 a0_2, .bool a0_3, .bool a0_4, .bool a0_5, .bool a0_6, .bool a0_7, .bool a0_8, .bool a0_9, .bool a0_10, .int .i64 a0_11, .string a0_12, .int .i64 a0_13, .slice A0_14 l0_14.length c0_14, .slice A0_15 l0_15.length c0_15, .slice A0_16 l0_16.length c0_16] _ (by rfl) hu26 (by rfl) (by kernel_rfl) ⟨s0, s1, s2, s3, s4, s5, s6, s7, s8, s9, s10, s11, s12, s13, s14, s15, s16, trivial⟩) ?_; with_reducible rfl)
            | (go_simp; with_reducible rfl)
          rotate_left
          · simp only [Act.put, List.setIfInBounds_toArray, List.set_cons_zero, List.set_cons_succ, i64_w, i32_w]
            rfl
          refine take_ (i := 10) (N := some 41) (v := ?_) (a' := ?_) #[true, true, true, true, true, true, true, true, true, false, true, false, false, false, false] rfl rfl (take_ofW HT_.out HW_.out (by kernel_rfl)) (fun _ _ _ h => h) (Or.inl ⟨by rfl, ?_⟩) hHeld ?_ ?_
          rotate_left
          · rintro w' ⟨s0, s1, s2, s3, s4, s5, s6, s7, s8, s9, s10, s11, s12, s13, s14, s15, s16⟩
            first
            | (refine Eq.trans (Ext.run_load_wide 26 _ (by rfl) gb116 #[.int .i64 a0_0, .int .i64 a0_1, .int .i64 a0_2, .bool a0_3, .bool a0_4, .bool a0_5, .bool a0_6, .bool a0_7, .bool a0_8, .bool a0_9, .bool a0_10, .int .i64 a0_11, .string a0_12, .int .i64 a0_13, .slice A0_14 l0_14.length c0_14, .slice A0_15 l0_15.length c0_15, .slice A0_16 l0_16.length c0_16] _ (by rfl) hu26 (by rfl) (by kernel_rfl) ⟨s0, s1, s2, s3, s4, s5, s6, s7, s8, s9, s10, s11, s12, s13, s14, s15, s16, trivial⟩) ?_; with_reducible rfl)
            | (go_simp; with_reducible rfl)
          rotate_left
          · simp only [Act.put, List.setIfInBounds_toArray, List.set_cons_zero, List.set_cons_succ, i64_w, i32_w]
            rfl
          refine one_ (i := 9) (N := some 40) #[true, true, true, true, true, true, true, true, true, true, true, false, false, false, false] rfl rfl (one_of HT_.out (by kernel_rfl)) (by decide) (fun K hK => ?_)
          refine goes_ Try.func5 (by kernel_rfl) rfl #[.agg #[.int .i64 a0_0, .int .i64 a0_1, .int .i64 a0_2, .bool a0_3, .bool a0_4, .bool a0_5, .bool a0_6, .bool a0_7, .bool a0_8, .bool a0_9, .bool a0_10, .int .i64 a0_11, .string a0_12, .int .i64 a0_13, .slice A0_14 l0_14.length c0_14, .slice A0_15 l0_15.length c0_15, .slice A0_16 l0_16.length c0_16]] (by rfl) rfl rfl (by (try simp only [List.map_toArray, List.map_cons, List.map_nil]); first | done | rfl | (simp only [List.length_drop, List.length_take]; rfl)) ?_
          with_reducible refine (packet_Space.calls a0_0 a0_1 a0_2 a0_3 a0_4 a0_5 a0_6 a0_7 a0_8 a0_9 a0_10 a0_11 a0_12 a0_13 _ _ l0_14 _ _ l0_15 _ _ l0_16 t189 _ ?side1 ?side2 ?side3 ?side4 ?side5 ?side6 A35.out).mono ?_
          (case side1 => repeat (first | exact (Kd.C_below HR0_14.out HB.out) | (with_reducible refine Kd.C_alloc ?_ _) | (with_reducible refine Kd.C_drewN ?_ _) | (with_reducible refine Kd.C_drew ?_)))
          (case side2 => exact HC0_14.out)
          (case side3 => repeat (first | exact (Kd.C_below HR0_15.out HB.out) | (with_reducible refine Kd.C_alloc ?_ _) | (with_reducible refine Kd.C_drewN ?_ _) | (with_reducible refine Kd.C_drew ?_)))
          (case side4 => exact HC0_15.out)
          (case side5 => repeat (first | exact (Kd.C_below HR0_16.out HB.out) | (with_reducible refine Kd.C_alloc ?_ _) | (with_reducible refine Kd.C_drewN ?_ _) | (with_reducible refine Kd.C_drew ?_)))
          (case side6 => exact HC0_16.out)
          rintro e w47 ⟨rfl, hb⟩
          refine ⟨_, rfl, ?_⟩
          have n0_ := Aside0.mk (Kd.R_below (by (with_reducible repeat (first | apply Kd.R_alloc | apply Kd.R_drewN | apply Kd.R_drew)); exact HO_141014.out) hb)
          have n1_ := Aside0.mk (Kd.R_below (by (with_reducible repeat (first | apply Kd.R_alloc | apply Kd.R_drewN | apply Kd.R_drew)); exact HO_141015.out) hb)
          have n2_ := Aside0.mk (Kd.R_below (by (with_reducible repeat (first | apply Kd.R_alloc | apply Kd.R_drewN | apply Kd.R_drew)); exact HO_141016.out) hb)
          have n3_ := Aside0.mk (Kd.R_below (by (with_reducible repeat (first | apply Kd.R_alloc | apply Kd.R_drewN | apply Kd.R_drew)); exact HO158.out) hb)
          have n4_ := Aside0.mk (Kd.R_below (by (with_reducible repeat (first | apply Kd.R_alloc | apply Kd.R_drewN | apply Kd.R_drew)); exact HO161.out) hb)
          have n5_ := Aside0.mk (Kd.R_below (by (with_reducible repeat (first | apply Kd.R_alloc | apply Kd.R_drewN | apply Kd.R_drew)); exact HO164.out) hb)
          have n6_ := Aside0.mk (Kd.R_below (by (with_reducible repeat (first | apply Kd.R_alloc | apply Kd.R_drewN | apply Kd.R_drew)); exact HO181.out) hb)
          have n7_ := Aside0.mk (Kd.R_below (by (with_reducible repeat (first | apply Kd.R_alloc | apply Kd.R_drewN | apply Kd.R_drew)); exact HO184.out) hb)
          have n8_ := Aside0.mk (Kd.R_below (by (with_reducible repeat (first | apply Kd.R_alloc | apply Kd.R_drewN | apply Kd.R_drew)); exact HO187.out) hb)
          have n9_ := Aside0.mk (blk_below (g := gb116) (o := .cells #[.int .i64 a0_0, .int .i64 a0_1, .int .i64 a0_2, .bool a0_3, .bool a0_4, .bool a0_5, .bool a0_6, .bool a0_7, .bool a0_8, .bool a0_9, .bool a0_10, .int .i64 a0_11, .string a0_12, .int .i64 a0_13, .slice A0_14 l0_14.length c0_14, .slice A0_15 l0_15.length c0_15, .slice A0_16 l0_16.length c0_16] 26 (0, 0)) (by (with_reducible repeat (first | refine blk_drewN ?_ _ | refine blk_drew ?_ | refine blk_alloc ?_ _)); exact BK116.out) hb)
          have n10_ := Aside0.mk (blk_below (g := gb140) (o := .cells #[.int .i64 t117, .int .i64 t118, .int .i64 t119, .bool t120, .bool t121, .bool t122, .bool t123, .bool t124, .bool t125, .bool t126, .bool t127, .int .i64 t128, .string t129, .int .i64 t130, .slice Ao10 t131.length co10, .slice Ao11 t134.length co11, .slice Ao12 t137.length co12] 26 (0, 0)) (by (with_reducible repeat (first | refine blk_drewN ?_ _ | refine blk_drew ?_ | refine blk_alloc ?_ _)); exact BK140.out) hb)
          have n11_ := Aside0.mk (below_step (by repeat (first | (with_reducible first | exact HB.out | apply below_alloc | apply pw_below_drewN | apply below_drew1 | refine below_set ?_ GE116.out | refine below_set ?_ GE140.out) | exact HB.out)) hb)
          clear HO_141014
          clear HO_141015
          clear HO_141016
          clear HO158
          clear HO161
          clear HO164
          clear HO181
          clear HO184
          clear HO187
          clear BK116
          clear BK140
          clear HB
          have HO_141014 := n0_
          have HO_141015 := n1_
          have HO_141016 := n2_
          have HO158 := n3_
          have HO161 := n4_
          have HO164 := n5_
          have HO181 := n6_
          have HO184 := n7_
          have HO187 := n8_
          have BK116 := n9_
          have BK140 := n10_
          have HB := n11_
          clear n0_ n1_ n2_ n3_ n4_ n5_ n6_ n7_ n8_ n9_ n10_ n11_
          (try clear hb)
          (try clear hb2)
          (try clear hk)
          (try clear hi)
          refine hK.out _ _ ⟨(blk_cell BK116.out 0).trans rfl, (blk_cell BK116.out 1).trans rfl, (blk_cell BK116.out 2).trans rfl, (blk_cell BK116.out 3).trans rfl, (blk_cell BK116.out 4).trans rfl, (blk_cell BK116.out 5).trans rfl, (blk_cell BK116.out 6).trans rfl, (blk_cell BK116.out 7).trans rfl, (blk_cell BK116.out 8).trans rfl, (blk_cell BK116.out 9).trans rfl, (blk_cell BK116.out 10).trans rfl, (blk_cell BK116.out 11).trans rfl, (blk_cell BK116.out 12).trans rfl, (blk_cell BK116.out 13).trans rfl, (blk_cell BK116.out 14).trans rfl, (blk_cell BK116.out 15).trans rfl, (blk_cell BK116.out 16).trans rfl⟩ (fun hHeld => ?_)
          clear hK K
          refine norm_ (a' := ?_) ?_ ?_
          rotate_left
          · show Act.put _ (some 40) _ = _
            simp only [Act.put, List.setIfInBounds_toArray, List.set_cons_zero, List.set_cons_succ, i64_w, i32_w]
            rfl
          refine one_ (i := 11) (N := some 42) #[true, true, true, true, true, true, true, true, true, true, true, true, false, false, false] rfl rfl (one_of HT_.out (by kernel_rfl)) (by decide) (fun K hK => ?_)
          refine goes_ Try.func8 (by kernel_rfl) rfl #[.agg #[.int .i64 a0_0, .int .i64 a0_1, .int .i64 a0_2, .bool a0_3, .bool a0_4, .bool a0_5, .bool a0_6, .bool a0_7, .bool a0_8, .bool a0_9, .bool a0_10, .int .i64 a0_11, .string a0_12, .int .i64 a0_13, .slice A0_14 l0_14.length c0_14, .slice A0_15 l0_15.length c0_15, .slice A0_16 l0_16.length c0_16]] (by rfl) rfl rfl (by (try simp only [List.map_toArray, List.map_cons, List.map_nil]); first | done | rfl | (simp only [List.length_drop, List.length_take]; rfl)) ?_
          with_reducible refine (ddiref08_Space.calls a0_0 a0_1 a0_2 a0_3 a0_4 a0_5 a0_6 a0_7 a0_8 a0_9 a0_10 a0_11 a0_12 a0_13 _ _ l0_14 _ _ l0_15 _ _ l0_16 t190 _ ?side1 ?side2 ?side3 ?side4 ?side5 ?side6 A36.out).mono ?_
          (case side1 => repeat (first | exact (Kd.C_below HR0_14.out HB.out) | (with_reducible refine Kd.C_alloc ?_ _) | (with_reducible refine Kd.C_drewN ?_ _) | (with_reducible refine Kd.C_drew ?_)))
          (case side2 => exact HC0_14.out)
          (case side3 => repeat (first | exact (Kd.C_below HR0_15.out HB.out) | (with_reducible refine Kd.C_alloc ?_ _) | (with_reducible refine Kd.C_drewN ?_ _) | (with_reducible refine Kd.C_drew ?_)))
          (case side4 => exact HC0_15.out)
          (case side5 => repeat (first | exact (Kd.C_below HR0_16.out HB.out) | (with_reducible refine Kd.C_alloc ?_ _) | (with_reducible refine Kd.C_drewN ?_ _) | (with_reducible refine Kd.C_drew ?_)))
          (case side6 => exact HC0_16.out)
          rintro e w48 ⟨rfl, hb⟩
          refine ⟨_, rfl, ?_⟩
          have n0_ := Aside0.mk (Kd.R_below (by (with_reducible repeat (first | apply Kd.R_alloc | apply Kd.R_drewN | apply Kd.R_drew)); exact HO_141014.out) hb)
          have n1_ := Aside0.mk (Kd.R_below (by (with_reducible repeat (first | apply Kd.R_alloc | apply Kd.R_drewN | apply Kd.R_drew)); exact HO_141015.out) hb)
          have n2_ := Aside0.mk (Kd.R_below (by (with_reducible repeat (first | apply Kd.R_alloc | apply Kd.R_drewN | apply Kd.R_drew)); exact HO_141016.out) hb)
          have n3_ := Aside0.mk (Kd.R_below (by (with_reducible repeat (first | apply Kd.R_alloc | apply Kd.R_drewN | apply Kd.R_drew)); exact HO158.out) hb)
          have n4_ := Aside0.mk (Kd.R_below (by (with_reducible repeat (first | apply Kd.R_alloc | apply Kd.R_drewN | apply Kd.R_drew)); exact HO161.out) hb)
          have n5_ := Aside0.mk (Kd.R_below (by (with_reducible repeat (first | apply Kd.R_alloc | apply Kd.R_drewN | apply Kd.R_drew)); exact HO164.out) hb)
          have n6_ := Aside0.mk (Kd.R_below (by (with_reducible repeat (first | apply Kd.R_alloc | apply Kd.R_drewN | apply Kd.R_drew)); exact HO181.out) hb)
          have n7_ := Aside0.mk (Kd.R_below (by (with_reducible repeat (first | apply Kd.R_alloc | apply Kd.R_drewN | apply Kd.R_drew)); exact HO184.out) hb)
          have n8_ := Aside0.mk (Kd.R_below (by (with_reducible repeat (first | apply Kd.R_alloc | apply Kd.R_drewN | apply Kd.R_drew)); exact HO187.out) hb)
          have n9_ := Aside0.mk (blk_below (g := gb116) (o := .cells #[.int .i64 a0_0, .int .i64 a0_1, .int .i64 a0_2, .bool a0_3, .bool a0_4, .bool a0_5, .bool a0_6, .bool a0_7, .bool a0_8, .bool a0_9, .bool a0_10, .int .i64 a0_11, .string a0_12, .int .i64 a0_13, .slice A0_14 l0_14.length c0_14, .slice A0_15 l0_15.length c0_15, .slice A0_16 l0_16.length c0_16] 26 (0, 0)) (by (with_reducible repeat (first | refine blk_drewN ?_ _ | refine blk_drew ?_ | refine blk_alloc ?_ _)); exact BK116.out) hb)
          have n10_ := Aside0.mk (blk_below (g := gb140) (o := .cells #[.int .i64 t117, .int .i64 t118, .int .i64 t119, .bool t120, .bool t121, .bool t122, .bool t123, .bool t124, .bool t125, .bool t126, .bool t127, .int .i64 t128, .string t129, .int .i64 t130, .slice Ao10 t131.length co10, .slice Ao11 t134.length co11, .slice Ao12 t137.length co12] 26 (0, 0)) (by (with_reducible repeat (first | refine blk_drewN ?_ _ | refine blk_drew ?_ | refine blk_alloc ?_ _)); exact BK140.out) hb)
          have n11_ := Aside0.mk (below_step (by repeat (first | (with_reducible first | exact HB.out | apply below_alloc | apply pw_below_drewN | apply below_drew1 | refine below_set ?_ GE116.out | refine below_set ?_ GE140.out) | exact HB.out)) hb)
          clear HO_141014
          clear HO_141015
          clear HO_141016
          clear HO158
          clear HO161
          clear HO164
          clear HO181
          clear HO184
          clear HO187
          clear BK116
          clear BK140
          clear HB
          have HO_141014 := n0_
          have HO_141015 := n1_
          have HO_141016 := n2_
          have HO158 := n3_
          have HO161 := n4_
          have HO164 := n5_
          have HO181 := n6_
          have HO184 := n7_
          have HO187 := n8_
          have BK116 := n9_
          have BK140 := n10_
          have HB := n11_
          clear n0_ n1_ n2_ n3_ n4_ n5_ n6_ n7_ n8_ n9_ n10_ n11_
          (try clear hb)
          (try clear hb2)
          (try clear hk)
          (try clear hi)
          refine hK.out _ _ ⟨(blk_cell BK116.out 0).trans rfl, (blk_cell BK116.out 1).trans rfl, (blk_cell BK116.out 2).trans rfl, (blk_cell BK116.out 3).trans rfl, (blk_cell BK116.out 4).trans rfl, (blk_cell BK116.out 5).trans rfl, (blk_cell BK116.out 6).trans rfl, (blk_cell BK116.out 7).trans rfl, (blk_cell BK116.out 8).trans rfl, (blk_cell BK116.out 9).trans rfl, (blk_cell BK116.out 10).trans rfl, (blk_cell BK116.out 11).trans rfl, (blk_cell BK116.out 12).trans rfl, (blk_cell BK116.out 13).trans rfl, (blk_cell BK116.out 14).trans rfl, (blk_cell BK116.out 15).trans rfl, (blk_cell BK116.out 16).trans rfl⟩ (fun hHeld => ?_)
          clear hK K
          refine norm_ (a' := ?_) ?_ ?_
          rotate_left
          · show Act.put _ (some 42) _ = _
            simp only [Act.put, List.setIfInBounds_toArray, List.set_cons_zero, List.set_cons_succ, i64_w, i32_w]
            rfl
          refine pure_ (i := 12) (N := some 43) (v := ?_) (a' := ?_) #[true, true, true, true, true, true, true, true, true, true, true, true, true, false, false] rfl rfl (any_of HT_.out (by kernel_rfl)) (fun _ _ _ h => h) (Or.inl ⟨by rfl, ?_⟩) ?_ ?_
          rotate_left
          · intro w'
            go_simp
            with_reducible rfl
          rotate_left
          · simp only [Act.put, List.setIfInBounds_toArray, List.set_cons_zero, List.set_cons_succ, i64_w, i32_w]
            rfl
          refine pure_ (i := 13) (N := some 44) (v := ?_) (a' := ?_) #[true, true, true, true, true, true, true, true, true, true, true, true, true, true, false] rfl rfl (any_of HT_.out (by kernel_rfl)) (fun _ _ _ h => h) (Or.inl ⟨by rfl, ?_⟩) ?_ ?_
          rotate_left
          · intro w'
            go_simp
            with_reducible rfl
          rotate_left
          · simp only [Act.put, List.setIfInBounds_toArray, List.set_cons_zero, List.set_cons_succ, i64_w, i32_w]
            rfl
          refine pure_ (i := 14) (N := some 4) (v := ?_) (a' := ?_) #[true, true, true, true, true, true, true, true, true, true, true, true, true, true, true] rfl rfl (any_of HT_.out (by kernel_rfl)) (fun _ _ _ h => h) (Or.inl ⟨by rfl, ?_⟩) ?_ ?_
          rotate_left
          · intro w'
            go_simp
            with_reducible rfl
          rotate_left
          · simp only [Act.put, List.setIfInBounds_toArray, List.set_cons_zero, List.set_cons_succ, i64_w, i32_w]
            rfl
          refine done_ (done_of HT_.out (by kernel_rfl)) ?_
          try go_wp2_with (first | ((with_reducible refine gate_dst (N := 6) rfl ?_); refine Ext.wpList_buildC ?hgd 26 _ ?ho ?hb ?_; (case hgd => rfl); (case ho => rfl); (case hb => ((try go_simp); exact hbl6 _ _ _))) | ((with_reducible refine gate_dst (N := 27) rfl ?_); refine gate_guard (by rfl) ?_; dsimp only; refine Ext.wpList_buildC ?hgd 26 _ ?ho ?hb ?_; (case hgd => rfl); (case ho => rfl); (case hb => ((try go_simp); exact hbl27))) | ((with_reducible refine gate_ (.load 26 (.tmp 2)) rfl ?_); refine wpList_load_row (by rfl) 26 (.tmp 2) (by rfl) _ (by rfl) 26 _ (0, 0) _ (by first | exact BK116.out | exact BK140.out | exact blk_put BK116.out _ _ (by simp only [List.setIfInBounds_toArray, List.set_cons_zero, List.set_cons_succ]) | exact blk_put BK140.out _ _ (by simp only [List.setIfInBounds_toArray, List.set_cons_zero, List.set_cons_succ])) hu26 (by rfl) (by kernel_rfl) ?_) | ((with_reducible refine gate_ (.load 26 (.tmp 2)) rfl ?_); refine gate_guard (by rfl) ?_; dsimp only; refine wpList_load_row (by rfl) 26 (.tmp 2) (by rfl) _ (by rfl) 26 _ (0, 0) _ (by first | exact BK116.out | exact BK140.out | exact blk_put BK116.out _ _ (by simp only [List.setIfInBounds_toArray, List.set_cons_zero, List.set_cons_succ]) | exact blk_put BK140.out _ _ (by simp only [List.setIfInBounds_toArray, List.set_cons_zero, List.set_cons_succ])) hu26 (by rfl) (by kernel_rfl) ?_))
          go_ret
          exact ⟨by first | rfl | (simp [errW_none, errW_some] <;> rfl) | (simp [*, errW_none, errW_some] <;> rfl), by repeat (first | (with_reducible first | exact HB.out | apply below_alloc | apply pw_below_drewN | apply below_drew1 | refine below_set ?_ GE116.out | refine below_set ?_ GE140.out) | exact HB.out)⟩
        · replace c34 := Bool.eq_false_iff.mpr c34
          subst c34
          have H1 : (some false) = some r := by rw [if_neg (show ¬ (false = true) by decide)] at H; exact H
          clear H
          have H := H1
          clear H1
          obtain rfl := Option.some.inj H
          try go_wp2_with (first | ((with_reducible refine gate_dst (N := 6) rfl ?_); refine Ext.wpList_buildC ?hgd 26 _ ?ho ?hb ?_; (case hgd => rfl); (case ho => rfl); (case hb => ((try go_simp); exact hbl6 _ _ _))) | ((with_reducible refine gate_dst (N := 27) rfl ?_); refine gate_guard (by rfl) ?_; dsimp only; refine Ext.wpList_buildC ?hgd 26 _ ?ho ?hb ?_; (case hgd => rfl); (case ho => rfl); (case hb => ((try go_simp); exact hbl27))) | ((with_reducible refine gate_ (.load 26 (.tmp 2)) rfl ?_); refine wpList_load_row (by rfl) 26 (.tmp 2) (by rfl) _ (by rfl) 26 _ (0, 0) _ (by first | exact BK116.out | exact BK140.out | exact blk_put BK116.out _ _ (by simp only [List.setIfInBounds_toArray, List.set_cons_zero, List.set_cons_succ]) | exact blk_put BK140.out _ _ (by simp only [List.setIfInBounds_toArray, List.set_cons_zero, List.set_cons_succ])) hu26 (by rfl) (by kernel_rfl) ?_) | ((with_reducible refine gate_ (.load 26 (.tmp 2)) rfl ?_); refine gate_guard (by rfl) ?_; dsimp only; refine wpList_load_row (by rfl) 26 (.tmp 2) (by rfl) _ (by rfl) 26 _ (0, 0) _ (by first | exact BK116.out | exact BK140.out | exact blk_put BK116.out _ _ (by simp only [List.setIfInBounds_toArray, List.set_cons_zero, List.set_cons_succ]) | exact blk_put BK140.out _ _ (by simp only [List.setIfInBounds_toArray, List.set_cons_zero, List.set_cons_succ])) hu26 (by rfl) (by kernel_rfl) ?_))
          have n0_ := Aside0.mk (Kd.R_drew HO_141014.out)
          have n1_ := Aside0.mk (Kd.R_drew HO_141015.out)
          have n2_ := Aside0.mk (Kd.R_drew HO_141016.out)
          have n3_ := Aside0.mk (blk_drew BK116.out)
          have n4_ := Aside0.mk (blk_drew BK140.out)
          have n5_ := Aside0.mk (below_drew1 HB.out)
          clear HO_141014
          clear HO_141015
          clear HO_141016
          clear BK116
          clear BK140
          clear HB
          have HO_141014 := n0_
          have HO_141015 := n1_
          have HO_141016 := n2_
          have BK116 := n3_
          have BK140 := n4_
          have HB := n5_
          clear n0_ n1_ n2_ n3_ n4_ n5_
          refine start_ (n := 15) (S := fun w' => w'.cell? ⟨gb116, 0, none⟩ = some (.int .i64 a0_0) ∧ w'.cell? ⟨gb116, 1, none⟩ = some (.int .i64 a0_1) ∧ w'.cell? ⟨gb116, 2, none⟩ = some (.int .i64 a0_2) ∧ w'.cell? ⟨gb116, 3, none⟩ = some (.bool a0_3) ∧ w'.cell? ⟨gb116, 4, none⟩ = some (.bool a0_4) ∧ w'.cell? ⟨gb116, 5, none⟩ = some (.bool a0_5) ∧ w'.cell? ⟨gb116, 6, none⟩ = some (.bool a0_6) ∧ w'.cell? ⟨gb116, 7, none⟩ = some (.bool a0_7) ∧ w'.cell? ⟨gb116, 8, none⟩ = some (.bool a0_8) ∧ w'.cell? ⟨gb116, 9, none⟩ = some (.bool a0_9) ∧ w'.cell? ⟨gb116, 10, none⟩ = some (.bool a0_10) ∧ w'.cell? ⟨gb116, 11, none⟩ = some (.int .i64 a0_11) ∧ w'.cell? ⟨gb116, 12, none⟩ = some (.string a0_12) ∧ w'.cell? ⟨gb116, 13, none⟩ = some (.int .i64 a0_13) ∧ w'.cell? ⟨gb116, 14, none⟩ = some (.slice A0_14 l0_14.length c0_14) ∧ w'.cell? ⟨gb116, 15, none⟩ = some (.slice A0_15 l0_15.length c0_15) ∧ w'.cell? ⟨gb116, 16, none⟩ = some (.slice A0_16 l0_16.length c0_16)) (ds := []) #[false, false, false, false, false, false, false, false, false, false, false, false, false, false, false] (by kernel_rfl) rfl rfl ⟨(blk_cell BK116.out 0).trans rfl, (blk_cell BK116.out 1).trans rfl, (blk_cell BK116.out 2).trans rfl, (blk_cell BK116.out 3).trans rfl, (blk_cell BK116.out 4).trans rfl, (blk_cell BK116.out 5).trans rfl, (blk_cell BK116.out 6).trans rfl, (blk_cell BK116.out 7).trans rfl, (blk_cell BK116.out 8).trans rfl, (blk_cell BK116.out 9).trans rfl, (blk_cell BK116.out 10).trans rfl, (blk_cell BK116.out 11).trans rfl, (blk_cell BK116.out 12).trans rfl, (blk_cell BK116.out 13).trans rfl, (blk_cell BK116.out 14).trans rfl, (blk_cell BK116.out 15).trans rfl, (blk_cell BK116.out 16).trans rfl⟩ (fun hHeld => ?_); refine with_tabW ddilaw08_PacketReplies.tab4 ddilaw08_PacketReplies.bits4 (fun HT_ HW_ => ?_)
          generalize wc.drew = w49 at HO_141014 HO_141015 HO_141016 BK116 BK140 HB hHeld ⊢
          refine pure_ (i := 1) (N := some 32) (v := ?_) (a' := ?_) #[false, true, false, false, false, false, false, false, false, false, false, false, false, false, false] rfl rfl (any_of HT_.out (by kernel_rfl)) (fun _ _ _ h => h) (Or.inl ⟨by rfl, ?_⟩) ?_ ?_
          rotate_left
          · intro w'
            go_simp
            with_reducible rfl
          rotate_left
          · simp only [Act.put, List.setIfInBounds_toArray, List.set_cons_zero, List.set_cons_succ, i64_w, i32_w]
            rfl
          refine pure_ (i := 4) (N := some 35) (v := ?_) (a' := ?_) #[false, true, false, false, true, false, false, false, false, false, false, false, false, false, false] rfl rfl (any_of HT_.out (by kernel_rfl)) (fun _ _ _ h => h) (Or.inl ⟨by rfl, ?_⟩) ?_ ?_
          rotate_left
          · intro w'
            go_simp
            with_reducible rfl
          rotate_left
          · simp only [Act.put, List.setIfInBounds_toArray, List.set_cons_zero, List.set_cons_succ, i64_w, i32_w]
            rfl
          refine take_ (i := 0) (N := some 31) (v := ?_) (a' := ?_) #[true, true, false, false, true, false, false, false, false, false, false, false, false, false, false] rfl rfl (take_ofW HT_.out HW_.out (by kernel_rfl)) (fun _ _ _ h => h) (Or.inl ⟨by rfl, ?_⟩) hHeld ?_ ?_
          rotate_left
          · rintro w' ⟨s0, s1, s2, s3, s4, s5, s6, s7, s8, s9, s10, s11, s12, s13, s14, s15, s16⟩
            first
            | (refine Eq.trans (Ext.run_load_wide 26 _ (by rfl) gb116 #[.int .i64 a0_0, .int .i64 a0_1, .int .i64 a0_2, .bool a0_3, .bool a0_4, .bool a0_5, .bool a0_6, .bool a0_7, .bool a0_8, .bool a0_9, .bool a0_10, .int .i64 a0_11, .string a0_12, .int .i64 a0_13, .slice A0_14 l0_14.length c0_14, .slice A0_15 l0_15.length c0_15, .slice A0_16 l0_16.length c0_16] _ (by rfl) hu26 (by rfl) (by kernel_rfl) ⟨s0, s1, s2, s3, s4, s5, s6, s7, s8, s9, s10, s11, s12, s13, s14, s15, s16, trivial⟩) ?_; with_reducible rfl)
            | (go_simp; with_reducible rfl)
          rotate_left
          · simp only [Act.put, List.setIfInBounds_toArray, List.set_cons_zero, List.set_cons_succ, i64_w, i32_w]
            rfl
          refine take_ (i := 3) (N := some 34) (v := ?_) (a' := ?_) #[true, true, false, true, true, false, false, false, false, false, false, false, false, false, false] rfl rfl (take_ofW HT_.out HW_.out (by kernel_rfl)) (fun _ _ _ h => h) (Or.inl ⟨by rfl, ?_⟩) hHeld ?_ ?_
          rotate_left
          · rintro w' ⟨s0, s1, s2, s3, s4, s5, s6, s7, s8, s9, s10, s11, s12, s13, s14, s15, s16⟩
            first
            | (refine Eq.trans (Ext.run_load_wide 26 _ (by rfl) gb116 #[.int .i64 a0_0, .int .i64 a0_1, .int .i64 a0_2, .bool a0_3, .bool a0_4, .bool a0_5, .bool a0_6, .bool a0_7, .bool a0_8, .bool a0_9, .bool a0_10, .int .i64 a0_11, .string a0_12, .int .i64 a0_13, .slice A0_14 l0_14.length c0_14, .slice A0_15 l0_15.length c0_15, .slice A0_16 l0_16.length c0_16] _ (by rfl) hu26 (by rfl) (by kernel_rfl) ⟨s0, s1, s2, s3, s4, s5, s6, s7, s8, s9, s10, s11, s12, s13, s14, s15, s16, trivial⟩) ?_; with_reducible rfl)
            | (go_simp; with_reducible rfl)
          rotate_left
          · simp only [Act.put, List.setIfInBounds_toArray, List.set_cons_zero, List.set_cons_succ, i64_w, i32_w]
            rfl
          refine one_ (i := 2) (N := some 33) #[true, true, true, true, true, false, false, false, false, false, false, false, false, false, false] rfl rfl (one_of HT_.out (by kernel_rfl)) (by decide) (fun K hK => ?_)
          refine goes_ Try.func4 (by kernel_rfl) rfl #[.agg #[.int .i64 a0_0, .int .i64 a0_1, .int .i64 a0_2, .bool a0_3, .bool a0_4, .bool a0_5, .bool a0_6, .bool a0_7, .bool a0_8, .bool a0_9, .bool a0_10, .int .i64 a0_11, .string a0_12, .int .i64 a0_13, .slice A0_14 l0_14.length c0_14, .slice A0_15 l0_15.length c0_15, .slice A0_16 l0_16.length c0_16], .int .i64 a1] (by rfl) rfl rfl (by (try simp only [List.map_toArray, List.map_cons, List.map_nil]); first | done | rfl | (simp only [List.length_drop, List.length_take]; rfl)) ?_
          with_reducible refine (packet_Reply.calls a0_0 a0_1 a0_2 a0_3 a0_4 a0_5 a0_6 a0_7 a0_8 a0_9 a0_10 a0_11 a0_12 a0_13 _ _ l0_14 _ _ l0_15 _ _ l0_16 a1 t142 t143 t144 t145 t146 t147 t148 t149 t150 t151 t152 t153 t154 t155 t156 t159 t162 _ ?side1 ?side2 ?side3 ?side4 ?side5 ?side6 A31.out).mono ?_
          (case side1 => repeat (first | exact (Kd.C_below HR0_14.out HB.out) | (with_reducible refine Kd.C_alloc ?_ _) | (with_reducible refine Kd.C_drewN ?_ _) | (with_reducible refine Kd.C_drew ?_)))
          (case side2 => exact HC0_14.out)
          (case side3 => repeat (first | exact (Kd.C_below HR0_15.out HB.out) | (with_reducible refine Kd.C_alloc ?_ _) | (with_reducible refine Kd.C_drewN ?_ _) | (with_reducible refine Kd.C_drew ?_)))
          (case side4 => exact HC0_15.out)
          (case side5 => repeat (first | exact (Kd.C_below HR0_16.out HB.out) | (with_reducible refine Kd.C_alloc ?_ _) | (with_reducible refine Kd.C_drewN ?_ _) | (with_reducible refine Kd.C_drew ?_)))
          (case side6 => exact HC0_16.out)
          rintro e w50 ⟨v157, v160, v163, rfl, ho0, ho1, ho2, hb⟩
          refine ⟨_, rfl, ?_⟩
          have n0_ := Aside0.mk (Kd.R_mono (Kd.R_told (Kd.R_told (Kd.R_told (Kd.R_old (by (with_reducible repeat (first | apply Kd.R_alloc | apply Kd.R_drewN | apply Kd.R_drew)); exact HO_141014.out) hb) (Kd.R_base ho0)) (Kd.R_base ho1)) (Kd.R_base ho2)) (fun _ h_ => h_.1))
          have n1_ := Aside0.mk (Kd.R_mono (Kd.R_told (Kd.R_told (Kd.R_told (Kd.R_old (by (with_reducible repeat (first | apply Kd.R_alloc | apply Kd.R_drewN | apply Kd.R_drew)); exact HO_141015.out) hb) (Kd.R_base ho0)) (Kd.R_base ho1)) (Kd.R_base ho2)) (fun _ h_ => h_.1))
          have n2_ := Aside0.mk (Kd.R_mono (Kd.R_told (Kd.R_told (Kd.R_told (Kd.R_old (by (with_reducible repeat (first | apply Kd.R_alloc | apply Kd.R_drewN | apply Kd.R_drew)); exact HO_141016.out) hb) (Kd.R_base ho0)) (Kd.R_base ho1)) (Kd.R_base ho2)) (fun _ h_ => h_.1))
          have n3_ := Aside0.mk (Kd.R_lower (Kd.R_new' (Kd.R_new' (Kd.R_new' ho0 (Kd.R_lt (by (with_reducible repeat (first | apply Kd.R_alloc | apply Kd.R_drewN | apply Kd.R_drew)); exact HO_141014.out))) (Kd.R_lt (by (with_reducible repeat (first | apply Kd.R_alloc | apply Kd.R_drewN | apply Kd.R_drew)); exact HO_141015.out))) (Kd.R_lt (by (with_reducible repeat (first | apply Kd.R_alloc | apply Kd.R_drewN | apply Kd.R_drew)); exact HO_141016.out))) (below_size (by repeat (first | (with_reducible first | exact HB.out | apply below_alloc | apply pw_below_drewN | apply below_drew1 | refine below_set ?_ GE116.out | refine below_set ?_ GE140.out) | exact HB.out))))
          have n4_ := Aside0.mk (Kd.R_lower (Kd.R_new' (Kd.R_new' (Kd.R_new' ho1 (Kd.R_lt (by (with_reducible repeat (first | apply Kd.R_alloc | apply Kd.R_drewN | apply Kd.R_drew)); exact HO_141014.out))) (Kd.R_lt (by (with_reducible repeat (first | apply Kd.R_alloc | apply Kd.R_drewN | apply Kd.R_drew)); exact HO_141015.out))) (Kd.R_lt (by (with_reducible repeat (first | apply Kd.R_alloc | apply Kd.R_drewN | apply Kd.R_drew)); exact HO_141016.out))) (below_size (by repeat (first | (with_reducible first | exact HB.out | apply below_alloc | apply pw_below_drewN | apply below_drew1 | refine below_set ?_ GE116.out | refine below_set ?_ GE140.out) | exact HB.out))))
          have n5_ := Aside0.mk (Kd.R_lower (Kd.R_new' (Kd.R_new' (Kd.R_new' ho2 (Kd.R_lt (by (with_reducible repeat (first | apply Kd.R_alloc | apply Kd.R_drewN | apply Kd.R_drew)); exact HO_141014.out))) (Kd.R_lt (by (with_reducible repeat (first | apply Kd.R_alloc | apply Kd.R_drewN | apply Kd.R_drew)); exact HO_141015.out))) (Kd.R_lt (by (with_reducible repeat (first | apply Kd.R_alloc | apply Kd.R_drewN | apply Kd.R_drew)); exact HO_141016.out))) (below_size (by repeat (first | (with_reducible first | exact HB.out | apply below_alloc | apply pw_below_drewN | apply below_drew1 | refine below_set ?_ GE116.out | refine below_set ?_ GE140.out) | exact HB.out))))
          have n6_ := Aside0.mk (blk_below (g := gb116) (o := .cells #[.int .i64 a0_0, .int .i64 a0_1, .int .i64 a0_2, .bool a0_3, .bool a0_4, .bool a0_5, .bool a0_6, .bool a0_7, .bool a0_8, .bool a0_9, .bool a0_10, .int .i64 a0_11, .string a0_12, .int .i64 a0_13, .slice A0_14 l0_14.length c0_14, .slice A0_15 l0_15.length c0_15, .slice A0_16 l0_16.length c0_16] 26 (0, 0)) (by (with_reducible repeat (first | refine blk_drewN ?_ _ | refine blk_drew ?_ | refine blk_alloc ?_ _)); exact BK116.out) hb)
          have n7_ := Aside0.mk (blk_below (g := gb140) (o := .cells #[.int .i64 t117, .int .i64 t118, .int .i64 t119, .bool t120, .bool t121, .bool t122, .bool t123, .bool t124, .bool t125, .bool t126, .bool t127, .int .i64 t128, .string t129, .int .i64 t130, .slice Ao10 t131.length co10, .slice Ao11 t134.length co11, .slice Ao12 t137.length co12] 26 (0, 0)) (by (with_reducible repeat (first | refine blk_drewN ?_ _ | refine blk_drew ?_ | refine blk_alloc ?_ _)); exact BK140.out) hb)
          have n8_ := Aside0.mk (below_step (by repeat (first | (with_reducible first | exact HB.out | apply below_alloc | apply pw_below_drewN | apply below_drew1 | refine below_set ?_ GE116.out | refine below_set ?_ GE140.out) | exact HB.out)) hb)
          clear HO_141014
          clear HO_141015
          clear HO_141016
          clear BK116
          clear BK140
          clear HB
          have HO_141014 := n0_
          have HO_141015 := n1_
          have HO_141016 := n2_
          have HO158 := n3_
          have HO161 := n4_
          have HO164 := n5_
          have BK116 := n6_
          have BK140 := n7_
          have HB := n8_
          clear n0_ n1_ n2_ n3_ n4_ n5_ n6_ n7_ n8_
          (try clear hb)
          (try clear hb2)
          (try clear hk)
          (try clear hi)
          (try clear ho0)
          (try clear ho1)
          (try clear ho2)
          refine hK.out _ _ ⟨(blk_cell BK116.out 0).trans rfl, (blk_cell BK116.out 1).trans rfl, (blk_cell BK116.out 2).trans rfl, (blk_cell BK116.out 3).trans rfl, (blk_cell BK116.out 4).trans rfl, (blk_cell BK116.out 5).trans rfl, (blk_cell BK116.out 6).trans rfl, (blk_cell BK116.out 7).trans rfl, (blk_cell BK116.out 8).trans rfl, (blk_cell BK116.out 9).trans rfl, (blk_cell BK116.out 10).trans rfl, (blk_cell BK116.out 11).trans rfl, (blk_cell BK116.out 12).trans rfl, (blk_cell BK116.out 13).trans rfl, (blk_cell BK116.out 14).trans rfl, (blk_cell BK116.out 15).trans rfl, (blk_cell BK116.out 16).trans rfl⟩ (fun hHeld => ?_)
          clear hK K
          refine norm_ (a' := ?_) ?_ ?_
          rotate_left
          · show Act.put _ (some 33) _ = _
            simp only [Act.put, List.setIfInBounds_toArray, List.set_cons_zero, List.set_cons_succ, i64_w, i32_w]
            rfl
          refine one_ (i := 5) (N := some 36) #[true, true, true, true, true, true, false, false, false, false, false, false, false, false, false] rfl rfl (one_of HT_.out (by kernel_rfl)) (by decide) (fun K hK => ?_)
          refine goes_ Try.func7 (by kernel_rfl) rfl #[.agg #[.int .i64 a0_0, .int .i64 a0_1, .int .i64 a0_2, .bool a0_3, .bool a0_4, .bool a0_5, .bool a0_6, .bool a0_7, .bool a0_8, .bool a0_9, .bool a0_10, .int .i64 a0_11, .string a0_12, .int .i64 a0_13, .slice A0_14 l0_14.length c0_14, .slice A0_15 l0_15.length c0_15, .slice A0_16 l0_16.length c0_16], .int .i64 a1] (by rfl) rfl rfl (by (try simp only [List.map_toArray, List.map_cons, List.map_nil]); first | done | rfl | (simp only [List.length_drop, List.length_take]; rfl)) ?_
          with_reducible refine (ddiref08_Reply.calls a0_0 a0_1 a0_2 a0_3 a0_4 a0_5 a0_6 a0_7 a0_8 a0_9 a0_10 a0_11 a0_12 a0_13 _ _ l0_14 _ _ l0_15 _ _ l0_16 a1 t165 t166 t167 t168 t169 t170 t171 t172 t173 t174 t175 t176 t177 t178 t179 t182 t185 _ ?side1 ?side2 ?side3 ?side4 ?side5 ?side6 A32.out).mono ?_
          (case side1 => repeat (first | exact (Kd.C_below HR0_14.out HB.out) | (with_reducible refine Kd.C_alloc ?_ _) | (with_reducible refine Kd.C_drewN ?_ _) | (with_reducible refine Kd.C_drew ?_)))
          (case side2 => exact HC0_14.out)
          (case side3 => repeat (first | exact (Kd.C_below HR0_15.out HB.out) | (with_reducible refine Kd.C_alloc ?_ _) | (with_reducible refine Kd.C_drewN ?_ _) | (with_reducible refine Kd.C_drew ?_)))
          (case side4 => exact HC0_15.out)
          (case side5 => repeat (first | exact (Kd.C_below HR0_16.out HB.out) | (with_reducible refine Kd.C_alloc ?_ _) | (with_reducible refine Kd.C_drewN ?_ _) | (with_reducible refine Kd.C_drew ?_)))
          (case side6 => exact HC0_16.out)
          rintro e w51 ⟨v180, v183, v186, rfl, ho0, ho1, ho2, hb⟩
          refine ⟨_, rfl, ?_⟩
          have n0_ := Aside0.mk (Kd.R_mono (Kd.R_told (Kd.R_told (Kd.R_told (Kd.R_old (by (with_reducible repeat (first | apply Kd.R_alloc | apply Kd.R_drewN | apply Kd.R_drew)); exact HO_141014.out) hb) (Kd.R_base ho0)) (Kd.R_base ho1)) (Kd.R_base ho2)) (fun _ h_ => h_.1))
          have n1_ := Aside0.mk (Kd.R_mono (Kd.R_told (Kd.R_told (Kd.R_told (Kd.R_old (by (with_reducible repeat (first | apply Kd.R_alloc | apply Kd.R_drewN | apply Kd.R_drew)); exact HO_141015.out) hb) (Kd.R_base ho0)) (Kd.R_base ho1)) (Kd.R_base ho2)) (fun _ h_ => h_.1))
          have n2_ := Aside0.mk (Kd.R_mono (Kd.R_told (Kd.R_told (Kd.R_told (Kd.R_old (by (with_reducible repeat (first | apply Kd.R_alloc | apply Kd.R_drewN | apply Kd.R_drew)); exact HO_141016.out) hb) (Kd.R_base ho0)) (Kd.R_base ho1)) (Kd.R_base ho2)) (fun _ h_ => h_.1))
          have n3_ := Aside0.mk (Kd.R_mono (Kd.R_told (Kd.R_told (Kd.R_told (Kd.R_old (by (with_reducible repeat (first | apply Kd.R_alloc | apply Kd.R_drewN | apply Kd.R_drew)); exact HO158.out) hb) (Kd.R_base ho0)) (Kd.R_base ho1)) (Kd.R_base ho2)) (fun _ h_ => h_.1))
          have n4_ := Aside0.mk (Kd.R_mono (Kd.R_told (Kd.R_told (Kd.R_told (Kd.R_old (by (with_reducible repeat (first | apply Kd.R_alloc | apply Kd.R_drewN | apply Kd.R_drew)); exact HO161.out) hb) (Kd.R_base ho0)) (Kd.R_base ho1)) (Kd.R_base ho2)) (fun _ h_ => h_.1))
          have n5_ := Aside0.mk (Kd.R_mono (Kd.R_told (Kd.R_told (Kd.R_told (Kd.R_old (by (with_reducible repeat (first | apply Kd.R_alloc | apply Kd.R_drewN | apply Kd.R_drew)); exact HO164.out) hb) (Kd.R_base ho0)) (Kd.R_base ho1)) (Kd.R_base ho2)) (fun _ h_ => h_.1))
          have n6_ := Aside0.mk (Kd.R_lower (Kd.R_new' (Kd.R_new' (Kd.R_new' (Kd.R_new' (Kd.R_new' (Kd.R_new' ho0 (Kd.R_lt (by (with_reducible repeat (first | apply Kd.R_alloc | apply Kd.R_drewN | apply Kd.R_drew)); exact HO_141014.out))) (Kd.R_lt (by (with_reducible repeat (first | apply Kd.R_alloc | apply Kd.R_drewN | apply Kd.R_drew)); exact HO_141015.out))) (Kd.R_lt (by (with_reducible repeat (first | apply Kd.R_alloc | apply Kd.R_drewN | apply Kd.R_drew)); exact HO_141016.out))) (Kd.R_lt (by (with_reducible repeat (first | apply Kd.R_alloc | apply Kd.R_drewN | apply Kd.R_drew)); exact HO158.out))) (Kd.R_lt (by (with_reducible repeat (first | apply Kd.R_alloc | apply Kd.R_drewN | apply Kd.R_drew)); exact HO161.out))) (Kd.R_lt (by (with_reducible repeat (first | apply Kd.R_alloc | apply Kd.R_drewN | apply Kd.R_drew)); exact HO164.out))) (below_size (by repeat (first | (with_reducible first | exact HB.out | apply below_alloc | apply pw_below_drewN | apply below_drew1 | refine below_set ?_ GE116.out | refine below_set ?_ GE140.out) | exact HB.out))))
          have n7_ := Aside0.mk (Kd.R_lower (Kd.R_new' (Kd.R_new' (Kd.R_new' (Kd.R_new' (Kd.R_new' (Kd.R_new' ho1 (Kd.R_lt (by (with_reducible repeat (first | apply Kd.R_alloc | apply Kd.R_drewN | apply Kd.R_drew)); exact HO_141014.out))) (Kd.R_lt (by (with_reducible repeat (first | apply Kd.R_alloc | apply Kd.R_drewN | apply Kd.R_drew)); exact HO_141015.out))) (Kd.R_lt (by (with_reducible repeat (first | apply Kd.R_alloc | apply Kd.R_drewN | apply Kd.R_drew)); exact HO_141016.out))) (Kd.R_lt (by (with_reducible repeat (first | apply Kd.R_alloc | apply Kd.R_drewN | apply Kd.R_drew)); exact HO158.out))) (Kd.R_lt (by (with_reducible repeat (first | apply Kd.R_alloc | apply Kd.R_drewN | apply Kd.R_drew)); exact HO161.out))) (Kd.R_lt (by (with_reducible repeat (first | apply Kd.R_alloc | apply Kd.R_drewN | apply Kd.R_drew)); exact HO164.out))) (below_size (by repeat (first | (with_reducible first | exact HB.out | apply below_alloc | apply pw_below_drewN | apply below_drew1 | refine below_set ?_ GE116.out | refine below_set ?_ GE140.out) | exact HB.out))))
          have n8_ := Aside0.mk (Kd.R_lower (Kd.R_new' (Kd.R_new' (Kd.R_new' (Kd.R_new' (Kd.R_new' (Kd.R_new' ho2 (Kd.R_lt (by (with_reducible repeat (first | apply Kd.R_alloc | apply Kd.R_drewN | apply Kd.R_drew)); exact HO_141014.out))) (Kd.R_lt (by (with_reducible repeat (first | apply Kd.R_alloc | apply Kd.R_drewN | apply Kd.R_drew)); exact HO_141015.out))) (Kd.R_lt (by (with_reducible repeat (first | apply Kd.R_alloc | apply Kd.R_drewN | apply Kd.R_drew)); exact HO_141016.out))) (Kd.R_lt (by (with_reducible repeat (first | apply Kd.R_alloc | apply Kd.R_drewN | apply Kd.R_drew)); exact HO158.out))) (Kd.R_lt (by (with_reducible repeat (first | apply Kd.R_alloc | apply Kd.R_drewN | apply Kd.R_drew)); exact HO161.out))) (Kd.R_lt (by (with_reducible repeat (first | apply Kd.R_alloc | apply Kd.R_drewN | apply Kd.R_drew)); exact HO164.out))) (below_size (by repeat (first | (with_reducible first | exact HB.out | apply below_alloc | apply pw_below_drewN | apply below_drew1 | refine below_set ?_ GE116.out | refine below_set ?_ GE140.out) | exact HB.out))))
          have n9_ := Aside0.mk (blk_below (g := gb116) (o := .cells #[.int .i64 a0_0, .int .i64 a0_1, .int .i64 a0_2, .bool a0_3, .bool a0_4, .bool a0_5, .bool a0_6, .bool a0_7, .bool a0_8, .bool a0_9, .bool a0_10, .int .i64 a0_11, .string a0_12, .int .i64 a0_13, .slice A0_14 l0_14.length c0_14, .slice A0_15 l0_15.length c0_15, .slice A0_16 l0_16.length c0_16] 26 (0, 0)) (by (with_reducible repeat (first | refine blk_drewN ?_ _ | refine blk_drew ?_ | refine blk_alloc ?_ _)); exact BK116.out) hb)
          have n10_ := Aside0.mk (blk_below (g := gb140) (o := .cells #[.int .i64 t117, .int .i64 t118, .int .i64 t119, .bool t120, .bool t121, .bool t122, .bool t123, .bool t124, .bool t125, .bool t126, .bool t127, .int .i64 t128, .string t129, .int .i64 t130, .slice Ao10 t131.length co10, .slice Ao11 t134.length co11, .slice Ao12 t137.length co12] 26 (0, 0)) (by (with_reducible repeat (first | refine blk_drewN ?_ _ | refine blk_drew ?_ | refine blk_alloc ?_ _)); exact BK140.out) hb)
          have n11_ := Aside0.mk (below_step (by repeat (first | (with_reducible first | exact HB.out | apply below_alloc | apply pw_below_drewN | apply below_drew1 | refine below_set ?_ GE116.out | refine below_set ?_ GE140.out) | exact HB.out)) hb)
          clear HO_141014
          clear HO_141015
          clear HO_141016
          clear HO158
          clear HO161
          clear HO164
          clear BK116
          clear BK140
          clear HB
          have HO_141014 := n0_
          have HO_141015 := n1_
          have HO_141016 := n2_
          have HO158 := n3_
          have HO161 := n4_
          have HO164 := n5_
          have HO181 := n6_
          have HO184 := n7_
          have HO187 := n8_
          have BK116 := n9_
          have BK140 := n10_
          have HB := n11_
          clear n0_ n1_ n2_ n3_ n4_ n5_ n6_ n7_ n8_ n9_ n10_ n11_
          (try clear hb)
          (try clear hb2)
          (try clear hk)
          (try clear hi)
          (try clear ho0)
          (try clear ho1)
          (try clear ho2)
          obtain ⟨Ao52, co52, eo52⟩ := Kd.R_slice HO158.out
          (first | subst eo52 | (injection eo52 with f1_ f2_ f3_; have f4_ := f1_.symm; have f5_ := f3_.symm; clear f1_ f2_ f3_; subst f4_; subst f5_))
          obtain ⟨Ao53, co53, eo53⟩ := Kd.R_slice HO161.out
          (first | subst eo53 | (injection eo53 with f1_ f2_ f3_; have f4_ := f1_.symm; have f5_ := f3_.symm; clear f1_ f2_ f3_; subst f4_; subst f5_))
          obtain ⟨Ao54, co54, eo54⟩ := Kd.R_slice HO164.out
          (first | subst eo54 | (injection eo54 with f1_ f2_ f3_; have f4_ := f1_.symm; have f5_ := f3_.symm; clear f1_ f2_ f3_; subst f4_; subst f5_))
          obtain ⟨Ao55, co55, eo55⟩ := Kd.R_slice HO181.out
          (first | subst eo55 | (injection eo55 with f1_ f2_ f3_; have f4_ := f1_.symm; have f5_ := f3_.symm; clear f1_ f2_ f3_; subst f4_; subst f5_))
          obtain ⟨Ao56, co56, eo56⟩ := Kd.R_slice HO184.out
          (first | subst eo56 | (injection eo56 with f1_ f2_ f3_; have f4_ := f1_.symm; have f5_ := f3_.symm; clear f1_ f2_ f3_; subst f4_; subst f5_))
          obtain ⟨Ao57, co57, eo57⟩ := Kd.R_slice HO187.out
          (first | subst eo57 | (injection eo57 with f1_ f2_ f3_; have f4_ := f1_.symm; have f5_ := f3_.symm; clear f1_ f2_ f3_; subst f4_; subst f5_))
          refine hK.out _ _ ⟨(blk_cell BK116.out 0).trans rfl, (blk_cell BK116.out 1).trans rfl, (blk_cell BK116.out 2).trans rfl, (blk_cell BK116.out 3).trans rfl, (blk_cell BK116.out 4).trans rfl, (blk_cell BK116.out 5).trans rfl, (blk_cell BK116.out 6).trans rfl, (blk_cell BK116.out 7).trans rfl, (blk_cell BK116.out 8).trans rfl, (blk_cell BK116.out 9).trans rfl, (blk_cell BK116.out 10).trans rfl, (blk_cell BK116.out 11).trans rfl, (blk_cell BK116.out 12).trans rfl, (blk_cell BK116.out 13).trans rfl, (blk_cell BK116.out 14).trans rfl, (blk_cell BK116.out 15).trans rfl, (blk_cell BK116.out 16).trans rfl⟩ (fun hHeld => ?_)
          clear hK K
          refine norm_ (a' := ?_) ?_ ?_
          rotate_left
          · show Act.put _ (some 36) _ = _
            simp only [Act.put, List.setIfInBounds_toArray, List.set_cons_zero, List.set_cons_succ, i64_w, i32_w]
            rfl
          refine one_ (i := 6) (N := some 37) #[true, true, true, true, true, true, true, false, false, false, false, false, false, false, false] rfl rfl (one_of HT_.out (by kernel_rfl)) (by decide) (fun K hK => ?_)
          refine goes_ Try.func6 (by kernel_rfl) rfl #[.agg #[.int .i64 t142, .int .i64 t143, .int .i64 t144, .bool t145, .bool t146, .bool t147, .bool t148, .bool t149, .bool t150, .bool t151, .bool t152, .int .i64 t153, .string t154, .int .i64 t155, .slice Ao52 t156.length co52, .slice Ao53 t159.length co53, .slice Ao54 t162.length co54], .agg #[.int .i64 t165, .int .i64 t166, .int .i64 t167, .bool t168, .bool t169, .bool t170, .bool t171, .bool t172, .bool t173, .bool t174, .bool t175, .int .i64 t176, .string t177, .int .i64 t178, .slice Ao55 t179.length co55, .slice Ao56 t182.length co56, .slice Ao57 t185.length co57]] (by rfl) rfl rfl (by (try simp only [List.map_toArray, List.map_cons, List.map_nil]); first | done | rfl | (simp only [List.length_drop, List.length_take]; rfl)) ?_
          with_reducible refine (ddilaw08_same.calls kj3 t142 t143 t144 t145 t146 t147 t148 t149 t150 t151 t152 t153 t154 t155 _ _ t156 _ _ t159 _ _ t162 t165 t166 t167 t168 t169 t170 t171 t172 t173 t174 t175 t176 t177 t178 _ _ t179 _ _ t182 _ _ t185 false _ ?side1 ?side2 ?side3 ?side4 ?side5 ?side6 ?side7 ?side8 ?side9 ?side10 ?side11 ?side12 A33.out).mono ?_
          (case side1 => repeat (first | exact (Kd.R_reads' HO158.out).2.2 | (with_reducible refine Kd.C_alloc ?_ _) | (with_reducible refine Kd.C_drewN ?_ _) | (with_reducible refine Kd.C_drew ?_)))
          (case side2 => exact (Kd.R_reads' HO158.out).2.1)
          (case side3 => repeat (first | exact (Kd.R_reads' HO161.out).2.2 | (with_reducible refine Kd.C_alloc ?_ _) | (with_reducible refine Kd.C_drewN ?_ _) | (with_reducible refine Kd.C_drew ?_)))
          (case side4 => exact (Kd.R_reads' HO161.out).2.1)
          (case side5 => repeat (first | exact (Kd.R_reads' HO164.out).2.2 | (with_reducible refine Kd.C_alloc ?_ _) | (with_reducible refine Kd.C_drewN ?_ _) | (with_reducible refine Kd.C_drew ?_)))
          (case side6 => exact (Kd.R_reads' HO164.out).2.1)
          (case side7 => repeat (first | exact (Kd.R_reads' HO181.out).2.2 | (with_reducible refine Kd.C_alloc ?_ _) | (with_reducible refine Kd.C_drewN ?_ _) | (with_reducible refine Kd.C_drew ?_)))
          (case side8 => exact (Kd.R_reads' HO181.out).2.1)
          (case side9 => repeat (first | exact (Kd.R_reads' HO184.out).2.2 | (with_reducible refine Kd.C_alloc ?_ _) | (with_reducible refine Kd.C_drewN ?_ _) | (with_reducible refine Kd.C_drew ?_)))
          (case side10 => exact (Kd.R_reads' HO184.out).2.1)
          (case side11 => repeat (first | exact (Kd.R_reads' HO187.out).2.2 | (with_reducible refine Kd.C_alloc ?_ _) | (with_reducible refine Kd.C_drewN ?_ _) | (with_reducible refine Kd.C_drew ?_)))
          (case side12 => exact (Kd.R_reads' HO187.out).2.1)
          rintro e w58 ⟨rfl, hb⟩
          refine ⟨_, rfl, ?_⟩
          have n0_ := Aside0.mk (Kd.R_below (by (with_reducible repeat (first | apply Kd.R_alloc | apply Kd.R_drewN | apply Kd.R_drew)); exact HO_141014.out) hb)
          have n1_ := Aside0.mk (Kd.R_below (by (with_reducible repeat (first | apply Kd.R_alloc | apply Kd.R_drewN | apply Kd.R_drew)); exact HO_141015.out) hb)
          have n2_ := Aside0.mk (Kd.R_below (by (with_reducible repeat (first | apply Kd.R_alloc | apply Kd.R_drewN | apply Kd.R_drew)); exact HO_141016.out) hb)
          have n3_ := Aside0.mk (Kd.R_below (by (with_reducible repeat (first | apply Kd.R_alloc | apply Kd.R_drewN | apply Kd.R_drew)); exact HO158.out) hb)
          have n4_ := Aside0.mk (Kd.R_below (by (with_reducible repeat (first | apply Kd.R_alloc | apply Kd.R_drewN | apply Kd.R_drew)); exact HO161.out) hb)
          have n5_ := Aside0.mk (Kd.R_below (by (with_reducible repeat (first | apply Kd.R_alloc | apply Kd.R_drewN | apply Kd.R_drew)); exact HO164.out) hb)
          have n6_ := Aside0.mk (Kd.R_below (by (with_reducible repeat (first | apply Kd.R_alloc | apply Kd.R_drewN | apply Kd.R_drew)); exact HO181.out) hb)
          have n7_ := Aside0.mk (Kd.R_below (by (with_reducible repeat (first | apply Kd.R_alloc | apply Kd.R_drewN | apply Kd.R_drew)); exact HO184.out) hb)
          have n8_ := Aside0.mk (Kd.R_below (by (with_reducible repeat (first | apply Kd.R_alloc | apply Kd.R_drewN | apply Kd.R_drew)); exact HO187.out) hb)
          have n9_ := Aside0.mk (blk_below (g := gb116) (o := .cells #[.int .i64 a0_0, .int .i64 a0_1, .int .i64 a0_2, .bool a0_3, .bool a0_4, .bool a0_5, .bool a0_6, .bool a0_7, .bool a0_8, .bool a0_9, .bool a0_10, .int .i64 a0_11, .string a0_12, .int .i64 a0_13, .slice A0_14 l0_14.length c0_14, .slice A0_15 l0_15.length c0_15, .slice A0_16 l0_16.length c0_16] 26 (0, 0)) (by (with_reducible repeat (first | refine blk_drewN ?_ _ | refine blk_drew ?_ | refine blk_alloc ?_ _)); exact BK116.out) hb)
          have n10_ := Aside0.mk (blk_below (g := gb140) (o := .cells #[.int .i64 t117, .int .i64 t118, .int .i64 t119, .bool t120, .bool t121, .bool t122, .bool t123, .bool t124, .bool t125, .bool t126, .bool t127, .int .i64 t128, .string t129, .int .i64 t130, .slice Ao10 t131.length co10, .slice Ao11 t134.length co11, .slice Ao12 t137.length co12] 26 (0, 0)) (by (with_reducible repeat (first | refine blk_drewN ?_ _ | refine blk_drew ?_ | refine blk_alloc ?_ _)); exact BK140.out) hb)
          have n11_ := Aside0.mk (below_step (by repeat (first | (with_reducible first | exact HB.out | apply below_alloc | apply pw_below_drewN | apply below_drew1 | refine below_set ?_ GE116.out | refine below_set ?_ GE140.out) | exact HB.out)) hb)
          clear HO_141014
          clear HO_141015
          clear HO_141016
          clear HO158
          clear HO161
          clear HO164
          clear HO181
          clear HO184
          clear HO187
          clear BK116
          clear BK140
          clear HB
          have HO_141014 := n0_
          have HO_141015 := n1_
          have HO_141016 := n2_
          have HO158 := n3_
          have HO161 := n4_
          have HO164 := n5_
          have HO181 := n6_
          have HO184 := n7_
          have HO187 := n8_
          have BK116 := n9_
          have BK140 := n10_
          have HB := n11_
          clear n0_ n1_ n2_ n3_ n4_ n5_ n6_ n7_ n8_ n9_ n10_ n11_
          (try clear hb)
          (try clear hb2)
          (try clear hk)
          (try clear hi)
          refine hK.out _ _ ⟨(blk_cell BK116.out 0).trans rfl, (blk_cell BK116.out 1).trans rfl, (blk_cell BK116.out 2).trans rfl, (blk_cell BK116.out 3).trans rfl, (blk_cell BK116.out 4).trans rfl, (blk_cell BK116.out 5).trans rfl, (blk_cell BK116.out 6).trans rfl, (blk_cell BK116.out 7).trans rfl, (blk_cell BK116.out 8).trans rfl, (blk_cell BK116.out 9).trans rfl, (blk_cell BK116.out 10).trans rfl, (blk_cell BK116.out 11).trans rfl, (blk_cell BK116.out 12).trans rfl, (blk_cell BK116.out 13).trans rfl, (blk_cell BK116.out 14).trans rfl, (blk_cell BK116.out 15).trans rfl, (blk_cell BK116.out 16).trans rfl⟩ (fun hHeld => ?_)
          clear hK K
          refine norm_ (a' := ?_) ?_ ?_
          rotate_left
          · show Act.put _ (some 37) _ = _
            simp only [Act.put, List.setIfInBounds_toArray, List.set_cons_zero, List.set_cons_succ, i64_w, i32_w]
            rfl
          refine pure_ (i := 7) (N := some 38) (v := ?_) (a' := ?_) #[true, true, true, true, true, true, true, true, false, false, false, false, false, false, false] rfl rfl (any_of HT_.out (by kernel_rfl)) (fun _ _ _ h => h) (Or.inl ⟨by rfl, ?_⟩) ?_ ?_
          rotate_left
          · intro w'
            go_simp
            with_reducible rfl
          rotate_left
          · simp only [Act.put, List.setIfInBounds_toArray, List.set_cons_zero, List.set_cons_succ, i64_w, i32_w]
            rfl
          refine pure_ (i := 8) (N := some 39) (v := undef) (a' := ?_) #[true, true, true, true, true, true, true, true, true, false, false, false, false, false, false] rfl rfl (any_of HT_.out (by kernel_rfl)) (fun _ _ _ h => h) (Or.inr ⟨by rfl, rfl⟩) ?_ ?_
          rotate_left
          · simp only [Act.put, List.setIfInBounds_toArray, List.set_cons_zero, List.set_cons_succ, i64_w, i32_w]
            rfl
          refine pure_ (i := 9) (N := some 40) (v := undef) (a' := ?_) #[true, true, true, true, true, true, true, true, true, true, false, false, false, false, false] rfl rfl (any_of HT_.out (by kernel_rfl)) (fun _ _ _ h => h) (Or.inr ⟨by rfl, rfl⟩) ?_ ?_
          rotate_left
          · simp only [Act.put, List.setIfInBounds_toArray, List.set_cons_zero, List.set_cons_succ, i64_w, i32_w]
            rfl
          refine pure_ (i := 10) (N := some 41) (v := undef) (a' := ?_) #[true, true, true, true, true, true, true, true, true, true, true, false, false, false, false] rfl rfl (any_of HT_.out (by kernel_rfl)) (fun _ _ _ h => h) (Or.inr ⟨by rfl, rfl⟩) ?_ ?_
          rotate_left
          · simp only [Act.put, List.setIfInBounds_toArray, List.set_cons_zero, List.set_cons_succ, i64_w, i32_w]
            rfl
          refine pure_ (i := 11) (N := some 42) (v := undef) (a' := ?_) #[true, true, true, true, true, true, true, true, true, true, true, true, false, false, false] rfl rfl (any_of HT_.out (by kernel_rfl)) (fun _ _ _ h => h) (Or.inr ⟨by rfl, rfl⟩) ?_ ?_
          rotate_left
          · simp only [Act.put, List.setIfInBounds_toArray, List.set_cons_zero, List.set_cons_succ, i64_w, i32_w]
            rfl
          refine pure_ (i := 12) (N := some 43) (v := undef) (a' := ?_) #[true, true, true, true, true, true, true, true, true, true, true, true, true, false, false] rfl rfl (any_of HT_.out (by kernel_rfl)) (fun _ _ _ h => h) (Or.inr ⟨by rfl, rfl⟩) ?_ ?_
          rotate_left
          · simp only [Act.put, List.setIfInBounds_toArray, List.set_cons_zero, List.set_cons_succ, i64_w, i32_w]
            rfl
          refine pure_ (i := 13) (N := some 44) (v := ?_) (a' := ?_) #[true, true, true, true, true, true, true, true, true, true, true, true, true, true, false] rfl rfl (any_of HT_.out (by kernel_rfl)) (fun _ _ _ h => h) (Or.inl ⟨by rfl, ?_⟩) ?_ ?_
          rotate_left
          · intro w'
            go_simp
            with_reducible rfl
          rotate_left
          · simp only [Act.put, List.setIfInBounds_toArray, List.set_cons_zero, List.set_cons_succ, i64_w, i32_w]
            rfl
          refine pure_ (i := 14) (N := some 4) (v := ?_) (a' := ?_) #[true, true, true, true, true, true, true, true, true, true, true, true, true, true, true] rfl rfl (any_of HT_.out (by kernel_rfl)) (fun _ _ _ h => h) (Or.inl ⟨by rfl, ?_⟩) ?_ ?_
          rotate_left
          · intro w'
            go_simp
            with_reducible rfl
          rotate_left
          · simp only [Act.put, List.setIfInBounds_toArray, List.set_cons_zero, List.set_cons_succ, i64_w, i32_w]
            rfl
          refine done_ (done_of HT_.out (by kernel_rfl)) ?_
          try go_wp2_with (first | ((with_reducible refine gate_dst (N := 6) rfl ?_); refine Ext.wpList_buildC ?hgd 26 _ ?ho ?hb ?_; (case hgd => rfl); (case ho => rfl); (case hb => ((try go_simp); exact hbl6 _ _ _))) | ((with_reducible refine gate_dst (N := 27) rfl ?_); refine gate_guard (by rfl) ?_; dsimp only; refine Ext.wpList_buildC ?hgd 26 _ ?ho ?hb ?_; (case hgd => rfl); (case ho => rfl); (case hb => ((try go_simp); exact hbl27))) | ((with_reducible refine gate_ (.load 26 (.tmp 2)) rfl ?_); refine wpList_load_row (by rfl) 26 (.tmp 2) (by rfl) _ (by rfl) 26 _ (0, 0) _ (by first | exact BK116.out | exact BK140.out | exact blk_put BK116.out _ _ (by simp only [List.setIfInBounds_toArray, List.set_cons_zero, List.set_cons_succ]) | exact blk_put BK140.out _ _ (by simp only [List.setIfInBounds_toArray, List.set_cons_zero, List.set_cons_succ])) hu26 (by rfl) (by kernel_rfl) ?_) | ((with_reducible refine gate_ (.load 26 (.tmp 2)) rfl ?_); refine gate_guard (by rfl) ?_; dsimp only; refine wpList_load_row (by rfl) 26 (.tmp 2) (by rfl) _ (by rfl) 26 _ (0, 0) _ (by first | exact BK116.out | exact BK140.out | exact blk_put BK116.out _ _ (by simp only [List.setIfInBounds_toArray, List.set_cons_zero, List.set_cons_succ]) | exact blk_put BK140.out _ _ (by simp only [List.setIfInBounds_toArray, List.set_cons_zero, List.set_cons_succ])) hu26 (by rfl) (by kernel_rfl) ?_))
          go_ret
          exact ⟨by first | rfl | (simp [errW_none, errW_some] <;> rfl) | (simp [*, errW_none, errW_some] <;> rfl), by repeat (first | (with_reducible first | exact HB.out | apply below_alloc | apply pw_below_drewN | apply below_drew1 | refine below_set ?_ GE116.out | refine below_set ?_ GE140.out) | exact HB.out)⟩

end Go.Proofs.Ytoacomiijohpmaa.P
