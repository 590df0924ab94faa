/-
  The reference's Read, walked. Conditions: at most 1000000 bytes.
-/
import Derived.Test.YtaehonmfoanloaaDoorRfAll
import Derived.Test.YtaehonmfoanloaaDoorRvAll
import Derived.Deep.DeepCutAuto
import Derived.Deep.CutBlock
namespace Go.Proofs.YtaehonmfoanloaaDoor.Hand
open Go.RowKit Go.Proofs.YtaehonmfoanloaaDoorW.PrintWords Go.Proofs.YtaehonmfoanloaaDoor.RdW Go.Proofs.YtaehonmfoanloaaDoor.PA
set_option maxHeartbeats 1000000
set_option maxRecDepth 100000
set_option linter.all false
theorem rknown_at (t : Int) (w : World) : Calls Tryd.prog 29 #[.int .i64 t] w fun ee w' => ee = .returned (.bool (knownB t)) ∧ Below w.heap.size w w' :=
  (ddiref05_Known.calls t _ w (rKnown_eq t)).mono fun _ _ h => ⟨h.1, h.2.below⟩
theorem rread_unknown (t : Int) (s : ByteArray) (hk : knownB t = false) (w : World) :
    Calls Tryd.prog 19 #[.int .i64 t, .string s] w fun ee w' => ee = .returned (.tuple #[D.v D.z, .int .i64 4]) ∧ Below w.heap.size w w' := by
  have hu := Tryd.underlying26
  have hu2 := Tryd.underlying24
  have HB : Aside0 ((w.alloc (.cells D.z.cells 26)).heap[w.heap.size]? = some (.cells D.z.cells 26 (0, 0))) := ⟨new_blk w _⟩
  have HW : Aside0 (Below w.heap.size w (w.alloc (.cells D.z.cells 26))) := ⟨al (Below.refl _ _) _⟩
  go_enter Tryd.func19, Tryd.ntmps19
  go_wp2_with fail
  refine (rknown_at t _).mono ?_
  rintro e_ w1 ⟨rfl, hb⟩
  rw [hk]
  have HB' := Aside0.mk ((hb.block _ (lt_of_blk HB.out)).trans HB.out)
  have HW' := Aside0.mk (HW.out.trans (hb.mono HW.out.size))
  clear HB HW hb
  obtain ⟨hd, hg⟩ := cells_of_blk HB'.out
  dsimp only [D.z, D.cells] at hd
  go_wp2_with fail
  have f2 := set13 (show w1.heap[w.heap.size]? = some (.cells #[.bool false, .int .u64 0, .int .u64 0, .string ⟨#[]⟩, .string ⟨#[]⟩, .string ⟨#[]⟩, .int .i64 0, .int .i64 0, .int .i64 0, .int .i64 0, .int .i64 0, .int .i64 0, .int .u64 0] 26 (0, 0)) from HB'.out) (.bool false) (.int .u64 0) (.int .u64 0) (.string ⟨#[]⟩) (.string ⟨#[]⟩) (.string ⟨#[]⟩) (.int .i64 0) (.int .i64 0) (.int .i64 0) (.int .i64 0) (.int .i64 0) (.int .i64 0) (.int .u64 0)
  have f1 := new13 HW'.out (Nat.le_refl _) (.bool false) (.int .u64 0) (.int .u64 0) (.string ⟨#[]⟩) (.string ⟨#[]⟩) (.string ⟨#[]⟩) (.int .i64 0) (.int .i64 0) (.int .i64 0) (.int .i64 0) (.int .i64 0) (.int .i64 0) (.int .u64 0)
  exact bodyPost_ret (results_ct rfl _ _ w.heap.size 26 _ (0, 0) _ rfl f2 Tryd.underlying26 rfl (by kernel_rfl)) rfl ⟨rfl, f1⟩

/-- The result, the data and the cursor. -/
structure Rd3 (w W : World) (g : Nat) (cs : Array Value) (a e : Int) : Prop where
  below : Below w.heap.size w W
  res : W.heap[w.heap.size]? = some (.cells #[.bool false, .int .u64 0, .int .u64 0, .string ⟨#[]⟩, .string ⟨#[]⟩, .string ⟨#[]⟩, .int .i64 0, .int .i64 0, .int .i64 0, .int .i64 0, .int .i64 0, .int .i64 0, .int .u64 0] 26 (0, 0))
  dat : W.heap[g]? = some (.cells cs 26 (0, 0))
  cur : W.heap[g + 1]? = some (.cells #[.int .i64 a, .int .i64 e] 67 (0, 0))
theorem Rd3.new {w w2 : World} (hb : Below w.heap.size w w2) (hr : w2.heap[w.heap.size]? = some (.cells D.z.cells 26 (0, 0))) (cs : Array Value) (a e : Int) : Rd3 w ((w2.alloc (.cells cs 26)).alloc (.cells #[.int .i64 a, .int .i64 e] 67)) w2.heap.size cs a e :=
  ⟨al (al hb _) _, alloc_keep (alloc_keep hr), alloc_keep (new_blk w2 _), new_at _ _ (by show _ = (w2.heap.push _).size; simp)⟩
theorem Rd3.call {w W V : World} {g : Nat} {cs : Array Value} {a e : Int} (h : Rd3 w W g cs a e) (hb : Below W.heap.size W V) : Rd3 w V g cs a e :=
  ⟨h.below.trans (hb.mono h.below.size), (hb.block _ (lt_of_blk h.res)).trans h.res, (hb.block _ (lt_of_blk h.dat)).trans h.dat, (hb.block _ (lt_of_blk h.cur)).trans h.cur⟩
theorem blk_drew {W : World} {g : Nat} {o : Option Obj} (h : W.heap[g]? = o) : W.drew.heap[g]? = o := h
theorem set13d {V : World} {g : Nat} {T : TypeId} {x0 x1 x2 x3 x4 x5 x6 x7 x8 x9 x10 x11 x12 : Value} (h : V.heap[g]? = some (.cells #[x0, x1, x2, x3, x4, x5, x6, x7, x8, x9, x10, x11, x12] T (0, 0))) (y0 y1 y2 y3 y4 y5 y6 y7 y8 y9 y10 y11 y12 : Value) : (((((((((((((V.setCell ⟨g, 0, none⟩ y0).setCell ⟨g, 1, none⟩ y1).setCell ⟨g, 2, none⟩ y2).setCell ⟨g, 3, none⟩ y3).setCell ⟨g, 4, none⟩ y4).setCell ⟨g, 5, none⟩ y5).setCell ⟨g, 6, none⟩ y6).setCell ⟨g, 7, none⟩ y7).setCell ⟨g, 8, none⟩ y8).setCell ⟨g, 9, none⟩ y9).setCell ⟨g, 10, none⟩ y10).setCell ⟨g, 11, none⟩ y11).setCell ⟨g, 12, none⟩ y12).drew.heap[g]? = some (.cells #[y0, y1, y2, y3, y4, y5, y6, y7, y8, y9, y10, y11, y12] T (0, 0)) := blk_drew (set13 h y0 y1 y2 y3 y4 y5 y6 y7 y8 y9 y10 y11 y12)
theorem new13d {w V : World} (h : Below w.heap.size w V) {b : Nat} (hb : w.heap.size ≤ b) (y0 y1 y2 y3 y4 y5 y6 y7 y8 y9 y10 y11 y12 : Value) : Below w.heap.size w (((((((((((((V.setCell ⟨b, 0, none⟩ y0).setCell ⟨b, 1, none⟩ y1).setCell ⟨b, 2, none⟩ y2).setCell ⟨b, 3, none⟩ y3).setCell ⟨b, 4, none⟩ y4).setCell ⟨b, 5, none⟩ y5).setCell ⟨b, 6, none⟩ y6).setCell ⟨b, 7, none⟩ y7).setCell ⟨b, 8, none⟩ y8).setCell ⟨b, 9, none⟩ y9).setCell ⟨b, 10, none⟩ y10).setCell ⟨b, 11, none⟩ y11).setCell ⟨b, 12, none⟩ y12).drew := dr (new13 h hb y0 y1 y2 y3 y4 y5 y6 y7 y8 y9 y10 y11 y12)
theorem rread_err (t : Int) (s : ByteArray) (hk : knownB t = true) (n : Int) (hn : n ≠ 0)
    (hF : ∀ W : World, Calls Tryd.prog 50 #[.int .i64 t, .string s, .agg #[.int .i64 0, .int .i64 0]] W fun ee w' => (∃ Y a, ee = .returned (.tuple #[D.v Y, .agg #[.int .i64 a, .int .i64 n]])) ∧ Below W.heap.size W w') (w : World) :
    Calls Tryd.prog 19 #[.int .i64 t, .string s] w fun ee w' => ee = .returned (.tuple #[D.v D.z, .int .i64 n]) ∧ Below w.heap.size w w' := by
  have HK := Aside0.mk hk
  have HF := Aside0.mk hF
  clear hk hF
  have hnb : (n == 0) = false := beq_eq_false_iff_ne.2 hn
  have hnn : (n != 0) = true := by simp [hn]
  have hu := Tryd.underlying26
  have hu2 := Tryd.underlying24
  have hu3 := Tryd.underlying67
  have HB : Aside0 ((w.alloc (.cells D.z.cells 26)).heap[w.heap.size]? = some (.cells D.z.cells 26 (0, 0))) := ⟨new_blk w _⟩
  have HW : Aside0 (Below w.heap.size w (w.alloc (.cells D.z.cells 26))) := ⟨al (Below.refl _ _) _⟩
  go_enter Tryd.func19, Tryd.ntmps19
  go_wp2_with fail
  refine (rknown_at t _).mono ?_
  rintro e_ w1 ⟨rfl, hb⟩
  rw [HK.out]
  have HB1 := Aside0.mk ((hb.block _ (lt_of_blk HB.out)).trans HB.out)
  have HW1 := Aside0.mk (HW.out.trans (hb.mono HW.out.size))
  clear HB HW hb
  go_wp2_with fail
  refine (HF.out _).mono ?_
  rintro e_ w2 ⟨⟨⟨y0, y1, y2, y3, y4, y5, y6, y7, y8, y9, y10, y11, y12⟩, a, rfl⟩, hb⟩
  dsimp only [D.v, D.cells]
  have HB := Aside0.mk ((hb.block _ (lt_of_blk HB1.out)).trans HB1.out)
  have HW := Aside0.mk (HW1.out.trans (hb.mono HW1.out.size))
  clear HB1 HW1 hb HF
  have hlt := lt_of_blk HB.out
  go_wp2_with fail
  have HR := Aside0.mk (Rd3.new HW.out HB.out #[.bool y0, .int .u64 y1, .int .u64 y2, .string y3, .string y4, .string y5, .int .i64 y6, .int .i64 y7, .int .i64 y8, .int .i64 y9, .int .i64 y10, .int .i64 y11, .int .u64 y12] a n)
  clear HB HW
  generalize ((w2.alloc (.cells #[.bool y0, .int .u64 y1, .int .u64 y2, .string y3, .string y4, .string y5, .int .i64 y6, .int .i64 y7, .int .i64 y8, .int .i64 y9, .int .i64 y10, .int .i64 y11, .int .u64 y12] 26)).alloc (.cells #[.int .i64 a, .int .i64 n] 67)) = W at *
  generalize w2.heap.size = g at *
  obtain ⟨hd, hg⟩ := cells_of_blk HR.out.res
  obtain ⟨hc, hf⟩ := cells_of_blk HR.out.cur
  obtain ⟨hp, hq⟩ := cells_of_blk HR.out.dat
  go_region
  all_goals
    go_wp2
    have f2 := set13d HR.out.res (.bool false) (.int .u64 0) (.int .u64 0) (.string ⟨#[]⟩) (.string ⟨#[]⟩) (.string ⟨#[]⟩) (.int .i64 0) (.int .i64 0) (.int .i64 0) (.int .i64 0) (.int .i64 0) (.int .i64 0) (.int .u64 0)
    have f1 := new13d HR.out.below (Nat.le_refl _) (.bool false) (.int .u64 0) (.int .u64 0) (.string ⟨#[]⟩) (.string ⟨#[]⟩) (.string ⟨#[]⟩) (.int .i64 0) (.int .i64 0) (.int .i64 0) (.int .i64 0) (.int .i64 0) (.int .i64 0) (.int .u64 0)
    exact bodyPost_ret (results_ct rfl _ _ w.heap.size 26 _ (0, 0) _ rfl f2 Tryd.underlying26 rfl (by kernel_rfl)) rfl ⟨rfl, f1⟩
theorem rread_trail (t : Int) (s : ByteArray) (hk : knownB t = true) (y0 : Bool) (y1 y2 : Int) (y3 y4 y5 : ByteArray) (y6 y7 y8 y9 y10 y11 y12 a : Int) (hn : a < (s.size : Int))
    (hF : ∀ W : World, Calls Tryd.prog 50 #[.int .i64 t, .string s, .agg #[.int .i64 0, .int .i64 0]] W fun ee w' => ee = .returned (.tuple #[.agg #[.bool y0, .int .u64 y1, .int .u64 y2, .string y3, .string y4, .string y5, .int .i64 y6, .int .i64 y7, .int .i64 y8, .int .i64 y9, .int .i64 y10, .int .i64 y11, .int .u64 y12], .agg #[.int .i64 a, .int .i64 0]]) ∧ Below W.heap.size W w') (w : World) :
    Calls Tryd.prog 19 #[.int .i64 t, .string s] w fun ee w' => ee = .returned (.tuple #[D.v D.z, .int .i64 8]) ∧ Below w.heap.size w w' := by
  have HK := Aside0.mk hk
  have HF := Aside0.mk hF
  clear hk hF
  have hab : decide (a < (s.size : Int)) = true := decide_eq_true hn
  have hu := Tryd.underlying26
  have hu2 := Tryd.underlying24
  have hu3 := Tryd.underlying67
  have HB : Aside0 ((w.alloc (.cells D.z.cells 26)).heap[w.heap.size]? = some (.cells D.z.cells 26 (0, 0))) := ⟨new_blk w _⟩
  have HW : Aside0 (Below w.heap.size w (w.alloc (.cells D.z.cells 26))) := ⟨al (Below.refl _ _) _⟩
  go_enter Tryd.func19, Tryd.ntmps19
  go_wp2_with fail
  refine (rknown_at t _).mono ?_
  rintro e_ w1 ⟨rfl, hb⟩
  rw [HK.out]
  have HB1 := Aside0.mk ((hb.block _ (lt_of_blk HB.out)).trans HB.out)
  have HW1 := Aside0.mk (HW.out.trans (hb.mono HW.out.size))
  clear HB HW hb
  go_wp2_with fail
  refine (HF.out _).mono ?_
  rintro e_ w2 ⟨rfl, hb⟩
  have HB := Aside0.mk ((hb.block _ (lt_of_blk HB1.out)).trans HB1.out)
  have HW := Aside0.mk (HW1.out.trans (hb.mono HW1.out.size))
  clear HB1 HW1 hb HF
  have hlt := lt_of_blk HB.out
  go_upto_region 4 with (fail)
  have HR := Aside0.mk (Rd3.new HW.out HB.out #[.bool y0, .int .u64 y1, .int .u64 y2, .string y3, .string y4, .string y5, .int .i64 y6, .int .i64 y7, .int .i64 y8, .int .i64 y9, .int .i64 y10, .int .i64 y11, .int .u64 y12] a 0)
  clear HB HW
  generalize ((w2.alloc (.cells #[.bool y0, .int .u64 y1, .int .u64 y2, .string y3, .string y4, .string y5, .int .i64 y6, .int .i64 y7, .int .i64 y8, .int .i64 y9, .int .i64 y10, .int .i64 y11, .int .u64 y12] 26)).alloc (.cells #[.int .i64 a, .int .i64 0] 67)) = W at *
  generalize w2.heap.size = g at *
  obtain ⟨hd, hg⟩ := cells_of_blk HR.out.res
  obtain ⟨hc, hf⟩ := cells_of_blk HR.out.cur
  obtain ⟨hp, hq⟩ := cells_of_blk HR.out.dat
  go_wp2
  have f2 := set13 HR.out.res (.bool false) (.int .u64 0) (.int .u64 0) (.string ⟨#[]⟩) (.string ⟨#[]⟩) (.string ⟨#[]⟩) (.int .i64 0) (.int .i64 0) (.int .i64 0) (.int .i64 0) (.int .i64 0) (.int .i64 0) (.int .u64 0)
  have f1 := new13 HR.out.below (Nat.le_refl _) (.bool false) (.int .u64 0) (.int .u64 0) (.string ⟨#[]⟩) (.string ⟨#[]⟩) (.string ⟨#[]⟩) (.int .i64 0) (.int .i64 0) (.int .i64 0) (.int .i64 0) (.int .i64 0) (.int .i64 0) (.int .u64 0)
  exact bodyPost_ret (results_ct rfl _ _ w.heap.size 26 _ (0, 0) _ rfl f2 Tryd.underlying26 rfl (by kernel_rfl)) rfl ⟨rfl, f1⟩
theorem rread_bad (t : Int) (s : ByteArray) (hk : knownB t = true) (y0 : Bool) (y1 y2 : Int) (y3 y4 y5 : ByteArray) (y6 y7 y8 y9 y10 y11 y12 a : Int) (hn : ¬ a < (s.size : Int)) (hV : ∀ W : World, Calls Tryd.prog 15 #[.int .i64 t, .agg #[.bool y0, .int .u64 y1, .int .u64 y2, .string y3, .string y4, .string y5, .int .i64 y6, .int .i64 y7, .int .i64 y8, .int .i64 y9, .int .i64 y10, .int .i64 y11, .int .u64 y12]] W fun ee w' => ee = .returned (.bool false) ∧ Below W.heap.size W w')
    (hF : ∀ W : World, Calls Tryd.prog 50 #[.int .i64 t, .string s, .agg #[.int .i64 0, .int .i64 0]] W fun ee w' => ee = .returned (.tuple #[.agg #[.bool y0, .int .u64 y1, .int .u64 y2, .string y3, .string y4, .string y5, .int .i64 y6, .int .i64 y7, .int .i64 y8, .int .i64 y9, .int .i64 y10, .int .i64 y11, .int .u64 y12], .agg #[.int .i64 a, .int .i64 0]]) ∧ Below W.heap.size W w') (w : World) :
    Calls Tryd.prog 19 #[.int .i64 t, .string s] w fun ee w' => ee = .returned (.tuple #[D.v D.z, .int .i64 5]) ∧ Below w.heap.size w w' := by
  have HK := Aside0.mk hk
  have HF := Aside0.mk hF
  clear hk hF
  have HV := Aside0.mk hV
  clear hV
  have hab : decide (a < (s.size : Int)) = false := decide_eq_false hn
  have hu := Tryd.underlying26
  have hu2 := Tryd.underlying24
  have hu3 := Tryd.underlying67
  have HB : Aside0 ((w.alloc (.cells D.z.cells 26)).heap[w.heap.size]? = some (.cells D.z.cells 26 (0, 0))) := ⟨new_blk w _⟩
  have HW : Aside0 (Below w.heap.size w (w.alloc (.cells D.z.cells 26))) := ⟨al (Below.refl _ _) _⟩
  go_enter Tryd.func19, Tryd.ntmps19
  go_wp2_with fail
  refine (rknown_at t _).mono ?_
  rintro e_ w1 ⟨rfl, hb⟩
  rw [HK.out]
  have HB1 := Aside0.mk ((hb.block _ (lt_of_blk HB.out)).trans HB.out)
  have HW1 := Aside0.mk (HW.out.trans (hb.mono HW.out.size))
  clear HB HW hb
  go_wp2_with fail
  refine (HF.out _).mono ?_
  rintro e_ w2 ⟨rfl, hb⟩
  have HB := Aside0.mk ((hb.block _ (lt_of_blk HB1.out)).trans HB1.out)
  have HW := Aside0.mk (HW1.out.trans (hb.mono HW1.out.size))
  clear HB1 HW1 hb HF
  have hlt := lt_of_blk HB.out
  go_wp2_with fail
  have HR := Aside0.mk (Rd3.new HW.out HB.out #[.bool y0, .int .u64 y1, .int .u64 y2, .string y3, .string y4, .string y5, .int .i64 y6, .int .i64 y7, .int .i64 y8, .int .i64 y9, .int .i64 y10, .int .i64 y11, .int .u64 y12] a 0)
  clear HB HW
  generalize ((w2.alloc (.cells #[.bool y0, .int .u64 y1, .int .u64 y2, .string y3, .string y4, .string y5, .int .i64 y6, .int .i64 y7, .int .i64 y8, .int .i64 y9, .int .i64 y10, .int .i64 y11, .int .u64 y12] 26)).alloc (.cells #[.int .i64 a, .int .i64 0] 67)) = W at *
  generalize w2.heap.size = g at *
  obtain ⟨hd, hg⟩ := cells_of_blk HR.out.res
  obtain ⟨hc, hf⟩ := cells_of_blk HR.out.cur
  obtain ⟨hp, hq⟩ := cells_of_blk HR.out.dat
  go_wp2_with fail
  refine (HV.out _).mono ?_
  rintro e_ w3 ⟨rfl, hb⟩
  have HR' := Aside0.mk (HR.out.call hb)
  clear HR hd hg hc hf hp hq hb HV
  have HR := HR'
  clear HR'
  obtain ⟨hd, hg⟩ := cells_of_blk HR.out.res
  obtain ⟨hp, hq⟩ := cells_of_blk HR.out.dat
  have hlt3 := lt_of_blk HR.out.dat
  go_wp2
  have f2 := set13 HR.out.res (.bool false) (.int .u64 0) (.int .u64 0) (.string ⟨#[]⟩) (.string ⟨#[]⟩) (.string ⟨#[]⟩) (.int .i64 0) (.int .i64 0) (.int .i64 0) (.int .i64 0) (.int .i64 0) (.int .i64 0) (.int .u64 0)
  have f1 := new13 HR.out.below (Nat.le_refl _) (.bool false) (.int .u64 0) (.int .u64 0) (.string ⟨#[]⟩) (.string ⟨#[]⟩) (.string ⟨#[]⟩) (.int .i64 0) (.int .i64 0) (.int .i64 0) (.int .i64 0) (.int .i64 0) (.int .i64 0) (.int .u64 0)
  exact bodyPost_ret (results_ct rfl _ _ w.heap.size 26 _ (0, 0) _ rfl f2 Tryd.underlying26 rfl (by kernel_rfl)) rfl ⟨rfl, f1⟩
theorem rread_good (t : Int) (s : ByteArray) (hk : knownB t = true) (y0 : Bool) (y1 y2 : Int) (y3 y4 y5 : ByteArray) (y6 y7 y8 y9 y10 y11 y12 a : Int) (hn : ¬ a < (s.size : Int)) (hV : ∀ W : World, Calls Tryd.prog 15 #[.int .i64 t, .agg #[.bool y0, .int .u64 y1, .int .u64 y2, .string y3, .string y4, .string y5, .int .i64 y6, .int .i64 y7, .int .i64 y8, .int .i64 y9, .int .i64 y10, .int .i64 y11, .int .u64 y12]] W fun ee w' => ee = .returned (.bool true) ∧ Below W.heap.size W w')
    (hF : ∀ W : World, Calls Tryd.prog 50 #[.int .i64 t, .string s, .agg #[.int .i64 0, .int .i64 0]] W fun ee w' => ee = .returned (.tuple #[.agg #[.bool y0, .int .u64 y1, .int .u64 y2, .string y3, .string y4, .string y5, .int .i64 y6, .int .i64 y7, .int .i64 y8, .int .i64 y9, .int .i64 y10, .int .i64 y11, .int .u64 y12], .agg #[.int .i64 a, .int .i64 0]]) ∧ Below W.heap.size W w') (w : World) :
    Calls Tryd.prog 19 #[.int .i64 t, .string s] w fun ee w' => ee = .returned (.tuple #[.agg #[.bool y0, .int .u64 y1, .int .u64 y2, .string y3, .string y4, .string y5, .int .i64 y6, .int .i64 y7, .int .i64 y8, .int .i64 y9, .int .i64 y10, .int .i64 y11, .int .u64 y12], .int .i64 0]) ∧ Below w.heap.size w w' := by
  have HK := Aside0.mk hk
  have HF := Aside0.mk hF
  clear hk hF
  have HV := Aside0.mk hV
  clear hV
  have hab : decide (a < (s.size : Int)) = false := decide_eq_false hn
  have hu := Tryd.underlying26
  have hu2 := Tryd.underlying24
  have hu3 := Tryd.underlying67
  have HB : Aside0 ((w.alloc (.cells D.z.cells 26)).heap[w.heap.size]? = some (.cells D.z.cells 26 (0, 0))) := ⟨new_blk w _⟩
  have HW : Aside0 (Below w.heap.size w (w.alloc (.cells D.z.cells 26))) := ⟨al (Below.refl _ _) _⟩
  go_enter Tryd.func19, Tryd.ntmps19
  go_wp2_with fail
  refine (rknown_at t _).mono ?_
  rintro e_ w1 ⟨rfl, hb⟩
  rw [HK.out]
  have HB1 := Aside0.mk ((hb.block _ (lt_of_blk HB.out)).trans HB.out)
  have HW1 := Aside0.mk (HW.out.trans (hb.mono HW.out.size))
  clear HB HW hb
  go_wp2_with fail
  refine (HF.out _).mono ?_
  rintro e_ w2 ⟨rfl, hb⟩
  have HB := Aside0.mk ((hb.block _ (lt_of_blk HB1.out)).trans HB1.out)
  have HW := Aside0.mk (HW1.out.trans (hb.mono HW1.out.size))
  clear HB1 HW1 hb HF
  have hlt := lt_of_blk HB.out
  go_wp2_with fail
  have HR := Aside0.mk (Rd3.new HW.out HB.out #[.bool y0, .int .u64 y1, .int .u64 y2, .string y3, .string y4, .string y5, .int .i64 y6, .int .i64 y7, .int .i64 y8, .int .i64 y9, .int .i64 y10, .int .i64 y11, .int .u64 y12] a 0)
  clear HB HW
  generalize ((w2.alloc (.cells #[.bool y0, .int .u64 y1, .int .u64 y2, .string y3, .string y4, .string y5, .int .i64 y6, .int .i64 y7, .int .i64 y8, .int .i64 y9, .int .i64 y10, .int .i64 y11, .int .u64 y12] 26)).alloc (.cells #[.int .i64 a, .int .i64 0] 67)) = W at *
  generalize w2.heap.size = g at *
  obtain ⟨hd, hg⟩ := cells_of_blk HR.out.res
  obtain ⟨hc, hf⟩ := cells_of_blk HR.out.cur
  obtain ⟨hp, hq⟩ := cells_of_blk HR.out.dat
  go_wp2_with fail
  refine (HV.out _).mono ?_
  rintro e_ w3 ⟨rfl, hb⟩
  have HR' := Aside0.mk (HR.out.call hb)
  clear HR hd hg hc hf hp hq hb HV
  have HR := HR'
  clear HR'
  obtain ⟨hd, hg⟩ := cells_of_blk HR.out.res
  obtain ⟨hp, hq⟩ := cells_of_blk HR.out.dat
  have hlt3 := lt_of_blk HR.out.dat
  go_wp2
  have f2 := set13 HR.out.res (.bool y0) (.int .u64 y1) (.int .u64 y2) (.string y3) (.string y4) (.string y5) (.int .i64 y6) (.int .i64 y7) (.int .i64 y8) (.int .i64 y9) (.int .i64 y10) (.int .i64 y11) (.int .u64 y12)
  have f1 := new13 HR.out.below (Nat.le_refl _) (.bool y0) (.int .u64 y1) (.int .u64 y2) (.string y3) (.string y4) (.string y5) (.int .i64 y6) (.int .i64 y7) (.int .i64 y8) (.int .i64 y9) (.int .i64 y10) (.int .i64 y11) (.int .u64 y12)
  exact bodyPost_ret (results_ct rfl _ _ w.heap.size 26 _ (0, 0) _ rfl f2 Tryd.underlying26 rfl (by kernel_rfl)) rfl ⟨rfl, f1⟩
theorem readF_len : ∀ (fs r : List UInt8) (x y : D) (q : List UInt8), readF fs r x = .ok (y, q) → q.length ≤ r.length
  | [], r, x, y, q, h => by
    simp only [readF, Except.ok.injEq, Prod.mk.injEq] at h
    rw [h.2]; exact Nat.le_refl _
  | c :: cs, r, x, y, q, h => by
    cases hr : rField c r x with
    | error n => rw [readF_no hr] at h; cases h
    | ok v =>
      obtain ⟨z, p⟩ := v
      rw [readF_ok hr] at h
      exact Nat.le_trans (readF_len cs p z y q h) (rField_suf hr).length_le
theorem rread_sp (t : Int) (s : ByteArray) (hs : s.size ≤ 1000000) (w : World) :
    Calls Tryd.prog 19 #[.int .i64 t, .string s] w fun e w' => e = .returned (.tuple #[(readS t s.data.toList).1.v, .int .i64 (readS t s.data.toList).2]) ∧ Below w.heap.size w w' := by
  cases hk : knownB t with
  | false =>
    rw [show readS t s.data.toList = (D.z, 4) by unfold readS; rw [hk]; rfl]
    exact rread_unknown t s hk w
  | true =>
    have hF := fun W => rfields_sp t s hs W hk
    have hlen : s.data.toList.length = s.size := by rw [Array.length_toList]; rfl
    unfold readS
    rw [hk, if_pos rfl]
    unfold FitF at hF
    cases hr : readF (flds t) s.data.toList D.z with
    | error n =>
      rw [hr] at hF
      have hn : n ≠ 0 := by
        intro e0
        exact readF_err (flds t) _ _ _ (flds_all t hk) hr e0
      exact rread_err t s hk n hn (fun W => (hF W).mono fun ee w' hh => ⟨(by
        obtain ⟨Y, a, e, h1, h2⟩ := hh.1
        rcases h2 with ⟨m, hm, rfl, _⟩ | ⟨rest, hm, _⟩
        · injection hm with hm; subst hm; exact ⟨Y, a, h1⟩
        · cases hm), hh.2⟩) w
    | ok v =>
      obtain ⟨⟨y0, y1, y2, y3, y4, y5, y6, y7, y8, y9, y10, y11, y12⟩, rest⟩ := v
      rw [hr] at hF
      have hF' : ∀ W : World, Calls Tryd.prog 50 #[.int .i64 t, .string s, .agg #[.int .i64 0, .int .i64 0]] W fun ee w' => ee = .returned (.tuple #[.agg #[.bool y0, .int .u64 y1, .int .u64 y2, .string y3, .string y4, .string y5, .int .i64 y6, .int .i64 y7, .int .i64 y8, .int .i64 y9, .int .i64 y10, .int .i64 y11, .int .u64 y12], .agg #[.int .i64 ((s.size - rest.length : Nat) : Int), .int .i64 0]]) ∧ Below W.heap.size W w' := fun W => (hF W).mono fun ee w' hh => ⟨(by
        obtain ⟨Y, a, e, h1, h2⟩ := hh.1
        rcases h2 with ⟨m, hm, _⟩ | ⟨q, hm, ha, he⟩
        · cases hm
        · simp only [Except.ok.injEq, Prod.mk.injEq] at hm
          obtain ⟨rfl, rfl⟩ := hm
          rw [h1, ha, he]; rfl), hh.2⟩
      clear hF
      have hl := readF_len _ _ _ _ _ hr
      rw [hlen] at hl
      show Calls _ _ _ w fun e w' => e = .returned (.tuple #[(if rest = [] then (if validS t _ then (_, 0) else (D.z, 5)) else (D.z, 8)).1.v, .int .i64 (if rest = [] then (if validS t _ then (_, 0) else (D.z, 5)) else (D.z, 8)).2]) ∧ _
      by_cases h0 : rest = []
      · rw [if_pos h0]
        have hn : ¬ ((s.size - rest.length : Nat) : Int) < (s.size : Int) := by rw [h0]; simp
        obtain ⟨s1, s2, s3, s4⟩ := readF_small _ _ _ _ _ small_z hr
        have hV := fun W => rvalid_known rsp t _ s1 s2 s3 s4 W hk
        cases hv : validS t ⟨y0, y1, y2, y3, y4, y5, y6, y7, y8, y9, y10, y11, y12⟩ with
        | true =>
          rw [hv] at hV
          exact rread_good t s hk y0 y1 y2 y3 y4 y5 y6 y7 y8 y9 y10 y11 y12 _ hn hV hF' w
        | false =>
          rw [hv] at hV
          exact rread_bad t s hk y0 y1 y2 y3 y4 y5 y6 y7 y8 y9 y10 y11 y12 _ hn hV hF' w
      · rw [if_neg h0]
        have hn : ((s.size - rest.length : Nat) : Int) < (s.size : Int) := by
          have : rest.length ≠ 0 := fun e => h0 (List.eq_nil_of_length_eq_zero e)
          omega
        exact rread_trail t s hk y0 y1 y2 y3 y4 y5 y6 y7 y8 y9 y10 y11 y12 _ hn hF' w
end Go.Proofs.YtaehonmfoanloaaDoor.Hand
