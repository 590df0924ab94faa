/-
  The reference's reading of a label, walked. Conditions: each theorem's own.
  The reference's reading of a name, walked. Conditions: each theorem's own.
  The reference's reading, letter by letter: what each call does to the data and the cursor. Conditions: each theorem's own.
  The blocks of the reference's function 'fields' under way. Conditions: each theorem's own.
-/
import Derived.Test.YtaehonmfoanloaaDoorRfEvC
import Derived.Test.YtaehonmfoanloaaDoorRdHand
import Derived.Deep.RegionHeld3
import Derived.Test.YtaehonmfoanloaaDoorRdReadB
namespace Go.Proofs.YtaehonmfoanloaaDoor.Hand
open Go.RowKit Go.Proofs.YtaehonmfoanloaaDoorW.PrintWords Go.Proofs.YtaehonmfoanloaaDoor.RdW Go.Proofs.YtaehonmfoanloaaDoor.PA
set_option maxHeartbeats 40000000
set_option maxRecDepth 100000
set_option linter.all false
/-- The letters of a label, the star among them where it may stand. -/
def rCharsA (al : Bool) : Nat → List UInt8 → List UInt8 → Rs (List UInt8)
  | 0, out, r => .ok (out, r)
  | _ + 1, _, [] => .error 6
  | n + 1, out, b :: r => if (okc (low b) || (b == 42 && al)) = true then rCharsA al n (out ++ [low b]) r else .error 7
theorem nums_bytes2 (l : List UInt8) : strOfNums (l.map fun b => (b.toNat : Int)) = strOf l := by
  apply ByteArray.ext
  apply Array.toList_inj.1
  simp only [strOfNums, strOf, List.map_map, List.toList_toArray]
  exact (List.map_congr_left (g := id) (fun b _ => by simp)).trans (List.map_id _)
theorem rCharsA_no (n : Nat) : ∀ out r, rCharsA false n out r = rChars n out r := by
  induction n with
  | zero => intro out r; cases r <;> rfl
  | succ n ih =>
    intro out r
    cases r with
    | nil => rfl
    | cons b r =>
      rw [rCharsA, rChars, Bool.and_false, Bool.or_false]
      by_cases h : okc (low b) = true
      · rw [if_pos h, if_pos h, ih]
      · rw [if_neg h, if_neg h]
theorem rLabel_A (n : Nat) (first : Bool) (r : List UInt8) : rLabel n first r = rCharsA (first && n == 1) n [] r := by
  unfold rLabel
  by_cases ha : (first && n == 1) = true
  · rw [ha, Bool.true_and]
    have hn : n = 1 := by simp at ha; exact ha.2
    subst hn
    cases r with
    | nil => rfl
    | cons b r =>
      by_cases hb : b = 42
      · subst hb; rfl
      · rw [show ((b :: r).head? == some 42) = false by rw [beq_eq_false_iff_ne]; intro g; exact hb (by simpa using g)]
        rw [if_neg (by simp)]
        show rChars 1 [] (b :: r) = if (okc (low b) || (b == 42 && true)) = true then _ else _
        rw [show (b == 42) = false by rw [beq_eq_false_iff_ne]; exact hb, Bool.false_and, Bool.or_false]
        rfl
  · rw [Bool.eq_false_iff.2 ha, rCharsA_no, Bool.false_and, if_neg (by simp)]
theorem rtake_sp (s : ByteArray) (hs : s.size ≤ 1000000) (n p : Nat) (hn : n ≤ 4) (hp : p ≤ s.size) (w : World) :
    Calls Tryd.prog 74 #[.string s, .agg #[.int .i64 (p : Int), .int .i64 0], .int .i64 (n : Int)] w fun e w' => e = .returned (.tuple #[.int .i64 (takeR s (rNum n 0 (rem s p))).1, .agg #[.int .i64 (takeR s (rNum n 0 (rem s p))).2.1, .int .i64 (takeR s (rNum n 0 (rem s p))).2.2]]) ∧ Below w.heap.size w w' := by
  obtain ⟨k, hk⟩ := (Take_ev s hs n p hn hp).rounds
  exact ddiref05_Take.calls k s (p : Int) 0 (n : Int) _ _ _ w hk
theorem rletter_sp (c : UInt8) (b : Bool) (w : World) :
    Calls Tryd.prog 98 #[.int .u8 (c.toNat : Int), .bool b] w fun e w' => e = .returned (.tuple #[.int .u8 ((low c).toNat : Int), .bool (okc (low c) || (c == 42 && b))]) ∧ Below w.heap.size w w' := by
  exact (ddiref05_Letter.calls (c.toNat : Int) b _ _ w (Letter_eq c b)).mono fun e w' h => ⟨h.1, h.2.below⟩
/-- A cursor's block, and the result's. -/
structure Cb (w W : World) (g : Nat) (q e : Int) (g' : Nat) : Prop where
  below : Below w.heap.size w W
  cur : W.heap[g]? = some (.cells #[.int .i64 q, .int .i64 e] 67 (0, 0))
  res : W.heap[g']? = some (.cells #[.int .i64 0, .int .i64 0] 67 (0, 0))
theorem Cb.call {w W V : World} {g g' : Nat} {q e : Int} (h : Cb w W g q e g') (hb : Below W.heap.size W V) : Cb w V g q e g' :=
  ⟨h.below.trans (hb.mono h.below.size), (hb.block _ (lt_of_blk h.cur)).trans h.cur, (hb.block _ (lt_of_blk h.res)).trans h.res⟩
theorem set1 {V : World} {g : Nat} {T : TypeId} {cs : Array Value} (h : V.heap[g]? = some (.cells cs T (0, 0))) (i : Nat) (a : Value) : (V.setCell ⟨g, i, none⟩ a).heap[g]? = some (.cells (cs.setIfInBounds i a) T (0, 0)) := by
  show (V.heap.modify g _)[g]? = _
  rw [Array.getElem?_modify, if_pos rfl, h]
  rfl
theorem set2 {V : World} {g : Nat} {T : TypeId} {x0 x1 : Value} (h : V.heap[g]? = some (.cells #[x0, x1] T (0, 0))) (a b : Value) : ((V.setCell ⟨g, 0, none⟩ a).setCell ⟨g, 1, none⟩ b).heap[g]? = some (.cells #[a, b] T (0, 0)) := set1 (set1 h 0 a) 1 b
theorem far {V : World} {g : Nat} {o : Obj} (h : V.heap[g]? = some o) {b : Nat} (hb : g ≠ b) (i : Nat) (u : Value) : (V.setCell ⟨b, i, none⟩ u).heap[g]? = some o := (Below.heap_setCell _ _ _ _ (by show g ≠ b; exact hb)).trans h
theorem setNew {w W : World} (h : Below w.heap.size w W) {b : Nat} (hb : w.heap.size ≤ b) (o : Nat) (u : Value) : Below w.heap.size w (W.setCell ⟨b, o, none⟩ u) :=
  ⟨h.os, h.tape, h.output, by have := h.size; simpa [World.setCell] using this, fun k hk => (Below.heap_setCell _ _ _ _ (by show k ≠ b; omega)).trans (h.block k hk)⟩
theorem Cb.step {w V : World} {g g' : Nat} {q e : Int} (h : Cb w V g q e g') (hn : g' ≠ g) (hg : w.heap.size ≤ g) (q' e' : Int) : Cb w ((V.setCell ⟨g, 0, none⟩ (.int .i64 q')).setCell ⟨g, 1, none⟩ (.int .i64 e')) g q' e' g' :=
  ⟨setNew (setNew h.below hg _ _) hg _ _, set2 h.cur _ _, far (far h.res hn _ _) hn _ _⟩
theorem Cb.fin {w V : World} {g g' : Nat} {q e : Int} (h : Cb w V g q e g') (hg : w.heap.size ≤ g') (a b : Value) : Below w.heap.size w ((V.setCell ⟨g', 0, none⟩ a).setCell ⟨g', 1, none⟩ b) ∧ ((V.setCell ⟨g', 0, none⟩ a).setCell ⟨g', 1, none⟩ b).heap[g']? = some (.cells #[a, b] 67 (0, 0)) :=
  ⟨setNew (setNew h.below hg _ _) hg _ _, set2 h.res _ _⟩
theorem Cb.finD {w V : World} {g g' : Nat} {q e : Int} (h : Cb w V g q e g') (hg : w.heap.size ≤ g') (a b : Value) : Below w.heap.size w ((V.setCell ⟨g', 0, none⟩ a).setCell ⟨g', 1, none⟩ b).drew ∧ ((V.setCell ⟨g', 0, none⟩ a).setCell ⟨g', 1, none⟩ b).drew.heap[g']? = some (.cells #[a, b] 67 (0, 0)) :=
  ⟨dr (h.fin hg a b).1, (h.fin hg a b).2⟩
theorem Cb.drew {w V : World} {g g' : Nat} {q e : Int} (h : Cb w V g q e g') : Cb w V.drew g q e g' := ⟨dr h.below, h.cur, h.res⟩
/-- A text that was read, and the cursor behind it (wherever it stands after an error). -/
def LFit (s : ByteArray) (r : Rs (List UInt8)) (v : ByteArray) (q c : Int) : Prop := match r with
  | .ok (l, rest) => v = strOf l ∧ q = ((s.size - rest.length : Nat) : Int) ∧ c = 0
  | .error m => v = ⟨#[]⟩ ∧ c = m
theorem lfit_err {s : ByteArray} {r : Rs (List UInt8)} {q m : Int} (h : r = .error m) : LFit s r ⟨#[]⟩ q m := by subst h; exact ⟨rfl, rfl⟩
theorem lfit_ok {s : ByteArray} {r : Rs (List UInt8)} {l rest : List UInt8} {v : ByteArray} {q : Int} (h : r = .ok (l, rest)) (hv : v = strOf l) (hq : q = ((s.size - rest.length : Nat) : Int)) : LFit s r v q 0 := by subst h; exact ⟨hv, hq, rfl⟩
theorem Cb.away {w V : World} {g g' : Nat} {q e : Int} (h : Cb w V g q e g') (hn : g' ≠ g) (hg : w.heap.size ≤ g) (hg' : w.heap.size ≤ g') (q' e' : Int) (o : Obj) :
    Below w.heap.size w (((((V.setCell ⟨g, 0, none⟩ (.int .i64 q')).setCell ⟨g, 1, none⟩ (.int .i64 e')).setCell ⟨g', 0, none⟩ (.int .i64 q')).setCell ⟨g', 1, none⟩ (.int .i64 e')).alloc o).drew ∧ (((((V.setCell ⟨g, 0, none⟩ (.int .i64 q')).setCell ⟨g, 1, none⟩ (.int .i64 e')).setCell ⟨g', 0, none⟩ (.int .i64 q')).setCell ⟨g', 1, none⟩ (.int .i64 e')).alloc o).drew.heap[g']? = some (.cells #[.int .i64 q', .int .i64 e'] 67 (0, 0)) := by
  obtain ⟨f1, f2⟩ := (h.step hn hg q' e').fin hg' (.int .i64 q') (.int .i64 e')
  exact ⟨dr (al f1 _), ((al (Below.refl _ _) o).block _ (lt_of_blk f2)).trans f2⟩
theorem Cb.away2 {w V : World} {g g' : Nat} {q e : Int} (h : Cb w V g q e g') (hn : g' ≠ g) (hg : w.heap.size ≤ g) (hg' : w.heap.size ≤ g') (q' e' q2 e2 : Int) (o : Obj) :
    Below w.heap.size w (((((V.setCell ⟨g, 0, none⟩ (.int .i64 q')).setCell ⟨g, 1, none⟩ (.int .i64 e')).setCell ⟨g', 0, none⟩ (.int .i64 q2)).setCell ⟨g', 1, none⟩ (.int .i64 e2)).alloc o).drew ∧ (((((V.setCell ⟨g, 0, none⟩ (.int .i64 q')).setCell ⟨g, 1, none⟩ (.int .i64 e')).setCell ⟨g', 0, none⟩ (.int .i64 q2)).setCell ⟨g', 1, none⟩ (.int .i64 e2)).alloc o).drew.heap[g']? = some (.cells #[.int .i64 q2, .int .i64 e2] 67 (0, 0)) := by
  obtain ⟨f1, f2⟩ := (h.step hn hg q' e').fin hg' (.int .i64 q2) (.int .i64 e2)
  exact ⟨dr (al f1 _), ((al (Below.refl _ _) _).block _ (lt_of_blk f2)).trans f2⟩
theorem Cb.grown {w V W : World} {g g' : Nat} {q e : Int} {v : Value} {xs : List Int} {base : Nat} (h : Cb w V g q e g') (hk : Kd.R (Kd.int .u8) 5 V base (fun _ => True) v xs) (hb : Below w.heap.size w W) (hg : V.grownBy W v.ownBlock) : Cb w W g q e g' :=
  ⟨hb, (hg.block _ (lt_of_blk h.cur) (Kd.R_ne hk h.cur (by decide))).trans h.cur, (hg.block _ (lt_of_blk h.res) (Kd.R_ne hk h.res (by decide))).trans h.res⟩
theorem rlabel_A (s : ByteArray) (hs : s.size ≤ 1000000) (n p : Nat) (first sa : Bool) (hsa : (first = false ∧ sa = false) ∨ (first = true ∧ (((n : Nat) : Int) == 1) = sa)) (hal : (first && n == 1) = sa) (hn : n ≤ 63) (hp : p ≤ s.size) (w : World) :
    Calls Tryd.prog 90 #[.string s, .agg #[.int .i64 (p : Int), .int .i64 0], .int .i64 (n : Int), .bool first] w fun e w' =>
      (∃ v q c, e = .returned (.tuple #[.string v, .agg #[.int .i64 q, .int .i64 c]]) ∧ LFit s (rLabel n first (rem s p)) v q c) ∧ Below w.heap.size w w' := by
  have hu := Tryd.underlying67
  have HO : Aside0 (Cb w ((w.alloc (.cells #[.int .i64 (p : Int), .int .i64 0] 67)).alloc (.cells #[.int .i64 0, .int .i64 0] 67)) w.heap.size (p : Int) 0 (w.heap.size + 1)) := by
    refine ⟨⟨al (al (Below.refl _ _) _) _, ?_, ?_⟩⟩
    · show ((w.heap.push _).push _)[w.heap.size]? = _
      rw [Array.getElem?_push, Array.getElem?_push]; simp
    · show ((w.heap.push _).push _)[w.heap.size + 1]? = _
      rw [Array.getElem?_push]; simp
  have HT : Aside0 (∀ l rest, rCharsA sa n [] (rem s p) = .ok (l, rest) → rLabel n first (rem s p) = .ok (l, rest)) := ⟨fun l rest h => by rw [rLabel_A, hal, h]⟩
  have HE : Aside0 (∀ m, rCharsA sa n [] (rem s p) = .error m → rLabel n first (rem s p) = .error m) := ⟨fun m h => by rw [rLabel_A, hal, h]⟩
  clear hal
  rcases hsa with ⟨rfl, rfl⟩ | ⟨rfl, hnb⟩
  · go_enter Tryd.func90, Tryd.ntmps90
    go_wp2_with fail
    go_loopw [10, 11] (fun v10 v11 wr => ∃ (i q : Nat) (o : List UInt8), v11 = .int .i64 (i : Int) ∧ Aside0 (i ≤ n) ∧ Aside0 (q ≤ s.size) ∧ Aside0 (o.length = i) ∧ Aside0 (rCharsA false (n - i) o (rem s q) = rCharsA false n [] (rem s p)) ∧ Aside0 (Kd.R (Kd.int .u8) 5 wr w.heap.size (fun _ => True) v10 (o.map fun b => (b.toNat : Int))) ∧ Aside0 (Cb w wr w.heap.size (q : Int) 0 (w.heap.size + 1))) (fun _ v11 _ => n - (RowKit.intOf v11).toNat)
    case atStart => exact ⟨0, p, [], rfl, ⟨Nat.zero_le _⟩, ⟨hp⟩, ⟨rfl⟩, ⟨rfl⟩, ⟨Kd.R_nil _ _ _ _ _⟩, HO⟩
    case round =>
      obtain ⟨i, q, o, rfl, HI, HQ, HL, HC, HK, HB⟩ := hrel
      obtain ⟨hc, hf⟩ := cells_of_blk HB.out.cur
      obtain ⟨hd, hg⟩ := cells_of_blk HB.out.res
      by_cases hlt : i < n
      · have hltI : (i : Int) < (n : Int) := by omega
        go_wp2_with fail
        have ht := rtake_sp s hs 1 q (by omega) HQ.out wr
        cases hr : rem s q with
        | nil =>
          rw [hr, show takeR s (rNum 1 0 []) = (0, (s.size : Int), 6) from rfl] at ht
          refine ht.mono ?_
          clear ht
          rintro e_ w1 ⟨rfl, hb⟩
          replace HB := Aside0.mk (HB.out.call hb)
          clear hb hc hf hd hg
          obtain ⟨hc, hf⟩ := cells_of_blk HB.out.cur
          obtain ⟨hd, hg⟩ := cells_of_blk HB.out.res
          have hlt1 := lt_of_blk HB.out.cur
          have hlt2 := lt_of_blk HB.out.res
          go_wp2_with fail
          go_region
          all_goals
            go_wp2
            obtain ⟨f1, f2⟩ := HB.out.away (by omega) (Nat.le_refl _) (Nat.le_succ _) (s.size : Int) 6 (.cells #[.int .i64 (s.size : Int), .int .i64 6] 67)
            refine bodyPost_ret (results_tc rfl _ _ (w.heap.size + 1) 67 #[.int .i64 (s.size : Int), .int .i64 6] (0, 0) _ rfl f2 Tryd.underlying67 rfl (by kernel_rfl)) rfl ⟨⟨_, _, _, rfl, lfit_err (HE.out 6 ?_)⟩, f1⟩
            rw [← HC.out, hr, show n - i = (n - i - 1) + 1 by omega]; rfl
        | cons b r =>
          have hb := b.toNat_lt
          obtain ⟨b1, b2, b3⟩ := bt_drop (s := s) (i := q) (c := b) (r := r) hr
          have b3 : rem s (q + 1) = r := b3
          rw [hr, show takeR s (rNum 1 0 (b :: r)) = ((b.toNat : Int), ((q + 1 : Nat) : Int), 0) by
            show (((0 * 256 + b.toNat : Nat) : Int), ((s.size - r.length : Nat) : Int), (0 : Int)) = _
            rw [← b3, rem_at s (q + 1) (by omega), Nat.zero_mul, Nat.zero_add]] at ht
          refine ht.mono ?_
          clear ht
          rintro e_ w1 ⟨rfl, hb⟩
          replace HB := Aside0.mk (HB.out.call hb)
          have HK1 := Aside0.mk (Kd.R_below HK.out hb)
          clear hb hc hf hd hg HK
          obtain ⟨hc, hf⟩ := cells_of_blk HB.out.cur
          obtain ⟨hd, hg⟩ := cells_of_blk HB.out.res
          have hlt1 := lt_of_blk HB.out.cur
          have hlt2 := lt_of_blk HB.out.res
          have hm8 : (b.toNat : Int) % 256 = (b.toNat : Int) := by omega
          go_wp2_with fail
          refine (rletter_sp b _ _).mono ?_
          rintro e_ w2 ⟨rfl, hb⟩
          have hq1 : ((q : Int) + 1) = ((q + 1 : Nat) : Int) := by omega
          have HB2 := Aside0.mk (((HB.out.step (by omega) (Nat.le_refl _) ((q : Int) + 1) 0).call (al (Below.refl _ _) (.cells #[.int .i64 ((q : Int) + 1), .int .i64 0] 67))).call hb)
          have HK2 := Aside0.mk (Kd.R_below (Kd.R_alloc (Kd.R_set (Kd.R_set HK1.out HB.out.cur (by decide) 0 (.int .i64 ((q : Int) + 1))) (set1 HB.out.cur 0 (.int .i64 ((q : Int) + 1))) (by decide) 1 (.int .i64 0)) (.cells #[.int .i64 ((q : Int) + 1), .int .i64 0] 67)) hb)
          clear hb hc hf hd hg hlt1 hlt2 HB HK1
          obtain ⟨hc, hf⟩ := cells_of_blk HB2.out.cur
          obtain ⟨hd, hg⟩ := cells_of_blk HB2.out.res
          have hlt1 := lt_of_blk HB2.out.cur
          have hlt2 := lt_of_blk HB2.out.res
          have hstep : rCharsA false (n - i) o (rem s q) = if (okc (low b) || (b == 42 && false)) = true then rCharsA false (n - (i + 1)) (o ++ [low b]) (rem s (q + 1)) else .error 7 := by
            rw [hr, b3, show n - i = (n - (i + 1)) + 1 by omega]; rfl
          have HST := Aside0.mk hstep
          have HQ1 := Aside0.mk (show q + 1 ≤ s.size by omega)
          clear hstep hr b1 b2 b3 hm8 hq1
          generalize hok : (okc (low b) || (b == 42 && false)) = ok at *
          clear hok
          cases ok with
          | false =>
            go_wp2_with fail
            go_region
            all_goals
              go_wp2
              obtain ⟨f1, f2⟩ := HB2.out.finD (Nat.le_succ _) (.int .i64 ((q : Int) + 1)) (.int .i64 7)
              refine bodyPost_ret (results_tc rfl _ _ (w.heap.size + 1) 67 #[.int .i64 ((q : Int) + 1), .int .i64 7] (0, 0) _ rfl f2 Tryd.underlying67 rfl (by kernel_rfl)) rfl ⟨⟨_, _, _, rfl, lfit_err (HE.out 7 ?_)⟩, f1⟩
              rw [← HC.out, HST.out, if_neg (by simp)]
          | true =>
            have hs1 := HST.out
            rw [if_pos rfl] at hs1
            have HS1 := Aside0.mk hs1
            have HLEN := Aside0.mk (show ((o.map fun b => (b.toNat : Int)).length + 1) * 1 ≤ 140737488355328 by rw [List.length_map]; have := HL.out; omega)
            clear hs1
            go_wp2_with (first | ((with_reducible refine gate_builtin (b := .append) (xs := #[.tmp 48, .tmp 50]) rfl ?_); at_builtin; refine Kd.R_append (Kd.int .u8) (w0 := w) w.heap.size rfl (.tmp 48) (.tmp 50) 55 5 (.int .u8 0) 1 rfl Tryd.underlying55 info5 rfl (by decide) (by omega) u10 (o.map fun b => (b.toNat : Int)) ((low b).toNat : Int) [.int .u8 ((low b).toNat : Int)] (fun _ => True) (fun _ => False) rfl rfl ?aP (fun _ hk => hk.elim) ?aF ?aO ?aB ?aS ?aL ?_; (case aP => exact rfl); (case aB => exact HB2.out.below); (case aF => exact (fun _ _ => trivial)); (case aO => exact HK2.out); (case aS => exact HB2.out.below.size); (case aL => exact HLEN.out); intro v205 w6 ho hb hgr hat; have HB3 := Aside0.mk (HB2.out.grown HK2.out hb hgr); have HO3 := Aside0.mk ho; clear ho hb hgr hat hc hf hd hg))
            go_roundw
            case rel =>
              refine ⟨i + 1, q + 1, o ++ [low b], by go_num, ⟨by omega⟩, HQ1, ⟨by rw [List.length_append, HL.out]; rfl⟩, ⟨by rw [← HS1.out]; exact HC.out⟩, ⟨by rw [List.map_append]; exact HO3.out⟩, ?_⟩
              have h := HB3.out
              rw [show ((q : Int) + 1) = ((q + 1 : Nat) : Int) by omega] at h
              exact ⟨h⟩
            case measure => simp [RowKit.intOf]; omega
      · have hltI : ¬ (i : Int) < (n : Int) := by omega
        have hin : n - i = 0 := by omega
        have hfin := HC.out
        rw [hin] at hfin
        have HF := Aside0.mk (HT.out _ _ (hfin.symm.trans (show rCharsA false 0 o (rem s q) = .ok (o, rem s q) from rfl)))
        clear hfin hin
        have hcv := own_string (P := Tryd.prog) Tryd.underlying55 Tryd.underlying5 Tryd.underlying9 (Kd.own_of_R (Kd.R_drew HK.out))
        have hlt1 := lt_of_blk HB.out.cur
        have hlt2 := lt_of_blk HB.out.res
        go_wp2_with fail
        go_region
        all_goals
          go_wp2
          obtain ⟨f1, f2⟩ := HB.out.finD (Nat.le_succ _) (.int .i64 (q : Int)) (.int .i64 0)
          refine bodyPost_ret (results_tc rfl _ _ (w.heap.size + 1) 67 #[.int .i64 (q : Int), .int .i64 0] (0, 0) _ rfl f2 Tryd.underlying67 rfl (by kernel_rfl)) rfl ⟨⟨_, _, _, rfl, lfit_ok HF.out (nums_bytes2 o) ?_⟩, f1⟩
          rw [rem_at s q HQ.out]
  · go_enter Tryd.func90, Tryd.ntmps90
    go_wp2_with fail
    go_loopw [10, 11] (fun v10 v11 wr => ∃ (i q : Nat) (o : List UInt8), v11 = .int .i64 (i : Int) ∧ Aside0 (i ≤ n) ∧ Aside0 (q ≤ s.size) ∧ Aside0 (o.length = i) ∧ Aside0 (rCharsA sa (n - i) o (rem s q) = rCharsA sa n [] (rem s p)) ∧ Aside0 (Kd.R (Kd.int .u8) 5 wr w.heap.size (fun _ => True) v10 (o.map fun b => (b.toNat : Int))) ∧ Aside0 (Cb w wr w.heap.size (q : Int) 0 (w.heap.size + 1))) (fun _ v11 _ => n - (RowKit.intOf v11).toNat)
    case atStart => exact ⟨0, p, [], rfl, ⟨Nat.zero_le _⟩, ⟨hp⟩, ⟨rfl⟩, ⟨rfl⟩, ⟨Kd.R_nil _ _ _ _ _⟩, HO⟩
    case round =>
      obtain ⟨i, q, o, rfl, HI, HQ, HL, HC, HK, HB⟩ := hrel
      obtain ⟨hc, hf⟩ := cells_of_blk HB.out.cur
      obtain ⟨hd, hg⟩ := cells_of_blk HB.out.res
      by_cases hlt : i < n
      · have hltI : (i : Int) < (n : Int) := by omega
        go_wp2_with fail
        have ht := rtake_sp s hs 1 q (by omega) HQ.out wr
        cases hr : rem s q with
        | nil =>
          rw [hr, show takeR s (rNum 1 0 []) = (0, (s.size : Int), 6) from rfl] at ht
          refine ht.mono ?_
          clear ht
          rintro e_ w1 ⟨rfl, hb⟩
          replace HB := Aside0.mk (HB.out.call hb)
          clear hb hc hf hd hg
          obtain ⟨hc, hf⟩ := cells_of_blk HB.out.cur
          obtain ⟨hd, hg⟩ := cells_of_blk HB.out.res
          have hlt1 := lt_of_blk HB.out.cur
          have hlt2 := lt_of_blk HB.out.res
          go_wp2_with fail
          go_region
          all_goals
            go_wp2
            obtain ⟨f1, f2⟩ := HB.out.away (by omega) (Nat.le_refl _) (Nat.le_succ _) (s.size : Int) 6 (.cells #[.int .i64 (s.size : Int), .int .i64 6] 67)
            refine bodyPost_ret (results_tc rfl _ _ (w.heap.size + 1) 67 #[.int .i64 (s.size : Int), .int .i64 6] (0, 0) _ rfl f2 Tryd.underlying67 rfl (by kernel_rfl)) rfl ⟨⟨_, _, _, rfl, lfit_err (HE.out 6 ?_)⟩, f1⟩
            rw [← HC.out, hr, show n - i = (n - i - 1) + 1 by omega]; rfl
        | cons b r =>
          have hb := b.toNat_lt
          obtain ⟨b1, b2, b3⟩ := bt_drop (s := s) (i := q) (c := b) (r := r) hr
          have b3 : rem s (q + 1) = r := b3
          rw [hr, show takeR s (rNum 1 0 (b :: r)) = ((b.toNat : Int), ((q + 1 : Nat) : Int), 0) by
            show (((0 * 256 + b.toNat : Nat) : Int), ((s.size - r.length : Nat) : Int), (0 : Int)) = _
            rw [← b3, rem_at s (q + 1) (by omega), Nat.zero_mul, Nat.zero_add]] at ht
          refine ht.mono ?_
          clear ht
          rintro e_ w1 ⟨rfl, hb⟩
          replace HB := Aside0.mk (HB.out.call hb)
          have HK1 := Aside0.mk (Kd.R_below HK.out hb)
          clear hb hc hf hd hg HK
          obtain ⟨hc, hf⟩ := cells_of_blk HB.out.cur
          obtain ⟨hd, hg⟩ := cells_of_blk HB.out.res
          have hlt1 := lt_of_blk HB.out.cur
          have hlt2 := lt_of_blk HB.out.res
          have hm8 : (b.toNat : Int) % 256 = (b.toNat : Int) := by omega
          go_wp2_with fail
          refine (rletter_sp b _ _).mono ?_
          rintro e_ w2 ⟨rfl, hb⟩
          have hq1 : ((q : Int) + 1) = ((q + 1 : Nat) : Int) := by omega
          have HB2 := Aside0.mk (((HB.out.step (by omega) (Nat.le_refl _) ((q : Int) + 1) 0).call (al (Below.refl _ _) (.cells #[.int .i64 ((q : Int) + 1), .int .i64 0] 67))).call hb)
          have HK2 := Aside0.mk (Kd.R_below (Kd.R_alloc (Kd.R_set (Kd.R_set HK1.out HB.out.cur (by decide) 0 (.int .i64 ((q : Int) + 1))) (set1 HB.out.cur 0 (.int .i64 ((q : Int) + 1))) (by decide) 1 (.int .i64 0)) (.cells #[.int .i64 ((q : Int) + 1), .int .i64 0] 67)) hb)
          clear hb hc hf hd hg hlt1 hlt2 HB HK1
          obtain ⟨hc, hf⟩ := cells_of_blk HB2.out.cur
          obtain ⟨hd, hg⟩ := cells_of_blk HB2.out.res
          have hlt1 := lt_of_blk HB2.out.cur
          have hlt2 := lt_of_blk HB2.out.res
          have hstep : rCharsA sa (n - i) o (rem s q) = if (okc (low b) || (b == 42 && sa)) = true then rCharsA sa (n - (i + 1)) (o ++ [low b]) (rem s (q + 1)) else .error 7 := by
            rw [hr, b3, show n - i = (n - (i + 1)) + 1 by omega]; rfl
          have HST := Aside0.mk hstep
          have HQ1 := Aside0.mk (show q + 1 ≤ s.size by omega)
          clear hstep hr b1 b2 b3 hm8 hq1
          generalize hok : (okc (low b) || (b == 42 && sa)) = ok at *
          clear hok
          cases ok with
          | false =>
            go_wp2_with fail
            go_region
            all_goals
              go_wp2
              obtain ⟨f1, f2⟩ := HB2.out.finD (Nat.le_succ _) (.int .i64 ((q : Int) + 1)) (.int .i64 7)
              refine bodyPost_ret (results_tc rfl _ _ (w.heap.size + 1) 67 #[.int .i64 ((q : Int) + 1), .int .i64 7] (0, 0) _ rfl f2 Tryd.underlying67 rfl (by kernel_rfl)) rfl ⟨⟨_, _, _, rfl, lfit_err (HE.out 7 ?_)⟩, f1⟩
              rw [← HC.out, HST.out, if_neg (by simp)]
          | true =>
            have hs1 := HST.out
            rw [if_pos rfl] at hs1
            have HS1 := Aside0.mk hs1
            have HLEN := Aside0.mk (show ((o.map fun b => (b.toNat : Int)).length + 1) * 1 ≤ 140737488355328 by rw [List.length_map]; have := HL.out; omega)
            clear hs1
            go_wp2_with (first | ((with_reducible refine gate_builtin (b := .append) (xs := #[.tmp 48, .tmp 50]) rfl ?_); at_builtin; refine Kd.R_append (Kd.int .u8) (w0 := w) w.heap.size rfl (.tmp 48) (.tmp 50) 55 5 (.int .u8 0) 1 rfl Tryd.underlying55 info5 rfl (by decide) (by omega) u10 (o.map fun b => (b.toNat : Int)) ((low b).toNat : Int) [.int .u8 ((low b).toNat : Int)] (fun _ => True) (fun _ => False) rfl rfl ?aP (fun _ hk => hk.elim) ?aF ?aO ?aB ?aS ?aL ?_; (case aP => exact rfl); (case aB => exact HB2.out.below); (case aF => exact (fun _ _ => trivial)); (case aO => exact HK2.out); (case aS => exact HB2.out.below.size); (case aL => exact HLEN.out); intro v205 w6 ho hb hgr hat; have HB3 := Aside0.mk (HB2.out.grown HK2.out hb hgr); have HO3 := Aside0.mk ho; clear ho hb hgr hat hc hf hd hg))
            go_roundw
            case rel =>
              refine ⟨i + 1, q + 1, o ++ [low b], by go_num, ⟨by omega⟩, HQ1, ⟨by rw [List.length_append, HL.out]; rfl⟩, ⟨by rw [← HS1.out]; exact HC.out⟩, ⟨by rw [List.map_append]; exact HO3.out⟩, ?_⟩
              have h := HB3.out
              rw [show ((q : Int) + 1) = ((q + 1 : Nat) : Int) by omega] at h
              exact ⟨h⟩
            case measure => simp [RowKit.intOf]; omega
      · have hltI : ¬ (i : Int) < (n : Int) := by omega
        have hin : n - i = 0 := by omega
        have hfin := HC.out
        rw [hin] at hfin
        have HF := Aside0.mk (HT.out _ _ (hfin.symm.trans (show rCharsA sa 0 o (rem s q) = .ok (o, rem s q) from rfl)))
        clear hfin hin
        have hcv := own_string (P := Tryd.prog) Tryd.underlying55 Tryd.underlying5 Tryd.underlying9 (Kd.own_of_R (Kd.R_drew HK.out))
        have hlt1 := lt_of_blk HB.out.cur
        have hlt2 := lt_of_blk HB.out.res
        go_wp2_with fail
        go_region
        all_goals
          go_wp2
          obtain ⟨f1, f2⟩ := HB.out.finD (Nat.le_succ _) (.int .i64 (q : Int)) (.int .i64 0)
          refine bodyPost_ret (results_tc rfl _ _ (w.heap.size + 1) 67 #[.int .i64 (q : Int), .int .i64 0] (0, 0) _ rfl f2 Tryd.underlying67 rfl (by kernel_rfl)) rfl ⟨⟨_, _, _, rfl, lfit_ok HF.out (nums_bytes2 o) ?_⟩, f1⟩
          rw [rem_at s q HQ.out]
theorem rlabel_sp (s : ByteArray) (hs : s.size ≤ 1000000) (n p : Nat) (first : Bool) (hn : n ≤ 63) (hp : p ≤ s.size) (w : World) :
    Calls Tryd.prog 90 #[.string s, .agg #[.int .i64 (p : Int), .int .i64 0], .int .i64 (n : Int), .bool first] w fun e w' =>
      (∃ v q c, e = .returned (.tuple #[.string v, .agg #[.int .i64 q, .int .i64 c]]) ∧ LFit s (rLabel n first (rem s p)) v q c) ∧ Below w.heap.size w w' := by
  refine rlabel_A s hs n p first (first && n == 1) ?_ rfl hn hp w
  cases first
  · exact Or.inl ⟨rfl, rfl⟩
  · refine Or.inr ⟨rfl, ?_⟩
    rw [Bool.true_and, Bool.eq_iff_iff, beq_iff_eq, beq_iff_eq]; omega
end Go.Proofs.YtaehonmfoanloaaDoor.Hand
namespace Go.Proofs.YtaehonmfoanloaaDoor.Hand
open Go.RowKit Go.Proofs.YtaehonmfoanloaaDoorW.PrintWords Go.Proofs.YtaehonmfoanloaaDoor.RdW Go.Proofs.YtaehonmfoanloaaDoor.PA
set_option maxHeartbeats 40000000
set_option maxRecDepth 100000
set_option linter.all false
theorem rLabel_err {n : Nat} {first : Bool} {r : List UInt8} {m : Int} (h : rLabel n first r = .error m) : m ≠ 0 := by
  unfold rLabel at h
  split at h
  · cases h
  · exact rChars_err _ h
theorem rLabel_ok {s : ByteArray} {p n : Nat} {first : Bool} {l rest : List UInt8} (h : rLabel n first (rem s p) = .ok (l, rest)) (hp : p ≤ s.size) : p + n ≤ s.size ∧ rest = rem s (p + n) ∧ l.length = n := by
  obtain ⟨m, h1, h2, h3, _⟩ := rLabel_inv h
  have hl := congrArg List.length h2
  rw [rem_len, List.length_append, h1] at hl
  refine ⟨by omega, ?_, by rw [h3, List.length_map, h1]⟩
  rw [← rem_drop, h2, ← h1]
  simp
theorem rName_step (out : List UInt8) (b : UInt8) (r : List UInt8) (h0 : ¬ b.toNat > 63) (h1 : b ≠ 0) (h2 : ¬ out.length + b.toNat + 2 > 255) : rName (b :: r).length out (b :: r) = match rLabel b.toNat out.isEmpty r with | .error e => .error e | .ok (l, r') => rName r'.length (out ++ l ++ [46]) r' := by
  rw [List.length_cons, rName, if_neg h0, if_neg h1, if_neg h2]
  cases hl : rLabel b.toNat out.isEmpty r with
  | error e => rfl
  | ok v =>
    obtain ⟨l, r'⟩ := v
    have := (rLabel_len _ _ _ _ _ hl).1
    exact rName_fuel _ _ _ _ (by omega) (Nat.le_refl _)
theorem Cb.other {w V : World} {g g' : Nat} {q e : Int} (h : Cb w V g q e g') {d : Nat} (hd : w.heap.size ≤ d) (n1 : g ≠ d) (n2 : g' ≠ d) (i : Nat) (u : Value) : Cb w (V.setCell ⟨d, i, none⟩ u) g q e g' := ⟨setNew h.below hd _ _, far h.cur n1 _ _, far h.res n2 _ _⟩
theorem new_blk (X : World) (o : Obj) : (X.alloc o).heap[X.heap.size]? = some o := by show (X.heap.push _)[X.heap.size]? = _; simp
theorem set_size (V : World) (p : Addr) (u : Value) : (V.setCell p u).heap.size = V.heap.size := by simp [World.setCell]
theorem rname_sp (s : ByteArray) (hs : s.size ≤ 1000000) (p : Nat) (hp : p ≤ s.size) (w : World) :
    Calls Tryd.prog 73 #[.string s, .agg #[.int .i64 (p : Int), .int .i64 0]] w fun e w' =>
      (∃ v q c, e = .returned (.tuple #[.string v, .agg #[.int .i64 q, .int .i64 c]]) ∧ LFit s (readName (rem s p)) v q c) ∧ Below w.heap.size w w' := by
  have hu := Tryd.underlying67
  have HO : Aside0 (Cb w ((w.alloc (.cells #[.int .i64 (p : Int), .int .i64 0] 67)).alloc (.cells #[.int .i64 0, .int .i64 0] 67)) w.heap.size (p : Int) 0 (w.heap.size + 1)) := by
    refine ⟨⟨al (al (Below.refl _ _) _) _, ?_, ?_⟩⟩
    · show ((w.heap.push _).push _)[w.heap.size]? = _
      rw [Array.getElem?_push, Array.getElem?_push]; simp
    · show ((w.heap.push _).push _)[w.heap.size + 1]? = _
      rw [Array.getElem?_push]; simp
  have HNIL : Aside0 ((strOf []).toList = []) := ⟨by rw [toList_by, by_strOf]⟩
  go_enter Tryd.func73, Tryd.ntmps73
  go_wp2_with fail
  go_loopw [6, 7] (fun v6 v7 wr => ∃ (i q : Nat) (o : List UInt8), v7 = .int .i64 (i : Int) ∧ v6 = .string (strOf o) ∧ Aside0 (2 * i ≤ o.length) ∧ Aside0 (o.length ≤ 254) ∧ Aside0 (q ≤ s.size) ∧ Aside0 (rName (rem s q).length o (rem s q) = readName (rem s p)) ∧ Aside0 (Cb w wr w.heap.size (q : Int) 0 (w.heap.size + 1))) (fun _ v7 _ => 1000 - (RowKit.intOf v7).toNat)
  case atStart => exact ⟨0, p, [], rfl, rfl, ⟨Nat.le_refl _⟩, ⟨by simp⟩, ⟨hp⟩, ⟨rfl⟩, HO⟩
  case round =>
    obtain ⟨i, q, o, rfl, rfl, HI, HL, HQ, HC, HB⟩ := hrel
    obtain ⟨hc, hf⟩ := cells_of_blk HB.out.cur
    obtain ⟨hd, hg⟩ := cells_of_blk HB.out.res
    have hi255 : (i : Int) ≤ 255 := by have := HI.out; have := HL.out; omega
    go_wp2_with fail
    have ht := rtake_sp s hs 1 q (by omega) HQ.out wr
    cases hr : rem s q with
    | nil =>
      rw [hr, show takeR s (rNum 1 0 []) = (0, (s.size : Int), 6) from rfl] at ht
      refine ht.mono ?_
      clear ht
      rintro e_ w1 ⟨rfl, hb⟩
      replace HB := Aside0.mk (HB.out.call hb)
      clear hb hc hf hd hg
      obtain ⟨hc, hf⟩ := cells_of_blk HB.out.cur
      obtain ⟨hd, hg⟩ := cells_of_blk HB.out.res
      have hlt1 := lt_of_blk HB.out.cur
      have hlt2 := lt_of_blk HB.out.res
      have HRR := Aside0.mk hr
      clear hr
      go_wp2_with fail
      go_region
      all_goals
        go_wp2
        obtain ⟨f1, f2⟩ := HB.out.away (by omega) (Nat.le_refl _) (Nat.le_succ _) (s.size : Int) 6 (.cells #[.int .i64 (s.size : Int), .int .i64 6] 67)
        refine bodyPost_ret (results_tc rfl _ _ (w.heap.size + 1) 67 #[.int .i64 (s.size : Int), .int .i64 6] (0, 0) _ rfl f2 Tryd.underlying67 rfl (by kernel_rfl)) rfl ⟨⟨_, _, _, rfl, lfit_err ?_⟩, f1⟩
        rw [← HC.out, HRR.out]; rfl
    | cons b r =>
      have hb8 := b.toNat_lt
      obtain ⟨b1, b2, b3⟩ := bt_drop (s := s) (i := q) (c := b) (r := r) hr
      have b3 : rem s (q + 1) = r := b3
      rw [hr, show takeR s (rNum 1 0 (b :: r)) = ((b.toNat : Int), ((q + 1 : Nat) : Int), 0) by
        show (((0 * 256 + b.toNat : Nat) : Int), ((s.size - r.length : Nat) : Int), (0 : Int)) = _
        rw [← b3, rem_at s (q + 1) (by omega), Nat.zero_mul, Nat.zero_add]] at ht
      refine ht.mono ?_
      clear ht
      rintro e_ w1 ⟨rfl, hb⟩
      replace HB := Aside0.mk (HB.out.call hb)
      clear hb hc hf hd hg
      obtain ⟨hc, hf⟩ := cells_of_blk HB.out.cur
      obtain ⟨hd, hg⟩ := cells_of_blk HB.out.res
      have hlt1 := lt_of_blk HB.out.cur
      have hlt2 := lt_of_blk HB.out.res
      have HR := Aside0.mk hr
      have HR3 := Aside0.mk b3
      have HQ1 := Aside0.mk (show q + 1 ≤ s.size by omega)
      clear hr b1 b2 b3
      by_cases h63 : (b.toNat : Int) > 63
      · have h0n : ¬ (b.toNat : Int) = 0 := by omega
        have h0b : ((b.toNat : Int) == 0) = false := beq_eq_false_iff_ne.2 h0n
        go_wp2_with fail
        go_region
        all_goals
          go_wp2
          obtain ⟨f1, f2⟩ := HB.out.away2 (by omega) (Nat.le_refl _) (Nat.le_succ _) ((q : Int) + 1) 0 ((q : Int) + 1) 7 (.cells #[.int .i64 ((q : Int) + 1), .int .i64 0] 67)
          refine bodyPost_ret (results_tc rfl _ _ (w.heap.size + 1) 67 #[.int .i64 ((q : Int) + 1), .int .i64 7] (0, 0) _ rfl f2 Tryd.underlying67 rfl (by kernel_rfl)) rfl ⟨⟨_, _, _, rfl, lfit_err ?_⟩, f1⟩
          rw [← HC.out, HR.out, List.length_cons, rName, if_pos (by omega)]
      by_cases h0 : b = 0
      · have hb0 : (b.toNat : Int) = 0 := by rw [h0]; rfl
        have HB0 := Aside0.mk h0
        have H63 := Aside0.mk h63
        clear h0 h63
        by_cases ho : o = []
        · have hnil : (strOf o).toList.isEmpty = true := by rw [toList_by, by_strOf, ho]; rfl
          have HON := Aside0.mk ho
          clear ho
          go_wp2_with fail
          go_region
          all_goals
            go_wp2
            obtain ⟨f1, f2⟩ := HB.out.away2 (by omega) (Nat.le_refl _) (Nat.le_succ _) ((q : Int) + 1) 0 ((q : Int) + 1) 0 (.cells #[.int .i64 ((q : Int) + 1), .int .i64 0] 67)
            refine bodyPost_ret (results_tc rfl _ _ (w.heap.size + 1) 67 #[.int .i64 ((q : Int) + 1), .int .i64 0] (0, 0) _ rfl f2 Tryd.underlying67 rfl (by kernel_rfl)) rfl ⟨⟨_, _, _, rfl, lfit_ok (l := [46]) (rest := r) ?_ rfl ?_⟩, f1⟩
            · rw [← HC.out, HR.out, List.length_cons, rName, if_neg (by have := H63.out; omega), if_pos HB0.out, HON.out]; rfl
            · have h := rem_at s (q + 1) HQ1.out
              rw [HR3.out] at h
              omega
        · have hne : (strOf o).toList.isEmpty = false := by
            rw [toList_by, by_strOf]
            cases ho2 : o with | nil => exact absurd ho2 ho | cons x y => rfl
          have HON := Aside0.mk ho
          clear ho
          go_wp2_with fail
          go_region
          all_goals
            go_wp2
            obtain ⟨f1, f2⟩ := HB.out.away2 (by omega) (Nat.le_refl _) (Nat.le_succ _) ((q : Int) + 1) 0 ((q : Int) + 1) 0 (.cells #[.int .i64 ((q : Int) + 1), .int .i64 0] 67)
            refine bodyPost_ret (results_tc rfl _ _ (w.heap.size + 1) 67 #[.int .i64 ((q : Int) + 1), .int .i64 0] (0, 0) _ rfl f2 Tryd.underlying67 rfl (by kernel_rfl)) rfl ⟨⟨_, _, _, rfl, lfit_ok (l := o) (rest := r) ?_ rfl ?_⟩, f1⟩
            · rw [← HC.out, HR.out, List.length_cons, rName, if_neg (by have := H63.out; omega), if_pos HB0.out]
              have he : o.isEmpty = false := by cases ho : o with | nil => exact absurd ho HON.out | cons x y => rfl
              rw [he]; rfl
            · have h := rem_at s (q + 1) HQ1.out
              rw [HR3.out] at h
              omega
      have h0n : ¬ (b.toNat : Int) = 0 := by
        intro g; apply h0; apply UInt8.toNat_inj.1
        show b.toNat = 0
        omega
      have h0b : ((b.toNat : Int) == 0) = false := beq_eq_false_iff_ne.2 h0n
      have hsz : (strOf o).size = o.length := rfl
      have hl254 := HL.out
      have hw1 : wrap64 (((strOf o).size : Int) + (b.toNat : Int)) = ((strOf o).size : Int) + (b.toNat : Int) := by unfold wrap64; omega
      have hw2 : wrap64 (((strOf o).size : Int) + (b.toNat : Int) + 2) = ((strOf o).size : Int) + (b.toNat : Int) + 2 := by unfold wrap64; omega
      have HB0 := Aside0.mk h0
      have H63 := Aside0.mk h63
      clear h0 hl254
      by_cases hlim : ((strOf o).size : Int) + (b.toNat : Int) + 2 > 255
      · have HLIM := Aside0.mk (show o.length + b.toNat + 2 > 255 by omega)
        clear hsz
        go_wp2_with fail
        go_region
        all_goals
          go_wp2
          obtain ⟨f1, f2⟩ := HB.out.away2 (by omega) (Nat.le_refl _) (Nat.le_succ _) ((q : Int) + 1) 0 ((q : Int) + 1) 9 (.cells #[.int .i64 ((q : Int) + 1), .int .i64 0] 67)
          refine bodyPost_ret (results_tc rfl _ _ (w.heap.size + 1) 67 #[.int .i64 ((q : Int) + 1), .int .i64 9] (0, 0) _ rfl f2 Tryd.underlying67 rfl (by kernel_rfl)) rfl ⟨⟨_, _, _, rfl, lfit_err ?_⟩, f1⟩
          rw [← HC.out, HR.out, List.length_cons, rName, if_neg (by have := H63.out; omega), if_neg HB0.out, if_pos HLIM.out]
      have HLIM := Aside0.mk (show ¬ o.length + b.toNat + 2 > 255 by omega)
      clear hsz
      go_wp2_with fail
      have HB2 := Aside0.mk (HB.out.step (by omega) (Nat.le_refl _) ((q : Int) + 1) 0)
      have hlab := rlabel_sp s hs b.toNat (q + 1) (strOf o).toList.isEmpty (by have := H63.out; omega) HQ1.out (((w1.setCell ⟨w.heap.size, 0, none⟩ (.int .i64 ((q : Int) + 1))).setCell ⟨w.heap.size, 1, none⟩ (.int .i64 0)).alloc (.cells #[.int .i64 ((q : Int) + 1), .int .i64 0] 67))
      rw [show (((q + 1 : Nat) : Int)) = (q : Int) + 1 by omega] at hlab
      refine hlab.mono ?_
      clear hlab
      rintro e_ w2 ⟨⟨v, q2, c2, rfl, hfit⟩, hb⟩
      have hX := new_blk ((w1.setCell ⟨w.heap.size, 0, none⟩ (.int .i64 ((q : Int) + 1))).setCell ⟨w.heap.size, 1, none⟩ (.int .i64 0)) (.cells #[.int .i64 ((q : Int) + 1), .int .i64 0] 67)
      rw [set_size, set_size] at hX
      have HD := Aside0.mk ((hb.block _ (lt_of_blk hX)).trans hX)
      have HB3 := Aside0.mk ((HB2.out.call (al (Below.refl _ _) (.cells #[.int .i64 ((q : Int) + 1), .int .i64 0] 67))).call hb)
      have HFIT := Aside0.mk hfit
      clear hX hb hc hf hd hg HB HB2 hfit
      obtain ⟨hc, hf⟩ := cells_of_blk HB3.out.cur
      obtain ⟨hd, hg⟩ := cells_of_blk HB3.out.res
      obtain ⟨hk, hm⟩ := cells_of_blk HD.out
      have hlt3 := lt_of_blk HB3.out.cur
      have hlt4 := lt_of_blk HB3.out.res
      have hlt5 := lt_of_blk HD.out
      have HIE := Aside0.mk (show (strOf o).toList.isEmpty = o.isEmpty by rw [toList_by, by_strOf])
      cases hlb : rLabel b.toNat o.isEmpty (rem s (q + 1)) with
      | error m =>
        have hf2 := HFIT.out
        rw [HIE.out, hlb] at hf2
        obtain ⟨hv, hcm⟩ := hf2
        have hm0 := rLabel_err hlb
        subst hv
        subst hcm
        have hmb : (c2 == 0) = false := beq_eq_false_iff_ne.2 hm0
        have HLB := Aside0.mk hlb
        clear hlb
        go_wp2_with fail
        go_region
        all_goals
          go_wp2
          have h12 : w.heap.size ≤ w1.heap.size := by omega
          obtain ⟨f1, f2⟩ := (((HB3.out.other h12 (by omega) (by omega) 0 (.int .i64 q2)).other h12 (by omega) (by omega) 1 (.int .i64 c2)).step (by omega) (Nat.le_refl _) q2 c2).finD (Nat.le_succ _) (.int .i64 q2) (.int .i64 c2)
          refine bodyPost_ret (results_tc rfl _ _ (w.heap.size + 1) 67 #[.int .i64 q2, .int .i64 c2] (0, 0) _ rfl f2 Tryd.underlying67 rfl (by kernel_rfl)) rfl ⟨⟨_, _, _, rfl, lfit_err ?_⟩, f1⟩
          have hlb2 := HLB.out
          rw [HR3.out] at hlb2
          rw [← HC.out, HR.out, rName_step o b r (by have := H63.out; omega) HB0.out HLIM.out, hlb2]
      | ok vv =>
        obtain ⟨l, rest⟩ := vv
        have hf2 := HFIT.out
        rw [HIE.out, hlb] at hf2
        obtain ⟨hv, hq2, hcm⟩ := hf2
        obtain ⟨g1, g2, g3⟩ := rLabel_ok hlb HQ1.out
        have hq3 : q2 = ((q + 1 + b.toNat : Nat) : Int) := by rw [hq2, g2, rem_at s _ g1]
        have HQ3 := Aside0.mk g1
        have HG2 := Aside0.mk g2
        have HG3 := Aside0.mk g3
        have HLB := Aside0.mk hlb
        clear hlb hq2 g1 g2 g3
        subst hv
        subst hcm
        subst hq3
        have hl63 := H63.out
        have hol := HL.out
        have hk1 : (strOf l).size + 1 ≤ 9223372036854775807 := by rw [strOf_size, HG3.out]; omega
        have hk2 : ¬ ((9223372036854775807 : Int) < ((strOf l).size : Int) + 1) := by omega
        have hk3 : (strOf o).size + (strOf l ++ ⟨#[46]⟩).size ≤ 9223372036854775807 := by rw [ByteArray.size_append, strOf_size, strOf_size, HG3.out]; show o.length + (b.toNat + 1) ≤ _; omega
        have hk4 : ¬ ((9223372036854775807 : Int) < ((strOf o).size : Int) + ((strOf l ++ (⟨#[46]⟩ : ByteArray)).size : Int)) := by omega
        clear hl63 hol
        go_wp2_with fail
        go_roundw
        case rel =>
          have h12 : w.heap.size ≤ w1.heap.size := by omega
          have hlb2 := HLB.out
          rw [HR3.out, HG2.out] at hlb2
          have hnext : rName (rem s (q + 1 + b.toNat)).length (o ++ l ++ [46]) (rem s (q + 1 + b.toNat)) = readName (rem s p) := by
            rw [← HC.out, HR.out, rName_step o b r (by have := H63.out; omega) HB0.out HLIM.out, hlb2]
          have hlen : (o ++ l ++ [46]).length = o.length + b.toNat + 1 := by rw [List.length_append, List.length_append, HG3.out]; rfl
          have hb1 : 1 ≤ b.toNat := by
            rcases Nat.eq_zero_or_pos b.toNat with g | g
            · exact absurd (UInt8.toNat_inj.1 (by rw [g]; rfl)) HB0.out
            · exact g
          refine ⟨i + 1, q + 1 + b.toNat, o ++ l ++ [46], by go_num, ?_, ⟨by rw [hlen]; have := HI.out; omega⟩, ⟨by rw [hlen]; have := HLIM.out; omega⟩, HQ3, ⟨hnext⟩, ⟨((HB3.out.other h12 (by omega) (by omega) 0 _).other h12 (by omega) (by omega) 1 _).step (by omega) (Nat.le_refl _) _ 0⟩⟩
          rw [show (⟨#[46]⟩ : ByteArray) = strOf [46] from rfl, strOf_app, strOf_app, List.append_assoc]
        case measure => simp [RowKit.intOf]; omega
end Go.Proofs.YtaehonmfoanloaaDoor.Hand
namespace Go.Proofs.YtaehonmfoanloaaDoor.Hand
open Go.RowKit Go.Proofs.YtaehonmfoanloaaDoorW.PrintWords Go.Proofs.YtaehonmfoanloaaDoor.RdW Go.Proofs.YtaehonmfoanloaaDoor.PA
set_option maxHeartbeats 4000000
set_option maxRecDepth 100000
set_option linter.all false
/-- Reading under way: the data and the place, or the first error. -/
abbrev Xs := Except Int (D × Nat)
def Inv (s : ByteArray) (X : Xs) (Y : D) (a e : Int) : Prop := match X with
  | .ok (x, p) => Y = x ∧ a = (p : Int) ∧ e = 0 ∧ p ≤ s.size
  | .error n => e = n ∧ n ≠ 0
def stepX (s : ByteArray) (c : UInt8) (X : Xs) : Xs := match X with
  | .ok (x, p) => match rField c (rem s p) x with
    | .ok (y, rest) => .ok (y, s.size - rest.length)
    | .error n => .error n
  | .error n => .error n
theorem stepX_eq (s : ByteArray) (c : UInt8) (x : D) (p : Nat) : stepX s c (.ok (x, p)) = match rField c (rem s p) x with | .ok (y, rest) => .ok (y, s.size - rest.length) | .error n => .error n := rfl
def readX (s : ByteArray) (fs : List UInt8) (X : Xs) : Xs := fs.foldl (fun X c => stepX s c X) X
theorem readX_error (s : ByteArray) (fs : List UInt8) (n : Int) : readX s fs (.error n) = .error n := by
  induction fs with
  | nil => rfl
  | cons c cs ih => exact ih
theorem readX_eq (s : ByteArray) : ∀ (fs : List UInt8) (x : D) (p : Nat), allL fs → readX s fs (.ok (x, p)) = match readF fs (rem s p) x with | .ok (y, rest) => (match fs with | [] => .ok (x, p) | _ => .ok (y, s.size - rest.length)) | .error n => .error n
  | [], x, p, _ => rfl
  | c :: cs, x, p, ha => by
    have hl := ha c (by simp)
    have hcs : allL cs := fun d hd => ha d (List.mem_cons_of_mem _ hd)
    cases hr : rField c (rem s p) x with
    | error n =>
      rw [readF_no hr]
      show readX s cs (stepX s c (.ok (x, p))) = _
      rw [stepX_eq, hr]; exact readX_error s cs n
    | ok v =>
      obtain ⟨y, q⟩ := v
      rw [readF_ok hr]
      obtain ⟨h1, h2⟩ := rem_suf (rField_suf hr)
      show readX s cs (stepX s c (.ok (x, p))) = _
      rw [stepX_eq, hr]
      show readX s cs (.ok (y, s.size - q.length)) = _
      rw [readX_eq s cs y _ hcs, h2]
      cases hF : readF cs q y with
      | error n => rfl
      | ok v =>
        obtain ⟨z, rest⟩ := v
        cases cs with
        | nil =>
          simp only [readF, Except.ok.injEq, Prod.mk.injEq] at hF
          rw [hF.1, hF.2]
        | cons d ds => rfl
theorem inv_err {s : ByteArray} {X : Xs} {Y : D} {a e n : Int} (h : X = .error n) (he : e = n) (hn : n ≠ 0) : Inv s X Y a e := by subst h; exact ⟨he, hn⟩
theorem inv_ok {s : ByteArray} {X : Xs} {Y x : D} {a e : Int} {p : Nat} (h : X = .ok (x, p)) (hY : Y = x) (ha : a = (p : Int)) (he : e = 0) (hp : p ≤ s.size) : Inv s X Y a e := by subst h; exact ⟨hY, ha, he, hp⟩
/-- One number is taken over. -/
def setN (c : UInt8) (v : Int) (y : D) : D :=
  if c = 65 then { y with a := v } else
  if c = 66 then { y with b := v } else
  if c = 67 then { y with c := v } else
  if c = 70 then { y with f := v } else
  if c = 98 then { y with b := v } else
  if c = 99 then { y with c := v } else
  if c = 118 then { y with a := v } else
  if c = 119 then { y with b := v } else
  if c = 120 then { y with c := v } else
  if c = 121 then { y with d := v } else { y with e := v }
def sizeN (c : UInt8) : Nat := if c = 65 ∨ c = 66 ∨ c = 67 ∨ c = 70 then 2 else if c = 98 ∨ c = 99 then 1 else 4
def numL (c : UInt8) : Prop := c = 65 ∨ c = 66 ∨ c = 67 ∨ c = 70 ∨ c = 98 ∨ c = 99 ∨ c = 118 ∨ c = 119 ∨ c = 120 ∨ c = 121 ∨ c = 122
theorem rField_setN {c : UInt8} (hc : numL c) (r : List UInt8) (x : D) : rField c r x = mapR (rNum (sizeN c) 0 r) fun n => setN c (n : Int) x := by
  rcases hc with rfl | rfl | rfl | rfl | rfl | rfl | rfl | rfl | rfl | rfl | rfl <;> rfl
theorem rNum_le {k a v : Nat} {r rest : List UInt8} (h : rNum k a r = .ok (v, rest)) : rest.length ≤ r.length := by
  rw [rNum_eq] at h
  split at h
  · simp only [Except.ok.injEq, Prod.mk.injEq] at h
    rw [← h.2, List.length_drop]; omega
  · cases h
theorem number_at (s : ByteArray) (hs : s.size ≤ 1000000) (c : UInt8) (hc : numL c) (X : Xs) (Y : D) (a e : Int) (h : Inv s X Y a e) (w : World) :
    Calls Tryd.prog 74 #[.string s, .agg #[.int .i64 a, .int .i64 e], .int .i64 (sizeN c : Int)] w fun ee w' => (∃ v a' e', ee = .returned (.tuple #[.int .i64 v, .agg #[.int .i64 a', .int .i64 e']]) ∧ Inv s (stepX s c X) (setN c v Y) a' e') ∧ Below w.heap.size w w' := by
  have hk : sizeN c ≤ 4 := by unfold sizeN; split <;> (try split) <;> omega
  cases X with
  | error n =>
    obtain ⟨he, hn⟩ := h
    subst he
    obtain ⟨k, hk⟩ := (Take_err s (sizeN c) a e hn).rounds
    exact (ddiref05_Take.calls k s a e (sizeN c : Int) _ _ _ w hk).mono fun ee w' hh => ⟨⟨_, _, _, hh.1, inv_err rfl rfl hn⟩, hh.2⟩
  | ok v =>
    obtain ⟨x, p⟩ := v
    obtain ⟨rfl, rfl, rfl, hp⟩ := h
    refine (rtake_sp s hs (sizeN c) p hk hp w).mono fun ee w' hh => ⟨⟨_, _, _, hh.1, ?_⟩, hh.2⟩
    have hst : stepX s c (.ok (Y, p)) = match mapR (rNum (sizeN c) 0 (rem s p)) (fun n => setN c (n : Int) Y) with | .ok (y, rest) => .ok (y, s.size - rest.length) | .error n => .error n := by
      rw [stepX_eq, rField_setN hc]
    cases hr : rNum (sizeN c) 0 (rem s p) with
    | error n =>
      rw [hr] at hst
      exact inv_err hst rfl (rNum_err hr)
    | ok v =>
      obtain ⟨m, rest⟩ := v
      rw [hr] at hst
      exact inv_ok hst rfl rfl rfl (Nat.sub_le _ _)
/-- A name is taken over. -/
def setS (c : UInt8) (v : ByteArray) (y : D) : D := if c = 104 then { y with host := v } else { y with mail := v }
theorem rField_setS {c : UInt8} (hc : c = 104 ∨ c = 109) (r : List UInt8) (x : D) : rField c r x = mapR (readName r) fun n => setS c (strOf n) x := by
  rcases hc with rfl | rfl <;> rfl
theorem LFit_any {s : ByteArray} {r : Rs (List UInt8)} {v : ByteArray} {q c : Int} (h : LFit s r v q c) : (∃ l rest, r = .ok (l, rest) ∧ v = strOf l ∧ q = ((s.size - rest.length : Nat) : Int) ∧ c = 0) ∨ ∃ m, r = .error m ∧ v = ⟨#[]⟩ ∧ c = m := by
  cases r with
  | error m => exact .inr ⟨m, rfl, h⟩
  | ok x => obtain ⟨l, rest⟩ := x; exact .inl ⟨l, rest, rfl, h⟩
theorem rname_err_sp (s : ByteArray) (q e : Int) (he : e ≠ 0) (w : World) :
    Calls Tryd.prog 73 #[.string s, .agg #[.int .i64 q, .int .i64 e]] w fun ee w' => (∃ v, ee = .returned (.tuple #[.string v, .agg #[.int .i64 q, .int .i64 e]])) ∧ Below w.heap.size w w' := by
  have hu := Tryd.underlying67
  have HO : Aside0 (Cb w ((w.alloc (.cells #[.int .i64 q, .int .i64 e] 67)).alloc (.cells #[.int .i64 0, .int .i64 0] 67)) w.heap.size q e (w.heap.size + 1)) := by
    refine ⟨⟨al (al (Below.refl _ _) _) _, ?_, ?_⟩⟩
    · show ((w.heap.push _).push _)[w.heap.size]? = _
      rw [Array.getElem?_push, Array.getElem?_push]; simp
    · show ((w.heap.push _).push _)[w.heap.size + 1]? = _
      rw [Array.getElem?_push]; simp
  obtain ⟨k, hk⟩ := (Take_err s 1 q e he).rounds
  have HT := Aside0.mk (fun W => ddiref05_Take.calls k s q e 1 _ _ _ W hk)
  clear hk
  have HE := Aside0.mk he
  clear he
  go_enter Tryd.func73, Tryd.ntmps73
  go_wp2_with fail
  go_loopw [6, 7] (fun v6 v7 wr => v7 = .int .i64 0 ∧ v6 = .string ⟨#[]⟩ ∧ Aside0 (Cb w wr w.heap.size q e (w.heap.size + 1))) (fun _ v7 _ => 1000 - (RowKit.intOf v7).toNat)
  case atStart => exact ⟨rfl, rfl, HO⟩
  case round =>
    obtain ⟨rfl, rfl, HB⟩ := hrel
    obtain ⟨hc, hf⟩ := cells_of_blk HB.out.cur
    obtain ⟨hd, hg⟩ := cells_of_blk HB.out.res
    go_wp2_with fail
    refine (HT.out _).mono ?_
    rintro e_ w1 ⟨rfl, hb⟩
    replace HB := Aside0.mk (HB.out.call hb)
    clear hb hc hf hd hg
    obtain ⟨hc, hf⟩ := cells_of_blk HB.out.cur
    obtain ⟨hd, hg⟩ := cells_of_blk HB.out.res
    have hlt1 := lt_of_blk HB.out.cur
    have hlt2 := lt_of_blk HB.out.res
    have he := HE.out
    have heb : (e == 0) = false := beq_eq_false_iff_ne.2 he
    go_wp2_with fail
    go_region
    all_goals
      go_wp2
      obtain ⟨f1, f2⟩ := HB.out.away (by omega) (Nat.le_refl _) (Nat.le_succ _) q e (.cells #[.int .i64 q, .int .i64 e] 67)
      exact bodyPost_ret (results_tc rfl _ _ (w.heap.size + 1) 67 #[.int .i64 q, .int .i64 e] (0, 0) _ rfl f2 Tryd.underlying67 rfl (by kernel_rfl)) rfl ⟨⟨_, rfl⟩, f1⟩
theorem name_at (s : ByteArray) (hs : s.size ≤ 1000000) (c : UInt8) (hc : c = 104 ∨ c = 109) (X : Xs) (Y : D) (a e : Int) (h : Inv s X Y a e) (w : World) :
    Calls Tryd.prog 73 #[.string s, .agg #[.int .i64 a, .int .i64 e]] w fun ee w' => (∃ v a' e', ee = .returned (.tuple #[.string v, .agg #[.int .i64 a', .int .i64 e']]) ∧ Inv s (stepX s c X) (setS c v Y) a' e') ∧ Below w.heap.size w w' := by
  cases X with
  | error n =>
    obtain ⟨he, hn⟩ := h
    subst he
    exact (rname_err_sp s a e hn w).mono fun ee w' hh => ⟨by obtain ⟨v, hv⟩ := hh.1; exact ⟨v, _, _, hv, inv_err rfl rfl hn⟩, hh.2⟩
  | ok v =>
    obtain ⟨x, p⟩ := v
    obtain ⟨rfl, rfl, rfl, hp⟩ := h
    refine (rname_sp s hs p hp w).mono fun ee w' hh => ?_
    obtain ⟨⟨v, q, c', h1, h2⟩, hb⟩ := hh
    refine ⟨⟨v, q, c', h1, ?_⟩, hb⟩
    have hst : stepX s c (.ok (Y, p)) = match mapR (readName (rem s p)) (fun n => setS c (strOf n) Y) with | .ok (y, rest) => .ok (y, s.size - rest.length) | .error n => .error n := by
      rw [stepX_eq, rField_setS hc]
    rcases LFit_any h2 with ⟨l, rest, hr, hv, hq, hc0⟩ | ⟨m, hr, hv, hm⟩
    · rw [hr] at hst
      exact inv_ok hst (by rw [hv]) hq hc0 (Nat.sub_le _ _)
    · rw [hr] at hst
      exact inv_err hst hm (rName_err _ hr)
theorem bits_at (s : ByteArray) (hs : s.size ≤ 1000000) (X : Xs) (Y : D) (a e : Int) (h : Inv s X Y a e) (w : World) :
    Calls Tryd.prog 77 #[.string s, .agg #[.int .i64 a, .int .i64 e]] w fun ee w' => (∃ v a' e', ee = .returned (.tuple #[.int .u64 v, .agg #[.int .i64 a', .int .i64 e']]) ∧ Inv s (stepX s 110 X) { Y with bits := v } a' e') ∧ Below w.heap.size w w' := by
  cases X with
  | error n =>
    obtain ⟨he, hn⟩ := h
    subst he
    obtain ⟨k, hk⟩ := (takeBits_err s a e hn).rounds
    exact (ddiref05_takeBits.calls k s a e _ _ _ w hk).mono fun ee w' hh => ⟨⟨_, _, _, hh.1, inv_err rfl rfl hn⟩, hh.2⟩
  | ok v =>
    obtain ⟨x, p⟩ := v
    obtain ⟨rfl, rfl, rfl, hp⟩ := h
    obtain ⟨v, hv, hE⟩ := takeBits_ev s hs p hp
    obtain ⟨k, hk⟩ := hE.rounds
    refine (ddiref05_takeBits.calls k s (p : Int) 0 v.1 v.2.1 v.2.2 w hk).mono fun ee w' hh => ⟨⟨_, _, _, hh.1, ?_⟩, hh.2⟩
    have hst : stepX s 110 (.ok (Y, p)) = match mapR (rBits (rem s p)) (fun b => { Y with bits := (b : Int) }) with | .ok (y, rest) => .ok (y, s.size - rest.length) | .error n => .error n := rfl
    cases hr : rBits (rem s p) with
    | error n =>
      rw [hr] at hst hv
      exact inv_err hst hv.2 (rBits_err hr)
    | ok u =>
      obtain ⟨b, rest⟩ := u
      rw [hr] at hst hv
      have hv : v = ((b : Int), ((s.size - rest.length : Nat) : Int), 0) := hv
      rw [hv]
      exact inv_ok hst rfl rfl rfl (Nat.sub_le _ _)
theorem rest_at (s : ByteArray) (X : Xs) (Y : D) (a e : Int) (h : Inv s X Y a e) (w : World) :
    Calls Tryd.prog 75 #[.string s, .agg #[.int .i64 a, .int .i64 e]] w fun ee w' => (∃ v a' e', ee = .returned (.tuple #[.string v, .agg #[.int .i64 a', .int .i64 e']]) ∧ Inv s (stepX s 114 X) { Y with text := v } a' e') ∧ Below w.heap.size w w' := by
  cases X with
  | error n =>
    obtain ⟨he, hn⟩ := h
    subst he
    exact (ddiref05_rest.calls s a e _ _ _ w (rest_err s a e hn)).mono fun ee w' hh => ⟨⟨_, _, _, hh.1, inv_err rfl rfl hn⟩, hh.2⟩
  | ok v =>
    obtain ⟨x, p⟩ := v
    obtain ⟨rfl, rfl, rfl, hp⟩ := h
    refine (ddiref05_rest.calls s (p : Int) 0 _ _ _ w (rest_eq s p hp)).mono fun ee w' hh => ⟨⟨_, _, _, hh.1, ?_⟩, hh.2⟩
    exact inv_ok (x := { Y with text := strOf (rem s p) }) (p := s.size) rfl rfl rfl rfl (Nat.le_refl _)
end Go.Proofs.YtaehonmfoanloaaDoor.Hand
namespace Go.Proofs.YtaehonmfoanloaaDoor.Hand
open Go.RowKit Go.Proofs.YtaehonmfoanloaaDoorW.PrintWords Go.Proofs.YtaehonmfoanloaaDoor.RdW
set_option linter.all false
/-- The cursor, the two results, the data. -/
structure Fb (w W : World) (g : Nat) (a e : Int) (cs : Array Value) : Prop where
  below : Below w.heap.size w W
  cur : W.heap[g]? = some (.cells #[.int .i64 a, .int .i64 e] 67 (0, 0))
  resD : W.heap[g + 1]? = some (.cells D.z.cells 26 (0, 0))
  resC : W.heap[g + 2]? = some (.cells #[.int .i64 0, .int .i64 0] 67 (0, 0))
  dat : W.heap[g + 3]? = some (.cells cs 26 (0, 0))
theorem alloc_keep {X : World} {i : Nat} {o o' : Obj} (h : X.heap[i]? = some o) : (X.alloc o').heap[i]? = some o := ((al (Below.refl X.heap.size X) o').block _ (lt_of_blk h)).trans h
theorem new_at (X : World) (o : Obj) {n : Nat} (h : n = X.heap.size) : (X.alloc o).heap[n]? = some o := by subst h; exact new_blk X o
theorem Fb.new (w : World) (a e : Int) : Fb w ((((w.alloc (.cells #[.int .i64 a, .int .i64 e] 67)).alloc (.cells D.z.cells 26)).alloc (.cells #[.int .i64 0, .int .i64 0] 67)).alloc (.cells D.z.cells 26)) w.heap.size a e D.z.cells := by
  have e1 : (w.alloc (.cells #[.int .i64 a, .int .i64 e] 67)).heap.size = w.heap.size + 1 := by show (w.heap.push _).size = _; simp
  have e2 : ((w.alloc (.cells #[.int .i64 a, .int .i64 e] 67)).alloc (.cells D.z.cells 26)).heap.size = w.heap.size + 2 := by show ((w.heap.push _).push _).size = _; simp
  have e3 : (((w.alloc (.cells #[.int .i64 a, .int .i64 e] 67)).alloc (.cells D.z.cells 26)).alloc (.cells #[.int .i64 0, .int .i64 0] 67)).heap.size = w.heap.size + 3 := by show (((w.heap.push _).push _).push _).size = _; simp
  exact ⟨al (al (al (al (Below.refl _ _) _) _) _) _, alloc_keep (alloc_keep (alloc_keep (new_blk w _))), alloc_keep (alloc_keep (new_at _ _ e1.symm)), alloc_keep (new_at _ _ e2.symm), new_at _ _ e3.symm⟩
theorem Fb.call {w W V : World} {g : Nat} {a e : Int} {cs : Array Value} (h : Fb w W g a e cs) (hb : Below W.heap.size W V) : Fb w V g a e cs :=
  ⟨h.below.trans (hb.mono h.below.size), (hb.block _ (lt_of_blk h.cur)).trans h.cur, (hb.block _ (lt_of_blk h.resD)).trans h.resD, (hb.block _ (lt_of_blk h.resC)).trans h.resC, (hb.block _ (lt_of_blk h.dat)).trans h.dat⟩
theorem Fb.stepC {w V : World} {g : Nat} {a e : Int} {cs : Array Value} (h : Fb w V g a e cs) (hg : w.heap.size ≤ g) (a' e' : Int) : Fb w ((V.setCell ⟨g, 0, none⟩ (.int .i64 a')).setCell ⟨g, 1, none⟩ (.int .i64 e')) g a' e' cs :=
  ⟨setNew (setNew h.below hg _ _) hg _ _, set2 h.cur _ _, far (far h.resD (by omega) _ _) (by omega) _ _, far (far h.resC (by omega) _ _) (by omega) _ _, far (far h.dat (by omega) _ _) (by omega) _ _⟩
theorem Fb.stepD {w V : World} {g : Nat} {a e : Int} {cs : Array Value} (h : Fb w V g a e cs) (hg : w.heap.size ≤ g) (k : Nat) (u : Value) : Fb w (V.setCell ⟨g + 3, k, none⟩ u) g a e (cs.setIfInBounds k u) :=
  ⟨setNew h.below (by omega) _ _, far h.cur (by omega) _ _, far h.resD (by omega) _ _, far h.resC (by omega) _ _, set1 h.dat k u⟩
/-- A field is taken over, and the cursor. -/
theorem Fb.store {w V : World} {g : Nat} {a e : Int} {cs : Array Value} (h : Fb w V g a e cs) (hg : w.heap.size ≤ g) (a' e' : Int) (k : Nat) (u : Value) : Fb w (((V.setCell ⟨g, 0, none⟩ (.int .i64 a')).setCell ⟨g, 1, none⟩ (.int .i64 e')).setCell ⟨g + 3, k, none⟩ u) g a' e' (cs.setIfInBounds k u) := (h.stepC hg a' e').stepD hg k u
theorem set13 {V : World} {g : Nat} {T : TypeId} {x0 x1 x2 x3 x4 x5 x6 x7 x8 x9 x10 x11 x12 : Value} (h : V.heap[g]? = some (.cells #[x0, x1, x2, x3, x4, x5, x6, x7, x8, x9, x10, x11, x12] T (0, 0))) (y0 y1 y2 y3 y4 y5 y6 y7 y8 y9 y10 y11 y12 : Value) : (((((((((((((V.setCell ⟨g, 0, none⟩ y0).setCell ⟨g, 1, none⟩ y1).setCell ⟨g, 2, none⟩ y2).setCell ⟨g, 3, none⟩ y3).setCell ⟨g, 4, none⟩ y4).setCell ⟨g, 5, none⟩ y5).setCell ⟨g, 6, none⟩ y6).setCell ⟨g, 7, none⟩ y7).setCell ⟨g, 8, none⟩ y8).setCell ⟨g, 9, none⟩ y9).setCell ⟨g, 10, none⟩ y10).setCell ⟨g, 11, none⟩ y11).setCell ⟨g, 12, none⟩ y12).heap[g]? = some (.cells #[y0, y1, y2, y3, y4, y5, y6, y7, y8, y9, y10, y11, y12] T (0, 0)) := by
  have h0 : (V.setCell ⟨g, 0, none⟩ y0).heap[g]? = some (.cells #[y0, x1, x2, x3, x4, x5, x6, x7, x8, x9, x10, x11, x12] T (0, 0)) := set1 h 0 y0
  generalize (V.setCell ⟨g, 0, none⟩ y0) = W0 at *
  have h1 : (W0.setCell ⟨g, 1, none⟩ y1).heap[g]? = some (.cells #[y0, y1, x2, x3, x4, x5, x6, x7, x8, x9, x10, x11, x12] T (0, 0)) := set1 h0 1 y1
  generalize (W0.setCell ⟨g, 1, none⟩ y1) = W1 at *
  have h2 : (W1.setCell ⟨g, 2, none⟩ y2).heap[g]? = some (.cells #[y0, y1, y2, x3, x4, x5, x6, x7, x8, x9, x10, x11, x12] T (0, 0)) := set1 h1 2 y2
  generalize (W1.setCell ⟨g, 2, none⟩ y2) = W2 at *
  have h3 : (W2.setCell ⟨g, 3, none⟩ y3).heap[g]? = some (.cells #[y0, y1, y2, y3, x4, x5, x6, x7, x8, x9, x10, x11, x12] T (0, 0)) := set1 h2 3 y3
  generalize (W2.setCell ⟨g, 3, none⟩ y3) = W3 at *
  have h4 : (W3.setCell ⟨g, 4, none⟩ y4).heap[g]? = some (.cells #[y0, y1, y2, y3, y4, x5, x6, x7, x8, x9, x10, x11, x12] T (0, 0)) := set1 h3 4 y4
  generalize (W3.setCell ⟨g, 4, none⟩ y4) = W4 at *
  have h5 : (W4.setCell ⟨g, 5, none⟩ y5).heap[g]? = some (.cells #[y0, y1, y2, y3, y4, y5, x6, x7, x8, x9, x10, x11, x12] T (0, 0)) := set1 h4 5 y5
  generalize (W4.setCell ⟨g, 5, none⟩ y5) = W5 at *
  have h6 : (W5.setCell ⟨g, 6, none⟩ y6).heap[g]? = some (.cells #[y0, y1, y2, y3, y4, y5, y6, x7, x8, x9, x10, x11, x12] T (0, 0)) := set1 h5 6 y6
  generalize (W5.setCell ⟨g, 6, none⟩ y6) = W6 at *
  have h7 : (W6.setCell ⟨g, 7, none⟩ y7).heap[g]? = some (.cells #[y0, y1, y2, y3, y4, y5, y6, y7, x8, x9, x10, x11, x12] T (0, 0)) := set1 h6 7 y7
  generalize (W6.setCell ⟨g, 7, none⟩ y7) = W7 at *
  have h8 : (W7.setCell ⟨g, 8, none⟩ y8).heap[g]? = some (.cells #[y0, y1, y2, y3, y4, y5, y6, y7, y8, x9, x10, x11, x12] T (0, 0)) := set1 h7 8 y8
  generalize (W7.setCell ⟨g, 8, none⟩ y8) = W8 at *
  have h9 : (W8.setCell ⟨g, 9, none⟩ y9).heap[g]? = some (.cells #[y0, y1, y2, y3, y4, y5, y6, y7, y8, y9, x10, x11, x12] T (0, 0)) := set1 h8 9 y9
  generalize (W8.setCell ⟨g, 9, none⟩ y9) = W9 at *
  have h10 : (W9.setCell ⟨g, 10, none⟩ y10).heap[g]? = some (.cells #[y0, y1, y2, y3, y4, y5, y6, y7, y8, y9, y10, x11, x12] T (0, 0)) := set1 h9 10 y10
  generalize (W9.setCell ⟨g, 10, none⟩ y10) = W10 at *
  have h11 : (W10.setCell ⟨g, 11, none⟩ y11).heap[g]? = some (.cells #[y0, y1, y2, y3, y4, y5, y6, y7, y8, y9, y10, y11, x12] T (0, 0)) := set1 h10 11 y11
  generalize (W10.setCell ⟨g, 11, none⟩ y11) = W11 at *
  have h12 : (W11.setCell ⟨g, 12, none⟩ y12).heap[g]? = some (.cells #[y0, y1, y2, y3, y4, y5, y6, y7, y8, y9, y10, y11, y12] T (0, 0)) := set1 h11 12 y12
  exact h12
theorem far13 {V : World} {g : Nat} {o : Obj} (h : V.heap[g]? = some o) {b : Nat} (hb : g ≠ b) (y0 y1 y2 y3 y4 y5 y6 y7 y8 y9 y10 y11 y12 : Value) : (((((((((((((V.setCell ⟨b, 0, none⟩ y0).setCell ⟨b, 1, none⟩ y1).setCell ⟨b, 2, none⟩ y2).setCell ⟨b, 3, none⟩ y3).setCell ⟨b, 4, none⟩ y4).setCell ⟨b, 5, none⟩ y5).setCell ⟨b, 6, none⟩ y6).setCell ⟨b, 7, none⟩ y7).setCell ⟨b, 8, none⟩ y8).setCell ⟨b, 9, none⟩ y9).setCell ⟨b, 10, none⟩ y10).setCell ⟨b, 11, none⟩ y11).setCell ⟨b, 12, none⟩ y12).heap[g]? = some o := far (far (far (far (far (far (far (far (far (far (far (far (far (h) hb _ _) hb _ _) hb _ _) hb _ _) hb _ _) hb _ _) hb _ _) hb _ _) hb _ _) hb _ _) hb _ _) hb _ _) hb _ _
theorem new13 {w V : World} (h : Below w.heap.size w V) {b : Nat} (hb : w.heap.size ≤ b) (y0 y1 y2 y3 y4 y5 y6 y7 y8 y9 y10 y11 y12 : Value) : Below w.heap.size w (((((((((((((V.setCell ⟨b, 0, none⟩ y0).setCell ⟨b, 1, none⟩ y1).setCell ⟨b, 2, none⟩ y2).setCell ⟨b, 3, none⟩ y3).setCell ⟨b, 4, none⟩ y4).setCell ⟨b, 5, none⟩ y5).setCell ⟨b, 6, none⟩ y6).setCell ⟨b, 7, none⟩ y7).setCell ⟨b, 8, none⟩ y8).setCell ⟨b, 9, none⟩ y9).setCell ⟨b, 10, none⟩ y10).setCell ⟨b, 11, none⟩ y11).setCell ⟨b, 12, none⟩ y12) := setNew (setNew (setNew (setNew (setNew (setNew (setNew (setNew (setNew (setNew (setNew (setNew (setNew (h) hb _ _) hb _ _) hb _ _) hb _ _) hb _ _) hb _ _) hb _ _) hb _ _) hb _ _) hb _ _) hb _ _) hb _ _) hb _ _
theorem finB {w V : World} {g : Nat} {cs : Array Value} (hg : w.heap.size ≤ g) (hb : Below w.heap.size w V) (h1 : V.heap[g + 1]? = some (.cells cs 26 (0, 0))) (h2 : V.heap[g + 2]? = some (.cells #[.int .i64 0, .int .i64 0] 67 (0, 0))) (p q : Int) :
    Below w.heap.size w ((V.setCell ⟨g + 2, 0, none⟩ (.int .i64 p)).setCell ⟨g + 2, 1, none⟩ (.int .i64 q)).drew ∧ ((V.setCell ⟨g + 2, 0, none⟩ (.int .i64 p)).setCell ⟨g + 2, 1, none⟩ (.int .i64 q)).drew.heap[g + 1]? = some (.cells cs 26 (0, 0)) ∧ ((V.setCell ⟨g + 2, 0, none⟩ (.int .i64 p)).setCell ⟨g + 2, 1, none⟩ (.int .i64 q)).drew.heap[g + 2]? = some (.cells #[.int .i64 p, .int .i64 q] 67 (0, 0)) := by
  have h3 := far (far h1 (show g + 1 ≠ g + 2 by omega) 0 (.int .i64 p)) (show g + 1 ≠ g + 2 by omega) 1 (.int .i64 q)
  have h4 := set2 h2 (.int .i64 p) (.int .i64 q)
  have h5 := setNew (setNew hb (show w.heap.size ≤ g + 2 by omega) 0 (.int .i64 p)) (show w.heap.size ≤ g + 2 by omega) 1 (.int .i64 q)
  exact ⟨dr h5, h3, h4⟩
theorem Fb.fin13 {w V : World} {g : Nat} {a e : Int} {cs : Array Value} (h : Fb w V g a e cs) (hg : w.heap.size ≤ g) (y0 y1 y2 y3 y4 y5 y6 y7 y8 y9 y10 y11 y12 : Value) :
    Below w.heap.size w (((((((((((((V.setCell ⟨g + 1, 0, none⟩ y0).setCell ⟨g + 1, 1, none⟩ y1).setCell ⟨g + 1, 2, none⟩ y2).setCell ⟨g + 1, 3, none⟩ y3).setCell ⟨g + 1, 4, none⟩ y4).setCell ⟨g + 1, 5, none⟩ y5).setCell ⟨g + 1, 6, none⟩ y6).setCell ⟨g + 1, 7, none⟩ y7).setCell ⟨g + 1, 8, none⟩ y8).setCell ⟨g + 1, 9, none⟩ y9).setCell ⟨g + 1, 10, none⟩ y10).setCell ⟨g + 1, 11, none⟩ y11).setCell ⟨g + 1, 12, none⟩ y12) ∧ (((((((((((((V.setCell ⟨g + 1, 0, none⟩ y0).setCell ⟨g + 1, 1, none⟩ y1).setCell ⟨g + 1, 2, none⟩ y2).setCell ⟨g + 1, 3, none⟩ y3).setCell ⟨g + 1, 4, none⟩ y4).setCell ⟨g + 1, 5, none⟩ y5).setCell ⟨g + 1, 6, none⟩ y6).setCell ⟨g + 1, 7, none⟩ y7).setCell ⟨g + 1, 8, none⟩ y8).setCell ⟨g + 1, 9, none⟩ y9).setCell ⟨g + 1, 10, none⟩ y10).setCell ⟨g + 1, 11, none⟩ y11).setCell ⟨g + 1, 12, none⟩ y12).heap[g + 1]? = some (.cells #[y0, y1, y2, y3, y4, y5, y6, y7, y8, y9, y10, y11, y12] 26 (0, 0)) ∧ (((((((((((((V.setCell ⟨g + 1, 0, none⟩ y0).setCell ⟨g + 1, 1, none⟩ y1).setCell ⟨g + 1, 2, none⟩ y2).setCell ⟨g + 1, 3, none⟩ y3).setCell ⟨g + 1, 4, none⟩ y4).setCell ⟨g + 1, 5, none⟩ y5).setCell ⟨g + 1, 6, none⟩ y6).setCell ⟨g + 1, 7, none⟩ y7).setCell ⟨g + 1, 8, none⟩ y8).setCell ⟨g + 1, 9, none⟩ y9).setCell ⟨g + 1, 10, none⟩ y10).setCell ⟨g + 1, 11, none⟩ y11).setCell ⟨g + 1, 12, none⟩ y12).heap[g + 2]? = some (.cells #[.int .i64 0, .int .i64 0] 67 (0, 0)) := by
  have h0 : V.heap[g + 1]? = some (.cells #[.bool false, .int .u64 0, .int .u64 0, .string ⟨#[]⟩, .string ⟨#[]⟩, .string ⟨#[]⟩, .int .i64 0, .int .i64 0, .int .i64 0, .int .i64 0, .int .i64 0, .int .i64 0, .int .u64 0] 26 (0, 0)) := h.resD
  exact ⟨new13 h.below (Nat.le_succ_of_le hg) y0 y1 y2 y3 y4 y5 y6 y7 y8 y9 y10 y11 y12, set13 h0 y0 y1 y2 y3 y4 y5 y6 y7 y8 y9 y10 y11 y12, far13 h.resC (by omega) y0 y1 y2 y3 y4 y5 y6 y7 y8 y9 y10 y11 y12⟩
theorem Fb.fin {w V : World} {g : Nat} {a e : Int} {cs : Array Value} (h : Fb w V g a e cs) (hg : w.heap.size ≤ g) (y0 y1 y2 y3 y4 y5 y6 y7 y8 y9 y10 y11 y12 : Value) (p q : Int) :
    Below w.heap.size w (((((((((((((((V.setCell ⟨g + 1, 0, none⟩ y0).setCell ⟨g + 1, 1, none⟩ y1).setCell ⟨g + 1, 2, none⟩ y2).setCell ⟨g + 1, 3, none⟩ y3).setCell ⟨g + 1, 4, none⟩ y4).setCell ⟨g + 1, 5, none⟩ y5).setCell ⟨g + 1, 6, none⟩ y6).setCell ⟨g + 1, 7, none⟩ y7).setCell ⟨g + 1, 8, none⟩ y8).setCell ⟨g + 1, 9, none⟩ y9).setCell ⟨g + 1, 10, none⟩ y10).setCell ⟨g + 1, 11, none⟩ y11).setCell ⟨g + 1, 12, none⟩ y12).setCell ⟨g + 2, 0, none⟩ (.int .i64 p)).setCell ⟨g + 2, 1, none⟩ (.int .i64 q)).drew ∧ (((((((((((((((V.setCell ⟨g + 1, 0, none⟩ y0).setCell ⟨g + 1, 1, none⟩ y1).setCell ⟨g + 1, 2, none⟩ y2).setCell ⟨g + 1, 3, none⟩ y3).setCell ⟨g + 1, 4, none⟩ y4).setCell ⟨g + 1, 5, none⟩ y5).setCell ⟨g + 1, 6, none⟩ y6).setCell ⟨g + 1, 7, none⟩ y7).setCell ⟨g + 1, 8, none⟩ y8).setCell ⟨g + 1, 9, none⟩ y9).setCell ⟨g + 1, 10, none⟩ y10).setCell ⟨g + 1, 11, none⟩ y11).setCell ⟨g + 1, 12, none⟩ y12).setCell ⟨g + 2, 0, none⟩ (.int .i64 p)).setCell ⟨g + 2, 1, none⟩ (.int .i64 q)).drew.heap[g + 1]? = some (.cells #[y0, y1, y2, y3, y4, y5, y6, y7, y8, y9, y10, y11, y12] 26 (0, 0)) ∧ (((((((((((((((V.setCell ⟨g + 1, 0, none⟩ y0).setCell ⟨g + 1, 1, none⟩ y1).setCell ⟨g + 1, 2, none⟩ y2).setCell ⟨g + 1, 3, none⟩ y3).setCell ⟨g + 1, 4, none⟩ y4).setCell ⟨g + 1, 5, none⟩ y5).setCell ⟨g + 1, 6, none⟩ y6).setCell ⟨g + 1, 7, none⟩ y7).setCell ⟨g + 1, 8, none⟩ y8).setCell ⟨g + 1, 9, none⟩ y9).setCell ⟨g + 1, 10, none⟩ y10).setCell ⟨g + 1, 11, none⟩ y11).setCell ⟨g + 1, 12, none⟩ y12).setCell ⟨g + 2, 0, none⟩ (.int .i64 p)).setCell ⟨g + 2, 1, none⟩ (.int .i64 q)).drew.heap[g + 2]? = some (.cells #[.int .i64 p, .int .i64 q] 67 (0, 0)) :=
  finB hg (h.fin13 hg y0 y1 y2 y3 y4 y5 y6 y7 y8 y9 y10 y11 y12).1 (h.fin13 hg y0 y1 y2 y3 y4 y5 y6 y7 y8 y9 y10 y11 y12).2.1 (h.fin13 hg y0 y1 y2 y3 y4 y5 y6 y7 y8 y9 y10 y11 y12).2.2 p q
end Go.Proofs.YtaehonmfoanloaaDoor.Hand
