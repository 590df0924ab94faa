/-
  The program's Read: what it comes to, and its walk. Conditions: each theorem's own.
  The program's Read of a known type, walked. Conditions: each theorem's own.
  What the fields read is of a size that Valid bears. Conditions: each theorem's own.
-/
import Derived.Test.YtaehonmfoanloaaDoorRdCatch
import Derived.Test.YtaehonmfoanloaaDoorPwWire
namespace Go.Proofs.YtaehonmfoanloaaDoor.Hand
open Go.RowKit Go.Proofs.YtaehonmfoanloaaDoorW.PrintWords Go.Proofs.YtaehonmfoanloaaDoor.RdW
set_option maxHeartbeats 40000000
set_option maxRecDepth 100000
set_option linter.all false
/-- The blocks of Read's two results, at a call that is under way. -/
structure At (w W : World) (x : D) (n : Int) : Prop where
  below : Below w.heap.size w W
  data : Db W w.heap.size x
  err : W.heap[w.heap.size + 1]? = some (.cells #[.int .i64 n] 34 (0, 0))
theorem At.new (w : World) : At w ((w.alloc (.cells D.z.cells 26)).alloc (.cells #[.int .i64 0] 34)) D.z 0 := by
  refine ⟨al (al (Below.refl _ _) _) _, ?_, ?_⟩
  · show ((w.heap.push _).push _)[w.heap.size]? = _
    rw [Array.getElem?_push]
    simp
  · show ((w.heap.push _).push _)[w.heap.size + 1]? = _
    rw [Array.getElem?_push]
    simp
theorem At.call {w W V : World} {x : D} {n : Int} (h : At w W x n) (hb : Below W.heap.size W V) : At w V x n :=
  ⟨h.below.trans (hb.mono h.below.size), h.data.below hb, (hb.block _ (lt_of_blk h.err)).trans h.err⟩
theorem But2.new {w W V : World} (h : Below w.heap.size w W) {d q : Nat} (hd : w.heap.size ≤ d) (hq : w.heap.size ≤ q) (hb : But2 d q W V) : Below w.heap.size w V :=
  ⟨hb.os.trans h.os, hb.tape.trans h.tape, hb.output.trans h.output, Nat.le_trans h.size hb.size, fun k hk => (hb.block k (Nat.lt_of_lt_of_le hk h.size) (by omega) (by omega)).trans (h.block k hk)⟩
theorem read_unknown (S : WSp) (t : Int) (s : ByteArray) (hk : knownB t = false) (w : World) :
    Calls Tryd.prog 18 #[.int .i64 t, .string s] w fun e w' => e = .returned (.tuple #[(readS t s.data.toList).1.v, .int .i64 (readS t s.data.toList).2]) ∧ Below w.heap.size w w' := by
  have hu := Tryd.underlying26
  have hu2 := Tryd.underlying24
  have hmf : ∀ (fn : Fn) (first cap : Array Value) (w : World), (Instr.makeFunc fn first cap).run Tryd.prog w = .ok (.func fn first cap) w := fun _ _ _ _ => rfl
  have HK := Aside0.mk hk
  clear hk
  go_enter_defers Tryd.func18, Tryd.ntmps18
  go_wp2_with fail
  refine (S.find t _).mono ?_
  rintro e_ w1 ⟨⟨mn, rfl⟩, hb⟩
  have HA := Aside0.mk ((At.new w).call hb)
  clear hb
  rw [HK.out]
  go_wp2
  replace HA := Aside0.mk (HA.out.call (al (Below.refl w1.heap.size w1) (.cells #[.int .i64 0, .string mn, .string (strOf (flds t))] 50)))
  obtain ⟨hc, hf⟩ := cells_of_blk HA.out.err
  refine leaves_cons (f := 48) (args := #[.pointer (some ⟨w.heap.size, 0, none⟩), .pointer (some ⟨w.heap.size + 1, 0, none⟩)]) (by simp) (by simp [go_sem]) ?_
  refine (catch_hit w.heap.size (w.heap.size + 1) _ 0 4 [] _ HA.out.data (hc 0) (hf 0) (by omega)).mono ?_
  rintro e u' w'' ⟨rfl, rfl, hd, hq, hB⟩
  have HB := Aside0.mk (But2.new HA.out.below (Nat.le_refl _) (Nat.le_succ _) hB)
  obtain ⟨gc, gf⟩ := hd.cells
  dsimp only [D.cells, D.z] at gc
  simp [Leaves, settle, results, Tryd.results18, go_sem, gc, hq]
  rw [show readS t s.data.toList = (D.z, 4) by unfold readS; rw [HK.out]; rfl]
  exact ⟨⟨rfl, rfl⟩, HB.out⟩
end Go.Proofs.YtaehonmfoanloaaDoor.Hand
namespace Go.Proofs.YtaehonmfoanloaaDoor.Hand
open Go.RowKit Go.Proofs.YtaehonmfoanloaaDoorW.PrintWords Go.Proofs.YtaehonmfoanloaaDoor.RdW
set_option maxHeartbeats 40000000
set_option maxRecDepth 100000
set_option linter.all false
/-- Read under way: its results' blocks, the kind's block, the reader's. -/
structure St (w W : World) (x : D) (s : ByteArray) (p : Int) (k g : Nat) (t : Int) (mn : ByteArray) (fs : List UInt8) : Prop extends At w W x 0 where
  kind : W.heap[k]? = some (.cells #[.int .i64 t, .string mn, .string (strOf fs)] 50 (0, 0))
  rd : Rb W g s p
  hk : w.heap.size + 1 < k
  hg : k < g
theorem St.but2 {w W V : World} {x y : D} {s : ByteArray} {p q : Int} {k g : Nat} {t : Int} {mn : ByteArray} {fs : List UInt8} (h : St w W x s p k g t mn fs) (hb : But2 g w.heap.size W V) (hd : Db V w.heap.size y) (hr : Rb V g s q) : St w V y s q k g t mn fs := by
  have h1 := h.hk
  have h2 := h.hg
  exact { below := But2.new h.below (by omega) (Nat.le_refl _) hb, data := hd, err := (hb.block _ (lt_of_blk h.err) (by omega) (by omega)).trans h.err, kind := (hb.block _ (lt_of_blk h.kind) (by omega) (by omega)).trans h.kind, rd := hr, hk := h1, hg := h2 }
theorem rTake_suf {n : Nat} {r l q : List UInt8} (h : rTake n r = .ok (l, q)) : q <:+ r := by
  unfold rTake at h
  split at h
  · simp only [Except.ok.injEq, Prod.mk.injEq] at h
    rw [← h.2]; exact List.drop_suffix _ _
  · cases h
theorem rNum_suf {n a m : Nat} {r q : List UInt8} (h : rNum n a r = .ok (m, q)) : q <:+ r := by
  rw [rNum_eq] at h
  split at h
  · simp only [Except.ok.injEq, Prod.mk.injEq] at h
    rw [← h.2]; exact List.drop_suffix _ _
  · cases h
theorem rName_suf (k : Nat) : ∀ (out r n q : List UInt8), rName k out r = .ok (n, q) → q <:+ r := by
  induction k with
  | zero => intro out r n q h; cases r <;> simp [rName] at h
  | succ k ih =>
    intro out r n q h
    cases r with
    | nil => simp [rName] at h
    | cons b r =>
      unfold rName at h
      split at h
      · cases h
      · split at h
        · simp only [Except.ok.injEq, Prod.mk.injEq] at h
          rw [← h.2]; exact List.suffix_cons _ _
        · split at h
          · cases h
          · split at h
            · cases h
            · rename_i l r' hl
              obtain ⟨m, _, hm, _⟩ := rLabel_inv hl
              have h2 := ih _ _ _ _ h
              rw [hm]
              exact (h2.trans (List.suffix_append _ _)).trans (List.suffix_cons _ _)
theorem mapR_ok {α : Type} {r : Rs α} {f : α → D} {y : D} {q : List UInt8} (h : mapR r f = .ok (y, q)) : ∃ a, r = .ok (a, q) := by
  cases r with
  | error e => simp [mapR] at h
  | ok v =>
    obtain ⟨a, r'⟩ := v
    simp only [mapR, Except.ok.injEq, Prod.mk.injEq] at h
    exact ⟨a, by rw [h.2]⟩
theorem rField_suf {c : UInt8} {r q : List UInt8} {x y : D} (h : rField c r x = .ok (y, q)) : q <:+ r := by
  unfold rField at h
  by_cases h1 : c = 104
  · rw [if_pos h1] at h
    obtain ⟨_, h2⟩ := mapR_ok h
    exact rName_suf _ _ _ _ _ h2
  rw [if_neg h1] at h
  clear h1
  by_cases h1 : c = 109
  · rw [if_pos h1] at h
    obtain ⟨_, h2⟩ := mapR_ok h
    exact rName_suf _ _ _ _ _ h2
  rw [if_neg h1] at h
  clear h1
  by_cases h1 : c = 52
  · rw [if_pos h1] at h
    obtain ⟨_, h2⟩ := mapR_ok h
    exact rTake_suf h2
  rw [if_neg h1] at h
  clear h1
  by_cases h1 : c = 54
  · rw [if_pos h1] at h
    obtain ⟨_, h2⟩ := mapR_ok h
    exact rTake_suf h2
  rw [if_neg h1] at h
  clear h1
  by_cases h1 : c = 116
  · rw [if_pos h1] at h
    clear h1
    cases r with
    | nil => exact absurd h (by intro h; cases h)
    | cons b r' => obtain ⟨_, h2⟩ := mapR_ok h; exact (rTake_suf h2).trans (List.suffix_cons _ _)
  rw [if_neg h1] at h
  clear h1
  by_cases h1 : c = 114
  · rw [if_pos h1] at h
    simp only [Except.ok.injEq, Prod.mk.injEq] at h
    rw [← h.2]; exact List.nil_suffix
  rw [if_neg h1] at h
  clear h1
  by_cases h1 : c = 115
  · rw [if_pos h1] at h
    clear h1
    cases r with
    | nil => exact absurd h (by intro h; cases h)
    | cons b r' =>
      have h3 : (if b = 253 then (.ok (x, r') : Rs D) else .error 7) = .ok (y, q) := h
      by_cases h4 : b = 253
      · rw [if_pos h4] at h3; simp only [Except.ok.injEq, Prod.mk.injEq] at h3; rw [← h3.2]; exact List.suffix_cons _ _
      · rw [if_neg h4] at h3; cases h3
  rw [if_neg h1] at h
  clear h1
  by_cases h1 : c = 110
  · rw [if_pos h1] at h
    obtain ⟨_, h2⟩ := mapR_ok h
    have h3 := rBits_inv h2
    rw [h3.1]; exact List.suffix_append _ _
  rw [if_neg h1] at h
  clear h1
  by_cases h1 : c = 65
  · rw [if_pos h1] at h
    obtain ⟨_, h2⟩ := mapR_ok h
    exact rNum_suf h2
  rw [if_neg h1] at h
  clear h1
  by_cases h1 : c = 66
  · rw [if_pos h1] at h
    obtain ⟨_, h2⟩ := mapR_ok h
    exact rNum_suf h2
  rw [if_neg h1] at h
  clear h1
  by_cases h1 : c = 67
  · rw [if_pos h1] at h
    obtain ⟨_, h2⟩ := mapR_ok h
    exact rNum_suf h2
  rw [if_neg h1] at h
  clear h1
  by_cases h1 : c = 70
  · rw [if_pos h1] at h
    obtain ⟨_, h2⟩ := mapR_ok h
    exact rNum_suf h2
  rw [if_neg h1] at h
  clear h1
  by_cases h1 : c = 98
  · rw [if_pos h1] at h
    obtain ⟨_, h2⟩ := mapR_ok h
    exact rNum_suf h2
  rw [if_neg h1] at h
  clear h1
  by_cases h1 : c = 99
  · rw [if_pos h1] at h
    obtain ⟨_, h2⟩ := mapR_ok h
    exact rNum_suf h2
  rw [if_neg h1] at h
  clear h1
  by_cases h1 : c = 118
  · rw [if_pos h1] at h
    obtain ⟨_, h2⟩ := mapR_ok h
    exact rNum_suf h2
  rw [if_neg h1] at h
  clear h1
  by_cases h1 : c = 119
  · rw [if_pos h1] at h
    obtain ⟨_, h2⟩ := mapR_ok h
    exact rNum_suf h2
  rw [if_neg h1] at h
  clear h1
  by_cases h1 : c = 120
  · rw [if_pos h1] at h
    obtain ⟨_, h2⟩ := mapR_ok h
    exact rNum_suf h2
  rw [if_neg h1] at h
  clear h1
  by_cases h1 : c = 121
  · rw [if_pos h1] at h
    obtain ⟨_, h2⟩ := mapR_ok h
    exact rNum_suf h2
  rw [if_neg h1] at h
  clear h1
  obtain ⟨_, h2⟩ := mapR_ok h
  exact rNum_suf h2
theorem rem_suf {s : ByteArray} {p : Nat} {q : List UInt8} (h : q <:+ rem s p) : s.size - q.length ≤ s.size ∧ rem s (s.size - q.length) = q := by
  have h2 : q <:+ s.data.toList := h.trans (List.drop_suffix _ _)
  refine ⟨Nat.sub_le _ _, ?_⟩
  unfold rem
  exact (List.suffix_iff_eq_drop.1 h2).symm
theorem read_known (S : WSp) (F : FSp) (t : Int) (s : ByteArray) (hs : s.size ≤ 1000000) (hk : knownB t = true) (w : World) (hV : ∀ (x : D) (rest : List UInt8), readF (flds t) s.data.toList D.z = .ok (x, rest) → ∀ W : World, Below w.heap.size w W → Calls Tryd.prog 13 #[.int .i64 t, x.v] W fun e w' => e = .returned (.bool (validS t x)) ∧ Below W.heap.size W w') :
    Calls Tryd.prog 18 #[.int .i64 t, .string s] w fun e w' => e = .returned (.tuple #[(readS t s.data.toList).1.v, .int .i64 (readS t s.data.toList).2]) ∧ Below w.heap.size w w' := by
  have hu := Tryd.underlying26
  have hu2 := Tryd.underlying24
  have hu3 := Tryd.underlying50
  have hmf : ∀ (fn : Fn) (first cap : Array Value) (w : World), (Instr.makeFunc fn first cap).run Tryd.prog w = .ok (.func fn first cap) w := fun _ _ _ _ => rfl
  have HK := Aside0.mk hk
  obtain ⟨fs, hfs⟩ : ∃ fs, flds t = fs := ⟨_, rfl⟩
  have HFS := Aside0.mk hfs
  obtain ⟨hl9, hall⟩ := flds_ok t hk
  rw [hfs] at hl9 hall
  have HAL := Aside0.mk hall
  clear hall hk
  go_enter_defers Tryd.func18, Tryd.ntmps18
  go_wp2_with fail
  refine (S.find t _).mono ?_
  rintro e_ w1 ⟨⟨mn, rfl⟩, hb⟩
  have HA := Aside0.mk ((At.new w).call hb)
  clear hb
  rw [HK.out, hfs, if_pos rfl]
  clear hfs
  have hfz : (strOf fs).size = fs.length := rfl
  go_wp2_with fail
  have HS : Aside0 (St w ((w1.alloc (.cells #[.int .i64 t, .string mn, .string (strOf fs)] 50)).alloc (.cells #[.string s, .int .i64 0] 64)) D.z s 0 w1.heap.size (w1.heap.size + 1) t mn fs) := by
    have h1 := HA.out.call (al (al (Below.refl w1.heap.size w1) (.cells #[.int .i64 t, .string mn, .string (strOf fs)] 50)) (.cells #[.string s, .int .i64 0] 64))
    have h2 := lt_of_blk HA.out.err
    refine ⟨⟨h1, ?_, ?_, h2, Nat.lt_succ_self _⟩⟩
    · show ((w1.heap.push _).push _)[w1.heap.size]? = _
      rw [Array.getElem?_push]
      simp
    · show ((w1.heap.push _).push _)[w1.heap.size + 1]? = _
      rw [Array.getElem?_push]
      simp
  generalize w1.heap.size = k at *
  clear HA
  have hl9i : (fs.length : Int) ≤ 9 := by omega
  go_loopw [25] (fun vi wr => ∃ (i p : Nat) (x : D), vi = .int .i64 (i : Int) ∧ Aside0 (i ≤ fs.length) ∧ Aside0 (p ≤ s.size) ∧ Aside0 (readF (fs.drop i) (rem s p) x = readF fs s.data.toList D.z) ∧ Aside0 (St w wr x s p k (k + 1) t mn fs)) (fun vi _ => fs.length - (RowKit.intOf vi).toNat)
  case atStart => exact ⟨0, 0, D.z, rfl, ⟨Nat.zero_le _⟩, ⟨Nat.zero_le _⟩, ⟨rfl⟩, HS⟩
  case round =>
    obtain ⟨i, p, x, rfl, HI, HP, HR, HO⟩ := hrel
    clear HS
    by_cases hlt : i < fs.length
    · have hltI : (i : Int) < (fs.length : Int) := by omega
      obtain ⟨hd, hg⟩ := cells_of_blk HO.out.kind
      have hmem : letters.contains fs[i] = true := List.all_eq_true.1 HAL.out fs[i] (List.getElem_mem hlt)
      have hr := HR.out
      rw [List.drop_eq_getElem_cons hlt] at hr
      have HR1 := Aside0.mk hr
      clear hr
      have hge : (strOf fs)[i]'hlt = fs[i] := rfl
      have hgt := congrArg UInt8.toNat hge
      have HME := Aside0.mk hmem
      clear hmem hge
      go_wp2_with fail
      refine (field_sp F (k + 1) w.heap.size s p x fs[i] HME.out HP.out hs _ HO.out.rd HO.out.data (by have h1 := HO.out.hk; omega)).mono ?_
      intro e_ w2 hG
      obtain ⟨hB, hm⟩ := hG
      cases hrf : rField fs[i] (rem s p) x with
      | error n =>
        rw [hrf] at hm
        obtain ⟨rfl, ⟨q', hq⟩, y, hy⟩ := hm
        have HO2 := Aside0.mk (HO.out.but2 hB hy hq)
        clear hB hy hq HO hd hg
        have hre : readF fs s.data.toList D.z = .error n := HR1.out.symm.trans (show readF (fs[i] :: fs.drop (i + 1)) (rem s p) x = .error n by show (match rField fs[i] (rem s p) x with | .error n => _ | .ok (y, q) => readF (fs.drop (i + 1)) q y) = _; rw [hrf])
        have HRE := Aside0.mk hre
        clear hre hrf
        unfold died
        go_wp2
        obtain ⟨hc_, hf_⟩ := cells_of_blk HO2.out.err
        refine leaves_cons (f := 48) (args := #[.pointer (some ⟨w.heap.size, 0, none⟩), .pointer (some ⟨w.heap.size + 1, 0, none⟩)]) (by simp) (by simp [go_sem]) ?_
        refine (catch_hit w.heap.size (w.heap.size + 1) _ 0 n [] _ HO2.out.data (hc_ 0) (hf_ 0) (by omega)).mono ?_
        rintro e u' w'' ⟨rfl, rfl, hd_, hq_, hB_⟩
        have HB := Aside0.mk (But2.new HO2.out.below (Nat.le_refl _) (Nat.le_succ _) hB_)
        obtain ⟨gc, gf⟩ := hd_.cells
        dsimp only [D.cells, D.z] at gc
        simp [Leaves, settle, results, Tryd.results18, go_sem, gc, hq_]
        rw [show readS t s.data.toList = (D.z, n) by unfold readS; rw [HK.out, HFS.out, if_pos rfl, HRE.out]; try rfl]
        exact ⟨⟨rfl, rfl⟩, HB.out⟩
      | ok v =>
        obtain ⟨y, rest⟩ := v
        rw [hrf] at hm
        obtain ⟨rfl, hq, hy⟩ := hm
        have HO2 := Aside0.mk (HO.out.but2 hB hy hq)
        obtain ⟨hp2, hrest⟩ := rem_suf (rField_suf hrf)
        clear hB hy hq HO hd hg
        go_wp2
        go_roundw
        case rel => exact ⟨i + 1, s.size - rest.length, y, by go_num, ⟨by omega⟩, ⟨hp2⟩, ⟨by rw [hrest]; exact (show readF (fs[i] :: fs.drop (i + 1)) (rem s p) x = readF (fs.drop (i + 1)) rest y by show (match rField fs[i] (rem s p) x with | .error n => _ | .ok (y, q) => readF (fs.drop (i + 1)) q y) = _; rw [hrf]).symm.trans HR1.out⟩, HO2⟩
        case measure => simp [RowKit.intOf]; omega
    · have hlt2 : ¬ ((i : Int) < (fs.length : Int)) := by omega
      have hie : fs.drop i = [] := List.drop_eq_nil_of_le (by omega)
      have hr := HR.out
      rw [hie] at hr
      have HR1 := Aside0.mk (show Except.ok (x, rem s p) = readF fs s.data.toList D.z from hr)
      clear hr hie
      obtain ⟨c0, c1, f0, f1⟩ := HO.out.rd.cells
      obtain ⟨hd, hg⟩ := cells_of_blk HO.out.kind
      by_cases hps : p < s.size
      · have hpsI : (p : Int) < (s.size : Int) := by omega
        go_wp2
        obtain ⟨hc_, hf_⟩ := cells_of_blk HO.out.err
        refine leaves_cons (f := 48) (args := #[.pointer (some ⟨w.heap.size, 0, none⟩), .pointer (some ⟨w.heap.size + 1, 0, none⟩)]) (by simp) (by simp [go_sem]) ?_
        refine (catch_hit w.heap.size (w.heap.size + 1) _ 0 8 [] _ HO.out.data (hc_ 0) (hf_ 0) (by omega)).mono ?_
        rintro e u' w'' ⟨rfl, rfl, hd_, hq_, hB_⟩
        have HB := Aside0.mk (But2.new HO.out.below (Nat.le_refl _) (Nat.le_succ _) hB_)
        obtain ⟨gc, gf⟩ := hd_.cells
        dsimp only [D.cells, D.z] at gc
        simp [Leaves, settle, results, Tryd.results18, go_sem, gc, hq_]
        rw [show readS t s.data.toList = (D.z, 8) by unfold readS; rw [HK.out, HFS.out, if_pos rfl, ← HR1.out]; exact if_neg (fun e => by have h1 := rem_len s p; rw [e] at h1; simp at h1; omega)]
        exact ⟨⟨rfl, rfl⟩, HB.out⟩
      · have hpsI : ¬ ((p : Int) < (s.size : Int)) := by omega
        have hrem : rem s p = [] := List.eq_nil_of_length_eq_zero (by rw [rem_len]; omega)
        have hval := hV x [] (by rw [HFS.out, ← HR1.out, hrem]) wr HO.out.below
        obtain ⟨hdc, hdf⟩ := HO.out.data.cells
        have HREM := Aside0.mk hrem
        have HVAL := Aside0.mk hval
        clear hrem hval
        obtain ⟨v6, hi, lo, host, mail, text, a, b, c, d, e, f, bits⟩ := x
        dsimp only [D.cells] at hdc
        go_wp2_with fail
        refine HVAL.out.mono ?_
        rintro e_ w2 ⟨rfl, hb⟩
        have HA2 := Aside0.mk (HO.out.toAt.call hb)
        clear hb hdc hdf c0 c1 f0 f1 hd hg
        cases hvb : validS t ⟨v6, hi, lo, host, mail, text, a, b, c, d, e, f, bits⟩ with
        | false =>
          have HVB := Aside0.mk hvb
          clear hvb
          go_wp2
          obtain ⟨hc_, hf_⟩ := cells_of_blk HA2.out.err
          refine leaves_cons (f := 48) (args := #[.pointer (some ⟨w.heap.size, 0, none⟩), .pointer (some ⟨w.heap.size + 1, 0, none⟩)]) (by simp) (by simp [go_sem]) ?_
          refine (catch_hit w.heap.size (w.heap.size + 1) _ 0 5 [] _ HA2.out.data (hc_ 0) (hf_ 0) (by omega)).mono ?_
          rintro e u' w'' ⟨rfl, rfl, hd_, hq_, hB_⟩
          have HB := Aside0.mk (But2.new HA2.out.below (Nat.le_refl _) (Nat.le_succ _) hB_)
          obtain ⟨gc, gf⟩ := hd_.cells
          dsimp only [D.cells, D.z] at gc
          simp [Leaves, settle, results, Tryd.results18, go_sem, gc, hq_]
          rw [show readS t s.data.toList = (D.z, 5) by unfold readS; rw [HK.out, HFS.out, if_pos rfl, ← HR1.out]; show (if rem s p = [] then (if validS t _ then _ else (D.z, 5)) else _) = _; rw [if_pos HREM.out, HVB.out]; rfl]
          exact ⟨⟨rfl, rfl⟩, HB.out⟩
        | true =>
          have HVB := Aside0.mk hvb
          clear hvb
          obtain ⟨hc, hf⟩ := HA2.out.data.cells
          dsimp only [D.cells] at hc
          obtain ⟨hc2, hf2⟩ := cells_of_blk HA2.out.err
          go_wp2
          refine leaves_cons (f := 48) (args := #[.pointer (some ⟨w.heap.size, 0, none⟩), .pointer (some ⟨w.heap.size + 1, 0, none⟩)]) (by simp) (by simp [go_sem]) ?_
          refine (catch_idle _ _ _).mono ?_
          rintro e u' w'' ⟨rfl, rfl, rfl⟩
          simp [Leaves, settle, results, Tryd.results18, go_sem, hc, hc2, hf, hf2]
          rw [show readS t s.data.toList = (⟨v6, hi, lo, host, mail, text, a, b, c, d, e, f, bits⟩, 0) by unfold readS; rw [HK.out, HFS.out, if_pos rfl, ← HR1.out]; show (if rem s p = [] then (if validS t _ then _ else (D.z, 5)) else _) = _; rw [if_pos HREM.out, HVB.out]; rfl]
          exact ⟨⟨rfl, rfl⟩, But2.new HA2.out.below (Nat.le_refl _) (Nat.le_succ _) (((((((((((((((But2.refl w.heap.size (w.heap.size + 1) w2).set1 _ _).set1 _ _).set1 _ _).set1 _ _).set1 _ _).set1 _ _).set1 _ _).set1 _ _).set1 _ _).set1 _ _).set1 _ _).set1 _ _).set1 _ _).set _ _)⟩
end Go.Proofs.YtaehonmfoanloaaDoor.Hand
namespace Go.Proofs.YtaehonmfoanloaaDoor.Hand
open Go.RowKit Go.Proofs.YtaehonmfoanloaaDoorW.PrintWords Go.Proofs.YtaehonmfoanloaaDoor.RdW
set_option linter.all false
theorem rName_short (k : Nat) : ∀ (out r n q : List UInt8), out.length ≤ 255 → rName k out r = .ok (n, q) → n.length ≤ 255 := by
  induction k with
  | zero => intro out r n q _ h; cases r <;> simp [rName] at h
  | succ k ih =>
    intro out r n q ho h
    cases r with
    | nil => simp [rName] at h
    | cons b r =>
      unfold rName at h
      split at h
      · cases h
      · split at h
        · simp only [Except.ok.injEq, Prod.mk.injEq] at h
          rw [← h.1]; split
          · decide
          · exact ho
        · split at h
          · cases h
          · split at h
            · cases h
            · rename_i hl2 _ l r' hl
              have h3 := (rLabel_len _ _ _ _ _ hl).2
              exact ih _ _ _ _ (by simp only [List.length_append, List.length_cons, List.length_nil]; omega) h
/-- What Valid asks of the data. -/
def small (x : D) : Prop := x.host.size ≤ 100000 ∧ x.mail.size ≤ 100000 ∧ 0 ≤ x.bits ∧ x.bits < 18446744073709551616
theorem mapR_small {α : Type} {r : Rs α} {f : α → D} {y : D} {q : List UInt8} (h : mapR r f = .ok (y, q)) (k : ∀ a, r = .ok (a, q) → small (f a)) : small y := by
  cases r with
  | error e => simp [mapR] at h
  | ok v =>
    obtain ⟨a, r'⟩ := v
    simp only [mapR, Except.ok.injEq, Prod.mk.injEq] at h
    rw [← h.1]; exact k a (by rw [h.2])
theorem rField_small {c : UInt8} {r q : List UInt8} {x y : D} (hx : small x) (h : rField c r x = .ok (y, q)) : small y := by
  obtain ⟨s1, s2, s3, s4⟩ := hx
  unfold rField at h
  by_cases h1 : c = 104
  · rw [if_pos h1] at h
    exact mapR_small h fun a ha => ⟨by show a.length ≤ 100000; have := rName_short _ _ _ _ _ (by simp) ha; omega, s2, s3, s4⟩
  rw [if_neg h1] at h
  clear h1
  by_cases h1 : c = 109
  · rw [if_pos h1] at h
    exact mapR_small h fun a ha => ⟨s1, by show a.length ≤ 100000; have := rName_short _ _ _ _ _ (by simp) ha; omega, s3, s4⟩
  rw [if_neg h1] at h
  clear h1
  by_cases h1 : c = 52
  · rw [if_pos h1] at h
    exact mapR_small h fun _ _ => ⟨s1, s2, s3, s4⟩
  rw [if_neg h1] at h
  clear h1
  by_cases h1 : c = 54
  · rw [if_pos h1] at h
    exact mapR_small h fun _ _ => ⟨s1, s2, s3, s4⟩
  rw [if_neg h1] at h
  clear h1
  by_cases h1 : c = 116
  · rw [if_pos h1] at h
    clear h1
    cases r with
    | nil => exact absurd h (by intro h; cases h)
    | cons b r' => exact mapR_small h fun _ _ => ⟨s1, s2, s3, s4⟩
  rw [if_neg h1] at h
  clear h1
  by_cases h1 : c = 114
  · rw [if_pos h1] at h
    simp only [Except.ok.injEq, Prod.mk.injEq] at h
    rw [← h.1]; exact ⟨s1, s2, s3, s4⟩
  rw [if_neg h1] at h
  clear h1
  by_cases h1 : c = 115
  · rw [if_pos h1] at h
    clear h1
    cases r with
    | nil => exact absurd h (by intro h; cases h)
    | cons b r' =>
      have h3 : (if b = 253 then (.ok (x, r') : Rs D) else .error 7) = .ok (y, q) := h
      by_cases h4 : b = 253
      · rw [if_pos h4] at h3; simp only [Except.ok.injEq, Prod.mk.injEq] at h3; rw [← h3.1]; exact ⟨s1, s2, s3, s4⟩
      · rw [if_neg h4] at h3; cases h3
  rw [if_neg h1] at h
  clear h1
  by_cases h1 : c = 110
  · rw [if_pos h1] at h
    exact mapR_small h fun a ha => ⟨s1, s2, Int.natCast_nonneg a, by have h3 := onlyT_lt (rBits_inv ha).2.1; have h4 : a < 562949953421312 := h3; show (a : Int) < 18446744073709551616; omega⟩
  rw [if_neg h1] at h
  clear h1
  by_cases h1 : c = 65
  · rw [if_pos h1] at h
    exact mapR_small h fun _ _ => ⟨s1, s2, s3, s4⟩
  rw [if_neg h1] at h
  clear h1
  by_cases h1 : c = 66
  · rw [if_pos h1] at h
    exact mapR_small h fun _ _ => ⟨s1, s2, s3, s4⟩
  rw [if_neg h1] at h
  clear h1
  by_cases h1 : c = 67
  · rw [if_pos h1] at h
    exact mapR_small h fun _ _ => ⟨s1, s2, s3, s4⟩
  rw [if_neg h1] at h
  clear h1
  by_cases h1 : c = 70
  · rw [if_pos h1] at h
    exact mapR_small h fun _ _ => ⟨s1, s2, s3, s4⟩
  rw [if_neg h1] at h
  clear h1
  by_cases h1 : c = 98
  · rw [if_pos h1] at h
    exact mapR_small h fun _ _ => ⟨s1, s2, s3, s4⟩
  rw [if_neg h1] at h
  clear h1
  by_cases h1 : c = 99
  · rw [if_pos h1] at h
    exact mapR_small h fun _ _ => ⟨s1, s2, s3, s4⟩
  rw [if_neg h1] at h
  clear h1
  by_cases h1 : c = 118
  · rw [if_pos h1] at h
    exact mapR_small h fun _ _ => ⟨s1, s2, s3, s4⟩
  rw [if_neg h1] at h
  clear h1
  by_cases h1 : c = 119
  · rw [if_pos h1] at h
    exact mapR_small h fun _ _ => ⟨s1, s2, s3, s4⟩
  rw [if_neg h1] at h
  clear h1
  by_cases h1 : c = 120
  · rw [if_pos h1] at h
    exact mapR_small h fun _ _ => ⟨s1, s2, s3, s4⟩
  rw [if_neg h1] at h
  clear h1
  by_cases h1 : c = 121
  · rw [if_pos h1] at h
    exact mapR_small h fun _ _ => ⟨s1, s2, s3, s4⟩
  rw [if_neg h1] at h
  clear h1
  exact mapR_small h fun _ _ => ⟨s1, s2, s3, s4⟩
theorem readF_small : ∀ (fs r : List UInt8) (x y : D) (q : List UInt8), small x → readF fs r x = .ok (y, q) → small y := by
  intro fs
  induction fs with
  | nil => intro r x y q hx h; simp only [readF, Except.ok.injEq, Prod.mk.injEq] at h; rw [← h.1]; exact hx
  | cons c cs ih =>
    intro r x y q hx h
    have h2 : (match rField c r x with | .error n => (.error n : Rs D) | .ok (y, q) => readF cs q y) = .ok (y, q) := h
    cases hr : rField c r x with
    | error n => rw [hr] at h2; cases h2
    | ok v =>
      obtain ⟨z, q2⟩ := v
      rw [hr] at h2
      exact ih _ _ _ _ (rField_small hx hr) h2
theorem small_z : small D.z := ⟨by decide, by decide, by decide, by decide⟩
end Go.Proofs.YtaehonmfoanloaaDoor.Hand
