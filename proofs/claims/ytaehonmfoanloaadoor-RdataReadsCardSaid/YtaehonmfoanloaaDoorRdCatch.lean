/-
  The program's reader: label, walked. Conditions: 1 to 63 bytes.
  The program's reader: name, walked. Conditions: strings of the reach.
  The program's reader: set (the bitmap of types), walked. Conditions: strings of the reach.
  The program's reader: field, walked. Conditions: a letter that stands in a type's fields; what addr.Read returns (FSp).
  The program's reader: field, walked: texts, the algorithm, the bitmap; then all letters in one. Conditions: as in RdField.
  The program's reader: field, walked: the bytes that are left; then all letters in one. Conditions: as in RdField.
  The program's Read: its deferred closure, entered of a frame that returns and of one that panics. Conditions: each theorem's own.
-/
import Derived.Test.YtaehonmfoanloaaDoorRdHand
import Derived.Deep.OwnRows
import Derived.Test.YtaehonmfoanloaaDoorPvSp
import Derived.Test.YtaehonmfoanloaaDoorRdBit
import Derived.Deep.RegionWith
import Derived.StillTailTactics
import Derived.Recover
namespace Go.Proofs.YtaehonmfoanloaaDoor.Hand
open Go.RowKit Go.Proofs.YtaehonmfoanloaaDoorW.PrintWords Go.Proofs.YtaehonmfoanloaaDoor.RdW
set_option maxHeartbeats 4000000
set_option maxRecDepth 100000
set_option linter.all false

/-- A block of bytes. -/
def Bl (w : World) (g : Nat) (l : List UInt8) : Prop := w.heap[g]? = some (.cells ((l.map fun b => Value.int .u8 (b.toNat : Int)).toArray) 5 (0, 0))
theorem Bl.lt {w : World} {g : Nat} {l : List UInt8} (h : Bl w g l) : g < w.heap.size := by
  rcases Nat.lt_or_ge g w.heap.size with k | k
  · exact k
  · unfold Bl at h; rw [Array.getElem?_eq_none k] at h; cases h
theorem Bl.cell {w : World} {g : Nat} {l : List UInt8} (h : Bl w g l) {i : Nat} (hi : i < l.length) : w.cell? ⟨g, i, none⟩ = some (.int .u8 ((l[i]).toNat : Int)) ∧ w.frozen? ⟨g, i, none⟩ = false := by
  unfold Bl at h
  constructor
  · unfold World.cell?; simp [h, hi]
  · unfold World.frozen?; simp [h]
theorem Bl.but {w w' : World} {g g' : Nat} {l : List UInt8} (h : Bl w g l) (hb : But g' w w') (hn : g ≠ g') : Bl w' g l := (hb.block _ h.lt hn).trans h
theorem Bl.set {w : World} {g : Nat} {l : List UInt8} (h : Bl w g l) (i : Nat) (v : UInt8) : Bl (w.setCell ⟨g, i, none⟩ (.int .u8 (v.toNat : Int))) g (l.set i v) := by
  unfold Bl at h ⊢
  show (w.heap.modify g _)[g]? = _
  rw [Array.getElem?_modify, if_pos rfl, h]
  simp [List.map_set]
def zeros (n : Nat) : Array Value := madeCells #[.int .u8 0] n
theorem mk_bytes (n : Nat) (hn : n ≤ 1000000) (w : World) : (Instr.makeSlice 55 (.int .i64 (n : Int)) (.int .i64 (n : Int))).run Tryd.prog w = .ok (.slice (some ⟨w.heap.size, 0, none⟩) n n) (w.alloc (.cells (zeros n) 5)) :=
  run_make_row' 55 5 (.int .u8 0) 1 Tryd.underlying55 (by kernel_rfl) rfl .i64 .i64 n (by omega) (by omega) w
theorem Bl.new (w : World) (n : Nat) : Bl (w.alloc (.cells (zeros n) 5)) w.heap.size (List.replicate n 0) := by
  unfold Bl
  show (w.heap.push _)[w.heap.size]? = _
  have e : zeros n = ((List.replicate n (0 : UInt8)).map fun b => Value.int .u8 (b.toNat : Int)).toArray := by
    unfold zeros madeCells
    apply Array.toList_inj.1
    simp
    apply List.ext_getElem
    · simp
    · intro k h1 h2; simp [Nat.mod_one]
  rw [e]
  simp
theorem Bl.str {w : World} {g : Nat} {l : List UInt8} (h : Bl w g l) (c : Nat) : (convert 55 9 (.slice (some ⟨g, 0, none⟩) l.length c)).run Tryd.prog w = .ok (.string (strOf l)) w := by
  have hc := run_convert_bytes_arg w 55 5 Tryd.underlying55 Tryd.underlying5 g 0 l.length c (l.map fun b => (b.toNat : Int)) (by simp) (fun i hi => by
    rw [Nat.zero_add, (h.cell (by simpa using hi)).1]
    simp [List.getD_eq_getElem?_getD, (by simpa using hi : i < l.length)]) 9 Tryd.underlying9
  rw [hc]
  have e : ∀ l : List UInt8, strOfNums (l.map fun b => (b.toNat : Int)) = strOf l := by
    intro l
    unfold strOfNums strOf
    simp [Function.comp_def]
  rw [e]
theorem letter_yes (c : UInt8) (h : okc (low c) = true) (w : World) : Calls Tryd.prog 97 #[.int .u8 c.toNat] w fun e w' => e = .returned (.int .u8 ((low c).toNat : Int)) ∧ w = w' := by
  by_cases hc : 65 ≤ (c.toNat : Int) ∧ (c.toNat : Int) ≤ 90
  · exact (letter_cap c hc.1 hc.2 w).mono (fun e w' k => ⟨by rw [k.2, (cap_low c hc.1 hc.2).2], k.1⟩)
  · exact (letter_small c hc w).mono (fun e w' k => ⟨by rw [nocap_low c hc] at h ⊢; rw [k.2, if_pos h], k.1⟩)
theorem letter_no (c : UInt8) (h : okc (low c) = false) (w : World) : Calls Tryd.prog 97 #[.int .u8 c.toNat] w fun e w' => e = .panicked [{ v := .iface 34 (.int .i64 7), recovered := false }] ∧ w = w' := by
  by_cases hc : 65 ≤ (c.toNat : Int) ∧ (c.toNat : Int) ≤ 90
  · rw [(cap_low c hc.1 hc.2).1] at h; cases h
  · exact (letter_small c hc w).mono (fun e w' k => ⟨by rw [nocap_low c hc] at h; rw [k.2, if_neg (by simp [h])], k.1⟩)
theorem rTake_one {s : ByteArray} {p : Nat} {l rest : List UInt8} (h : rTake 1 (rem s p) = .ok (l, rest)) : ∃ b, l = [b] ∧ rByte (rem s p) = .ok (b, rest) := by
  unfold rTake at h
  split at h
  · rename_i hl
    simp only [Except.ok.injEq, Prod.mk.injEq] at h
    cases hc : rem s p with
    | nil => rw [hc] at hl; simp at hl
    | cons x xs => rw [hc] at h; simp at h; exact ⟨x, h.1.symm, by rw [h.2]; rfl⟩
  · cases h
theorem label_loop (g : Nat) (s : ByteArray) (p n : Nat) (first : Bool) (hp : p ≤ s.size) (hs : s.size ≤ 1000000) (hn : n ≤ 63) (hst : (first && n == 1 && (rem s p).head? == some 42) = false) (w : World) (hR : Rb w g s p) :
    Calls Tryd.prog 87 #[.pointer (some ⟨g, 0, none⟩), .int .i64 n, .bool first] w (Got g s (rChars n [] (rem s p)) (fun l => .string (strOf l)) w) := by
  obtain ⟨c0, c1, f0, f1⟩ := hR.cells
  have HR := Aside0.mk hR
  have HG := Aside0.mk hR.lt
  clear hR
  have HS := Aside0.mk hst
  clear hst
  have hcase : first = false ∨ (first = true ∧ ((n : Int) == 1) = false) ∨ (first = true ∧ ((n : Int) == 1) = true ∧ decide (p < s.size) = false) ∨ (first = true ∧ ((n : Int) == 1) = true ∧ ∃ h : p < s.size, decide (p < s.size) = true ∧ (((s[p]'h).toNat : Int) == 42) = false) := by
    have hS := HS.out
    cases first
    · exact .inl rfl
    · right
      by_cases h1 : n = 1
      · right
        subst h1
        by_cases h2 : p < s.size
        · right
          refine ⟨rfl, rfl, h2, by simp [h2], ?_⟩
          have hr : rem s p = s[p] :: rem s (p + 1) := by
            unfold rem
            rw [List.drop_eq_getElem_cons (by rw [Array.length_toList]; exact h2)]
            rfl
          rw [hr] at hS
          simp at hS
          simp only [beq_eq_false_iff_ne, ne_eq]
          intro e
          exact hS (UInt8.toNat_inj.1 (by have e2 : (s[p]).toNat = 42 := by omega
                                          rw [e2]; rfl))
        · left; exact ⟨rfl, rfl, by simpa using h2⟩
      · left; exact ⟨rfl, by simp; omega⟩
  clear HS
  rcases hcase with rfl | ⟨rfl, hn1⟩ | ⟨rfl, hn1, hp1⟩ | ⟨rfl, hn1, hlt0, hp1, hc42⟩
  all_goals
    go_enter Tryd.func87, Tryd.ntmps87
    go_wp2
    go_quiet (fail)
    have hmk := mk_bytes n (by omega)
    go_wp2
    rename Nat => nq
    have hZ : Bl ((w.drewN nq).alloc (.cells (zeros n) 5)) w.heap.size (List.replicate n 0) := by
      have h := Bl.new (w.drewN nq) n
      simpa using h
    have HZ := Aside0.mk hZ
    have HR' := Aside0.mk ((HR.out.drewN nq).alloc (.cells (zeros n) 5))
    have HF' := Aside0.mk (((But.refl g w).drewN nq).alloc (.cells (zeros n) 5))
    have HNE := Aside0.mk (show w.heap.size ≠ g from by have := HG.out; omega)
    clear hZ hmk c0 c1 f0 f1 HR
    go_loopw [44] (fun vi wr => ∃ (i q : Nat) (l : List UInt8), vi = .int .i64 (i : Int) ∧ Aside0 (i ≤ n) ∧ Aside0 (l.length = i) ∧ Aside0 (q ≤ s.size) ∧ Aside0 (rChars (n - i) l (rem s q) = rChars n [] (rem s p)) ∧ Aside0 (But g w wr) ∧ Aside0 (Rb wr g s q) ∧ Aside0 (Bl wr w.heap.size (l ++ List.replicate (n - i) 0))) (fun vi _ => n - (RowKit.intOf vi).toNat)
    case atStart => exact ⟨0, p, [], rfl, ⟨Nat.zero_le _⟩, ⟨rfl⟩, ⟨hp⟩, ⟨rfl⟩, HF', HR', HZ⟩
    case round =>
      obtain ⟨i, q, l, rfl, HI, HL, HQ, HN, HF, HB, HBl⟩ := hrel
      clear HR' HF' HZ
      by_cases hlt : i < n
      · have hltI : (i : Int) < (n : Int) := by omega
        go_wp2_with fail
        refine (take_sp g s q 1 HQ.out hs (by omega) _ HB.out).mono ?_
        intro e w1 hG
        rcases got_cases hG with ⟨l1, rest, hr, rfl, hF, hB⟩ | ⟨n', hr, rfl, hF, q', hB⟩
        · obtain ⟨b, rfl, hr1⟩ := rTake_one hr.out
          obtain ⟨hq, hq1, hrest⟩ := rByte_rem hr1
          have hB' : Rb w1 g s ((q + 1 : Nat) : Int) := by have h := hB.out; rw [hrest, rem_at _ _ hq1] at h; exact h
          have hN' := HN.out
          rw [hq, show n - i = (n - (i + 1)) + 1 by omega, rChars, hrest] at hN'
          have HB1 := Aside0.mk hB'
          have HF1 := Aside0.mk (HF.out.trans hF.out)
          have HQ1 := Aside0.mk hq1
          have HBl1 := Aside0.mk (HBl.out.but hF.out HNE.out)
          clear hB' hq hq1 hrest hr hr1 hG hB hF HN HB HF HBl
          have hsz : (strOf [b]).size = 1 := rfl
          have hidx : (strOf [b])[0] = b := rfl
          cases hok : okc (low b)
          · rw [if_neg (by simp [hok])] at hN'
            have HN1 := Aside0.mk hN'
            clear hN'
            go_wp2_with fail
            refine (letter_no b hok _).mono ?_
            rintro e w2 ⟨rfl, rfl⟩
            go_wp2
            exact ⟨rfl, got_err HN1.out.symm rfl HF1.out HB1.out⟩
          · rw [if_pos hok] at hN'
            have HN1 := Aside0.mk hN'
            clear hN'
            have hlen : (l ++ List.replicate (n - i) (0 : UInt8)).length = n := by have := HL.out; simp; omega
            obtain ⟨hc, hf⟩ := HBl1.out.cell (i := i) (by omega)
            have HBl2 := Aside0.mk (HBl1.out.set i (low b))
            go_wp2_with fail
            refine (letter_yes b hok _).mono ?_
            rintro e w2 ⟨rfl, rfl⟩
            go_wp2
            go_roundw
            case rel =>
              refine ⟨i + 1, q + 1, l ++ [low b], by go_num, ⟨by omega⟩, ⟨by simp [HL.out]⟩, HQ1, HN1, ⟨HF1.out.setNew (Nat.le_refl _) _ _⟩, ⟨HB1.out.far (fun e => HNE.out e.symm) _ _⟩, ⟨?_⟩⟩
              have h := HBl2.out
              rw [show n - i = (n - (i + 1)) + 1 by omega, List.replicate_succ, List.set_append_right _ _ (by rw [HL.out]; exact Nat.le_refl _), HL.out, Nat.sub_self, List.set_cons_zero] at h
              simpa using h
            case measure => simp [RowKit.intOf]; omega
        · have hN' : rChars n [] (rem s p) = .error n' := by
            have h := hr.out
            rw [← HN.out, show n - i = (n - (i + 1)) + 1 by omega]
            unfold rTake at h
            split at h
            · cases h
            · rename_i hl
              cases hc : rem s q with
              | nil => simp only [Except.error.injEq] at h; rw [← h]; rfl
              | cons x xs => rw [hc] at hl; simp at hl
          have HN1 := Aside0.mk hN'
          clear hN' hr hG HN
          go_wp2
          exact ⟨rfl, got_err HN1.out rfl (HF.out.trans hF.out) hB.out⟩
      · have hltI : ¬ (i : Int) < (n : Int) := by omega
        have hin : i = n := by have := HI.out; omega
        have hN := HN.out
        rw [hin, Nat.sub_self, rChars] at hN
        have HN1 := Aside0.mk hN
        have hZl := HBl.out
        rw [hin, Nat.sub_self, List.replicate_zero, List.append_nil] at hZl
        have hcv := hZl.str n
        rw [show l.length = n by rw [HL.out, hin]] at hcv
        clear hN hin HN hZl
        go_wp2
        go_ret
        exact got_at HN1.out.symm rfl HF.out HB.out (by rw [rem_at _ _ HQ.out])
/-- A label of n bytes: the star, or letters. -/
theorem label_sp (g : Nat) (s : ByteArray) (p n : Nat) (first : Bool) (hp : p ≤ s.size) (hs : s.size ≤ 1000000) (hn : n ≤ 63) (w : World) (hR : Rb w g s p) :
    Calls Tryd.prog 87 #[.pointer (some ⟨g, 0, none⟩), .int .i64 n, .bool first] w (Got g s (rLabel n first (rem s p)) (fun l => .string (strOf l)) w) := by
  by_cases hst : (first && n == 1 && (rem s p).head? == some 42) = true
  · simp only [Bool.and_eq_true, beq_iff_eq] at hst
    obtain ⟨⟨rfl, rfl⟩, h42⟩ := hst
    obtain ⟨rest, hrest⟩ : ∃ rest, rem s p = 42 :: rest := by
      cases hc : rem s p with
      | nil => rw [hc] at h42; simp at h42
      | cons x xs => rw [hc] at h42; simp at h42; exact ⟨xs, by rw [h42]⟩
    have hlt : p < s.size := by have := congrArg List.length hrest; rw [rem_len] at this; simp at this; omega
    have hsp : (s[p]'hlt) = 42 := by
      have hr : rem s p = s[p] :: rem s (p + 1) := by
        unfold rem
        rw [List.drop_eq_getElem_cons (by rw [Array.length_toList]; exact hlt)]
        rfl
      rw [hr] at hrest
      exact (List.cons.inj hrest).1
    have hl : rLabel 1 true (rem s p) = .ok ([42], rest) := by rw [hrest]; rfl
    have hc42 : (((s[p]'hlt).toNat : Int) == 42) = true := by rw [hsp]; rfl
    have hp1 : decide (p < s.size) = true := by simpa using hlt
    obtain ⟨c0, c1, f0, f1⟩ := hR.cells
    have HR := Aside0.mk hR
    have HL := Aside0.mk hl
    have HRE := Aside0.mk hrest
    clear hR hl hrest h42 hsp
    go_enter Tryd.func87, Tryd.ntmps87
    go_wp2
    go_quiet (fail)
    go_wp2_with fail
    refine (take_sp g s p 1 hp hs (by omega) _ (HR.out.drewN _)).mono ?_
    intro e w1 hG
    rw [show rTake 1 (rem s p) = .ok ([42], rest) by rw [HRE.out]; rfl] at hG
    obtain ⟨hf, rfl, hb⟩ := hG
    have HF := Aside0.mk hf
    have HB := Aside0.mk hb
    clear hf hb
    go_wp2
    go_ret
    exact got_ok HL.out rfl (((But.refl g w).drewN _).trans HF.out) HB.out
  · have h : rLabel n first (rem s p) = rChars n [] (rem s p) := by unfold rLabel; rw [if_neg hst]
    rw [h]
    exact label_loop g s p n first hp hs hn (by simpa using hst) w hR
end Go.Proofs.YtaehonmfoanloaaDoor.Hand
namespace Go.Proofs.YtaehonmfoanloaaDoor.Hand
open Go.RowKit Go.Proofs.YtaehonmfoanloaaDoorW.PrintWords Go.Proofs.YtaehonmfoanloaaDoor.RdW
set_option maxHeartbeats 4000000
set_option maxRecDepth 100000
set_option linter.all false
theorem rLabel_rem {s : ByteArray} {p n : Nat} {first : Bool} {l rest : List UInt8} (h : rLabel n first (rem s p) = .ok (l, rest)) (hp : p ≤ s.size) : p + n ≤ s.size ∧ rest = rem s (p + n) ∧ l.length = n := by
  obtain ⟨m, h1, h2, h3, _⟩ := rLabel_inv h
  have hl := congrArg List.length h2
  rw [rem_len, List.length_append, h1] at hl
  refine ⟨by omega, ?_, by rw [h3, List.length_map, h1]⟩
  rw [← rem_drop, h2, List.drop_append_of_le_length (by omega), ← h1]
  simp
theorem name_sp (g : Nat) (s : ByteArray) (p : Nat) (hp : p ≤ s.size) (hs : s.size ≤ 1000000) (w : World) (hR : Rb w g s p) :
    Calls Tryd.prog 64 #[.pointer (some ⟨g, 0, none⟩)] w (Got g s (readName (rem s p)) (fun l => .string (strOf l)) w) := by
  have HR := Aside0.mk hR
  obtain ⟨R, hRR⟩ : ∃ R, readName (rem s p) = R := ⟨_, rfl⟩
  rw [hRR]
  have HRR := Aside0.mk hRR
  clear hR hRR
  go_enter Tryd.func64, Tryd.ntmps64
  go_wp2_with fail
  go_loopg [3] (s.size - p) (fun kq vo wr => ∃ (q : Nat) (out : List UInt8), vo = .string (strOf out) ∧ Aside0 (out.length ≤ 254) ∧ Aside0 (q ≤ s.size) ∧ Aside0 ((rem s q).length ≤ kq) ∧ Aside0 (rName kq out (rem s q) = R) ∧ Aside0 (But g w wr) ∧ Aside0 (Rb wr g s q))
  case atStart => exact ⟨p, [], rfl, ⟨by simp⟩, ⟨hp⟩, ⟨by rw [rem_len]; exact Nat.le_refl _⟩, ⟨by have := HRR.out; unfold readName at this; rw [rem_len] at this; exact this⟩, ⟨But.refl _ _⟩, HR⟩
  case round =>
    obtain ⟨q, out, rfl, HO, HQ, HK, HN, HF, HB⟩ := hrel
    clear HR HRR
    have hN := HN.out
    rw [rName_fuel gk (gk + 1) _ _ HK.out (by have := HK.out; omega)] at hN
    go_wp2_with fail
    refine (byte_sp g s q HQ.out hs _ HB.out).mono ?_
    intro e w1 hG
    rcases got_cases hG with ⟨b, rest, hr, rfl, hF, hB⟩ | ⟨n', hr, rfl, hF, q', hB⟩
    · obtain ⟨hq, hq1, hrest⟩ := rByte_rem hr.out
      have hB' : Rb w1 g s ((q + 1 : Nat) : Int) := by have h := hB.out; rw [hrest, rem_at _ _ hq1] at h; exact h
      rw [hq, rName, hrest] at hN
      have hkk : gk = (gk - 1) + 1 := by have := HK.out; rw [hq] at this; simp at this; omega
      have HK1 := Aside0.mk (show (rem s (q + 1)).length ≤ gk - 1 by have := HK.out; rw [hq, hrest] at this; simp at this; omega)
      have HKK := Aside0.mk hkk
      have HB1 := Aside0.mk hB'
      have HF1 := Aside0.mk (HF.out.trans hF.out)
      have HQ1 := Aside0.mk hq1
      clear hB' hq hq1 hrest hr hG hB hF HN HB HF HK hkk
      have hb := b.toNat_lt
      by_cases h63 : b.toNat > 63
      · rw [if_pos h63] at hN
        have HN1 := Aside0.mk hN
        clear hN
        go_wp2_with fail
        refine (form_of _ false (by simp; omega) _).mono ?_
        rintro e w2 ⟨rfl, rfl⟩
        go_wp2
        exact ⟨rfl, got_err HN1.out.symm rfl HF1.out HB1.out⟩
      · rw [if_neg h63] at hN
        go_wp2_with fail
        refine (form_of _ true (by simp; omega) _).mono ?_
        rintro e w2 ⟨rfl, rfl⟩
        by_cases h0 : b = 0
        · subst h0
          rw [if_pos rfl] at hN
          have HN1 := Aside0.mk hN
          clear hN
          by_cases ho : out = []
          · subst ho
            have hoe : (strOf []).toList.isEmpty = true := by rw [ByteArray.toList_eq]; rfl
            go_wp2
            go_ret
            exact got_at HN1.out.symm rfl HF1.out HB1.out (by rw [rem_at _ _ HQ1.out])
          · have hoe : (strOf out).toList.isEmpty = false := by
              rw [ByteArray.toList_eq]
              cases out with
              | nil => exact absurd rfl ho
              | cons x xs => rfl
            have hif : (if out.isEmpty = true then ([46] : List UInt8) else out) = out := by
              cases out with
              | nil => exact absurd rfl ho
              | cons x xs => rfl
            have HI := Aside0.mk hif
            clear hif
            go_wp2
            go_ret
            exact got_at HN1.out.symm (by rw [HI.out]; rfl) HF1.out HB1.out (by rw [rem_at _ _ HQ1.out])
        · rw [if_neg h0] at hN
          have hb0 : ((b.toNat : Int) == 0) = false := by
            simp only [beq_eq_false_iff_ne, ne_eq]
            intro e
            exact h0 (UInt8.toNat_inj.1 (by have e2 : b.toNat = 0 := by omega
                                            rw [e2]; rfl))
          have hoe : (strOf out).toList.isEmpty = out.isEmpty := by rw [ByteArray.toList_eq]; cases out <;> rfl
          have hsz : (strOf out).size = out.length := rfl
          have hol := HO.out
          clear h0
          by_cases h255 : out.length + b.toNat + 2 > 255
          · rw [if_pos h255] at hN
            have HN1 := Aside0.mk hN
            clear hN
            have h255i : ((out.length : Int) + (b.toNat : Int) + 2) > 255 := by omega
            have h255j : (255 : Int) < ((out.length : Int) + (b.toNat : Int) + 2) := by omega
            go_wp2
            exact ⟨rfl, got_err HN1.out.symm rfl HF1.out HB1.out⟩
          · rw [if_neg h255] at hN
            have h255j : ¬ (255 : Int) < ((out.length : Int) + (b.toNat : Int) + 2) := by omega
            have hN0 := Aside0.mk hN
            have H5 := Aside0.mk h255
            clear hN h255
            go_wp2_with fail
            refine (label_sp g s (q + 1) b.toNat out.isEmpty HQ1.out hs (by omega) _ HB1.out).mono ?_
            intro e w2 hG
            have hN := hN0.out
            rcases got_cases hG with ⟨l, rest, hr, rfl, hF, hB⟩ | ⟨n', hr, rfl, hF, q', hB⟩
            · obtain ⟨r1, r2, r3⟩ := rLabel_rem hr.out HQ1.out
              have hr' := hr.out
              rw [hr'] at hN
              simp only at hN
              have hB' : Rb w2 g s ((q + 1 + b.toNat : Nat) : Int) := by have h := hB.out; rw [r2, rem_at _ _ r1] at h; exact h
              have HB2 := Aside0.mk hB'
              have HF2 := Aside0.mk (HF1.out.trans hF.out)
              have HQ2 := Aside0.mk r1
              rw [r2] at hN
              have HN2 := Aside0.mk hN
              have HL2 := Aside0.mk r3
              have HD2 := Aside0.mk (show strOf out ++ (strOf l ++ ⟨#[46]⟩) = strOf (out ++ l ++ [46]) by
                rw [show (⟨#[46]⟩ : ByteArray) = strOf [46] from rfl, strOf_app, strOf_app, List.append_assoc])
              clear hB' r1 r2 r3 hr hr' hG hB hF hN hN0 HB1 HF1
              have k1 : (strOf l).size + 1 ≤ 9223372036854775807 := by have := HL2.out; rw [strOf_size]; omega
              have k2 : (strOf out).size + (strOf l ++ (⟨#[46]⟩ : ByteArray)).size ≤ 9223372036854775807 := by
                have := HL2.out
                rw [show (⟨#[46]⟩ : ByteArray) = strOf [46] from rfl, strOf_app, strOf_size, strOf_size]; simp; omega
              have k3 : ¬ ((9223372036854775807 : Int) < ((strOf l).size : Int) + 1) := by omega
              have k4 : ¬ ((9223372036854775807 : Int) < ((strOf out).size : Int) + ((strOf l ++ (⟨#[46]⟩ : ByteArray)).size : Int)) := by omega
              clear hsz
              go_wp2
              go_roundg (gk - 1)
              case measure => have := HKK.out; omega
              case rel =>
                refine ⟨q + 1 + b.toNat, out ++ l ++ [46], by rw [← HD2.out], ⟨?_⟩, HQ2, ⟨?_⟩, ?_, HF2, HB2⟩
                · have := H5.out; have := HL2.out; simp; omega
                · have := HK1.out; rw [rem_len] at this ⊢; omega
                · have h := HN2.out
                  have hk := HK1.out
                  rw [rName_fuel gk (gk - 1) _ _ (by rw [rem_len] at hk ⊢; omega) (by rw [rem_len] at hk ⊢; omega)] at h
                  exact ⟨h⟩
            · have hr' := hr.out
              rw [hr'] at hN
              have HN1 := Aside0.mk hN
              clear hN hr hr' hG hN0
              go_wp2
              exact ⟨rfl, got_err HN1.out.symm rfl (HF1.out.trans hF.out) hB.out⟩
    · have hN' : R = .error n' := by
        have h := hr.out
        cases hc : rem s q with
        | nil => rw [hc] at h hN; simp only [rByte, Except.error.injEq] at h; rw [← h, ← hN]; rfl
        | cons x xs => rw [hc] at h; cases h
      have HN1 := Aside0.mk hN'
      clear hN' hr hG HN hN
      go_wp2
      exact ⟨rfl, got_err HN1.out rfl (HF.out.trans hF.out) hB.out⟩
end Go.Proofs.YtaehonmfoanloaaDoor.Hand
namespace Go.Proofs.YtaehonmfoanloaaDoor.Hand
open Go.RowKit Go.Proofs.YtaehonmfoanloaaDoorW.PrintWords Go.Proofs.YtaehonmfoanloaaDoor.RdW
set_option maxHeartbeats 8000000
set_option maxRecDepth 100000
set_option linter.all false
def rBits3 (n : UInt8) (r : List UInt8) : Rs Nat :=
  if n.toNat < 1 ∨ 7 < n.toNat then .error 7 else if r.length < n.toNat then .error 6 else
      if (r.take n.toNat).getLast? = some 0 then .error 7 else if onlyT (bitsOf (r.take n.toNat)) then .ok (bitsOf (r.take n.toNat), r.drop n.toNat) else .error 7
def rBits2 : List UInt8 → Rs Nat
  | [] => .error 6
  | n :: r => rBits3 n r
theorem rBits_z (z : UInt8) (r : List UInt8) (h : z ≠ 0) : rBits (z :: r) = .error 7 := by
  unfold rBits; simp [h]
theorem rBits_0 (r : List UInt8) : rBits (0 :: r) = rBits2 r := by
  unfold rBits; cases r <;> simp [rBits2, rBits3]
theorem set_sp (S : PSp) (g : Nat) (s : ByteArray) (p : Nat) (hp : p ≤ s.size) (hs : s.size ≤ 1000000) (w : World) (hR : Rb w g s p) :
    Calls Tryd.prog 69 #[.pointer (some ⟨g, 0, none⟩)] w (Got g s (rBits (rem s p)) (fun x => .int .u64 (x : Int)) w) := by
  obtain ⟨R, hRR⟩ : ∃ R, rBits (rem s p) = R := ⟨_, rfl⟩
  rw [hRR]
  go_enter Tryd.func69, Tryd.ntmps69
  go_wp2_with fail
  refine (byte_sp g s p hp hs _ hR).mono ?_
  intro e w1 hG
  rcases got_cases hG with ⟨z, rest, hr, rfl, hF, hB⟩ | ⟨n', hr, rfl, hF, q', hB⟩
  case inr =>
    have hN' : R = .error n' := by
      have h := hr.out
      cases hc : rem s p with
      | nil => rw [hc] at h hRR; simp only [rByte, Except.error.injEq] at h; rw [← h, ← hRR]; rfl
      | cons x xs => rw [hc] at h; cases h
    have HN1 := Aside0.mk hN'
    clear hN' hr hG hRR
    go_wp2
    exact ⟨rfl, got_err HN1.out rfl hF.out hB.out⟩
  obtain ⟨hq, hq1, hrest⟩ := rByte_rem hr.out
  have hB' : Rb w1 g s ((p + 1 : Nat) : Int) := by have h := hB.out; rw [hrest, rem_at _ _ hq1] at h; exact h
  rw [hq, hrest] at hRR
  clear hr hG hB hR hrest hq
  by_cases hz : z = 0
  case neg =>
    rw [rBits_z _ _ hz] at hRR
    have HN1 := Aside0.mk hRR
    have hzi : ((z.toNat : Int) == 0) = false := by
      simp only [beq_eq_false_iff_ne, ne_eq]
      intro e
      exact hz (UInt8.toNat_inj.1 (by have e2 : z.toNat = 0 := by omega
                                      rw [e2]; rfl))
    clear hRR hz
    have HB := Aside0.mk hB'
    clear hB'
    go_wp2_with fail
    refine (form_of _ false (by simp [hzi]) _).mono ?_
    rintro e w2 ⟨rfl, rfl⟩
    go_wp2
    exact ⟨rfl, got_err HN1.out.symm rfl hF.out HB.out⟩
  subst hz
  rw [rBits_0] at hRR
  have HB := Aside0.mk hB'
  have HRR := Aside0.mk hRR
  clear hB' hRR
  go_wp2_with fail
  refine (form_of _ true (by simp) _).mono ?_
  rintro e w2 ⟨rfl, rfl⟩
  go_wp2_with fail
  refine (byte_sp g s (p + 1) hq1 hs _ HB.out).mono ?_
  intro e w3 hG
  have hRR := HRR.out
  rcases got_cases hG with ⟨n, rest, hr, rfl, hF2, hB2⟩ | ⟨n', hr, rfl, hF2, q', hB2⟩
  case inr =>
    have hN' : R = .error n' := by
      have h := hr.out
      cases hc : rem s (p + 1) with
      | nil => rw [hc] at h hRR; simp only [rByte, Except.error.injEq] at h; rw [← h, ← hRR]; rfl
      | cons x xs => rw [hc] at h; cases h
    have HN1 := Aside0.mk hN'
    clear hN' hr hG hRR HRR
    go_wp2
    exact ⟨rfl, got_err HN1.out rfl (hF.out.trans hF2.out) hB2.out⟩
  obtain ⟨hq, hq2, hrest⟩ := rByte_rem hr.out
  have hB' : Rb w3 g s ((p + 2 : Nat) : Int) := by have h := hB2.out; rw [hrest, rem_at _ _ hq2] at h; exact h
  rw [hq, hrest] at hRR
  rw [show ∀ r, rBits2 (n :: r) = rBits3 n r from fun _ => rfl] at hRR
  unfold rBits3 at hRR
  rw [show rem s (p + 1 + 1) = rem s (p + 2) from rfl] at hRR
  have HF3 := Aside0.mk (hF.out.trans hF2.out)
  have HB3 := Aside0.mk hB'
  clear hr hG hB2 hrest hq hB' HRR hF hF2 HB
  have hnb := n.toNat_lt
  by_cases hn : n.toNat < 1 ∨ 7 < n.toNat
  · rw [if_pos hn] at hRR
    have HN1 := Aside0.mk hRR
    clear hRR
    rcases hn with hn | hn
    all_goals
      go_wp2_with fail
      refine (form_of _ false (by simp <;> omega) _).mono ?_
      rintro e w4 ⟨rfl, rfl⟩
      go_wp2
      exact ⟨rfl, got_err HN1.out.symm rfl HF3.out HB3.out⟩
  rw [if_neg hn] at hRR
  have hn1 : 1 ≤ (n.toNat : Int) := by omega
  have hn7 : (n.toNat : Int) ≤ 7 := by omega
  have HRR := Aside0.mk hRR
  clear hRR hn
  go_wp2_with fail
  refine (form_of _ true (by simp <;> omega) _).mono ?_
  rintro e w4 ⟨rfl, rfl⟩
  go_wp2_with fail
  refine (take_sp g s (p + 2) n.toNat hq2 hs (by omega) _ HB3.out).mono ?_
  intro e w4 hG
  have hRR := HRR.out
  rcases got_cases hG with ⟨m, rest, hr, rfl, hF4, hB4⟩ | ⟨n', hr, rfl, hF4, q', hB4⟩
  case inr =>
    have hN' : R = .error n' := by
      have h := hr.out
      unfold rTake at h
      split at h
      · cases h
      · rename_i hl
        rw [if_pos (show (rem s (p + 2)).length < n.toNat by omega)] at hRR
        rw [← hRR]; simp only [Except.error.injEq] at h; rw [h]
    have HN1 := Aside0.mk hN'
    clear hN' hr hG hRR HRR
    go_wp2
    exact ⟨rfl, got_err HN1.out rfl (HF3.out.trans hF4.out) hB4.out⟩
  have hr' := hr.out
  unfold rTake at hr'
  split at hr'
  case isFalse => cases hr'
  rename_i hlen
  simp only [Except.ok.injEq, Prod.mk.injEq] at hr'
  obtain ⟨hm, hrest⟩ := hr'
  have hm' : (rem s (p + 2)).take n.toNat = m := hm
  have hml : m.length = n.toNat := by rw [← hm, List.length_take]; omega
  rw [if_neg (show ¬ (rem s (p + 2)).length < n.toNat by omega), hm'] at hRR
  have HB4 := Aside0.mk (show Rb w4 g s ((s.size - rest.length : Nat) : Int) from hB4.out)
  have HF4 := Aside0.mk (HF3.out.trans hF4.out)
  have HRE := Aside0.mk (show (rem s (p + 2)).drop n.toNat = rest from hrest)
  rw [HRE.out] at hRR
  clear hr hG hB4 hF4 hm hm' hrest HRR HB3 HF3 hlen
  have hmz : (strOf m).size = n.toNat := hml
  have hsub : wrap64 ((n.toNat : Int) - 1) = ((n.toNat - 1 : Nat) : Int) := by unfold wrap64; omega
  have hix : n.toNat - 1 < (strOf m).size := by omega
  have HRR := Aside0.mk hRR
  clear hRR
  have hlast : m.getLast? = some ((strOf m)[n.toNat - 1]'hix) := by
    rw [List.getLast?_eq_getElem?, hml, List.getElem?_eq_getElem (by rw [hml]; omega)]; rfl
  obtain ⟨lb, hlb⟩ : ∃ lb, (strOf m)[n.toNat - 1]'hix = lb := ⟨_, rfl⟩
  rw [hlb] at hlast
  have hlbn : ((strOf m)[n.toNat - 1]'hix).toNat = lb.toNat := by rw [hlb]
  have HLA := Aside0.mk hlast
  clear hlast hlb
  go_wp2_with fail
  have hRR := HRR.out
  rw [HLA.out] at hRR
  by_cases hl0 : lb = 0
  · subst hl0
    rw [if_pos rfl] at hRR
    have HN1 := Aside0.mk hRR
    clear hRR HRR
    refine (form_of _ false (by rfl) _).mono ?_
    rintro e w5 ⟨rfl, rfl⟩
    go_wp2
    exact ⟨rfl, got_err HN1.out.symm rfl HF4.out HB4.out⟩
  rw [if_neg (fun h => hl0 (by simpa using h))] at hRR
  have HRR := Aside0.mk hRR
  clear hRR
  refine (form_of _ true (by
    simp only [bne_iff_ne, ne_eq]
    intro e
    exact hl0 (UInt8.toNat_inj.1 (by have e2 : lb.toNat = 0 := by omega
                                     rw [e2]; rfl))) _).mono ?_
  rintro e w5 ⟨rfl, rfl⟩
  clear hlbn hix hsub
  have h8 : wrap64 (8 * (n.toNat : Int)) = ((8 * n.toNat : Nat) : Int) := by unfold wrap64; omega
  go_wp2_with fail
  go_loopw [5, 31] (fun va vi wr => ∃ (i acc : Nat), va = .int .u64 (acc : Int) ∧ vi = .int .i64 (i : Int) ∧ Aside0 (i ≤ 8 * n.toNat) ∧ Aside0 (acc = bitsOf m % 2 ^ i) ∧ Aside0 (wr = w4)) (fun _ vi _ => 8 * n.toNat - (RowKit.intOf vi).toNat)
  case atStart => exact ⟨0, 0, rfl, rfl, ⟨Nat.zero_le _⟩, ⟨by simp [Nat.mod_one]⟩, ⟨rfl⟩⟩
  case round =>
    obtain ⟨i, acc, rfl, rfl, HI, HA, HW⟩ := hrel
    obtain rfl := HW.out
    by_cases hlt : i < 8 * n.toNat
    · have hltI : (i : Int) < ((8 * n.toNat : Nat) : Int) := by omega
      have hltJ : (i : Int) < 8 * (n.toNat : Int) := by omega
      have hq0 : (0 : Int) ≤ (i : Int) / 8 := by omega
      have hq1 : (i : Int) / 8 < (n.toNat : Int) := by omega
      have hqn : ((i : Int) / 8).toNat = i / 8 := by omega
      have hqs : i / 8 < (strOf m).size := by omega
      have hcond := bit_cond ((strOf m)[i / 8]'hqs) (i % 8) (by omega)
      have hbit : (bitsOf m).testBit i = ((strOf m)[i / 8]'hqs).toNat.testBit (7 - i % 8) := bitsOf_bit m i (by rw [hml]; omega)
      have hst := mod_step (bitsOf m) i
      rw [hbit, ← hcond] at hst
      have HST := Aside0.mk hst
      clear hcond hbit hst
      go_wp2_with fail
      · rename_i hc
        have hst := HST.out
        rw [if_pos hc] at hst
        have HS1 := Aside0.mk hst
        clear hst hc HST
        go_roundw
        case rel =>
          refine ⟨i + 1, acc ||| 2 ^ i, ?_, by go_num, ⟨by omega⟩, ⟨by rw [HS1.out, HA.out]⟩, ⟨trivial⟩⟩
          rw [or_bit acc i (by rw [HA.out]; exact Nat.mod_lt _ (Nat.pow_pos (by omega))) (by omega)]
        case measure => simp [RowKit.intOf]; omega
      · rename_i hc
        have hst := HST.out
        rw [if_neg (by rw [hc]; decide)] at hst
        have HS1 := Aside0.mk hst
        clear hst hc HST
        go_roundw
        case rel => exact ⟨i + 1, acc, rfl, by go_num, ⟨by omega⟩, ⟨by rw [HS1.out, HA.out]⟩, ⟨trivial⟩⟩
        case measure => simp [RowKit.intOf]; omega
    · have hltI : ¬ (i : Int) < ((8 * n.toNat : Nat) : Int) := by omega
      have hltJ : ¬ (i : Int) < 8 * (n.toNat : Int) := by omega
      have hi8 : i = 8 * n.toNat := by have := HI.out; omega
      have hacc : acc = bitsOf m := by
        rw [HA.out, hi8]
        refine Nat.mod_eq_of_lt ?_
        have h := bitsOf_lt m
        rw [hml] at h
        rw [Nat.pow_mul]; exact h
      have hb64 : bitsOf m < 18446744073709551616 := by
        have h := bitsOf_lt m
        rw [hml] at h
        refine Nat.lt_of_lt_of_le h ?_
        rw [show 18446744073709551616 = 256 ^ 8 from rfl]
        exact Nat.pow_le_pow_right (by omega) (by omega)
      have han := andNot_all (acc : Int) (by omega) (by omega)
      unfold setB at han
      rw [Int.toNat_natCast] at han
      have HACC := Aside0.mk hacc
      have HAN := Aside0.mk han
      clear hacc han hi8 hb64 HA
      go_wp2_with fail
      refine (S.all _).mono ?_
      rintro e w5 ⟨rfl, hb5⟩
      have HB5 := Aside0.mk (HB4.out.below hb5)
      have HF5 := Aside0.mk (HF4.out.below hb5)
      clear hb5
      go_wp2_with fail
      have hRR := HRR.out
      cases ho : onlyT (bitsOf m)
      · rw [if_neg (by simp [ho])] at hRR
        have HN1 := Aside0.mk hRR
        refine (form_of _ false (by rw [HAN.out, HACC.out]; exact ho) _).mono ?_
        rintro e w6 ⟨rfl, rfl⟩
        clear hRR ho
        go_wp2
        exact ⟨rfl, got_err HN1.out.symm rfl HF5.out HB5.out⟩
      · rw [if_pos ho] at hRR
        have HN1 := Aside0.mk hRR
        refine (form_of _ true (by rw [HAN.out, HACC.out]; exact ho) _).mono ?_
        rintro e w6 ⟨rfl, rfl⟩
        clear hRR ho
        go_wp2
        go_ret
        exact got_ok HN1.out.symm (by rw [← HACC.out]; rfl) HF5.out HB5.out
end Go.Proofs.YtaehonmfoanloaaDoor.Hand
namespace Go.Proofs.YtaehonmfoanloaaDoor.Hand
open Go.RowKit Go.Proofs.YtaehonmfoanloaaDoorW.PrintWords Go.Proofs.YtaehonmfoanloaaDoor.RdW
set_option maxHeartbeats 40000000
set_option maxRecDepth 100000
set_option linter.all false
/-- Outside of two blocks, w' is as w was. -/
structure But2 (g d : Nat) (w w' : World) : Prop where
  os : w'.os = w.os
  tape : w'.tape = w.tape
  output : w'.output = w.output
  size : w.heap.size ≤ w'.heap.size
  block : ∀ k, k < w.heap.size → k ≠ g → k ≠ d → w'.heap[k]? = w.heap[k]?
theorem But.two {g d : Nat} {w w' : World} (h : But g w w') : But2 g d w w' := ⟨h.os, h.tape, h.output, h.size, fun k a b _ => h.block k a b⟩
theorem But2.refl (g d : Nat) (w : World) : But2 g d w w := (But.refl g w).two
theorem But2.trans {g d : Nat} {a b c : World} (h : But2 g d a b) (k : But2 g d b c) : But2 g d a c :=
  ⟨k.os.trans h.os, k.tape.trans h.tape, k.output.trans h.output, Nat.le_trans h.size k.size, fun i hi hg hd => (k.block i (Nat.lt_of_lt_of_le hi h.size) hg hd).trans (h.block i hi hg hd)⟩
theorem But2.below {g d : Nat} {a b c : World} (h : But2 g d a b) (k : Below b.heap.size b c) : But2 g d a c := h.trans ⟨k.os, k.tape, k.output, k.size, fun i hi _ _ => k.block i hi⟩
theorem But2.set {g d : Nat} {a w : World} (h : But2 g d a w) (o : Nat) (u : Value) : But2 g d a (w.setCell ⟨d, o, none⟩ u) :=
  h.trans ⟨rfl, rfl, rfl, by simp [World.setCell], fun k _ _ hd => Below.heap_setCell _ _ _ _ hd⟩
/-- The block of the data that are read. -/
def Db (w : World) (d : Nat) (x : D) : Prop := w.heap[d]? = some (.cells x.cells 26 (0, 0))
theorem Db.lt {w : World} {d : Nat} {x : D} (h : Db w d x) : d < w.heap.size := lt_of_blk h
theorem Db.but {w w' : World} {g d : Nat} {x : D} (h : Db w d x) (hb : But g w w') (hn : d ≠ g) : Db w' d x := (hb.block _ h.lt hn).trans h
theorem Db.below {w w' : World} {d : Nat} {x : D} (h : Db w d x) (hb : Below w.heap.size w w') : Db w' d x := (hb.block _ h.lt).trans h
theorem Db.set {w : World} {d : Nat} {x : D} (h : Db w d x) (k : Nat) (v : Value) (x' : D) (hx : x.cells.setIfInBounds k v = x'.cells) : Db (w.setCell ⟨d, k, none⟩ v) d x' := by
  unfold Db at h ⊢
  show (w.heap.modify d _)[d]? = _
  rw [Array.getElem?_modify, if_pos rfl, h]
  simp [hx]
theorem Db.cells {w : World} {d : Nat} {x : D} (h : Db w d x) : (∀ o, w.cell? ⟨d, o, none⟩ = x.cells[o]?) ∧ (∀ o, w.frozen? ⟨d, o, none⟩ = false) := cells_of_blk h
def GotF (g d : Nat) (s : ByteArray) (r : Rs D) (w : World) (e : Ending) (w' : World) : Prop :=
  But2 g d w w' ∧ match r with
  | .ok (x, rest) => e = .returned (.tuple #[]) ∧ Rb w' g s ((s.size - rest.length : Nat) : Int) ∧ Db w' d x
  | .error n => e = died n ∧ (∃ q, Rb w' g s q) ∧ ∃ x, Db w' d x
theorem gotF_ok {g d : Nat} {s : ByteArray} {r : Rs D} {w w' : World} {e : Ending} {x : D} {rest : List UInt8} (hr : r = .ok (x, rest)) (he : e = .returned (.tuple #[])) (hf : But2 g d w w') (hb : Rb w' g s ((s.size - rest.length : Nat) : Int)) (hd : Db w' d x) : GotF g d s r w e w' := by
  subst hr; exact ⟨hf, he, hb, hd⟩
theorem gotF_err {g d : Nat} {s : ByteArray} {r : Rs D} {w w' : World} {e : Ending} {n : Int} (hr : r = .error n) (he : e = died n) (hf : But2 g d w w') {q : Int} (hb : Rb w' g s q) {x : D} (hd : Db w' d x) : GotF g d s r w e w' := by
  subst hr; exact ⟨hf, he, ⟨q, hb⟩, x, hd⟩
/-- What addr.Read returns of 4 and of 16 bytes. -/
structure FSp : Prop extends PSp where
  read4 : ∀ (l : List UInt8), l.length = 4 → ∀ w : World, Calls Tryd.prog 65 #[.string (strOf l)] w fun e w' => e = .returned (.tuple #[.agg #[.bool false, .int .u64 0, .int .u64 (val l 0 : Nat)], .int .i64 0]) ∧ Below w.heap.size w w'
  read16 : ∀ (l : List UInt8), l.length = 16 → ∀ w : World, Calls Tryd.prog 65 #[.string (strOf l)] w fun e w' => e = .returned (.tuple #[.agg #[.bool true, .int .u64 (val (l.take 8) 0 : Nat), .int .u64 (val (l.drop 8) 0 : Nat)], .int .i64 0]) ∧ Below w.heap.size w w'
theorem field_name (g d : Nat) (s : ByteArray) (p : Nat) (x : D) (c : UInt8) (hc : c = 104 ∨ c = 109) (hp : p ≤ s.size) (hs : s.size ≤ 1000000) (w : World) (hR : Rb w g s p) (hD : Db w d x) (hn : d ≠ g) :
    Calls Tryd.prog 49 #[.pointer (some ⟨g, 0, none⟩), .int .u8 (c.toNat : Int), .pointer (some ⟨d, 0, none⟩)] w (GotF g d s (rField c (rem s p) x) w) := by
  have hu := Tryd.underlying26
  have HD := Aside0.mk hD
  clear hD
  rcases hc with rfl | rfl
  all_goals
    obtain ⟨v6, hi, lo, host, mail, text, a, b, c, d', e', f, bits⟩ := x
    go_enter Tryd.func49, Tryd.ntmps49
    go_wp2_with fail
    refine (name_sp g s p hp hs _ hR).mono ?_
    intro e w1 hG
    rcases got_cases hG with ⟨l, rest, hr, rfl, hF, hB⟩ | ⟨n', hr, rfl, hF, q', hB⟩
    · have HD1 := Aside0.mk (HD.out.but hF.out hn)
      obtain ⟨hc, hf⟩ := HD1.out.cells
      dsimp only [D.cells] at hc
      have HR1 := Aside0.mk hr.out
      clear hr hG
      go_wp2
      go_end0
      exact gotF_ok (by show mapR (readName (rem s p)) _ = _; rw [HR1.out]; rfl) rfl (hF.out.two.set _ _) (hB.out.far (fun e => hn e.symm) _ _) (HD1.out.set _ _ _ rfl)
    · have HD1 := Aside0.mk (HD.out.but hF.out hn)
      have HR1 := Aside0.mk hr.out
      clear hr hG
      go_wp2
      exact ⟨rfl, gotF_err (by show mapR (readName (rem s p)) _ = _; rw [HR1.out]; rfl) rfl hF.out.two hB.out HD1.out⟩
theorem field_num (g d : Nat) (s : ByteArray) (p : Nat) (x : D) (c : UInt8) (hc : c = 65 ∨ c = 66 ∨ c = 67 ∨ c = 70 ∨ c = 98 ∨ c = 99 ∨ c = 118 ∨ c = 119 ∨ c = 120 ∨ c = 121 ∨ c = 122) (hp : p ≤ s.size) (hs : s.size ≤ 1000000) (w : World) (hR : Rb w g s p) (hD : Db w d x) (hn : d ≠ g) :
    Calls Tryd.prog 49 #[.pointer (some ⟨g, 0, none⟩), .int .u8 (c.toNat : Int), .pointer (some ⟨d, 0, none⟩)] w (GotF g d s (rField c (rem s p) x) w) := by
  have hu := Tryd.underlying26
  have hu2 := Tryd.underlying24
  have HD := Aside0.mk hD
  clear hD
  have HR := Aside0.mk hR
  clear hR
  rcases hc with rfl | rfl | rfl | rfl | rfl | rfl | rfl | rfl | rfl | rfl | rfl
  · obtain ⟨v6, hi, lo, host, mail, text, a, b, c, d', e', f, bits⟩ := x
    go_enter Tryd.func49, Tryd.ntmps49
    go_wp2_with fail
    have hpl := place_sp 65 (by decide) d w
    rw [show cellOf 65 = (0, 2) from rfl] at hpl
    refine hpl.mono ?_
    clear hpl
    rintro e_ w1 ⟨rfl, hb⟩
    have HR1 := Aside0.mk (HR.out.below hb)
    have HD1 := Aside0.mk (HD.out.below hb)
    have HF1 := Aside0.mk ((But.refl g w).below hb)
    clear HR HD hb
    go_wp2_with fail
    have hnum : Calls Tryd.prog 70 #[.pointer (some ⟨g, 0, none⟩), .int .i64 2] w1 _ := number_sp g s p 2 hp hs (by omega) w1 HR1.out
    refine hnum.mono ?_
    clear hnum
    intro e w2 hG
    rcases got_cases hG with ⟨l, rest, hr, rfl, hF, hB⟩ | ⟨n', hr, rfl, hF, q', hB⟩
    · have HD2 := Aside0.mk (HD1.out.but hF.out hn)
      obtain ⟨hc, hf⟩ := HD2.out.cells
      dsimp only [D.cells] at hc
      have HRR := Aside0.mk hr.out
      clear hr hG
      go_wp2
      go_end0
      exact gotF_ok (by show mapR (rNum 2 0 (rem s p)) _ = _; rw [HRR.out]; rfl) rfl ((HF1.out.trans hF.out).two.set _ _) (hB.out.far (fun e => hn e.symm) _ _) (HD2.out.set _ _ _ rfl)
    · have HD2 := Aside0.mk (HD1.out.but hF.out hn)
      have HRR := Aside0.mk hr.out
      clear hr hG
      go_wp2
      exact ⟨rfl, gotF_err (by show mapR (rNum 2 0 (rem s p)) _ = _; rw [HRR.out]; rfl) rfl (HF1.out.trans hF.out).two hB.out HD2.out⟩
  · obtain ⟨v6, hi, lo, host, mail, text, a, b, c, d', e', f, bits⟩ := x
    go_enter Tryd.func49, Tryd.ntmps49
    go_wp2_with fail
    have hpl := place_sp 66 (by decide) d w
    rw [show cellOf 66 = (1, 2) from rfl] at hpl
    refine hpl.mono ?_
    clear hpl
    rintro e_ w1 ⟨rfl, hb⟩
    have HR1 := Aside0.mk (HR.out.below hb)
    have HD1 := Aside0.mk (HD.out.below hb)
    have HF1 := Aside0.mk ((But.refl g w).below hb)
    clear HR HD hb
    go_wp2_with fail
    have hnum : Calls Tryd.prog 70 #[.pointer (some ⟨g, 0, none⟩), .int .i64 2] w1 _ := number_sp g s p 2 hp hs (by omega) w1 HR1.out
    refine hnum.mono ?_
    clear hnum
    intro e w2 hG
    rcases got_cases hG with ⟨l, rest, hr, rfl, hF, hB⟩ | ⟨n', hr, rfl, hF, q', hB⟩
    · have HD2 := Aside0.mk (HD1.out.but hF.out hn)
      obtain ⟨hc, hf⟩ := HD2.out.cells
      dsimp only [D.cells] at hc
      have HRR := Aside0.mk hr.out
      clear hr hG
      go_wp2
      go_end0
      exact gotF_ok (by show mapR (rNum 2 0 (rem s p)) _ = _; rw [HRR.out]; rfl) rfl ((HF1.out.trans hF.out).two.set _ _) (hB.out.far (fun e => hn e.symm) _ _) (HD2.out.set _ _ _ rfl)
    · have HD2 := Aside0.mk (HD1.out.but hF.out hn)
      have HRR := Aside0.mk hr.out
      clear hr hG
      go_wp2
      exact ⟨rfl, gotF_err (by show mapR (rNum 2 0 (rem s p)) _ = _; rw [HRR.out]; rfl) rfl (HF1.out.trans hF.out).two hB.out HD2.out⟩
  · obtain ⟨v6, hi, lo, host, mail, text, a, b, c, d', e', f, bits⟩ := x
    go_enter Tryd.func49, Tryd.ntmps49
    go_wp2_with fail
    have hpl := place_sp 67 (by decide) d w
    rw [show cellOf 67 = (2, 2) from rfl] at hpl
    refine hpl.mono ?_
    clear hpl
    rintro e_ w1 ⟨rfl, hb⟩
    have HR1 := Aside0.mk (HR.out.below hb)
    have HD1 := Aside0.mk (HD.out.below hb)
    have HF1 := Aside0.mk ((But.refl g w).below hb)
    clear HR HD hb
    go_wp2_with fail
    have hnum : Calls Tryd.prog 70 #[.pointer (some ⟨g, 0, none⟩), .int .i64 2] w1 _ := number_sp g s p 2 hp hs (by omega) w1 HR1.out
    refine hnum.mono ?_
    clear hnum
    intro e w2 hG
    rcases got_cases hG with ⟨l, rest, hr, rfl, hF, hB⟩ | ⟨n', hr, rfl, hF, q', hB⟩
    · have HD2 := Aside0.mk (HD1.out.but hF.out hn)
      obtain ⟨hc, hf⟩ := HD2.out.cells
      dsimp only [D.cells] at hc
      have HRR := Aside0.mk hr.out
      clear hr hG
      go_wp2
      go_end0
      exact gotF_ok (by show mapR (rNum 2 0 (rem s p)) _ = _; rw [HRR.out]; rfl) rfl ((HF1.out.trans hF.out).two.set _ _) (hB.out.far (fun e => hn e.symm) _ _) (HD2.out.set _ _ _ rfl)
    · have HD2 := Aside0.mk (HD1.out.but hF.out hn)
      have HRR := Aside0.mk hr.out
      clear hr hG
      go_wp2
      exact ⟨rfl, gotF_err (by show mapR (rNum 2 0 (rem s p)) _ = _; rw [HRR.out]; rfl) rfl (HF1.out.trans hF.out).two hB.out HD2.out⟩
  · obtain ⟨v6, hi, lo, host, mail, text, a, b, c, d', e', f, bits⟩ := x
    go_enter Tryd.func49, Tryd.ntmps49
    go_wp2_with fail
    have hpl := place_sp 70 (by decide) d w
    rw [show cellOf 70 = (5, 2) from rfl] at hpl
    refine hpl.mono ?_
    clear hpl
    rintro e_ w1 ⟨rfl, hb⟩
    have HR1 := Aside0.mk (HR.out.below hb)
    have HD1 := Aside0.mk (HD.out.below hb)
    have HF1 := Aside0.mk ((But.refl g w).below hb)
    clear HR HD hb
    go_wp2_with fail
    have hnum : Calls Tryd.prog 70 #[.pointer (some ⟨g, 0, none⟩), .int .i64 2] w1 _ := number_sp g s p 2 hp hs (by omega) w1 HR1.out
    refine hnum.mono ?_
    clear hnum
    intro e w2 hG
    rcases got_cases hG with ⟨l, rest, hr, rfl, hF, hB⟩ | ⟨n', hr, rfl, hF, q', hB⟩
    · have HD2 := Aside0.mk (HD1.out.but hF.out hn)
      obtain ⟨hc, hf⟩ := HD2.out.cells
      dsimp only [D.cells] at hc
      have HRR := Aside0.mk hr.out
      clear hr hG
      go_wp2
      go_end0
      exact gotF_ok (by show mapR (rNum 2 0 (rem s p)) _ = _; rw [HRR.out]; rfl) rfl ((HF1.out.trans hF.out).two.set _ _) (hB.out.far (fun e => hn e.symm) _ _) (HD2.out.set _ _ _ rfl)
    · have HD2 := Aside0.mk (HD1.out.but hF.out hn)
      have HRR := Aside0.mk hr.out
      clear hr hG
      go_wp2
      exact ⟨rfl, gotF_err (by show mapR (rNum 2 0 (rem s p)) _ = _; rw [HRR.out]; rfl) rfl (HF1.out.trans hF.out).two hB.out HD2.out⟩
  · obtain ⟨v6, hi, lo, host, mail, text, a, b, c, d', e', f, bits⟩ := x
    go_enter Tryd.func49, Tryd.ntmps49
    go_wp2_with fail
    have hpl := place_sp 98 (by decide) d w
    rw [show cellOf 98 = (1, 1) from rfl] at hpl
    refine hpl.mono ?_
    clear hpl
    rintro e_ w1 ⟨rfl, hb⟩
    have HR1 := Aside0.mk (HR.out.below hb)
    have HD1 := Aside0.mk (HD.out.below hb)
    have HF1 := Aside0.mk ((But.refl g w).below hb)
    clear HR HD hb
    go_wp2_with fail
    have hnum : Calls Tryd.prog 70 #[.pointer (some ⟨g, 0, none⟩), .int .i64 1] w1 _ := number_sp g s p 1 hp hs (by omega) w1 HR1.out
    refine hnum.mono ?_
    clear hnum
    intro e w2 hG
    rcases got_cases hG with ⟨l, rest, hr, rfl, hF, hB⟩ | ⟨n', hr, rfl, hF, q', hB⟩
    · have HD2 := Aside0.mk (HD1.out.but hF.out hn)
      obtain ⟨hc, hf⟩ := HD2.out.cells
      dsimp only [D.cells] at hc
      have HRR := Aside0.mk hr.out
      clear hr hG
      go_wp2
      go_end0
      exact gotF_ok (by show mapR (rNum 1 0 (rem s p)) _ = _; rw [HRR.out]; rfl) rfl ((HF1.out.trans hF.out).two.set _ _) (hB.out.far (fun e => hn e.symm) _ _) (HD2.out.set _ _ _ rfl)
    · have HD2 := Aside0.mk (HD1.out.but hF.out hn)
      have HRR := Aside0.mk hr.out
      clear hr hG
      go_wp2
      exact ⟨rfl, gotF_err (by show mapR (rNum 1 0 (rem s p)) _ = _; rw [HRR.out]; rfl) rfl (HF1.out.trans hF.out).two hB.out HD2.out⟩
  · obtain ⟨v6, hi, lo, host, mail, text, a, b, c, d', e', f, bits⟩ := x
    go_enter Tryd.func49, Tryd.ntmps49
    go_wp2_with fail
    have hpl := place_sp 99 (by decide) d w
    rw [show cellOf 99 = (2, 1) from rfl] at hpl
    refine hpl.mono ?_
    clear hpl
    rintro e_ w1 ⟨rfl, hb⟩
    have HR1 := Aside0.mk (HR.out.below hb)
    have HD1 := Aside0.mk (HD.out.below hb)
    have HF1 := Aside0.mk ((But.refl g w).below hb)
    clear HR HD hb
    go_wp2_with fail
    have hnum : Calls Tryd.prog 70 #[.pointer (some ⟨g, 0, none⟩), .int .i64 1] w1 _ := number_sp g s p 1 hp hs (by omega) w1 HR1.out
    refine hnum.mono ?_
    clear hnum
    intro e w2 hG
    rcases got_cases hG with ⟨l, rest, hr, rfl, hF, hB⟩ | ⟨n', hr, rfl, hF, q', hB⟩
    · have HD2 := Aside0.mk (HD1.out.but hF.out hn)
      obtain ⟨hc, hf⟩ := HD2.out.cells
      dsimp only [D.cells] at hc
      have HRR := Aside0.mk hr.out
      clear hr hG
      go_wp2
      go_end0
      exact gotF_ok (by show mapR (rNum 1 0 (rem s p)) _ = _; rw [HRR.out]; rfl) rfl ((HF1.out.trans hF.out).two.set _ _) (hB.out.far (fun e => hn e.symm) _ _) (HD2.out.set _ _ _ rfl)
    · have HD2 := Aside0.mk (HD1.out.but hF.out hn)
      have HRR := Aside0.mk hr.out
      clear hr hG
      go_wp2
      exact ⟨rfl, gotF_err (by show mapR (rNum 1 0 (rem s p)) _ = _; rw [HRR.out]; rfl) rfl (HF1.out.trans hF.out).two hB.out HD2.out⟩
  · obtain ⟨v6, hi, lo, host, mail, text, a, b, c, d', e', f, bits⟩ := x
    go_enter Tryd.func49, Tryd.ntmps49
    go_wp2_with fail
    have hpl := place_sp 118 (by decide) d w
    rw [show cellOf 118 = (0, 4) from rfl] at hpl
    refine hpl.mono ?_
    clear hpl
    rintro e_ w1 ⟨rfl, hb⟩
    have HR1 := Aside0.mk (HR.out.below hb)
    have HD1 := Aside0.mk (HD.out.below hb)
    have HF1 := Aside0.mk ((But.refl g w).below hb)
    clear HR HD hb
    go_wp2_with fail
    have hnum : Calls Tryd.prog 70 #[.pointer (some ⟨g, 0, none⟩), .int .i64 4] w1 _ := number_sp g s p 4 hp hs (by omega) w1 HR1.out
    refine hnum.mono ?_
    clear hnum
    intro e w2 hG
    rcases got_cases hG with ⟨l, rest, hr, rfl, hF, hB⟩ | ⟨n', hr, rfl, hF, q', hB⟩
    · have HD2 := Aside0.mk (HD1.out.but hF.out hn)
      obtain ⟨hc, hf⟩ := HD2.out.cells
      dsimp only [D.cells] at hc
      have HRR := Aside0.mk hr.out
      clear hr hG
      go_wp2
      go_end0
      exact gotF_ok (by show mapR (rNum 4 0 (rem s p)) _ = _; rw [HRR.out]; rfl) rfl ((HF1.out.trans hF.out).two.set _ _) (hB.out.far (fun e => hn e.symm) _ _) (HD2.out.set _ _ _ rfl)
    · have HD2 := Aside0.mk (HD1.out.but hF.out hn)
      have HRR := Aside0.mk hr.out
      clear hr hG
      go_wp2
      exact ⟨rfl, gotF_err (by show mapR (rNum 4 0 (rem s p)) _ = _; rw [HRR.out]; rfl) rfl (HF1.out.trans hF.out).two hB.out HD2.out⟩
  · obtain ⟨v6, hi, lo, host, mail, text, a, b, c, d', e', f, bits⟩ := x
    go_enter Tryd.func49, Tryd.ntmps49
    go_wp2_with fail
    have hpl := place_sp 119 (by decide) d w
    rw [show cellOf 119 = (1, 4) from rfl] at hpl
    refine hpl.mono ?_
    clear hpl
    rintro e_ w1 ⟨rfl, hb⟩
    have HR1 := Aside0.mk (HR.out.below hb)
    have HD1 := Aside0.mk (HD.out.below hb)
    have HF1 := Aside0.mk ((But.refl g w).below hb)
    clear HR HD hb
    go_wp2_with fail
    have hnum : Calls Tryd.prog 70 #[.pointer (some ⟨g, 0, none⟩), .int .i64 4] w1 _ := number_sp g s p 4 hp hs (by omega) w1 HR1.out
    refine hnum.mono ?_
    clear hnum
    intro e w2 hG
    rcases got_cases hG with ⟨l, rest, hr, rfl, hF, hB⟩ | ⟨n', hr, rfl, hF, q', hB⟩
    · have HD2 := Aside0.mk (HD1.out.but hF.out hn)
      obtain ⟨hc, hf⟩ := HD2.out.cells
      dsimp only [D.cells] at hc
      have HRR := Aside0.mk hr.out
      clear hr hG
      go_wp2
      go_end0
      exact gotF_ok (by show mapR (rNum 4 0 (rem s p)) _ = _; rw [HRR.out]; rfl) rfl ((HF1.out.trans hF.out).two.set _ _) (hB.out.far (fun e => hn e.symm) _ _) (HD2.out.set _ _ _ rfl)
    · have HD2 := Aside0.mk (HD1.out.but hF.out hn)
      have HRR := Aside0.mk hr.out
      clear hr hG
      go_wp2
      exact ⟨rfl, gotF_err (by show mapR (rNum 4 0 (rem s p)) _ = _; rw [HRR.out]; rfl) rfl (HF1.out.trans hF.out).two hB.out HD2.out⟩
  · obtain ⟨v6, hi, lo, host, mail, text, a, b, c, d', e', f, bits⟩ := x
    go_enter Tryd.func49, Tryd.ntmps49
    go_wp2_with fail
    have hpl := place_sp 120 (by decide) d w
    rw [show cellOf 120 = (2, 4) from rfl] at hpl
    refine hpl.mono ?_
    clear hpl
    rintro e_ w1 ⟨rfl, hb⟩
    have HR1 := Aside0.mk (HR.out.below hb)
    have HD1 := Aside0.mk (HD.out.below hb)
    have HF1 := Aside0.mk ((But.refl g w).below hb)
    clear HR HD hb
    go_wp2_with fail
    have hnum : Calls Tryd.prog 70 #[.pointer (some ⟨g, 0, none⟩), .int .i64 4] w1 _ := number_sp g s p 4 hp hs (by omega) w1 HR1.out
    refine hnum.mono ?_
    clear hnum
    intro e w2 hG
    rcases got_cases hG with ⟨l, rest, hr, rfl, hF, hB⟩ | ⟨n', hr, rfl, hF, q', hB⟩
    · have HD2 := Aside0.mk (HD1.out.but hF.out hn)
      obtain ⟨hc, hf⟩ := HD2.out.cells
      dsimp only [D.cells] at hc
      have HRR := Aside0.mk hr.out
      clear hr hG
      go_wp2
      go_end0
      exact gotF_ok (by show mapR (rNum 4 0 (rem s p)) _ = _; rw [HRR.out]; rfl) rfl ((HF1.out.trans hF.out).two.set _ _) (hB.out.far (fun e => hn e.symm) _ _) (HD2.out.set _ _ _ rfl)
    · have HD2 := Aside0.mk (HD1.out.but hF.out hn)
      have HRR := Aside0.mk hr.out
      clear hr hG
      go_wp2
      exact ⟨rfl, gotF_err (by show mapR (rNum 4 0 (rem s p)) _ = _; rw [HRR.out]; rfl) rfl (HF1.out.trans hF.out).two hB.out HD2.out⟩
  · obtain ⟨v6, hi, lo, host, mail, text, a, b, c, d', e', f, bits⟩ := x
    go_enter Tryd.func49, Tryd.ntmps49
    go_wp2_with fail
    have hpl := place_sp 121 (by decide) d w
    rw [show cellOf 121 = (3, 4) from rfl] at hpl
    refine hpl.mono ?_
    clear hpl
    rintro e_ w1 ⟨rfl, hb⟩
    have HR1 := Aside0.mk (HR.out.below hb)
    have HD1 := Aside0.mk (HD.out.below hb)
    have HF1 := Aside0.mk ((But.refl g w).below hb)
    clear HR HD hb
    go_wp2_with fail
    have hnum : Calls Tryd.prog 70 #[.pointer (some ⟨g, 0, none⟩), .int .i64 4] w1 _ := number_sp g s p 4 hp hs (by omega) w1 HR1.out
    refine hnum.mono ?_
    clear hnum
    intro e w2 hG
    rcases got_cases hG with ⟨l, rest, hr, rfl, hF, hB⟩ | ⟨n', hr, rfl, hF, q', hB⟩
    · have HD2 := Aside0.mk (HD1.out.but hF.out hn)
      obtain ⟨hc, hf⟩ := HD2.out.cells
      dsimp only [D.cells] at hc
      have HRR := Aside0.mk hr.out
      clear hr hG
      go_wp2
      go_end0
      exact gotF_ok (by show mapR (rNum 4 0 (rem s p)) _ = _; rw [HRR.out]; rfl) rfl ((HF1.out.trans hF.out).two.set _ _) (hB.out.far (fun e => hn e.symm) _ _) (HD2.out.set _ _ _ rfl)
    · have HD2 := Aside0.mk (HD1.out.but hF.out hn)
      have HRR := Aside0.mk hr.out
      clear hr hG
      go_wp2
      exact ⟨rfl, gotF_err (by show mapR (rNum 4 0 (rem s p)) _ = _; rw [HRR.out]; rfl) rfl (HF1.out.trans hF.out).two hB.out HD2.out⟩
  · obtain ⟨v6, hi, lo, host, mail, text, a, b, c, d', e', f, bits⟩ := x
    go_enter Tryd.func49, Tryd.ntmps49
    go_wp2_with fail
    have hpl := place_sp 122 (by decide) d w
    rw [show cellOf 122 = (4, 4) from rfl] at hpl
    refine hpl.mono ?_
    clear hpl
    rintro e_ w1 ⟨rfl, hb⟩
    have HR1 := Aside0.mk (HR.out.below hb)
    have HD1 := Aside0.mk (HD.out.below hb)
    have HF1 := Aside0.mk ((But.refl g w).below hb)
    clear HR HD hb
    go_wp2_with fail
    have hnum : Calls Tryd.prog 70 #[.pointer (some ⟨g, 0, none⟩), .int .i64 4] w1 _ := number_sp g s p 4 hp hs (by omega) w1 HR1.out
    refine hnum.mono ?_
    clear hnum
    intro e w2 hG
    rcases got_cases hG with ⟨l, rest, hr, rfl, hF, hB⟩ | ⟨n', hr, rfl, hF, q', hB⟩
    · have HD2 := Aside0.mk (HD1.out.but hF.out hn)
      obtain ⟨hc, hf⟩ := HD2.out.cells
      dsimp only [D.cells] at hc
      have HRR := Aside0.mk hr.out
      clear hr hG
      go_wp2
      go_end0
      exact gotF_ok (by show mapR (rNum 4 0 (rem s p)) _ = _; rw [HRR.out]; rfl) rfl ((HF1.out.trans hF.out).two.set _ _) (hB.out.far (fun e => hn e.symm) _ _) (HD2.out.set _ _ _ rfl)
    · have HD2 := Aside0.mk (HD1.out.but hF.out hn)
      have HRR := Aside0.mk hr.out
      clear hr hG
      go_wp2
      exact ⟨rfl, gotF_err (by show mapR (rNum 4 0 (rem s p)) _ = _; rw [HRR.out]; rfl) rfl (HF1.out.trans hF.out).two hB.out HD2.out⟩
theorem field_addr (S : FSp) (g d : Nat) (s : ByteArray) (p : Nat) (x : D) (c : UInt8) (hc : c = 52 ∨ c = 54) (hp : p ≤ s.size) (hs : s.size ≤ 1000000) (w : World) (hR : Rb w g s p) (hD : Db w d x) (hn : d ≠ g) :
    Calls Tryd.prog 49 #[.pointer (some ⟨g, 0, none⟩), .int .u8 (c.toNat : Int), .pointer (some ⟨d, 0, none⟩)] w (GotF g d s (rField c (rem s p) x) w) := by
  have hu := Tryd.underlying26
  have hu2 := Tryd.underlying24
  have HD := Aside0.mk hD
  clear hD
  rcases hc with rfl | rfl
  · obtain ⟨v6, hi, lo, host, mail, text, a, b, c, d', e', f, bits⟩ := x
    go_enter Tryd.func49, Tryd.ntmps49
    go_wp2_with fail
    have htk : Calls Tryd.prog 66 #[.pointer (some ⟨g, 0, none⟩), .int .i64 4] w _ := take_sp g s p 4 hp hs (by omega) w hR
    refine htk.mono ?_
    clear htk
    intro e w1 hG
    rcases got_cases hG with ⟨l, rest, hr, rfl, hF, hB⟩ | ⟨n', hr, rfl, hF, q', hB⟩
    · have hl : l.length = 4 := by
        have h := hr.out
        unfold rTake at h
        split at h
        · simp only [Except.ok.injEq, Prod.mk.injEq] at h
          rw [← h.1, List.length_take]; omega
        · cases h
      have HRR := Aside0.mk hr.out
      have HD1 := Aside0.mk (HD.out.but hF.out hn)
      clear hr hG HD
      go_wp2_with fail
      refine (S.read4 l hl _).mono ?_
      rintro e w2 ⟨rfl, hb⟩
      have HB2 := Aside0.mk (hB.out.below hb)
      have HF2 := Aside0.mk (hF.out.below hb)
      have HD2 := Aside0.mk (HD1.out.below hb)
      clear hb HD1 hB hF
      obtain ⟨hc, hf⟩ := HD2.out.cells
      dsimp only [D.cells] at hc
      go_wp2
      go_end0
      exact gotF_ok (by show mapR (rTake 4 (rem s p)) _ = _; rw [HRR.out]; rfl) rfl (((HF2.out.two.set _ _).set _ _).set _ _) (((HB2.out.far (fun e => hn e.symm) _ _).far (fun e => hn e.symm) _ _).far (fun e => hn e.symm) _ _) (((HD2.out.set _ _ ⟨_, hi, lo, host, mail, text, a, b, c, d', e', f, bits⟩ rfl).set _ _ ⟨_, _, lo, host, mail, text, a, b, c, d', e', f, bits⟩ rfl).set _ _ _ rfl)
    · have HD1 := Aside0.mk (HD.out.but hF.out hn)
      have HRR := Aside0.mk hr.out
      clear hr hG
      go_wp2
      exact ⟨rfl, gotF_err (by show mapR (rTake 4 (rem s p)) _ = _; rw [HRR.out]; rfl) rfl hF.out.two hB.out HD1.out⟩
  · obtain ⟨v6, hi, lo, host, mail, text, a, b, c, d', e', f, bits⟩ := x
    go_enter Tryd.func49, Tryd.ntmps49
    go_wp2_with fail
    have htk : Calls Tryd.prog 66 #[.pointer (some ⟨g, 0, none⟩), .int .i64 16] w _ := take_sp g s p 16 hp hs (by omega) w hR
    refine htk.mono ?_
    clear htk
    intro e w1 hG
    rcases got_cases hG with ⟨l, rest, hr, rfl, hF, hB⟩ | ⟨n', hr, rfl, hF, q', hB⟩
    · have hl : l.length = 16 := by
        have h := hr.out
        unfold rTake at h
        split at h
        · simp only [Except.ok.injEq, Prod.mk.injEq] at h
          rw [← h.1, List.length_take]; omega
        · cases h
      have HRR := Aside0.mk hr.out
      have HD1 := Aside0.mk (HD.out.but hF.out hn)
      clear hr hG HD
      go_wp2_with fail
      refine (S.read16 l hl _).mono ?_
      rintro e w2 ⟨rfl, hb⟩
      have HB2 := Aside0.mk (hB.out.below hb)
      have HF2 := Aside0.mk (hF.out.below hb)
      have HD2 := Aside0.mk (HD1.out.below hb)
      clear hb HD1 hB hF
      obtain ⟨hc, hf⟩ := HD2.out.cells
      dsimp only [D.cells] at hc
      go_wp2
      go_end0
      exact gotF_ok (by show mapR (rTake 16 (rem s p)) _ = _; rw [HRR.out]; rfl) rfl (((HF2.out.two.set _ _).set _ _).set _ _) (((HB2.out.far (fun e => hn e.symm) _ _).far (fun e => hn e.symm) _ _).far (fun e => hn e.symm) _ _) (((HD2.out.set _ _ ⟨_, hi, lo, host, mail, text, a, b, c, d', e', f, bits⟩ rfl).set _ _ ⟨_, _, lo, host, mail, text, a, b, c, d', e', f, bits⟩ rfl).set _ _ _ rfl)
    · have HD1 := Aside0.mk (HD.out.but hF.out hn)
      have HRR := Aside0.mk hr.out
      clear hr hG
      go_wp2
      exact ⟨rfl, gotF_err (by show mapR (rTake 16 (rem s p)) _ = _; rw [HRR.out]; rfl) rfl hF.out.two hB.out HD1.out⟩
end Go.Proofs.YtaehonmfoanloaaDoor.Hand
namespace Go.Proofs.YtaehonmfoanloaaDoor.Hand
open Go.RowKit Go.Proofs.YtaehonmfoanloaaDoorW.PrintWords Go.Proofs.YtaehonmfoanloaaDoor.RdW
set_option maxHeartbeats 40000000
set_option maxRecDepth 100000
set_option linter.all false
theorem field_bits (S : FSp) (g d : Nat) (s : ByteArray) (p : Nat) (x : D) (c : UInt8) (hc : c = 110) (hp : p ≤ s.size) (hs : s.size ≤ 1000000) (w : World) (hR : Rb w g s p) (hD : Db w d x) (hn : d ≠ g) :
    Calls Tryd.prog 49 #[.pointer (some ⟨g, 0, none⟩), .int .u8 (c.toNat : Int), .pointer (some ⟨d, 0, none⟩)] w (GotF g d s (rField c (rem s p) x) w) := by
  have hu := Tryd.underlying26
  have HD := Aside0.mk hD
  clear hD
  subst hc
  obtain ⟨v6, hi, lo, host, mail, text, a, b, c, d', e', f, bits⟩ := x
  go_enter Tryd.func49, Tryd.ntmps49
  go_wp2_with fail
  refine (set_sp S.toPSp g s p hp hs _ hR).mono ?_
  intro e w1 hG
  rcases got_cases hG with ⟨l, rest, hr, rfl, hF, hB⟩ | ⟨n', hr, rfl, hF, q', hB⟩
  · have HD1 := Aside0.mk (HD.out.but hF.out hn)
    obtain ⟨hc, hf⟩ := HD1.out.cells
    dsimp only [D.cells] at hc
    have HR1 := Aside0.mk hr.out
    clear hr hG
    go_wp2
    go_end0
    exact gotF_ok (by show mapR (rBits (rem s p)) _ = _; rw [HR1.out]; rfl) rfl (hF.out.two.set _ _) (hB.out.far (fun e => hn e.symm) _ _) (HD1.out.set _ _ _ rfl)
  · have HD1 := Aside0.mk (HD.out.but hF.out hn)
    have HR1 := Aside0.mk hr.out
    clear hr hG
    go_wp2
    exact ⟨rfl, gotF_err (by show mapR (rBits (rem s p)) _ = _; rw [HR1.out]; rfl) rfl hF.out.two hB.out HD1.out⟩
theorem field_alg (g d : Nat) (s : ByteArray) (p : Nat) (x : D) (c : UInt8) (hc : c = 115) (hp : p ≤ s.size) (hs : s.size ≤ 1000000) (w : World) (hR : Rb w g s p) (hD : Db w d x) (hn : d ≠ g) :
    Calls Tryd.prog 49 #[.pointer (some ⟨g, 0, none⟩), .int .u8 (c.toNat : Int), .pointer (some ⟨d, 0, none⟩)] w (GotF g d s (rField c (rem s p) x) w) := by
  have HD := Aside0.mk hD
  clear hD
  subst hc
  go_enter Tryd.func49, Tryd.ntmps49
  go_wp2_with fail
  refine (byte_sp g s p hp hs _ hR).mono ?_
  intro e w1 hG
  rcases got_cases hG with ⟨b, rest, hr, rfl, hF, hB⟩ | ⟨n', hr, rfl, hF, q', hB⟩
  · have HD1 := Aside0.mk (HD.out.but hF.out hn)
    have HR1 := Aside0.mk hr.out
    clear hr hG
    by_cases h253 : b = 253
    · subst h253
      go_wp2_with fail
      refine (form_of _ true (by rfl) _).mono ?_
      rintro e w2 ⟨rfl, rfl⟩
      go_wp2
      go_end0
      exact gotF_ok (by show (match rByte (rem s p) with | .error n => _ | .ok (b, r') => _) = _; rw [HR1.out]; rfl) rfl hF.out.two hB.out HD1.out
    · have hb : ((b.toNat : Int) == 253) = false := by
        simp only [beq_eq_false_iff_ne, ne_eq]
        intro e
        exact h253 (UInt8.toNat_inj.1 (by have e2 : b.toNat = 253 := by omega
                                          rw [e2]; rfl))
      have HB3 := Aside0.mk h253
      clear h253
      go_wp2_with fail
      refine (form_of _ false (by simp [hb]) _).mono ?_
      rintro e w2 ⟨rfl, rfl⟩
      go_wp2
      exact ⟨rfl, gotF_err (n := 7) (by show (match rByte (rem s p) with | .error n => _ | .ok (b, r') => _) = _; rw [HR1.out]; exact if_neg HB3.out) rfl hF.out.two hB.out HD1.out⟩
  · have HD1 := Aside0.mk (HD.out.but hF.out hn)
    have HR1 := Aside0.mk hr.out
    clear hr hG
    go_wp2
    exact ⟨rfl, gotF_err (by show (match rByte (rem s p) with | .error n => _ | .ok (b, r') => _) = _; rw [HR1.out]) rfl hF.out.two hB.out HD1.out⟩
theorem field_text (g d : Nat) (s : ByteArray) (p : Nat) (x : D) (c : UInt8) (hc : c = 116) (hp : p ≤ s.size) (hs : s.size ≤ 1000000) (w : World) (hR : Rb w g s p) (hD : Db w d x) (hn : d ≠ g) :
    Calls Tryd.prog 49 #[.pointer (some ⟨g, 0, none⟩), .int .u8 (c.toNat : Int), .pointer (some ⟨d, 0, none⟩)] w (GotF g d s (rField c (rem s p) x) w) := by
  have hu := Tryd.underlying26
  have HD := Aside0.mk hD
  clear hD
  subst hc
  obtain ⟨v6, hi, lo, host, mail, text, a, b, c, d', e', f, bits⟩ := x
  go_enter Tryd.func49, Tryd.ntmps49
  go_wp2_with fail
  refine (byte_sp g s p hp hs _ hR).mono ?_
  intro e w1 hG
  rcases got_cases hG with ⟨b1, rest, hr, rfl, hF, hB⟩ | ⟨n', hr, rfl, hF, q', hB⟩
  · have HD1 := Aside0.mk (HD.out.but hF.out hn)
    obtain ⟨hq, hq1, hrest⟩ := rByte_rem hr.out
    have hB' : Rb w1 g s ((p + 1 : Nat) : Int) := by have h := hB.out; rw [hrest, rem_at _ _ hq1] at h; exact h
    have HR1 := Aside0.mk hr.out
    have HRE := Aside0.mk hrest
    have HB1 := Aside0.mk hB'
    clear hr hG hq hrest hB' hB HD
    go_wp2_with fail
    refine (take_sp g s (p + 1) b1.toNat hq1 hs (by have := b1.toNat_lt; omega) _ HB1.out).mono ?_
    intro e w2 hG
    rcases got_cases hG with ⟨l, rest2, hr, rfl, hF2, hB2⟩ | ⟨n', hr, rfl, hF2, q', hB2⟩
    · have HD2 := Aside0.mk (HD1.out.but hF2.out hn)
      obtain ⟨hc, hf⟩ := HD2.out.cells
      dsimp only [D.cells] at hc
      have HR2 := Aside0.mk hr.out
      clear hr hG
      go_wp2
      go_end0
      exact gotF_ok (by show (match rByte (rem s p) with | .error n => _ | .ok (b, r') => _) = _; rw [HR1.out]; show mapR (rTake b1.toNat rest) _ = _; rw [HRE.out, HR2.out]; rfl) rfl ((hF.out.trans hF2.out).two.set _ _) (hB2.out.far (fun e => hn e.symm) _ _) (HD2.out.set _ _ _ rfl)
    · have HD2 := Aside0.mk (HD1.out.but hF2.out hn)
      have HR2 := Aside0.mk hr.out
      clear hr hG
      go_wp2
      exact ⟨rfl, gotF_err (by show (match rByte (rem s p) with | .error n => _ | .ok (b, r') => _) = _; rw [HR1.out]; show mapR (rTake b1.toNat rest) _ = _; rw [HRE.out, HR2.out]; rfl) rfl (hF.out.trans hF2.out).two hB2.out HD2.out⟩
  · have HD1 := Aside0.mk (HD.out.but hF.out hn)
    have HR1 := Aside0.mk hr.out
    clear hr hG
    go_wp2
    exact ⟨rfl, gotF_err (by show (match rByte (rem s p) with | .error n => _ | .ok (b, r') => _) = _; rw [HR1.out]) rfl hF.out.two hB.out HD1.out⟩
end Go.Proofs.YtaehonmfoanloaaDoor.Hand
namespace Go.Proofs.YtaehonmfoanloaaDoor.Hand
open Go.RowKit Go.Proofs.YtaehonmfoanloaaDoorW.PrintWords Go.Proofs.YtaehonmfoanloaaDoor.RdW
set_option maxHeartbeats 40000000
set_option maxRecDepth 100000
set_option linter.all false
theorem take_all (g : Nat) (s : ByteArray) (p : Nat) (hp : p ≤ s.size) (hs : s.size ≤ 1000000) (w : World) (hR : Rb w g s p) :
    Calls Tryd.prog 66 #[.pointer (some ⟨g, 0, none⟩), .int .i64 ((s.size : Int) - p)] w (fun e w' => e = .returned (.string (strOf (rem s p))) ∧ Aside0 (But g w w') ∧ Aside0 (Rb w' g s s.size)) := by
  have e1 : ((s.size : Int) - p) = ((s.size - p : Nat) : Int) := by omega
  rw [e1]
  refine (take_sp g s p (s.size - p) hp hs (by omega) w hR).mono ?_
  intro e w' h
  have hl := rem_len s p
  have hr : rTake (s.size - p) (rem s p) = .ok (rem s p, []) := by
    unfold rTake
    rw [if_pos (by omega), ← hl]
    simp
  rw [hr] at h
  exact ⟨h.2.1, ⟨h.1⟩, ⟨h.2.2⟩⟩
theorem field_rest (g d : Nat) (s : ByteArray) (p : Nat) (x : D) (c : UInt8) (hc : c = 114) (hp : p ≤ s.size) (hs : s.size ≤ 1000000) (w : World) (hR : Rb w g s p) (hD : Db w d x) (hn : d ≠ g) :
    Calls Tryd.prog 49 #[.pointer (some ⟨g, 0, none⟩), .int .u8 (c.toNat : Int), .pointer (some ⟨d, 0, none⟩)] w (GotF g d s (rField c (rem s p) x) w) := by
  have hu := Tryd.underlying26
  obtain ⟨c0, c1, f0, f1⟩ := hR.cells
  have hw : wrap64 ((s.size : Int) - (p : Int)) = (s.size : Int) - p := by unfold wrap64; omega
  have hw' : IntKind.i64.wrap ((s.size : Int) - (p : Int)) = (s.size : Int) - p := (IntKind.wrap_i64 _).trans (by omega)
  have HD := Aside0.mk hD
  have HR := Aside0.mk hR
  clear hD hR
  subst hc
  obtain ⟨v6, hi, lo, host, mail, text, a, b, c, d', e', f, bits⟩ := x
  go_enter Tryd.func49, Tryd.ntmps49
  go_wp2_with fail
  (go_region_with ((go_at_call 66; (with_reducible refine (take_all g s p hp hs _ ?_).mono ?_); (exact HR.out); rintro e_ w1 ⟨rfl, hF, hB⟩; have HD1 := Aside0.mk (HD.out.but ((But.refl g w).drew.trans hF.out) hn); obtain ⟨hc, hf⟩ := HD1.out.cells; dsimp only [D.cells] at hc)))
  all_goals
    go_wp2
    go_end0
    exact gotF_ok (rest := []) (by rfl) rfl ((((But.refl g w).drew.trans hF.out).two).set _ _) (Rb.far (show Rb w1 g s ((s.size - ([] : List UInt8).length : Nat) : Int) from hB.out) (fun e => hn e.symm) _ _) (HD1.out.set _ _ _ rfl)
theorem field_sp (S : FSp) (g d : Nat) (s : ByteArray) (p : Nat) (x : D) (c : UInt8) (hc : letters.contains c = true) (hp : p ≤ s.size) (hs : s.size ≤ 1000000) (w : World) (hR : Rb w g s p) (hD : Db w d x) (hn : d ≠ g) :
    Calls Tryd.prog 49 #[.pointer (some ⟨g, 0, none⟩), .int .u8 (c.toNat : Int), .pointer (some ⟨d, 0, none⟩)] w (GotF g d s (rField c (rem s p) x) w) := by
  have hl : c = 104 ∨ c = 109 ∨ c = 52 ∨ c = 54 ∨ c = 116 ∨ c = 114 ∨ c = 115 ∨ c = 110 ∨ c = 65 ∨ c = 66 ∨ c = 67 ∨ c = 70 ∨ c = 98 ∨ c = 99 ∨ c = 118 ∨ c = 119 ∨ c = 120 ∨ c = 121 ∨ c = 122 := by
    simpa [letters] using hc
  rcases hl with h | h | h | h | h | h | h | h | h
  · exact field_name g d s p x c (Or.inl h) hp hs w hR hD hn
  · exact field_name g d s p x c (Or.inr h) hp hs w hR hD hn
  · exact field_addr S g d s p x c (Or.inl h) hp hs w hR hD hn
  · exact field_addr S g d s p x c (Or.inr h) hp hs w hR hD hn
  · exact field_text g d s p x c h hp hs w hR hD hn
  · exact field_rest g d s p x c h hp hs w hR hD hn
  · exact field_alg g d s p x c h hp hs w hR hD hn
  · exact field_bits S g d s p x c h hp hs w hR hD hn
  · exact field_num g d s p x c h hp hs w hR hD hn
end Go.Proofs.YtaehonmfoanloaaDoor.Hand
namespace Go.Proofs.YtaehonmfoanloaaDoor.Hand
open Go.RowKit Go.Proofs.YtaehonmfoanloaaDoorW.PrintWords Go.Proofs.YtaehonmfoanloaaDoor.RdW
set_option maxHeartbeats 40000000
set_option maxRecDepth 100000
set_option linter.all false
theorem Db.drew {w : World} {d : Nat} {x : D} (h : Db w d x) : Db w.drew d x := h
theorem Db.far {w : World} {d : Nat} {x : D} (h : Db w d x) {b : Nat} (hb : d ≠ b) (o : Nat) (u : Value) : Db (w.setCell ⟨b, o, none⟩ u) d x := (Below.heap_setCell _ _ _ _ (by show d ≠ b; exact hb)).trans h
theorem But2.set1 {g d : Nat} {a w : World} (h : But2 g d a w) (o : Nat) (u : Value) : But2 g d a (w.setCell ⟨g, o, none⟩ u) :=
  h.trans ⟨rfl, rfl, rfl, by simp [World.setCell], fun k _ hg _ => Below.heap_setCell _ _ _ _ hg⟩
theorem But2.drew {g d : Nat} {a w : World} (h : But2 g d a w) : But2 g d a w.drew := ⟨h.os, h.tape, h.output, h.size, h.block⟩
theorem Db.zero {w : World} {d : Nat} {x : D} (h : Db w d x) : Db (((((((((((((w.setCell ⟨d, 0, none⟩ (.bool false)).setCell ⟨d, 1, none⟩ (.int .u64 0)).setCell ⟨d, 2, none⟩ (.int .u64 0)).setCell ⟨d, 3, none⟩ (.string ⟨#[]⟩)).setCell ⟨d, 4, none⟩ (.string ⟨#[]⟩)).setCell ⟨d, 5, none⟩ (.string ⟨#[]⟩)).setCell ⟨d, 6, none⟩ (.int .i64 0)).setCell ⟨d, 7, none⟩ (.int .i64 0)).setCell ⟨d, 8, none⟩ (.int .i64 0)).setCell ⟨d, 9, none⟩ (.int .i64 0)).setCell ⟨d, 10, none⟩ (.int .i64 0)).setCell ⟨d, 11, none⟩ (.int .i64 0)).setCell ⟨d, 12, none⟩ (.int .u64 0)) d D.z := by
  obtain ⟨v6, hi, lo, host, mail, text, a, b, c, d', e', f, bits⟩ := x
  have h0 := h.set 0 (.bool false) (⟨false, hi, lo, host, mail, text, a, b, c, d', e', f, bits⟩ : D) rfl
  have h1 := h0.set 1 (.int .u64 0) (⟨false, 0, lo, host, mail, text, a, b, c, d', e', f, bits⟩ : D) rfl
  have h2 := h1.set 2 (.int .u64 0) (⟨false, 0, 0, host, mail, text, a, b, c, d', e', f, bits⟩ : D) rfl
  have h3 := h2.set 3 (.string ⟨#[]⟩) (⟨false, 0, 0, ⟨#[]⟩, mail, text, a, b, c, d', e', f, bits⟩ : D) rfl
  have h4 := h3.set 4 (.string ⟨#[]⟩) (⟨false, 0, 0, ⟨#[]⟩, ⟨#[]⟩, text, a, b, c, d', e', f, bits⟩ : D) rfl
  have h5 := h4.set 5 (.string ⟨#[]⟩) (⟨false, 0, 0, ⟨#[]⟩, ⟨#[]⟩, ⟨#[]⟩, a, b, c, d', e', f, bits⟩ : D) rfl
  have h6 := h5.set 6 (.int .i64 0) (⟨false, 0, 0, ⟨#[]⟩, ⟨#[]⟩, ⟨#[]⟩, 0, b, c, d', e', f, bits⟩ : D) rfl
  have h7 := h6.set 7 (.int .i64 0) (⟨false, 0, 0, ⟨#[]⟩, ⟨#[]⟩, ⟨#[]⟩, 0, 0, c, d', e', f, bits⟩ : D) rfl
  have h8 := h7.set 8 (.int .i64 0) (⟨false, 0, 0, ⟨#[]⟩, ⟨#[]⟩, ⟨#[]⟩, 0, 0, 0, d', e', f, bits⟩ : D) rfl
  have h9 := h8.set 9 (.int .i64 0) (⟨false, 0, 0, ⟨#[]⟩, ⟨#[]⟩, ⟨#[]⟩, 0, 0, 0, 0, e', f, bits⟩ : D) rfl
  have h10 := h9.set 10 (.int .i64 0) (⟨false, 0, 0, ⟨#[]⟩, ⟨#[]⟩, ⟨#[]⟩, 0, 0, 0, 0, 0, f, bits⟩ : D) rfl
  have h11 := h10.set 11 (.int .i64 0) (⟨false, 0, 0, ⟨#[]⟩, ⟨#[]⟩, ⟨#[]⟩, 0, 0, 0, 0, 0, 0, bits⟩ : D) rfl
  have h12 := h11.set 12 (.int .u64 0) (⟨false, 0, 0, ⟨#[]⟩, ⟨#[]⟩, ⟨#[]⟩, 0, 0, 0, 0, 0, 0, 0⟩ : D) rfl
  exact h12
theorem catch_idle (p q : Addr) (w : World) :
    CallsD Tryd.prog 48 #[.pointer (some p), .pointer (some q)] .returning w fun e u' w' => e = .returned (.tuple #[]) ∧ u' = .returning ∧ w' = w := by
  refine callsD_of_wpS Tryd.func48 rfl fun c₀ cs hu => ?_
  apply wpS_seq
  apply wpS_region
  simp [wpOpsS, go_sem, recoverD, hu, Tryd.ntmps48, Exit.thenS]
  apply wpS_seq
  apply wpS_region
  simp [wpOpsS, go_sem, Exit.thenS]
  refine wpS_cond (t := false) (by simp [Act.eval, Array.replicate]) ?_
  simp only [Bool.false_eq_true, if_false]
  refine wpS_of_wp (wp_skip ?_)
  cases c₀
  simp_all [bodyPostS, results, Tryd.results48]
theorem catch_hit (d q : Nat) (x : D) (e0 n : Int) (older : List PanicEntry) (w : World) (hD : Db w d x) (hq : w.cell? ⟨q, 0, none⟩ = some (.int .i64 e0)) (hz : w.frozen? ⟨q, 0, none⟩ = false) (hn : q ≠ d) :
    CallsD Tryd.prog 48 #[.pointer (some ⟨d, 0, none⟩), .pointer (some ⟨q, 0, none⟩)] (.panicking ({ v := .iface 34 (.int .i64 n), recovered := false } :: older)) w fun e u' w' =>
      e = .returned (.tuple #[]) ∧ u' = .panicking ({ v := .iface 34 (.int .i64 n), recovered := true } :: older) ∧ Db w' d D.z ∧ w'.cell? ⟨q, 0, none⟩ = some (.int .i64 n) ∧ But2 d q w w' := by
  obtain ⟨hc, hf⟩ := hD.cells
  have HD := Aside0.mk hD
  clear hD
  have hu := Tryd.underlying26
  have hu2 := Tryd.underlying24
  obtain ⟨v6, hi, lo, host, mail, text, a, b, c, d', e', f, bits⟩ := x
  dsimp only [D.cells] at hc
  refine callsD_of_wpS Tryd.func48 rfl fun c₀ cs hu0 => ?_
  apply wpS_seq
  apply wpS_region
  simp [wpOpsS, go_sem, recoverD, hu0, Tryd.ntmps48, Exit.thenS]
  apply wpS_seq
  apply wpS_region
  simp [wpOpsS, go_sem, Exit.thenS]
  refine wpS_cond (t := true) (by simp [Act.eval, Array.replicate]) ?_
  simp only [if_true]
  refine wpS_of_wp ?_
  have hn2 : d ≠ q := fun e => hn e.symm
  have hta : ∀ w' : World, (Instr.typeAssert (.iface 34 (.int .i64 n)) 20 34 false).run Tryd.prog w' = .ok (.int .i64 n) w' := fun _ => by first | kernel_rfl | rfl | simp [go_sem]
  go_region
  all_goals simp [bodyPostS, results, Tryd.results48]
  all_goals
    refine ⟨(HD.out.zero.far hn2 _ _).drew, ?_, ?_⟩
    · first | (simp only [go_sem]; done) | (simp [go_sem, hq, hz, hn, hn2]; done)
    · exact But2.drew (((((((((((((((But2.refl d q w).set1 _ _).set1 _ _).set1 _ _).set1 _ _).set1 _ _).set1 _ _).set1 _ _).set1 _ _).set1 _ _).set1 _ _).set1 _ _).set1 _ _).set1 _ _).set _ _)
end Go.Proofs.YtaehonmfoanloaaDoor.Hand
