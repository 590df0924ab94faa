/-
  The program's Wire of data, walked: it returns wireS. Conditions: what the functions that it calls return (WSp), strings of the reach.
  The program's Wire of a type that is not known, and of data that are not valid. Conditions: each theorem's own.
  The program's Valid of a type that is not known. Conditions: none.
-/
import Derived.Test.YtaehonmfoanloaaDoorPvSp
import Derived.Test.YtaehonmfoanloaaDoorHandB
import Derived.Test.YtaehonmfoanloaaDoorRdHand
namespace Go.Proofs.YtaehonmfoanloaaDoor.Hand
open Go.RowKit Go.Proofs.YtaehonmfoanloaaDoorW.PrintWords Go.Proofs.YtaehonmfoanloaaDoor.RdW
set_option maxHeartbeats 40000000
set_option maxRecDepth 100000
set_option linter.all false
/-- What the callees of Wire return. -/
structure WSp : Prop where
  find : ∀ (t : Int) (w : World), Calls Tryd.prog 38 #[.int .i64 t] w fun e w' => (∃ mn : ByteArray, e = .returned (.tuple #[.agg #[.int .i64 (if knownB t then t else 0), .string mn, .string (strOf (flds t))], .bool (knownB t)])) ∧ Below w.heap.size w w'
  valid : ∀ (t : Int) (x : D) (w : World), x.ok → w.ShapedOpen Tryd.prog → knownB t = true → Calls Tryd.prog 13 #[.int .i64 t, x.v] w fun e w' => e = .returned (.bool (validS t x)) ∧ Below w.heap.size w w'
  name : ∀ (n : ByteArray), n.size ≤ 100000 → ∀ {w0 w : World}, w0.ShapedOpen Tryd.prog → Below w0.heap.size w0 w → Calls Tryd.prog 39 #[.string n] w fun e w' => e = .returned (.string (strOf (wireN n.data.toList))) ∧ Below w.heap.size w w'
  addr : ∀ (x : D), x.ok → addrB x.v6 x.hi x.lo = true → ∀ w : World, Calls Tryd.prog 40 #[.agg #[.bool x.v6, .int .u64 x.hi, .int .u64 x.lo]] w fun e w' => e = .returned (.tuple #[.string (strOf (addrW x)), .int .i64 0]) ∧ Below w.heap.size w w'
  bitmap : ∀ (b : Int), 0 ≤ b → b < 18446744073709551616 → ∀ w : World, Calls Tryd.prog 41 #[.int .u64 b] w fun e w' => e = .returned (.string (strOf (bitmapS b.toNat))) ∧ Below w.heap.size w w'
  number : ∀ (n : Int) (k : Nat), 0 ≤ n → k ≤ 4 → ∀ w : World, Calls Tryd.prog 43 #[.int .i64 n, .int .i64 (k : Int)] w fun e w' => e = .returned (.string (strOf (be k n.toNat))) ∧ Below w.heap.size w w'
theorem one_byte (w : World) (n : Nat) : (convert 55 9 (.slice (some ⟨w.heap.size, 0, none⟩) 1 1)).run Tryd.prog (w.alloc (.cells #[.int .u8 ((n : Int) % 256)] 5)) = .ok (.string (strOf [UInt8.ofNat n])) (w.alloc (.cells #[.int .u8 ((n : Int) % 256)] 5)) := by
  have hc := run_convert_bytes_arg (P := Tryd.prog) (w.alloc (.cells #[.int .u8 ((n : Int) % 256)] 5)) 55 5 Tryd.underlying55 Tryd.underlying5 w.heap.size 0 1 1 [(n : Int) % 256] rfl (fun i hi => by
    obtain rfl : i = 0 := by omega
    have := (cells_of_blk (Own.new w #[.int .u8 ((n : Int) % 256)] 5).blk).1 0
    simpa using this) 9 Tryd.underlying9
  rw [hc]
  have e : UInt8.ofNat ((n : Int) % 256).toNat = UInt8.ofNat n := by
    apply UInt8.toNat_inj.1
    rw [u8_of, u8_of]; omega
  show Result.ok (Value.string ⟨#[UInt8.ofNat ((n : Int) % 256).toNat]⟩) _ = _
  rw [e]; rfl
theorem wire_yes (S : WSp) (t : Int) (x : D) (hx : x.ok) (hk : knownB t = true) (hv : validS t x = true) (hgood : ∀ c ∈ flds t, (c = 52 ∨ c = 54 → addrB x.v6 x.hi x.lo = true) ∧ 0 ≤ (numOf c x).1) (w : World) (sh : w.ShapedOpen Tryd.prog) :
    Calls Tryd.prog 16 #[.int .i64 t, x.v] w fun e w' => e = .returned (.tuple #[.string (strOf (wireF (flds t) x)), .int .i64 0]) ∧ Below w.heap.size w w' := by
  have hu := Tryd.underlying26
  have hu2 := Tryd.underlying24
  have hu3 := Tryd.underlying50
  have HX := Aside0.mk hx
  have HV := Aside0.mk hv
  have HK := Aside0.mk hk
  obtain ⟨fs, hfs⟩ : ∃ fs, flds t = fs := ⟨_, rfl⟩
  rw [hfs]
  have HFS := Aside0.mk hfs
  obtain ⟨hl9, hall⟩ := flds_ok t hk
  rw [hfs] at hl9 hall hgood
  have HGD := Aside0.mk hgood
  clear hgood
  clear hfs
  obtain ⟨v6, hi, lo, host, mail, text, a, b, c, d, e, f, bits, hxe⟩ : ∃ v6 hi lo host mail text a b c d e f bits, x = ⟨v6, hi, lo, host, mail, text, a, b, c, d, e, f, bits⟩ := ⟨_, _, _, _, _, _, _, _, _, _, _, _, _, rfl⟩
  have HXE := Aside0.mk hxe
  have HA := Aside0.mk hall
  have HL9 := Aside0.mk hl9
  clear hall
  have HO : Aside0 (Own w (w.alloc (.cells #[.bool v6, .int .u64 hi, .int .u64 lo, .string host, .string mail, .string text, .int .i64 a, .int .i64 b, .int .i64 c, .int .i64 d, .int .i64 e, .int .i64 f, .int .u64 bits] 26)) #[.bool v6, .int .u64 hi, .int .u64 lo, .string host, .string mail, .string text, .int .i64 a, .int .i64 b, .int .i64 c, .int .i64 d, .int .i64 e, .int .i64 f, .int .u64 bits] 26) := ⟨Own.new _ _ _⟩
  have HX2 := Aside0.mk (show D.ok ⟨v6, hi, lo, host, mail, text, a, b, c, d, e, f, bits⟩ by rw [← hxe]; exact hx)
  rw [show x.v = .agg #[.bool v6, .int .u64 hi, .int .u64 lo, .string host, .string mail, .string text, .int .i64 a, .int .i64 b, .int .i64 c, .int .i64 d, .int .i64 e, .int .i64 f, .int .u64 bits] by rw [hxe]; rfl]
  clear hxe
  clear hx hk hv
  go_enter Tryd.func16, Tryd.ntmps16
  go_wp2_with fail
  refine (S.find t _).mono ?_
  rintro e_ w1 ⟨⟨mn, rfl⟩, hb⟩
  rw [HK.out, HFS.out]
  have HO1 := Aside0.mk (HO.out.call hb)
  clear HO hb
  obtain ⟨hc, hf⟩ := HO1.out.cells
  rw [if_pos rfl]
  have HO2 := Aside0.mk (Own2.new HO1.out #[.int .i64 t, .string mn, .string (strOf fs)] 50)
  have hlt := HO1.out.lt
  go_wp2_with fail
  have hval := S.valid t x (w1.alloc (.cells #[.int .i64 t, .string mn, .string (strOf fs)] 50)) HX.out (shb sh HO2.out.own.below) HK.out
  rw [show x.v = .agg #[.bool v6, .int .u64 hi, .int .u64 lo, .string host, .string mail, .string text, .int .i64 a, .int .i64 b, .int .i64 c, .int .i64 d, .int .i64 e, .int .i64 f, .int .u64 bits] by rw [HXE.out]; rfl] at hval
  refine hval.mono ?_
  clear hval
  rintro e_ w2 ⟨rfl, hb⟩
  rw [HV.out]
  have HO3 := Aside0.mk (HO2.out.call hb)
  clear hb HO1 HO2 hc hf
  obtain ⟨hc, hf⟩ := HO3.out.own.cells
  obtain ⟨hd, hg⟩ := cells_of_blk HO3.out.blk
  generalize hg1 : w1.heap.size = g1 at *
  clear hg1
  have hfz : (strOf fs).size = fs.length := rfl
  have hl9i : (fs.length : Int) ≤ 9 := by omega
  go_wp2_with fail
  clear hc hf hd hg
  go_loopw [8, 32] (fun vo vi wr => ∃ (i : Nat) (out : List UInt8), vo = .string (strOf out) ∧ vi = .int .i64 (i : Int) ∧ Aside0 (i ≤ fs.length) ∧ Aside0 (out.length ≤ i * 100010) ∧ Aside0 (out ++ wireF (fs.drop i) x = wireF fs x) ∧ Aside0 (Own2 w wr #[.bool v6, .int .u64 hi, .int .u64 lo, .string host, .string mail, .string text, .int .i64 a, .int .i64 b, .int .i64 c, .int .i64 d, .int .i64 e, .int .i64 f, .int .u64 bits] 26 g1 #[.int .i64 t, .string mn, .string (strOf fs)] 50)) (fun _ vi _ => fs.length - (RowKit.intOf vi).toNat)
  case atStart => exact ⟨0, [], rfl, rfl, ⟨Nat.zero_le _⟩, ⟨by simp⟩, ⟨by simp⟩, HO3⟩
  case round =>
    obtain ⟨i, out, rfl, rfl, HI, HL, HW, HO⟩ := hrel
    clear HO3
    by_cases hlt : i < fs.length
    · have hltI : (i : Int) < (fs.length : Int) := by omega
      obtain ⟨hc, hf⟩ := HO.out.own.cells
      obtain ⟨hd, hg⟩ := cells_of_blk HO.out.blk
      have hmem : fs[i] ∈ letters := by
        have h := List.all_eq_true.1 HA.out fs[i] (List.getElem_mem hlt)
        simpa using h
      have hw := HW.out
      rw [List.drop_eq_getElem_cons hlt, show ∀ c (l : List UInt8), wireF (c :: l) x = piece c x ++ wireF l x from fun c l => by simp [wireF], ← List.append_assoc] at hw
      have hgd := HGD.out fs[i] (List.getElem_mem hlt)
      have hpl := piece_len fs[i] x HX.out.host HX.out.mail HX.out.text
      have hol := HL.out
      have HL1 := Aside0.mk (show (out ++ piece fs[i] x).length ≤ (i + 1) * 100010 by rw [List.length_append]; omega)
      have hge : (strOf fs)[i]'hlt = fs[i] := rfl
      generalize hcc : fs[i] = cc at *
      have HW1 := Aside0.mk hw
      have HGC := Aside0.mk hgd
      clear hgd
      have hos : (strOf out).size ≤ 1000000 := by rw [strOf_size]; have := HI.out; omega
      have hps : (strOf (piece cc x)).size ≤ 1000000 := by rw [strOf_size]; omega
      clear hw hpl hol hcc HW HL
      have k1 : (strOf out).size + (strOf (piece cc x)).size ≤ 9223372036854775807 := by omega
      have k2 : ¬ ((9223372036854775807 : Int) < ((strOf out).size : Int) + ((strOf (piece cc x)).size : Int)) := by omega
      unfold letters at hmem
      simp only [List.mem_cons, List.not_mem_nil, or_false] at hmem
      rcases hmem with rfl | rfl | rfl | rfl | rfl | rfl | rfl | rfl | rfl | rfl | rfl | rfl | rfl | rfl | rfl | rfl | rfl | rfl | rfl
      all_goals have hgt := congrArg UInt8.toNat hge
      all_goals simp only [UInt8.reduceToNat] at hgt
      all_goals clear hge
      all_goals clear k1 k2
      · go_wp2_with fail
        refine (S.name host HX2.out.host sh HO.out.own.below).mono ?_
        rintro e_ w3 ⟨rfl, hb⟩
        replace HO := Aside0.mk (HO.out.call hb)
        clear hb hc hf hd hg
        obtain ⟨hc, hf⟩ := HO.out.own.cells
        obtain ⟨hd, hg⟩ := cells_of_blk HO.out.blk
        have k0 : (strOf (wireN host.data.toList)).size ≤ 1000000 := by have h := hps; rw [HXE.out] at h; exact h
        have k1 : (strOf out).size + (strOf (wireN host.data.toList)).size ≤ 9223372036854775807 := by omega
        have k2 : ¬ ((9223372036854775807 : Int) < ((strOf out).size : Int) + ((strOf (wireN host.data.toList)).size : Int)) := by omega
        go_wp2
        go_roundw
        case rel => exact ⟨i + 1, out ++ piece 104 x, by rw [← strOf_app, HXE.out]; rfl, by go_num, ⟨by omega⟩, HL1, HW1, HO⟩
        case measure => simp [RowKit.intOf]; omega
      · go_wp2_with fail
        refine (S.name mail HX2.out.mail sh HO.out.own.below).mono ?_
        rintro e_ w3 ⟨rfl, hb⟩
        replace HO := Aside0.mk (HO.out.call hb)
        clear hb hc hf hd hg
        obtain ⟨hc, hf⟩ := HO.out.own.cells
        obtain ⟨hd, hg⟩ := cells_of_blk HO.out.blk
        have k0 : (strOf (wireN mail.data.toList)).size ≤ 1000000 := by have h := hps; rw [HXE.out] at h; exact h
        have k1 : (strOf out).size + (strOf (wireN mail.data.toList)).size ≤ 9223372036854775807 := by omega
        have k2 : ¬ ((9223372036854775807 : Int) < ((strOf out).size : Int) + ((strOf (wireN mail.data.toList)).size : Int)) := by omega
        go_wp2
        go_roundw
        case rel => exact ⟨i + 1, out ++ piece 109 x, by rw [← strOf_app, HXE.out]; rfl, by go_num, ⟨by omega⟩, HL1, HW1, HO⟩
        case measure => simp [RowKit.intOf]; omega
      · go_wp2_with fail
        refine (S.addr ⟨v6, hi, lo, host, mail, text, a, b, c, d, e, f, bits⟩ HX2.out (by have h := HGC.out.1 (by decide); rw [HXE.out] at h; exact h) _).mono ?_
        rintro e_ w3 ⟨rfl, hb⟩
        replace HO := Aside0.mk (HO.out.call hb)
        clear hb hc hf hd hg
        obtain ⟨hc, hf⟩ := HO.out.own.cells
        obtain ⟨hd, hg⟩ := cells_of_blk HO.out.blk
        have k0 : (strOf (addrW ⟨v6, hi, lo, host, mail, text, a, b, c, d, e, f, bits⟩)).size ≤ 1000000 := by have h := hps; rw [HXE.out] at h; exact h
        have k1 : (strOf out).size + (strOf (addrW ⟨v6, hi, lo, host, mail, text, a, b, c, d, e, f, bits⟩)).size ≤ 9223372036854775807 := by omega
        have k2 : ¬ ((9223372036854775807 : Int) < ((strOf out).size : Int) + ((strOf (addrW ⟨v6, hi, lo, host, mail, text, a, b, c, d, e, f, bits⟩)).size : Int)) := by omega
        go_wp2
        go_roundw
        case rel => exact ⟨i + 1, out ++ piece 52 x, by rw [← strOf_app, HXE.out]; rfl, by go_num, ⟨by omega⟩, HL1, HW1, HO⟩
        case measure => simp [RowKit.intOf]; omega
      · go_wp2_with fail
        refine (S.addr ⟨v6, hi, lo, host, mail, text, a, b, c, d, e, f, bits⟩ HX2.out (by have h := HGC.out.1 (by decide); rw [HXE.out] at h; exact h) _).mono ?_
        rintro e_ w3 ⟨rfl, hb⟩
        replace HO := Aside0.mk (HO.out.call hb)
        clear hb hc hf hd hg
        obtain ⟨hc, hf⟩ := HO.out.own.cells
        obtain ⟨hd, hg⟩ := cells_of_blk HO.out.blk
        have k0 : (strOf (addrW ⟨v6, hi, lo, host, mail, text, a, b, c, d, e, f, bits⟩)).size ≤ 1000000 := by have h := hps; rw [HXE.out] at h; exact h
        have k1 : (strOf out).size + (strOf (addrW ⟨v6, hi, lo, host, mail, text, a, b, c, d, e, f, bits⟩)).size ≤ 9223372036854775807 := by omega
        have k2 : ¬ ((9223372036854775807 : Int) < ((strOf out).size : Int) + ((strOf (addrW ⟨v6, hi, lo, host, mail, text, a, b, c, d, e, f, bits⟩)).size : Int)) := by omega
        go_wp2
        go_roundw
        case rel => exact ⟨i + 1, out ++ piece 54 x, by rw [← strOf_app, HXE.out]; rfl, by go_num, ⟨by omega⟩, HL1, HW1, HO⟩
        case measure => simp [RowKit.intOf]; omega
      · have hcv := one_byte wr text.size
        have hlt2 := HO.out.own.lt
        obtain ⟨bb, hbb⟩ : ∃ bb, UInt8.ofNat text.size = bb := ⟨_, rfl⟩
        rw [hbb] at hcv
        have e6 : strOf [bb] ++ text = strOf (piece 116 x) := by
          rw [HXE.out, ← hbb]
          exact (congrArg (strOf [UInt8.ofNat text.size] ++ ·) (strOf_data text).symm).trans (strOf_app _ _)
        have ht : text.size ≤ 100000 := HX2.out.text
        have k3 : (strOf [bb]).size + text.size ≤ 9223372036854775807 := by rw [strOf_size, List.length_singleton]; omega
        have k4 : ¬ ((9223372036854775807 : Int) < ((strOf [bb]).size : Int) + (text.size : Int)) := by omega
        have k1 : (strOf out).size + (strOf [bb] ++ text).size ≤ 9223372036854775807 := by rw [e6]; omega
        have k2 : ¬ ((9223372036854775807 : Int) < ((strOf out).size : Int) + ((strOf [bb] ++ text).size : Int)) := by omega
        have E6 := Aside0.mk e6
        clear e6 ht hbb
        go_wp2
        go_roundw
        case rel => exact ⟨i + 1, out ++ piece 116 x, by rw [← strOf_app, ← E6.out], by go_num, ⟨by omega⟩, HL1, HW1, ⟨HO.out.alloc _⟩⟩
        case measure => simp [RowKit.intOf]; omega
      · have k0 : (text).size ≤ 1000000 := by have h := hps; rw [HXE.out] at h; exact h
        have k1 : (strOf out).size + (text).size ≤ 9223372036854775807 := by omega
        have k2 : ¬ ((9223372036854775807 : Int) < ((strOf out).size : Int) + ((text).size : Int)) := by omega
        go_wp2
        go_roundw
        case rel => exact ⟨i + 1, out ++ piece 114 x, by rw [← strOf_app, HXE.out]; rfl, by go_num, ⟨by omega⟩, HL1, HW1, HO⟩
        case measure => simp [RowKit.intOf]; omega
      · have k0 : ((⟨#[253]⟩ : ByteArray)).size ≤ 1000000 := by have h := hps; rw [HXE.out] at h; exact h
        have k1 : (strOf out).size + ((⟨#[253]⟩ : ByteArray)).size ≤ 9223372036854775807 := by omega
        have k2 : ¬ ((9223372036854775807 : Int) < ((strOf out).size : Int) + (((⟨#[253]⟩ : ByteArray)).size : Int)) := by omega
        go_wp2
        go_roundw
        case rel => exact ⟨i + 1, out ++ piece 115 x, by rw [← strOf_app, HXE.out]; rfl, by go_num, ⟨by omega⟩, HL1, HW1, HO⟩
        case measure => simp [RowKit.intOf]; omega
      · go_wp2_with fail
        refine (S.bitmap bits HX2.out.bits0 HX2.out.bits1 _).mono ?_
        rintro e_ w3 ⟨rfl, hb⟩
        replace HO := Aside0.mk (HO.out.call hb)
        clear hb hc hf hd hg
        obtain ⟨hc, hf⟩ := HO.out.own.cells
        obtain ⟨hd, hg⟩ := cells_of_blk HO.out.blk
        have hcv := one_byte w3 (strOf (bitmapS bits.toNat)).size
        have e6 : (⟨#[0]⟩ : ByteArray) ++ strOf [UInt8.ofNat (strOf (bitmapS bits.toNat)).size] ++ strOf (bitmapS bits.toNat) = strOf (piece 110 x) := by
          rw [HXE.out, show (⟨#[0]⟩ : ByteArray) = strOf [0] from rfl, strOf_app, strOf_app]; rfl
        have e7 : ((⟨#[0]⟩ : ByteArray) ++ strOf [UInt8.ofNat (strOf (bitmapS bits.toNat)).size]).size = 2 := by
          rw [show (⟨#[0]⟩ : ByteArray) = strOf [0] from rfl, strOf_app]; rfl
        have e8 : (strOf (bitmapS bits.toNat)).size ≤ 8 := by
          have := trimZ_len (RdW.bytesOf 8 bits.toNat)
          rw [RdW.bytesOf_length] at this
          exact this
        have k5 : 1 + (strOf [UInt8.ofNat (strOf (bitmapS bits.toNat)).size]).size ≤ 9223372036854775807 := by rw [strOf_size]; simp
        have k6 : ¬ ((9223372036854775807 : Int) < 1 + ((strOf [UInt8.ofNat (strOf (bitmapS bits.toNat)).size]).size : Int)) := by omega
        have k3 : ((⟨#[0]⟩ : ByteArray) ++ strOf [UInt8.ofNat (strOf (bitmapS bits.toNat)).size]).size + (strOf (bitmapS bits.toNat)).size ≤ 9223372036854775807 := by rw [e7]; omega
        have k4 : ¬ ((9223372036854775807 : Int) < (((⟨#[0]⟩ : ByteArray) ++ strOf [UInt8.ofNat (strOf (bitmapS bits.toNat)).size]).size : Int) + ((strOf (bitmapS bits.toNat)).size : Int)) := by omega
        have k1 : (strOf out).size + ((⟨#[0]⟩ : ByteArray) ++ strOf [UInt8.ofNat (strOf (bitmapS bits.toNat)).size] ++ strOf (bitmapS bits.toNat)).size ≤ 9223372036854775807 := by rw [e6]; omega
        have k2 : ¬ ((9223372036854775807 : Int) < ((strOf out).size : Int) + (((⟨#[0]⟩ : ByteArray) ++ strOf [UInt8.ofNat (strOf (bitmapS bits.toNat)).size] ++ strOf (bitmapS bits.toNat)).size : Int)) := by omega
        have E6 := Aside0.mk e6
        clear e6 e7 e8
        go_wp2
        go_roundw
        case rel => exact ⟨i + 1, out ++ piece 110 x, by rw [← strOf_app, ← E6.out], by go_num, ⟨by omega⟩, HL1, HW1, ⟨HO.out.alloc _⟩⟩
        case measure => simp [RowKit.intOf]; omega
      · go_wp2_with fail
        have hpl := place_sp 65 (by decide) w.heap.size wr
        rw [show cellOf 65 = (0, 2) from rfl, show (65 : Int) = (((strOf fs)[i]'hlt).toNat : Int) by rw [hgt]; rfl] at hpl
        refine hpl.mono ?_
        clear hpl
        rintro e_ w3 ⟨rfl, hb⟩
        replace HO := Aside0.mk (HO.out.call hb)
        clear hb hc hf hd hg
        obtain ⟨hc, hf⟩ := HO.out.own.cells
        obtain ⟨hd, hg⟩ := cells_of_blk HO.out.blk
        go_wp2_with fail
        have hnum : Calls Tryd.prog 43 #[.int .i64 a, .int .i64 2] w3 _ := S.number a 2 (by have h := HGC.out.2; rw [HXE.out] at h; exact h) (by omega) w3
        refine hnum.mono ?_
        clear hnum
        rintro e_ w4 ⟨rfl, hb⟩
        replace HO := Aside0.mk (HO.out.call hb)
        clear hb hc hf hd hg
        obtain ⟨hc, hf⟩ := HO.out.own.cells
        obtain ⟨hd, hg⟩ := cells_of_blk HO.out.blk
        have k0 : (strOf (be 2 a.toNat)).size ≤ 1000000 := by have h := hps; rw [HXE.out] at h; exact h
        have k1 : (strOf out).size + (strOf (be 2 a.toNat)).size ≤ 9223372036854775807 := by omega
        have k2 : ¬ ((9223372036854775807 : Int) < ((strOf out).size : Int) + ((strOf (be 2 a.toNat)).size : Int)) := by omega
        go_wp2
        go_roundw
        case rel => exact ⟨i + 1, out ++ piece 65 x, by rw [← strOf_app, HXE.out]; rfl, by go_num, ⟨by omega⟩, HL1, HW1, HO⟩
        case measure => simp [RowKit.intOf]; omega
      · go_wp2_with fail
        have hpl := place_sp 66 (by decide) w.heap.size wr
        rw [show cellOf 66 = (1, 2) from rfl, show (66 : Int) = (((strOf fs)[i]'hlt).toNat : Int) by rw [hgt]; rfl] at hpl
        refine hpl.mono ?_
        clear hpl
        rintro e_ w3 ⟨rfl, hb⟩
        replace HO := Aside0.mk (HO.out.call hb)
        clear hb hc hf hd hg
        obtain ⟨hc, hf⟩ := HO.out.own.cells
        obtain ⟨hd, hg⟩ := cells_of_blk HO.out.blk
        go_wp2_with fail
        have hnum : Calls Tryd.prog 43 #[.int .i64 b, .int .i64 2] w3 _ := S.number b 2 (by have h := HGC.out.2; rw [HXE.out] at h; exact h) (by omega) w3
        refine hnum.mono ?_
        clear hnum
        rintro e_ w4 ⟨rfl, hb⟩
        replace HO := Aside0.mk (HO.out.call hb)
        clear hb hc hf hd hg
        obtain ⟨hc, hf⟩ := HO.out.own.cells
        obtain ⟨hd, hg⟩ := cells_of_blk HO.out.blk
        have k0 : (strOf (be 2 b.toNat)).size ≤ 1000000 := by have h := hps; rw [HXE.out] at h; exact h
        have k1 : (strOf out).size + (strOf (be 2 b.toNat)).size ≤ 9223372036854775807 := by omega
        have k2 : ¬ ((9223372036854775807 : Int) < ((strOf out).size : Int) + ((strOf (be 2 b.toNat)).size : Int)) := by omega
        go_wp2
        go_roundw
        case rel => exact ⟨i + 1, out ++ piece 66 x, by rw [← strOf_app, HXE.out]; rfl, by go_num, ⟨by omega⟩, HL1, HW1, HO⟩
        case measure => simp [RowKit.intOf]; omega
      · go_wp2_with fail
        have hpl := place_sp 67 (by decide) w.heap.size wr
        rw [show cellOf 67 = (2, 2) from rfl, show (67 : Int) = (((strOf fs)[i]'hlt).toNat : Int) by rw [hgt]; rfl] at hpl
        refine hpl.mono ?_
        clear hpl
        rintro e_ w3 ⟨rfl, hb⟩
        replace HO := Aside0.mk (HO.out.call hb)
        clear hb hc hf hd hg
        obtain ⟨hc, hf⟩ := HO.out.own.cells
        obtain ⟨hd, hg⟩ := cells_of_blk HO.out.blk
        go_wp2_with fail
        have hnum : Calls Tryd.prog 43 #[.int .i64 c, .int .i64 2] w3 _ := S.number c 2 (by have h := HGC.out.2; rw [HXE.out] at h; exact h) (by omega) w3
        refine hnum.mono ?_
        clear hnum
        rintro e_ w4 ⟨rfl, hb⟩
        replace HO := Aside0.mk (HO.out.call hb)
        clear hb hc hf hd hg
        obtain ⟨hc, hf⟩ := HO.out.own.cells
        obtain ⟨hd, hg⟩ := cells_of_blk HO.out.blk
        have k0 : (strOf (be 2 c.toNat)).size ≤ 1000000 := by have h := hps; rw [HXE.out] at h; exact h
        have k1 : (strOf out).size + (strOf (be 2 c.toNat)).size ≤ 9223372036854775807 := by omega
        have k2 : ¬ ((9223372036854775807 : Int) < ((strOf out).size : Int) + ((strOf (be 2 c.toNat)).size : Int)) := by omega
        go_wp2
        go_roundw
        case rel => exact ⟨i + 1, out ++ piece 67 x, by rw [← strOf_app, HXE.out]; rfl, by go_num, ⟨by omega⟩, HL1, HW1, HO⟩
        case measure => simp [RowKit.intOf]; omega
      · go_wp2_with fail
        have hpl := place_sp 70 (by decide) w.heap.size wr
        rw [show cellOf 70 = (5, 2) from rfl, show (70 : Int) = (((strOf fs)[i]'hlt).toNat : Int) by rw [hgt]; rfl] at hpl
        refine hpl.mono ?_
        clear hpl
        rintro e_ w3 ⟨rfl, hb⟩
        replace HO := Aside0.mk (HO.out.call hb)
        clear hb hc hf hd hg
        obtain ⟨hc, hf⟩ := HO.out.own.cells
        obtain ⟨hd, hg⟩ := cells_of_blk HO.out.blk
        go_wp2_with fail
        have hnum : Calls Tryd.prog 43 #[.int .i64 f, .int .i64 2] w3 _ := S.number f 2 (by have h := HGC.out.2; rw [HXE.out] at h; exact h) (by omega) w3
        refine hnum.mono ?_
        clear hnum
        rintro e_ w4 ⟨rfl, hb⟩
        replace HO := Aside0.mk (HO.out.call hb)
        clear hb hc hf hd hg
        obtain ⟨hc, hf⟩ := HO.out.own.cells
        obtain ⟨hd, hg⟩ := cells_of_blk HO.out.blk
        have k0 : (strOf (be 2 f.toNat)).size ≤ 1000000 := by have h := hps; rw [HXE.out] at h; exact h
        have k1 : (strOf out).size + (strOf (be 2 f.toNat)).size ≤ 9223372036854775807 := by omega
        have k2 : ¬ ((9223372036854775807 : Int) < ((strOf out).size : Int) + ((strOf (be 2 f.toNat)).size : Int)) := by omega
        go_wp2
        go_roundw
        case rel => exact ⟨i + 1, out ++ piece 70 x, by rw [← strOf_app, HXE.out]; rfl, by go_num, ⟨by omega⟩, HL1, HW1, HO⟩
        case measure => simp [RowKit.intOf]; omega
      · go_wp2_with fail
        have hpl := place_sp 98 (by decide) w.heap.size wr
        rw [show cellOf 98 = (1, 1) from rfl, show (98 : Int) = (((strOf fs)[i]'hlt).toNat : Int) by rw [hgt]; rfl] at hpl
        refine hpl.mono ?_
        clear hpl
        rintro e_ w3 ⟨rfl, hb⟩
        replace HO := Aside0.mk (HO.out.call hb)
        clear hb hc hf hd hg
        obtain ⟨hc, hf⟩ := HO.out.own.cells
        obtain ⟨hd, hg⟩ := cells_of_blk HO.out.blk
        go_wp2_with fail
        have hnum : Calls Tryd.prog 43 #[.int .i64 b, .int .i64 1] w3 _ := S.number b 1 (by have h := HGC.out.2; rw [HXE.out] at h; exact h) (by omega) w3
        refine hnum.mono ?_
        clear hnum
        rintro e_ w4 ⟨rfl, hb⟩
        replace HO := Aside0.mk (HO.out.call hb)
        clear hb hc hf hd hg
        obtain ⟨hc, hf⟩ := HO.out.own.cells
        obtain ⟨hd, hg⟩ := cells_of_blk HO.out.blk
        have k0 : (strOf (be 1 b.toNat)).size ≤ 1000000 := by have h := hps; rw [HXE.out] at h; exact h
        have k1 : (strOf out).size + (strOf (be 1 b.toNat)).size ≤ 9223372036854775807 := by omega
        have k2 : ¬ ((9223372036854775807 : Int) < ((strOf out).size : Int) + ((strOf (be 1 b.toNat)).size : Int)) := by omega
        go_wp2
        go_roundw
        case rel => exact ⟨i + 1, out ++ piece 98 x, by rw [← strOf_app, HXE.out]; rfl, by go_num, ⟨by omega⟩, HL1, HW1, HO⟩
        case measure => simp [RowKit.intOf]; omega
      · go_wp2_with fail
        have hpl := place_sp 99 (by decide) w.heap.size wr
        rw [show cellOf 99 = (2, 1) from rfl, show (99 : Int) = (((strOf fs)[i]'hlt).toNat : Int) by rw [hgt]; rfl] at hpl
        refine hpl.mono ?_
        clear hpl
        rintro e_ w3 ⟨rfl, hb⟩
        replace HO := Aside0.mk (HO.out.call hb)
        clear hb hc hf hd hg
        obtain ⟨hc, hf⟩ := HO.out.own.cells
        obtain ⟨hd, hg⟩ := cells_of_blk HO.out.blk
        go_wp2_with fail
        have hnum : Calls Tryd.prog 43 #[.int .i64 c, .int .i64 1] w3 _ := S.number c 1 (by have h := HGC.out.2; rw [HXE.out] at h; exact h) (by omega) w3
        refine hnum.mono ?_
        clear hnum
        rintro e_ w4 ⟨rfl, hb⟩
        replace HO := Aside0.mk (HO.out.call hb)
        clear hb hc hf hd hg
        obtain ⟨hc, hf⟩ := HO.out.own.cells
        obtain ⟨hd, hg⟩ := cells_of_blk HO.out.blk
        have k0 : (strOf (be 1 c.toNat)).size ≤ 1000000 := by have h := hps; rw [HXE.out] at h; exact h
        have k1 : (strOf out).size + (strOf (be 1 c.toNat)).size ≤ 9223372036854775807 := by omega
        have k2 : ¬ ((9223372036854775807 : Int) < ((strOf out).size : Int) + ((strOf (be 1 c.toNat)).size : Int)) := by omega
        go_wp2
        go_roundw
        case rel => exact ⟨i + 1, out ++ piece 99 x, by rw [← strOf_app, HXE.out]; rfl, by go_num, ⟨by omega⟩, HL1, HW1, HO⟩
        case measure => simp [RowKit.intOf]; omega
      · go_wp2_with fail
        have hpl := place_sp 118 (by decide) w.heap.size wr
        rw [show cellOf 118 = (0, 4) from rfl, show (118 : Int) = (((strOf fs)[i]'hlt).toNat : Int) by rw [hgt]; rfl] at hpl
        refine hpl.mono ?_
        clear hpl
        rintro e_ w3 ⟨rfl, hb⟩
        replace HO := Aside0.mk (HO.out.call hb)
        clear hb hc hf hd hg
        obtain ⟨hc, hf⟩ := HO.out.own.cells
        obtain ⟨hd, hg⟩ := cells_of_blk HO.out.blk
        go_wp2_with fail
        have hnum : Calls Tryd.prog 43 #[.int .i64 a, .int .i64 4] w3 _ := S.number a 4 (by have h := HGC.out.2; rw [HXE.out] at h; exact h) (by omega) w3
        refine hnum.mono ?_
        clear hnum
        rintro e_ w4 ⟨rfl, hb⟩
        replace HO := Aside0.mk (HO.out.call hb)
        clear hb hc hf hd hg
        obtain ⟨hc, hf⟩ := HO.out.own.cells
        obtain ⟨hd, hg⟩ := cells_of_blk HO.out.blk
        have k0 : (strOf (be 4 a.toNat)).size ≤ 1000000 := by have h := hps; rw [HXE.out] at h; exact h
        have k1 : (strOf out).size + (strOf (be 4 a.toNat)).size ≤ 9223372036854775807 := by omega
        have k2 : ¬ ((9223372036854775807 : Int) < ((strOf out).size : Int) + ((strOf (be 4 a.toNat)).size : Int)) := by omega
        go_wp2
        go_roundw
        case rel => exact ⟨i + 1, out ++ piece 118 x, by rw [← strOf_app, HXE.out]; rfl, by go_num, ⟨by omega⟩, HL1, HW1, HO⟩
        case measure => simp [RowKit.intOf]; omega
      · go_wp2_with fail
        have hpl := place_sp 119 (by decide) w.heap.size wr
        rw [show cellOf 119 = (1, 4) from rfl, show (119 : Int) = (((strOf fs)[i]'hlt).toNat : Int) by rw [hgt]; rfl] at hpl
        refine hpl.mono ?_
        clear hpl
        rintro e_ w3 ⟨rfl, hb⟩
        replace HO := Aside0.mk (HO.out.call hb)
        clear hb hc hf hd hg
        obtain ⟨hc, hf⟩ := HO.out.own.cells
        obtain ⟨hd, hg⟩ := cells_of_blk HO.out.blk
        go_wp2_with fail
        have hnum : Calls Tryd.prog 43 #[.int .i64 b, .int .i64 4] w3 _ := S.number b 4 (by have h := HGC.out.2; rw [HXE.out] at h; exact h) (by omega) w3
        refine hnum.mono ?_
        clear hnum
        rintro e_ w4 ⟨rfl, hb⟩
        replace HO := Aside0.mk (HO.out.call hb)
        clear hb hc hf hd hg
        obtain ⟨hc, hf⟩ := HO.out.own.cells
        obtain ⟨hd, hg⟩ := cells_of_blk HO.out.blk
        have k0 : (strOf (be 4 b.toNat)).size ≤ 1000000 := by have h := hps; rw [HXE.out] at h; exact h
        have k1 : (strOf out).size + (strOf (be 4 b.toNat)).size ≤ 9223372036854775807 := by omega
        have k2 : ¬ ((9223372036854775807 : Int) < ((strOf out).size : Int) + ((strOf (be 4 b.toNat)).size : Int)) := by omega
        go_wp2
        go_roundw
        case rel => exact ⟨i + 1, out ++ piece 119 x, by rw [← strOf_app, HXE.out]; rfl, by go_num, ⟨by omega⟩, HL1, HW1, HO⟩
        case measure => simp [RowKit.intOf]; omega
      · go_wp2_with fail
        have hpl := place_sp 120 (by decide) w.heap.size wr
        rw [show cellOf 120 = (2, 4) from rfl, show (120 : Int) = (((strOf fs)[i]'hlt).toNat : Int) by rw [hgt]; rfl] at hpl
        refine hpl.mono ?_
        clear hpl
        rintro e_ w3 ⟨rfl, hb⟩
        replace HO := Aside0.mk (HO.out.call hb)
        clear hb hc hf hd hg
        obtain ⟨hc, hf⟩ := HO.out.own.cells
        obtain ⟨hd, hg⟩ := cells_of_blk HO.out.blk
        go_wp2_with fail
        have hnum : Calls Tryd.prog 43 #[.int .i64 c, .int .i64 4] w3 _ := S.number c 4 (by have h := HGC.out.2; rw [HXE.out] at h; exact h) (by omega) w3
        refine hnum.mono ?_
        clear hnum
        rintro e_ w4 ⟨rfl, hb⟩
        replace HO := Aside0.mk (HO.out.call hb)
        clear hb hc hf hd hg
        obtain ⟨hc, hf⟩ := HO.out.own.cells
        obtain ⟨hd, hg⟩ := cells_of_blk HO.out.blk
        have k0 : (strOf (be 4 c.toNat)).size ≤ 1000000 := by have h := hps; rw [HXE.out] at h; exact h
        have k1 : (strOf out).size + (strOf (be 4 c.toNat)).size ≤ 9223372036854775807 := by omega
        have k2 : ¬ ((9223372036854775807 : Int) < ((strOf out).size : Int) + ((strOf (be 4 c.toNat)).size : Int)) := by omega
        go_wp2
        go_roundw
        case rel => exact ⟨i + 1, out ++ piece 120 x, by rw [← strOf_app, HXE.out]; rfl, by go_num, ⟨by omega⟩, HL1, HW1, HO⟩
        case measure => simp [RowKit.intOf]; omega
      · go_wp2_with fail
        have hpl := place_sp 121 (by decide) w.heap.size wr
        rw [show cellOf 121 = (3, 4) from rfl, show (121 : Int) = (((strOf fs)[i]'hlt).toNat : Int) by rw [hgt]; rfl] at hpl
        refine hpl.mono ?_
        clear hpl
        rintro e_ w3 ⟨rfl, hb⟩
        replace HO := Aside0.mk (HO.out.call hb)
        clear hb hc hf hd hg
        obtain ⟨hc, hf⟩ := HO.out.own.cells
        obtain ⟨hd, hg⟩ := cells_of_blk HO.out.blk
        go_wp2_with fail
        have hnum : Calls Tryd.prog 43 #[.int .i64 d, .int .i64 4] w3 _ := S.number d 4 (by have h := HGC.out.2; rw [HXE.out] at h; exact h) (by omega) w3
        refine hnum.mono ?_
        clear hnum
        rintro e_ w4 ⟨rfl, hb⟩
        replace HO := Aside0.mk (HO.out.call hb)
        clear hb hc hf hd hg
        obtain ⟨hc, hf⟩ := HO.out.own.cells
        obtain ⟨hd, hg⟩ := cells_of_blk HO.out.blk
        have k0 : (strOf (be 4 d.toNat)).size ≤ 1000000 := by have h := hps; rw [HXE.out] at h; exact h
        have k1 : (strOf out).size + (strOf (be 4 d.toNat)).size ≤ 9223372036854775807 := by omega
        have k2 : ¬ ((9223372036854775807 : Int) < ((strOf out).size : Int) + ((strOf (be 4 d.toNat)).size : Int)) := by omega
        go_wp2
        go_roundw
        case rel => exact ⟨i + 1, out ++ piece 121 x, by rw [← strOf_app, HXE.out]; rfl, by go_num, ⟨by omega⟩, HL1, HW1, HO⟩
        case measure => simp [RowKit.intOf]; omega
      · go_wp2_with fail
        have hpl := place_sp 122 (by decide) w.heap.size wr
        rw [show cellOf 122 = (4, 4) from rfl, show (122 : Int) = (((strOf fs)[i]'hlt).toNat : Int) by rw [hgt]; rfl] at hpl
        refine hpl.mono ?_
        clear hpl
        rintro e_ w3 ⟨rfl, hb⟩
        replace HO := Aside0.mk (HO.out.call hb)
        clear hb hc hf hd hg
        obtain ⟨hc, hf⟩ := HO.out.own.cells
        obtain ⟨hd, hg⟩ := cells_of_blk HO.out.blk
        go_wp2_with fail
        have hnum : Calls Tryd.prog 43 #[.int .i64 e, .int .i64 4] w3 _ := S.number e 4 (by have h := HGC.out.2; rw [HXE.out] at h; exact h) (by omega) w3
        refine hnum.mono ?_
        clear hnum
        rintro e_ w4 ⟨rfl, hb⟩
        replace HO := Aside0.mk (HO.out.call hb)
        clear hb hc hf hd hg
        obtain ⟨hc, hf⟩ := HO.out.own.cells
        obtain ⟨hd, hg⟩ := cells_of_blk HO.out.blk
        have k0 : (strOf (be 4 e.toNat)).size ≤ 1000000 := by have h := hps; rw [HXE.out] at h; exact h
        have k1 : (strOf out).size + (strOf (be 4 e.toNat)).size ≤ 9223372036854775807 := by omega
        have k2 : ¬ ((9223372036854775807 : Int) < ((strOf out).size : Int) + ((strOf (be 4 e.toNat)).size : Int)) := by omega
        go_wp2
        go_roundw
        case rel => exact ⟨i + 1, out ++ piece 122 x, by rw [← strOf_app, HXE.out]; rfl, by go_num, ⟨by omega⟩, HL1, HW1, HO⟩
        case measure => simp [RowKit.intOf]; omega
    · have hltI : ¬ (i : Int) < (fs.length : Int) := by omega
      have hin : i = fs.length := by have := HI.out; omega
      have hw := HW.out
      rw [hin, List.drop_length, show wireF [] x = [] from rfl, List.append_nil] at hw
      have HW1 := Aside0.mk hw
      clear hw hin HW
      go_wp2
      go_ret2
      exact ⟨by rw [HW1.out]; rfl, HO.out.own.below⟩
end Go.Proofs.YtaehonmfoanloaaDoor.Hand
namespace Go.Proofs.YtaehonmfoanloaaDoor.Hand
open Go.RowKit Go.Proofs.YtaehonmfoanloaaDoorW.PrintWords Go.Proofs.YtaehonmfoanloaaDoor.RdW
set_option maxHeartbeats 40000000
set_option maxRecDepth 100000
set_option linter.all false
theorem wire_no (S : WSp) (t : Int) (x : D) (hx : x.ok) (hv : validS t x = false) (w : World) (sh : w.ShapedOpen Tryd.prog) :
    Calls Tryd.prog 16 #[.int .i64 t, x.v] w fun e w' => e = .returned (.tuple #[.string ⟨#[]⟩, .int .i64 (if knownB t then 5 else 4)]) ∧ Below w.heap.size w w' := by
  have hu := Tryd.underlying26
  have hu2 := Tryd.underlying24
  have hu3 := Tryd.underlying50
  have HX := Aside0.mk hx
  have HV := Aside0.mk hv
  obtain ⟨v6, hi, lo, host, mail, text, a, b, c, d, e, f, bits, hxe⟩ : ∃ v6 hi lo host mail text a b c d e f bits, x = ⟨v6, hi, lo, host, mail, text, a, b, c, d, e, f, bits⟩ := ⟨_, _, _, _, _, _, _, _, _, _, _, _, _, rfl⟩
  have HXE := Aside0.mk hxe
  have HO : Aside0 (Own w (w.alloc (.cells #[.bool v6, .int .u64 hi, .int .u64 lo, .string host, .string mail, .string text, .int .i64 a, .int .i64 b, .int .i64 c, .int .i64 d, .int .i64 e, .int .i64 f, .int .u64 bits] 26)) #[.bool v6, .int .u64 hi, .int .u64 lo, .string host, .string mail, .string text, .int .i64 a, .int .i64 b, .int .i64 c, .int .i64 d, .int .i64 e, .int .i64 f, .int .u64 bits] 26) := ⟨Own.new _ _ _⟩
  rw [show x.v = .agg #[.bool v6, .int .u64 hi, .int .u64 lo, .string host, .string mail, .string text, .int .i64 a, .int .i64 b, .int .i64 c, .int .i64 d, .int .i64 e, .int .i64 f, .int .u64 bits] by rw [hxe]; rfl]
  clear hxe
  clear hx hv
  go_enter Tryd.func16, Tryd.ntmps16
  go_wp2_with fail
  refine (S.find t _).mono ?_
  rintro e_ w1 ⟨⟨mn, rfl⟩, hb⟩
  have HO1 := Aside0.mk (HO.out.call hb)
  clear HO hb
  obtain ⟨hc, hf⟩ := HO1.out.cells
  have hlt := HO1.out.lt
  cases hk : knownB t with
  | false =>
    rw [if_neg (by simp)]
    go_wp2
    all_goals (repeat' go_ret2)
    all_goals exact ⟨rfl, (HO1.out.below).trans ((al (Below.refl _ _) _).mono HO1.out.below.size)⟩
  | true =>
    have HK := Aside0.mk hk
    clear hk
    rw [if_pos rfl]
    have HO2 := Aside0.mk (Own2.new HO1.out #[.int .i64 t, .string mn, .string (strOf (flds t))] 50)
    go_wp2_with fail
    have hval := S.valid t x (w1.alloc (.cells #[.int .i64 t, .string mn, .string (strOf (flds t))] 50)) HX.out (shb sh HO2.out.own.below) HK.out
    rw [show x.v = .agg #[.bool v6, .int .u64 hi, .int .u64 lo, .string host, .string mail, .string text, .int .i64 a, .int .i64 b, .int .i64 c, .int .i64 d, .int .i64 e, .int .i64 f, .int .u64 bits] by rw [HXE.out]; rfl] at hval
    refine hval.mono ?_
    clear hval
    rintro e_ w2 ⟨rfl, hb⟩
    rw [HV.out]
    have HO3 := Aside0.mk (HO2.out.call hb)
    clear hb
    go_wp2
    all_goals (repeat' go_ret2)
    all_goals first | exact absurd HK.out (by assumption) | exact ⟨by first | (rfl; done) | (simp [HK.out]; done), HO3.out.own.below⟩
end Go.Proofs.YtaehonmfoanloaaDoor.Hand
namespace Go.Proofs.YtaehonmfoanloaaDoor.Hand
open Go.RowKit Go.Proofs.YtaehonmfoanloaaDoorW.PrintWords Go.Proofs.YtaehonmfoanloaaDoor.RdW
set_option maxHeartbeats 40000000
set_option maxRecDepth 100000
set_option linter.all false
theorem valid_unknown (t : Int) (x : D) (w : World) (hk : knownB t = false) :
    Calls Tryd.prog 13 #[.int .i64 t, x.v] w fun e w' => e = .returned (.bool (validS t x)) ∧ Below w.heap.size w w' := by
  have hu := Tryd.underlying26
  have h : ¬ (knownB t = true) := by rw [hk]; simp
  rw [knownB_iff] at h
  unfold KT at h
  simp only [not_or] at h
  obtain ⟨h1, h2, h3, h4, h5, h6, h7, h8, h9, h10, h11, h12, h13, h14⟩ := h
  rw [show validS t x = false by unfold validS; rw [hk]; rfl]
  obtain ⟨v6, hi, lo, host, mail, text, a, b, c, d, e, f, bits⟩ := x
  show Calls Tryd.prog 13 #[_, .agg #[.bool v6, .int .u64 hi, .int .u64 lo, .string host, .string mail, .string text, .int .i64 a, .int .i64 b, .int .i64 c, .int .i64 d, .int .i64 e, .int .i64 f, .int .u64 bits]] w _
  clear hk
  go_enter Tryd.func13, Tryd.ntmps13
  go_wp2_with fail
  go_ret
  exact ⟨rfl, al (Below.refl _ _) _⟩
end Go.Proofs.YtaehonmfoanloaaDoor.Hand
