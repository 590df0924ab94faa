/-
  The program's Valid of data of the type NSEC, walked: it returns validS. Conditions: what the functions that it calls return (PSp), strings of the reach. The program's Valid, all types in one. Conditions: sizes of the names, range of the bits, a world of the shape. The program's Read, for every type. Conditions: the bytes' number, a world of the shape, the contracts assumed.
  The contracts that the walks of layer 5 assume, out of the printed functions; and what the program's Wire, Valid, Known and Read return. Conditions: data of the reach, a world of the shape.
-/
import Derived.Test.YtaehonmfoanloaaDoorPvSp
import Derived.Test.YtaehonmfoanloaaDoorRdBit
import Derived.Deep.RegionHeld3
import Derived.Test.YtaehonmfoanloaaDoorPvGa
import Derived.Test.YtaehonmfoanloaaDoorPvGc
import Derived.Test.YtaehonmfoanloaaDoorPvGb
import Derived.Test.YtaehonmfoanloaaDoorPvA
import Derived.Test.YtaehonmfoanloaaDoorPvB
import Derived.Test.YtaehonmfoanloaaDoorPvD
import Derived.Test.YtaehonmfoanloaaDoorRdReadB
import Derived.Test.YtaehonmfoanloaaDoorPwWire
import Derived.Test.YtaehonmfoanloaaDoorRdEvA
import Derived.Test.YtaehonmfoanloaaDoorRdCmp
namespace Go.Proofs.YtaehonmfoanloaaDoor.Hand
open Go.RowKit Go.Proofs.YtaehonmfoanloaaDoorW.PrintWords Go.Proofs.YtaehonmfoanloaaDoor.RdW
set_option maxHeartbeats 8000000
set_option maxRecDepth 100000
set_option linter.all false
attribute [local go_sem high] eqD
theorem pv47 (S : PSp) (x : D) (hs1 : x.host.size ≤ 100000) (hs2 : x.mail.size ≤ 100000) (hb0 : 0 ≤ x.bits) (hb1 : x.bits < 18446744073709551616) (w : World) (sh : w.ShapedOpen Tryd.prog) :
    Calls Tryd.prog 13 #[.int .i64 47, x.v] w fun e w' => e = .returned (.bool (validS 47 x)) ∧ Below w.heap.size w w' := by
  cases h0 : D.eqb x { D.z with host := x.host, bits := x.bits } with
  | false => exact pv47_data S x hs1 hs2 hb0 hb1 h0 w sh
  | true =>
    cases h1 : nameB x.host with
    | false => exact pv47_name S x hs1 hs2 hb0 hb1 h0 h1 w sh
    | true =>
      cases h2 : (x.bits != 0) with
      | false => exact pv47_bits S x hs1 hs2 hb0 hb1 h0 h1 h2 w sh
      | true => exact pv47_full S x hs1 hs2 hb0 hb1 h0 h1 h2 w sh
end Go.Proofs.YtaehonmfoanloaaDoor.Hand
namespace Go.Proofs.YtaehonmfoanloaaDoor.Hand
open Go.RowKit Go.Proofs.YtaehonmfoanloaaDoorW.PrintWords Go.Proofs.YtaehonmfoanloaaDoor.RdW
set_option linter.all false
theorem valid_known (S : PSp) (t : Int) (x : D) (hs1 : x.host.size ≤ 100000) (hs2 : x.mail.size ≤ 100000) (hb0 : 0 ≤ x.bits) (hb1 : x.bits < 18446744073709551616) (w : World) (sh : w.ShapedOpen Tryd.prog) (hk : knownB t = true) :
    Calls Tryd.prog 13 #[.int .i64 t, x.v] w fun e w' => e = .returned (.bool (validS t x)) ∧ Below w.heap.size w w' := by
  rw [knownB_iff] at hk
  rcases hk with rfl | rfl | rfl | rfl | rfl | rfl | rfl | rfl | rfl | rfl | rfl | rfl | rfl | rfl
  · exact pv1 S x hs1 hs2 w sh
  · exact pv2 S x hs1 hs2 w sh
  · exact pv5 S x hs1 hs2 w sh
  · exact pv6 S x hs1 hs2 w sh
  · exact pv12 S x hs1 hs2 w sh
  · exact pv15 S x hs1 hs2 w sh
  · exact pv16 S x hs1 hs2 w sh
  · exact pv28 S x hs1 hs2 w sh
  · exact pv33 S x hs1 hs2 w sh
  · exact pv39 S x hs1 hs2 w sh
  · exact pv43 S x hs1 hs2 w sh
  · exact pv46 S x hs1 hs2 w sh
  · exact pv47 S x hs1 hs2 hb0 hb1 w sh
  · exact pv48 S x hs1 hs2 w sh
end Go.Proofs.YtaehonmfoanloaaDoor.Hand
namespace Go.Proofs.YtaehonmfoanloaaDoor.Hand
open Go.RowKit Go.Proofs.YtaehonmfoanloaaDoorW.PrintWords Go.Proofs.YtaehonmfoanloaaDoor.RdW
set_option linter.all false
theorem read_sp (S : WSp) (F : FSp) (t : Int) (s : ByteArray) (hs : s.size ≤ 1000000) (w : World) (sh : w.ShapedOpen Tryd.prog) :
    Calls Tryd.prog 18 #[.int .i64 t, .string s] w fun e w' => e = .returned (.tuple #[(readS t s.data.toList).1.v, .int .i64 (readS t s.data.toList).2]) ∧ Below w.heap.size w w' := by
  cases hk : knownB t with
  | false => exact read_unknown S t s hk w
  | true =>
    refine read_known S F t s hs hk w fun x rest hr W hb => ?_
    obtain ⟨s1, s2, s3, s4⟩ := readF_small _ _ _ _ _ small_z hr
    exact valid_known F.toPSp t x s1 s2 s3 s4 W (shb sh hb) hk
end Go.Proofs.YtaehonmfoanloaaDoor.Hand
namespace Go.Proofs.YtaehonmfoanloaaDoor.Hand
open Go.RowKit Go.Proofs.YtaehonmfoanloaaDoorW.PrintWords Go.Proofs.YtaehonmfoanloaaDoor.RdW Go.Proofs.YtaehonmfoanloaaDoor.PA
set_option maxHeartbeats 4000000
set_option maxRecDepth 100000
set_option linter.all false
theorem within_sp (x m : Int) (r : Bool) (h : inB x m = r) (w : World) : Calls Tryd.prog 25 #[.int .i64 x, .int .i64 m] w fun e w' => e = .returned (.bool r) ∧ w = w' := by
  subst h
  unfold inB
  by_cases h1 : (0 : Int) ≤ x <;> by_cases h2 : x ≤ m
  all_goals
    go_enter Tryd.func25, Tryd.ntmps25
    go_wp2
    go_ret
    exact ⟨ret_bool (by simp [h1, h2]), rfl⟩
theorem serial_sp (x : Int) (r : Bool) (h : inB x 4294967295 = r) (w : World) : Calls Tryd.prog 24 #[.int .i64 x] w fun e w' => e = .returned (.bool r) ∧ w = w' := by
  subst h
  unfold inB
  by_cases h1 : (0 : Int) ≤ x <;> by_cases h2 : x < 4294967296
  all_goals
    go_enter Tryd.func24, Tryd.ntmps24
    go_wp2
    go_ret
    exact ⟨ret_bool (by simp [h1]; try omega), rfl⟩
theorem long_sp (s : ByteArray) (r : Bool) (h : longB s = r) (w : World) : Calls Tryd.prog 26 #[.string s] w fun e w' => e = .returned (.bool r) ∧ w = w' := by
  subst h
  unfold longB
  by_cases h1 : (1 : Int) ≤ (s.size : Int) <;> by_cases h2 : (s.size : Int) ≤ 255
  all_goals
    go_enter Tryd.func26, Tryd.ntmps26
    go_wp2
    go_ret
    exact ⟨ret_bool (by simp; omega), rfl⟩
theorem known_sp (t : Int) (w : World) : Calls Tryd.prog 20 #[.int .i64 t] w fun e w' => e = .returned (.bool (knownB t)) ∧ Below w.heap.size w w' := by
  obtain ⟨k, hk⟩ := (Known_ev t).rounds
  exact rdata_Known.calls k t _ w hk
theorem psp : PSp where
  host := fun n r hr hs {w0 w} sh hb => by
    obtain ⟨k, hk⟩ := (host_ev n hs).rounds
    rw [hr] at hk
    exact rdata_host.calls k n r w ⟨shb sh hb⟩ hk
  name := fun n r hr hs {w0 w} sh hb => by
    obtain ⟨k, hk⟩ := (Valid_ev n hs).rounds
    rw [hr] at hk
    exact dname_Valid.calls k n r w ⟨shb sh hb⟩ hk
  known := fun t r hr w => by rw [← hr]; exact known_sp t w
  all := fun w => by
    obtain ⟨k, hk⟩ := all_ev.rounds
    exact rdata_all.calls k _ w hk
  serial := serial_sp
  within := within_sp
  long := long_sp
  addr := fun v6 hi lo r hr w => by
    have h := addr_Valid_eq v6 hi lo
    rw [hr] at h
    exact addr_Valid.calls v6 hi lo r w h
theorem valid_sp (t : Int) (x : D) (w : World) (hx : x.ok) (sh : w.ShapedOpen Tryd.prog) :
    Calls Tryd.prog 13 #[.int .i64 t, x.v] w fun e w' => e = .returned (.bool (validS t x)) ∧ Below w.heap.size w w' := by
  cases hk : knownB t with
  | false => exact valid_unknown t x w hk
  | true => exact valid_known psp t x hx.host hx.mail hx.bits0 hx.bits1 w sh hk
theorem wsp : WSp where
  find := fun t w => by
    obtain ⟨mn, h⟩ := find_ev t
    obtain ⟨k, hk⟩ := h.rounds
    exact (rdata_find.calls k t _ _ _ _ w hk).mono fun e w' h => ⟨⟨mn, h.1⟩, h.2⟩
  valid := fun t x w hx sh hk => valid_sp t x w hx sh
  name := fun n hs {w0 w} sh hb => by
    obtain ⟨k, hk⟩ := (name_ev n hs).rounds
    exact rdata_name.calls k n _ w ⟨shb sh hb⟩ hk
  addr := fun x hx hv w => by
    obtain ⟨k, hk⟩ := (addr_Wire_ev x hx hv).rounds
    exact addr_Wire.calls k x.v6 x.hi x.lo _ _ w hk
  bitmap := fun b h0 h1 w => by
    obtain ⟨k, hk⟩ := (bitmap_ev b h0 h1).rounds
    exact rdata_bitmap.calls k b _ w hk
  number := fun n k h0 hk w => by
    obtain ⟨m, hm⟩ := (number_ev n k h0 hk).rounds
    exact rdata_number.calls m n k _ w hm
theorem fsp : FSp where
  toPSp := psp
  read4 := fun l hl w => by
    obtain ⟨k, hk⟩ := (addr_Read4_ev l hl).rounds
    exact addr_Read.calls k _ _ _ _ _ w hk
  read16 := fun l hl w => by
    obtain ⟨k, hk⟩ := (addr_Read16_ev l hl).rounds
    exact addr_Read.calls k _ _ _ _ _ w hk
theorem wire_sp (t : Int) (x : D) (w : World) (hx : x.ok) (sh : w.ShapedOpen Tryd.prog) :
    Calls Tryd.prog 16 #[.int .i64 t, x.v] w fun e w' => e = .returned (.tuple #[.string (strOf (wireS t x).1), .int .i64 (wireS t x).2]) ∧ Below w.heap.size w w' := by
  cases hv : validS t x with
  | true =>
    have hk := (valid_used hv).1
    rw [show wireS t x = (wireF (flds t) x, 0) by unfold wireS; rw [hk, hv]; rfl]
    exact wire_yes wsp t x hx hk hv (wire_good hx hv) w sh
  | false =>
    rw [show wireS t x = ([], if knownB t then 5 else 4) by unfold wireS; rw [hv]; cases knownB t <;> rfl]
    exact wire_no wsp t x hx hv w sh
theorem lsp : LSp where
  wire := wire_sp
  valid := valid_sp
  known := known_sp
  read := fun t s w hs sh => read_sp wsp fsp t s hs w sh
end Go.Proofs.YtaehonmfoanloaaDoor.Hand
