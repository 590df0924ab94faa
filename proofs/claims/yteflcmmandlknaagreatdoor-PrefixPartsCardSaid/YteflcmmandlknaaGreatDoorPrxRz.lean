/-
  The zone of the reference is the program's; the law PrefixParts. Conditions: each theorem's own.
-/
import Derived.Test.YteflcmmandlknaaGreatDoorPAx11
import Derived.Test.YteflcmmandlknaaGreatDoorPAx18
import Derived.Test.YteflcmmandlknaaGreatDoorPAx19
import Derived.Test.YteflcmmandlknaaGreatDoorRefR
import Derived.Test.YteflcmmandlknaaGreatDoorPrxZa
import Derived.Test.YteflcmmandlknaaGreatDoorPrxRp
import Derived.Test.YteflcmmandlknaaGreatDoorPrxRs
import Derived.Test.YteflcmmandlknaaGreatDoorPrxRb
namespace Go.Proofs.YteflcmmandlknaaGreatDoor.PrxRz
open Go.RowKit Go.Proofs.YteflcmmandlknaaGreatDoorW.PrintWords Go.Proofs.YteflcmmandlknaaGreatDoor.Num Go.Proofs.YteflcmmandlknaaGreatDoor.Str Go.Proofs.YteflcmmandlknaaGreatDoor.Flds Go.Proofs.YteflcmmandlknaaGreatDoor.AddrP Go.Proofs.YteflcmmandlknaaGreatDoor.Qs Go.Proofs.YteflcmmandlknaaGreatDoor.AdW Go.Proofs.YteflcmmandlknaaGreatDoor.Rv Go.Proofs.YteflcmmandlknaaGreatDoor.PrxN Go.Proofs.YteflcmmandlknaaGreatDoor.PrxS Go.Proofs.YteflcmmandlknaaGreatDoor.PrxT Go.Proofs.YteflcmmandlknaaGreatDoor.PrxR Go.Proofs.YteflcmmandlknaaGreatDoor.PrxH Go.Proofs.YteflcmmandlknaaGreatDoor.PrxRp Go.Proofs.YteflcmmandlknaaGreatDoor.PrxZn Go.Proofs.YteflcmmandlknaaGreatDoor.PA
set_option linter.unusedVariables false
set_option linter.unusedSimpArgs false
set_option maxRecDepth 100000

theorem bs_by (s : ByteArray) : bs (by_ s) = s := by
  cases s
  simp [bs, by_]
theorem lab_piece (s : ByteArray) (hs : s.size ≤ 1000) (c : Nat) (hc : 1 ≤ c) (hc2 : c ≤ 1000) (rest : List UInt8) (r : ByteArray) (h1 : c = 1 → r = bs rest)
    (hk : c ≠ 1 → ∀ j : Nat, (by_ s).drop j = rest → Ev (fun k => ddiref03_labels.l0 k s ((c - 1 : Nat) : Int) (j : Int)) r) :
    ∀ (p : List UInt8) (i : Nat), (by_ s).drop i = p ++ 46 :: rest → (46 : UInt8) ∉ p → Ev (fun k => ddiref03_labels.l0 k s (c : Int) (i : Int)) r := by
  intro p
  induction p with
  | nil =>
    intro i hd hf
    obtain ⟨b1, b2, b3⟩ := bt_drop hd
    have hl := by_length s
    have p1 : (i : Int) < (s.size : Int) := by omega
    have p0 : (0 : Int) ≤ (i : Int) := by omega
    have hpos : decide ((c : Int) > 0) = true := decide_eq_true (by omega)
    have ew : wrap64 ((i : Int) + 1) = ((i + 1 : Nat) : Int) := by rw [wrap64_id (by omega) (by omega)]; omega
    have ec : wrap64 ((c : Int) - 1) = ((c - 1 : Nat) : Int) := by rw [wrap64_id (by omega) (by omega)]; omega
    refine Ev.step (fun k => by rw [ddiref03_labels.l0]) ?_
    refine ev_if_pos p1 ?_
    rw [hpos]
    refine Ev.step (fun k => by rw [ddiref03_labels.j1]) ?_
    refine ev_if_pos rfl (ev_if_pos p0 (ev_if_pos p1 (ev_if_pos (by rw [b2]; decide) ?_)))
    rw [ec, ew]
    by_cases hc1 : c = 1
    · refine ev_if_pos (by omega) (ev_if_pos (by omega) (ev_if_pos (by omega) ?_))
      have e : s.extract (((i + 1 : Nat) : Int)).toNat s.size = r := by
        rw [h1 hc1, Int.toNat_natCast]
        have hby : by_ (s.extract (i + 1) s.size) = rest := by
          show (s.extract (i + 1) s.size).data.toList = _
          rw [ByteArray.data_extract, Array.toList_extract]
          unfold List.extract
          show ((by_ s).drop (i + 1)).take (s.size - (i + 1)) = rest
          rw [b3, List.take_of_length_le]
          have := congrArg List.length b3
          rw [List.length_drop] at this
          omega
        rw [← hby, bs_by]
      rw [e]
      exact Ev.now _
    · refine ev_if_neg (by omega) ?_
      exact hk hc1 (i + 1) b3
  | cons x p ih =>
    intro i hd hf
    obtain ⟨b1, b2, b3⟩ := bt_drop hd
    have hl := by_length s
    have p1 : (i : Int) < (s.size : Int) := by omega
    have p0 : (0 : Int) ≤ (i : Int) := by omega
    have hpos : decide ((c : Int) > 0) = true := decide_eq_true (by omega)
    have ew : wrap64 ((i : Int) + 1) = ((i + 1 : Nat) : Int) := by rw [wrap64_id (by omega) (by omega)]; omega
    have hx : ¬ ((x.toNat : Nat) : Int) = 46 := fun q => hf (by
      have : x = 46 := by
        apply UInt8.toNat_inj.mp
        show x.toNat = 46
        omega
      rw [this]
      simp)
    refine Ev.step (fun k => by rw [ddiref03_labels.l0]) ?_
    refine ev_if_pos p1 ?_
    rw [hpos]
    refine Ev.step (fun k => by rw [ddiref03_labels.j1]) ?_
    refine ev_if_pos rfl (ev_if_pos p0 (ev_if_pos p1 (ev_if_neg (by rw [b2]; exact hx) ?_)))
    rw [ew]
    exact ih (i + 1) b3 (fun q => hf (List.mem_cons_of_mem _ q))
theorem lab_go (s : ByteArray) (hs : s.size ≤ 1000) (T : List UInt8) : ∀ (F : List (List UInt8)) (m i : Nat), (by_ s).drop i = dots F ++ T → 1 ≤ m → m ≤ F.length → m ≤ 1000 → (∀ p, p ∈ F → (46 : UInt8) ∉ p) →
    Ev (fun k => ddiref03_labels.l0 k s (m : Int) (i : Int)) (bs (dots (F.drop m) ++ T))
  | [], m, i, _, h1, h2, _, _ => by simp at h2; omega
  | p :: F, m, i, hd, h1, h2, h3, hf => by
    rw [dots_cons] at hd
    refine lab_piece s hs m h1 h3 (dots F ++ T) _ (fun e => ?_) (fun e j hj => ?_) p i hd (hf p (by simp))
    · subst e
      rfl
    · obtain ⟨n, rfl⟩ : ∃ n, m = n + 1 := ⟨m - 1, by omega⟩
      have ih := lab_go s hs T F n j hj (by omega) (by simpa using h2) (by omega) (fun q hq => hf q (List.mem_cons_of_mem _ hq))
      exact ih
theorem lab_ev (F : List (List UInt8)) (T : List UInt8) (m : Nat) (hl : (dots F ++ T).length ≤ 1000) (hm : m ≤ F.length) (h3 : m ≤ 1000) (hf : ∀ p, p ∈ F → (46 : UInt8) ∉ p) :
    Ev (fun k => ddiref03_labels.f k (bs (dots F ++ T)) (m : Int)) (bs (dots (F.drop m) ++ T)) := by
  have hb : by_ (bs (dots F ++ T)) = dots F ++ T := bs_list _
  have hs : (bs (dots F ++ T)).size ≤ 1000 := by rw [bs_size]; exact hl
  show Ev (fun k => ddiref03_labels.l0 k (bs (dots F ++ T)) (m : Int) ((0 : Nat) : Int)) _
  by_cases h0 : m = 0
  · subst h0
    have hd : decide (((0 : Nat) : Int) > 0) = false := by decide
    have hj : Ev (fun k => ddiref03_labels.j1 k (bs (dots F ++ T)) ((0 : Nat) : Int) ((0 : Nat) : Int) false) (bs (dots (F.drop 0) ++ T)) :=
      by
      refine Ev.step (fun k => by rw [ddiref03_labels.j1]) ?_
      exact ev_if_neg (by decide) (Ev.now _)
    refine Ev.step (fun k => by rw [ddiref03_labels.l0]) ?_
    by_cases c : ((0 : Nat) : Int) < ((bs (dots F ++ T)).size : Int)
    · refine ev_if_pos c ?_
      rw [hd]
      exact hj
    · exact ev_if_neg c hj
  · exact lab_go _ hs T F m 0 (by rw [List.drop_zero, hb]) (by omega) hm h3 hf
theorem rrev_ev {v : Bool} {N : Nat} (h : N < 2 ^ L v) : Ev (fun k => ddiref02_Reverse.f k v (iH N) (iL N)) (bs (name v N), 0) := by
  have hM := pow_L v
  have hr := ref_Reverse_ev (v := v) (u64_H (N := N) (by omega)) (u64_L N)
  have hv : vld v (iH N) (iL N) = true := by
    have e1 := AdW.addr_Valid_eq v (iH N) (iL N)
    have e2 := PrxS.addr_Valid_eq v N (by omega)
    rw [e1, decide_eq_true h] at e2
    exact Option.some.inj e2
  unfold RevS at hr
  rw [if_pos hv] at hr
  unfold revT at hr
  rw [flds_eq h] at hr
  exact hr
theorem rzone_yes {v : Bool} {N n : Nat} (h : VP v N (n : Int)) (hn : n % PrxZn.step v = 0) : Ev (fun k => ddiref03_Zone.f k v (iH N) (iL N) (n : Int)) (bs (zone v N (cnt v - n / PrxZn.step v)), true) := by
  have hM := pow_L v
  have hL := L_le v
  have hs : 0 < PrxZn.step v := by cases v <;> decide
  have hnL : n ≤ L v := by have := h.2.2.1; omega
  have hcnt := step_cnt v
  have e1 := Nat.div_add_mod n (PrxZn.step v)
  rw [hn, Nat.add_zero] at e1
  have hmul : PrxZn.step v * (cnt v - n / PrxZn.step v) = L v - n := by rw [Nat.mul_sub, hcnt, e1]
  have hc32 : cnt v ≤ 32 := by cases v <;> decide
  have hle : cnt v - n / PrxZn.step v ≤ 32 := Nat.le_trans (Nat.sub_le _ _) hc32
  have hl := lab_ev (Fs v N) (tl v) (cnt v - n / PrxZn.step v) (name_len v N) (by rw [Fs_len]; exact Nat.sub_le _ _) (by omega) (Fs_free v N)
  have hb : (Int.tmod (n : Int) (PrxZn.step v : Int) != 0) = false := by
    rw [(tmod_iff n (PrxZn.step v) hs).mpr hn]
    rfl
  have hq : wrap64 (Int.tdiv (wrap64 ((L v : Int) - (n : Int))) (PrxZn.step v : Int)) = ((cnt v - n / PrxZn.step v : Nat) : Int) := by
    rw [w_len hnL, ← hmul, Int.tdiv_eq_ediv_of_nonneg (by omega), ← Int.natCast_ediv, Nat.mul_div_cancel_left _ hs, wrap64_id (by omega) (by omega)]
  have hne : ¬ ((PrxZn.step v : Nat) : Int) = 0 := by omega
  have hj1 : Ev (fun k => ddiref03_Zone.j1 k (PrxZn.step v : Int) false v (iH N) (iL N) (n : Int)) (bs (zone v N (cnt v - n / PrxZn.step v)), true) := by
    refine Ev.step (fun k => by rw [ddiref03_Zone.j1]) ?_
    refine ev_if_neg (by decide) (Ev.bind (rrev_ev h.1) (ev_bind_const (long_eq v) (ev_if_neg hne ?_)))
    rw [hq]
    exact Ev.bind hl (Ev.now _)
  have hj0 : Ev (fun k => ddiref03_Zone.j0 k (PrxZn.step v : Int) v (iH N) (iL N) (n : Int)) (bs (zone v N (cnt v - n / PrxZn.step v)), true) := by
    refine Ev.step (fun k => by rw [ddiref03_Zone.j0]) ?_
    refine Ev.bind (RValid_ev v N n (by have := h.1; omega)) (ev_if_pos (decide_eq_true h) (ev_if_neg hne ?_))
    rw [hb]
    exact hj1
  unfold ddiref03_Zone.f
  cases v
  · exact ev_if_neg (by decide) hj0
  · exact ev_if_pos rfl hj0
theorem rzone_no {v : Bool} {N : Nat} {b : Int} (g : N < M128) (h : ¬ (VP v N b ∧ b.toNat % PrxZn.step v = 0)) : Ev (fun k => ddiref03_Zone.f k v (iH N) (iL N) b) ((⟨#[]⟩ : ByteArray), false) := by
  have hs : 0 < PrxZn.step v := by cases v <;> decide
  have hj1 : Ev (fun k => ddiref03_Zone.j1 k (PrxZn.step v : Int) true v (iH N) (iL N) b) ((⟨#[]⟩ : ByteArray), false) :=
    by
      refine Ev.step (fun k => by rw [ddiref03_Zone.j1]) ?_
      exact ev_if_pos rfl (Ev.now _)
  have hj0 : Ev (fun k => ddiref03_Zone.j0 k (PrxZn.step v : Int) v (iH N) (iL N) b) ((⟨#[]⟩ : ByteArray), false) := by
    have hne : ¬ ((PrxZn.step v : Nat) : Int) = 0 := by omega
    refine Ev.step (fun k => by rw [ddiref03_Zone.j0]) ?_
    refine Ev.bind (RValid_ev v N b g) ?_
    by_cases c : VP v N b
    · refine ev_if_pos (decide_eq_true c) (ev_if_neg hne ?_)
      obtain ⟨n, rfl⟩ : ∃ n : Nat, b = (n : Int) := ⟨b.toNat, by have := c.2.1; omega⟩
      have hb : (Int.tmod (n : Int) (PrxZn.step v : Int) != 0) = true := by
        rw [bne_iff_ne]
        exact fun e => h ⟨c, by rw [Int.toNat_natCast]; exact (tmod_iff n (PrxZn.step v) hs).mp e⟩
      rw [hb]
      exact hj1
    · exact ev_if_neg (by rw [decide_eq_false c]; decide) hj1
  unfold ddiref03_Zone.f
  cases v
  · exact ev_if_neg (by decide) hj0
  · exact ev_if_pos rfl hj0
theorem zones (v : Bool) (N : Nat) (b : Int) (g : N < M128) : ∃ z, Ev (fun k => prefix_Zone.f k v (iH N) (iL N) b) z ∧ Ev (fun k => ddiref03_Zone.f k v (iH N) (iL N) b) z := by
  by_cases c : VP v N b ∧ b.toNat % PrxZn.step v = 0
  · obtain ⟨c1, c2⟩ := c
    obtain ⟨n, rfl⟩ : ∃ n : Nat, b = (n : Int) := ⟨b.toNat, by have := c1.2.1; omega⟩
    rw [Int.toNat_natCast] at c2
    exact ⟨_, zone_yes c1 c2, rzone_yes c1 c2⟩
  · exact ⟨_, zone_no g c, rzone_no g c⟩
section
variable {K0 : Nat} (haw : ∀ m, K0 ≤ m → ddilaw03_awake.f m = some true)
include haw
theorem parts_ev (v : Bool) (N : Nat) (b n : Int) (i : Nat) (g : N < M128) (hi : i < 18446744073709551616) : Ev (fun k => ddilaw03_PrefixParts.f k v (iH N) (iL N) b n (i : Int)) true := by
  have he : Ev (fun k => ddilaw03_awake.f k) true := ⟨K0, haw⟩
  have hp : Ev (fun k => prefix_Part.f k v (iH N) (iL N) b n (i : Int)) (PartS v N b n i) := ⟨2, fun m hm => by
    obtain ⟨k, rfl⟩ : ∃ k, m = k + 2 := ⟨m - 2, by omega⟩
    exact Part_eq k v N b n i g hi⟩
  have hh : Ev (fun k => prefix_Halves.f k v (iH N) (iL N) b) (HalvesS v N b) := ⟨2, fun m hm => by
    obtain ⟨k, rfl⟩ : ∃ k, m = k + 2 := ⟨m - 2, by omega⟩
    exact Halves_eq k v N b g⟩
  obtain ⟨z, z1, z2⟩ := zones v N b g
  have hj : Ev (fun k => ddilaw03_PrefixParts.j0 k n (i : Int) false v (iH N) (iL N) b) true := by
    refine Ev.step (fun k => by rw [ddilaw03_PrefixParts.j0]) ?_
    refine ev_if_neg (by decide) (Ev.bind hp (Ev.bind (RPart_ev v N b n i g hi) ?_))
    refine ev_bind_const (Size_eq v N b g) (Ev.bind (RSize_ev v N b g) ?_)
    refine Ev.bind z1 (Ev.bind z2 ?_)
    refine ev_if_pos (by simp) (ev_if_pos (beq_self_eq_true _) (ev_if_pos rfl (ev_if_pos (beq_self_eq_true _) (ev_if_pos rfl (ev_if_pos (beq_self_eq_true _) ?_)))))
    exact Ev.bind he (Ev.now _)
  unfold ddilaw03_PrefixParts.f
  refine ev_bind_const (Bounds_eq v N b g) (Ev.bind (RBounds_ev v N b g) ?_)
  refine Ev.bind hh (Ev.bind (RHalves_ev v N b g) ?_)
  refine ev_if_neg (by simp) (ev_if_neg (by simp) (ev_if_neg (by simp) (ev_if_neg (by simp) ?_)))
  have e : ∀ x : Bool, (x != x) = false := by decide
  rw [e]
  exact hj
end
end Go.Proofs.YteflcmmandlknaaGreatDoor.PrxRz
