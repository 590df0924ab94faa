/-
  A reading of an argument as data, turned into the printed kinds: for each kind of type, what can be read is such a kind's value, and its sizes are known.
  Conditions: none (general lemmas, over any program).
-/
import Derived.WalkKit
import Derived.ProofKit
import Derived.OpenShut
import Derived.ShutString
import Derived.ChangeOld
import Derived.Below
import Derived.SizedLaws
import Derived.Lib.SmallJoins
import Derived.Test.YtaehonmfoanloaaDoorCut
namespace Go.Proofs.YtaehonmfoanloaaDoor.Open
open Go.ChangeShapes Go.WideShapes Go.ChangeAt Go.RowKit Go.Proofs.YtaehonmfoanloaaDoorW.PrintWords

/-- Whatever reads as data at type t is a value of kind d of which B holds. -/
def Opens (P : Program) (t : TypeId) {α : Type} (d : Kd α) (B : α → Prop) : Prop :=
  ∀ {H : Type} {enc : TypeId × Value → H} {w : World} {base : Nat} {spare : Nat → Bool} {held : Bool} {fuel : Nat} {cs : List Value} {y : DataW H × List MemPlace},
    DataW.trod enc P w base spare held fuel t cs = some y → (∀ n ∈ y.1.weights P t, n ≤ reachBytes) → ∃ x, d.K w x cs ∧ B x

theorem opens_int {P : Program} {t : TypeId} {k : IntKind} (ht : P.underlying t = some (.int k)) : Opens P t (Kd.int k) (fun x => (Lit.int k x).wf = true) := by
  intro H enc w base spare held fuel cs y h _
  obtain ⟨n, rfl, _, hw⟩ := DataW.trod_int ht h
  exact ⟨n, rfl, hw⟩
theorem opens_bool {P : Program} {t : TypeId} (ht : P.underlying t = some .bool) : Opens P t Kd.bool (fun _ => True) := by
  intro H enc w base spare held fuel cs y h _
  obtain ⟨b, rfl, _⟩ := DataW.trod_bool ht h
  exact ⟨b, rfl, trivial⟩
theorem opens_string {P : Program} {t : TypeId} (ht : P.underlying t = some .string) : Opens P t Kd.string (fun x => x.size ≤ 140737488351232) := by
  intro H enc w base spare held fuel cs y h hs
  obtain ⟨s, rfl, rfl, _⟩ := DataW.trod_string ht h
  have := hs s.data.toList.length (by simp [DataW.weights])
  rw [data_length] at this
  exact ⟨s, rfl, this⟩

theorem weightsEach_mem {H : Type} {P : Program} : ∀ {ts : List TypeId} {ds : List (DataW H)} (i : Nat) (t : TypeId) (d : DataW H), ts[i]? = some t → ds[i]? = some d → ∀ n ∈ d.weights P t, n ∈ DataW.weightsEach P ts ds
  | t0 :: ts, d0 :: ds, 0, t, d, ht, hd, n, hn => by
    simp only [List.getElem?_cons_zero, Option.some.injEq] at ht hd
    subst ht; subst hd
    simp only [DataW.weightsEach, List.mem_append]; exact Or.inl hn
  | t0 :: ts, d0 :: ds, i + 1, t, d, ht, hd, n, hn => by
    simp only [List.getElem?_cons_succ] at ht hd
    simp only [DataW.weightsEach, List.mem_append]
    exact Or.inr (weightsEach_mem i t d ht hd n hn)
  | [], _, _, _, _, ht, _, _, _ => by simp at ht
  | _ :: _, [], _, _, _, _, hd, _, _ => by simp at hd
theorem weightsAll_mem {H : Type} {P : Program} {e : TypeId} : ∀ {ds : List (DataW H)} (d : DataW H), d ∈ ds → ∀ n ∈ d.weights P e, n ∈ DataW.weightsAll P e ds
  | d0 :: ds, d, hd, n, hn => by
    simp only [DataW.weightsAll, List.mem_append]
    rcases List.mem_cons.1 hd with rfl | hd
    · exact Or.inl hn
    · exact Or.inr (weightsAll_mem d hd n hn)

/-- Fields in line, from offset off on. -/
def OpensF (P : Program) (fs : List Field) (off : Nat) {α : Type} (d : Kd α) (B : α → Prop) : Prop :=
  ∀ {H : Type} {enc : TypeId × Value → H} {w : World} {base : Nat} {spare : Nat → Bool} {held : Bool} {fuel : Nat} {cs : List Value} {xs : List (DataW H × List MemPlace)},
    xs.length = fs.length → (∀ (i : Nat) (f : Field), fs[i]? = some f → DataW.trod enc P w base spare held fuel f.type ((cs.drop f.offset).take (P.cellsOf f.type)) = xs[i]?) →
    (∀ n ∈ DataW.weightsEach P (fs.map (·.type)) (xs.map (·.1)), n ≤ reachBytes) → ∃ x, d.K w x ((cs.drop off).take d.sz) ∧ B x
theorem opensF_one {P : Program} {f : Field} {off : Nat} {α : Type} {d : Kd α} {B : α → Prop} (h : Opens P f.type d B) (ho : f.offset = off) (hc : P.cellsOf f.type = d.sz) : OpensF P [f] off d B := by
  intro H enc w base spare held fuel cs xs hl hx hs
  match xs, hl with
  | [y], _ =>
    have h0 := hx 0 f rfl
    rw [hc, ho] at h0
    exact h h0 (fun n hn => hs n (by simp [DataW.weightsEach, hn]))
theorem opensF_cons {P : Program} {f : Field} {fs : List Field} {off : Nat} {α β : Type} {d : Kd α} {B : α → Prop} {e : Kd β} {C : β → Prop} (h : Opens P f.type d B) (ho : f.offset = off) (hc : P.cellsOf f.type = d.sz) (hr : OpensF P fs (off + d.sz) e C) :
    OpensF P (f :: fs) off (Kd.pair d e) (fun x => B x.1 ∧ C x.2) := by
  intro H enc w base spare held fuel cs xs hl hx hs
  match xs, hl with
  | y :: ys, hl =>
    have h0 := hx 0 f rfl
    rw [hc, ho] at h0
    obtain ⟨x, hx0, hb⟩ := h h0 (fun n hn => hs n (by simp [DataW.weightsEach, hn]))
    obtain ⟨z, hz0, hcz⟩ := hr (xs := ys) (cs := cs) (by simpa using hl) (fun i f' hf' => by simpa using hx (i + 1) f' (by simpa using hf')) (fun n hn => hs n (by simp only [List.map_cons, DataW.weightsEach, List.mem_append]; exact Or.inr hn))
    refine ⟨(x, z), ⟨_, _, ?_, hx0, hz0⟩, hb, hcz⟩
    show (cs.drop off).take (d.sz + e.sz) = _
    rw [List.take_add, List.drop_drop]
theorem opens_struct {P : Program} {t : TypeId} {fs : Array Field} {α : Type} {d : Kd α} {B : α → Prop} (ht : P.underlying t = some (.struct fs)) (hf : OpensF P fs.toList 0 d B) (hc : P.cellsOf t = d.sz) : Opens P t d B := by
  intro H enc w base spare held fuel cs y h hs
  obtain ⟨xs, n, _, rfl, hl, hlen, hx⟩ := DataW.trod_struct ht h
  obtain ⟨x, hk, hb⟩ := hf (cs := cs) (xs := xs) (by simpa using hlen) (fun i f hfi => hx i f (by simpa using hfi)) (fun m hm => hs m (by simpa [DataW.weights, ht] using hm))
  refine ⟨x, ?_, hb⟩
  rw [List.drop_zero, List.take_of_length_le (by rw [hl, hc]; exact Nat.le_refl _)] at hk
  exact hk
theorem opens_iso {P : Program} {t : TypeId} {α β : Type} {d : Kd α} {B : α → Prop} (h : Opens P t d B) (f : β → α) (g : α → β) (hfg : ∀ x, f (g x) = x) : Opens P t (Kd.iso d f) (fun x => B (f x)) := by
  intro H enc w base spare held fuel cs y hy hs
  obtain ⟨x, hk, hb⟩ := h hy hs
  refine ⟨g x, ?_, ?_⟩
  · show d.K w (f (g x)) cs
    rw [hfg]; exact hk
  · show B (f (g x))
    rw [hfg]; exact hb

theorem list_of_exists {α : Type} (n : Nat) (R : Nat → α → Prop) (h : ∀ i, i < n → ∃ x, R i x) : ∃ xs : List α, xs.length = n ∧ ∀ i x, xs[i]? = some x → R i x := by
  induction n with
  | zero => exact ⟨[], rfl, fun i x hx => by simp at hx⟩
  | succ n ih =>
    obtain ⟨xs, hl, hr⟩ := ih (fun i hi => h i (by omega))
    obtain ⟨z, hz⟩ := h n (by omega)
    refine ⟨xs ++ [z], by simp [hl], fun i x hx => ?_⟩
    rcases Nat.lt_or_ge i xs.length with hi | hi
    · rw [List.getElem?_append_left hi] at hx; exact hr i x hx
    · rw [List.getElem?_append_right hi] at hx
      have hi0 : i - xs.length = 0 := by
        have := (List.getElem?_eq_some_iff.1 hx).1
        simp at this; omega
      rw [hi0] at hx
      simp at hx
      subst hx
      have : i = n := by omega
      subst this; exact hz
theorem cells?_get {w : World} {base : Nat} {a : Addr} {n : Nat} {cs : List Value} (h : w.cells? base a n = some cs) : cs.length = n ∧ ∀ i u, cs[i]? = some u → w.cell? (a.add i) = some u := by
  unfold World.cells? at h
  split at h
  · have hl := mapM_some_length h
    refine ⟨by simpa using hl, fun i u hu => ?_⟩
    have hi : i < n := by
      have := (List.getElem?_eq_some_iff.1 hu).1
      simp at hl; omega
    have := mapM_some_get h i i (by simp [hi])
    rw [hu] at this
    exact this
  · cases h

/-- A slice's list. -/
def SliceB {α : Type} (bytes : Nat) (B : α → Prop) (xs : List α) : Prop := xs.length * bytes ≤ 140737488351232 ∧ ∀ x ∈ xs, B x
theorem opens_elems {P : Program} {e : TypeId} {α : Type} {d : Kd α} {B : α → Prop} (h : Opens P e d B) (hc : P.cellsOf e = d.sz) {H : Type} {enc : TypeId × Value → H} {w : World} {base : Nat} {spare : Nat → Bool} {held : Bool} {fuel : Nat} {a : Addr} {len : Nat} {elems : List (DataW H × List MemPlace)}
    (hlen : elems.length = len) (hcap : len ≤ maxLen) (hx : ∀ i, i < len → (w.cells? base (a.add (i * P.cellsOf e)) (P.cellsOf e)).bind (DataW.trod enc P w base spare held fuel e) = elems[i]?)
    (hs : ∀ x ∈ elems, ∀ n ∈ x.1.weights P e, n ≤ reachBytes) : ∃ xs : List α, d.C w (some a) len xs ∧ ∀ x ∈ xs, B x := by
  obtain ⟨xs, hl, hr⟩ := list_of_exists (α := α) len (fun i x => B x ∧ ∃ c, c.length = d.sz ∧ d.K w x c ∧ ∀ j u, c[j]? = some u → w.cell? ((a.add (i * d.sz)).add j) = some u) (fun i hi => by
    have h1 := hx i hi
    have hi' : i < elems.length := by omega
    rw [List.getElem?_eq_getElem hi', hc] at h1
    obtain ⟨c, hcs, ht⟩ := Option.bind_eq_some_iff.1 h1
    obtain ⟨x, hk, hb⟩ := h ht (hs _ (List.getElem_mem hi'))
    obtain ⟨hcl, hcc⟩ := cells?_get hcs
    exact ⟨x, hb, c, hcl, hk, hcc⟩)
  refine ⟨xs, ⟨hl, by unfold maxLen at hcap; omega, fun _ => ⟨a, rfl, fun j p hj => ?_⟩⟩, fun x hx => ?_⟩
  · obtain ⟨_, c, h0, h1, h2⟩ := hr j p hj
    refine ⟨c, h0, h1, fun i u hu => ?_⟩
    have h3 := h2 i u hu
    rwa [Addr.add_add] at h3
  · obtain ⟨i, hi⟩ := List.getElem?_of_mem hx
    exact (hr i x hi).1
theorem opens_slice {P : Program} {t e : TypeId} {α : Type} {d : Kd α} {B : α → Prop} (h : Opens P e d B) (ht : P.underlying t = some (.slice e)) (hc : P.cellsOf e = d.sz) : Opens P t (Kd.slice e d) (SliceB (P.bytesOf e) B) := by
  intro H enc w base spare held fuel cs y hy hs
  rcases DataW.trod_slice ht hy with ⟨rfl, _⟩ | ⟨a, len, cap, elems, rest, n, _, rfl, rfl, hb, hlc, hcm, hel, hx, _, _⟩
  · exact ⟨[], ⟨none, 0, rfl, Nat.le_refl _, Kd.C_nil d w⟩, by simp [SliceB]⟩
  · obtain ⟨xs, hC, hB⟩ := opens_elems h hc hel (Nat.le_trans hlc hcm) hx (fun x hxm m hm => hs m (by
      simp only [DataW.weights, ht, List.mem_cons, List.mem_append]
      exact Or.inr (Or.inl (weightsAll_mem x.1 (List.mem_map.2 ⟨x, hxm, rfl⟩) m hm))))
    have hl : xs.length = len := hC.1
    refine ⟨xs, ⟨some a, cap, by rw [hl], by rw [hl]; exact hlc, by rw [hl]; exact hC⟩, ?_, hB⟩
    have := hs ((elems.length + rest.length) * P.bytesOf e) (by simp [DataW.weights, ht])
    have h2 : xs.length * P.bytesOf e ≤ (elems.length + rest.length) * P.bytesOf e := Nat.mul_le_mul_right _ (by omega)
    unfold reachBytes at this
    omega
/-- m elements of an array in line, from element i0 on. -/
def OpensA (P : Program) (e : TypeId) (sz m i0 : Nat) {α : Type} (d : Kd α) (B : α → Prop) : Prop :=
  ∀ {H : Type} {enc : TypeId × Value → H} {w : World} {base : Nat} {spare : Nat → Bool} {held : Bool} {fuel : Nat} {cs : List Value} {xs : List (DataW H × List MemPlace)},
    xs.length = m → (∀ i, i < m → DataW.trod enc P w base spare held fuel e ((cs.drop ((i0 + i) * sz)).take sz) = xs[i]?) →
    (∀ n ∈ DataW.weightsAll P e (xs.map (·.1)), n ≤ reachBytes) → ∃ x, d.K w x ((cs.drop (i0 * sz)).take d.sz) ∧ B x
theorem opensA_one {P : Program} {e : TypeId} {i0 : Nat} {α : Type} {d : Kd α} {B : α → Prop} (h : Opens P e d B) : OpensA P e d.sz 1 i0 d B := by
  intro H enc w base spare held fuel cs xs hl hx hs
  match xs, hl with
  | [y], _ => exact h (hx 0 (by omega)) (fun n hn => hs n (by simp [DataW.weightsAll, hn]))
theorem opensA_cons {P : Program} {e : TypeId} {m i0 : Nat} {α β : Type} {d : Kd α} {B : α → Prop} {r : Kd β} {C : β → Prop} (h : Opens P e d B) (hr : OpensA P e d.sz m (i0 + 1) r C) :
    OpensA P e d.sz (m + 1) i0 (Kd.pair d r) (fun x => B x.1 ∧ C x.2) := by
  intro H enc w base spare held fuel cs xs hl hx hs
  match xs, hl with
  | y :: ys, hl =>
    obtain ⟨x, hx0, hb⟩ := h (hx 0 (by omega)) (fun n hn => hs n (by simp [DataW.weightsAll, hn]))
    obtain ⟨z, hz0, hcz⟩ := hr (xs := ys) (cs := cs) (by simpa using hl) (fun i hi => by
      have := hx (i + 1) (by omega)
      simp only [List.getElem?_cons_succ] at this
      rw [← this, show i0 + 1 + i = i0 + (i + 1) by omega]) (fun n hn => hs n (by simp only [List.map_cons, DataW.weightsAll, List.mem_append]; exact Or.inr hn))
    refine ⟨(x, z), ⟨_, _, ?_, hx0, hz0⟩, hb, hcz⟩
    show (cs.drop (i0 * d.sz)).take (d.sz + r.sz) = _
    rw [List.take_add, List.drop_drop, Nat.add_zero, Nat.add_mul, Nat.one_mul]
theorem opens_array {P : Program} {t e : TypeId} {n sz : Nat} {α : Type} {d : Kd α} {B : α → Prop} (ht : P.underlying t = some (.array n e)) (hf : OpensA P e sz n 0 d B) (he : P.cellsOf e = sz) (hc : P.cellsOf t = d.sz) : Opens P t d B := by
  intro H enc w base spare held fuel cs y h hs
  obtain ⟨xs, m, _, rfl, hl, hlen, hx⟩ := DataW.trod_array ht h
  obtain ⟨x, hk, hb⟩ := hf (cs := cs) (xs := xs) hlen (fun i hi => by rw [Nat.zero_add, ← he]; exact hx i hi) (fun k hk => hs k (by simpa [DataW.weights, ht] using hk))
  refine ⟨x, ?_, hb⟩
  rw [Nat.zero_mul, List.drop_zero, List.take_of_length_le (by rw [hl, hc]; exact Nat.le_refl _)] at hk
  exact hk
theorem okWide_array {P : Program} {w : World} {r : Reach} {base n : Nat} {t e : TypeId} {v : Value} (ht : P.underlying t = some (.array n e)) (h : Value.okWide P w r base t v) : ∃ cs, v = .agg cs := by
  unfold Value.okWide at h
  rw [ht] at h
  cases v <;> simp_all
theorem opens_arg_array {P : Program} {t e : TypeId} {n : Nat} {α : Type} {d : Kd α} {B : α → Prop} (h : Opens P t d B) {H : Type} {enc : TypeId × Value → H} {W : World} {r : Reach} {b0 base : Nat} {spare : Nat → Bool} {held : Bool} {v : Value} {dd : DataW H} {p : List MemPlace}
    (hs : P.underlying t = some (.array n e)) (hv : Value.okWide P W r b0 t v) (ht : DataW.Trod enc P W base spare held t v dd p) (hw : ∀ n ∈ dd.weights P t, n ≤ reachBytes) : ∃ x cs, v = .agg cs ∧ d.K W x cs.toList ∧ B x := by
  obtain ⟨cs, rfl⟩ := okWide_array hs hv
  obtain ⟨fuel, hf⟩ := ht
  obtain ⟨x, hk, hb⟩ := h hf hw
  exact ⟨x, cs, rfl, by simpa [Value.cells] using hk, hb⟩
/-- A struct argument's cells. -/
theorem opens_arg {P : Program} {t : TypeId} {fs : Array Field} {α : Type} {d : Kd α} {B : α → Prop} (h : Opens P t d B) {H : Type} {enc : TypeId × Value → H} {W : World} {r : Reach} {b0 base : Nat} {spare : Nat → Bool} {held : Bool} {v : Value} {dd : DataW H} {p : List MemPlace}
    (hs : P.underlying t = some (.struct fs)) (hv : Value.okWide P W r b0 t v) (ht : DataW.Trod enc P W base spare held t v dd p) (hw : ∀ n ∈ dd.weights P t, n ≤ reachBytes) : ∃ x cs, v = .agg cs ∧ d.K W x cs.toList ∧ B x := by
  obtain ⟨cs, rfl, hsz⟩ := okWide_struct hs hv
  obtain ⟨fuel, hf⟩ := ht
  obtain ⟨x, hk, hb⟩ := h hf hw
  exact ⟨x, cs, rfl, by simpa [Value.cells] using hk, hb⟩
theorem weights_arg {H : Type} {P : Program} {ts : List TypeId} {ds : List (DataW H)} (h : (DataW.weightsEach P ts ds).all (· ≤ reachBytes) = true) (j : Nat) (t : TypeId) (d : DataW H) (ht : ts[j]? = some t) (hd : ds[j]? = some d) : ∀ n ∈ d.weights P t, n ≤ reachBytes := fun n hn => by
  have := List.all_eq_true.1 h n (weightsEach_mem j t d ht hd n hn)
  simpa using this
end Go.Proofs.YtaehonmfoanloaaDoor.Open
