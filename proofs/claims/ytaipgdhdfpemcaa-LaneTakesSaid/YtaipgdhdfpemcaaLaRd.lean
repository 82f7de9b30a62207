/-
  ARGUMENTS OPENED, AS DEEP AS THEY GO: 'Rd': these cells read as a value of this type, and no string or slice in it is beyond the reach. No program in sight but the variable P.
-/
import Derived.Test.YtaipgdhdfpemcaaOpen
import Derived.Deep.Slices
import Derived.Deep.Fields
import Derived.ChangeSame
import Derived.SizedLaws
namespace Go.Proofs.Ytaipgdhdfpemcaa
open Go.ChangeShapes Go.WideShapes Go.ChangeAt Go.RowKit Go.Deep

def Small {H : Type} (P : Program) (t : TypeId) (d : DataW H) : Prop := ∀ n ∈ d.weights P t, n ≤ 140737488351232
/-- these cells read as a value of this type -/
def Rd (H : Type) (enc : TypeId × Value → H) (P : Program) (w : World) (t : TypeId) (cs : List Value) : Prop :=
  ∃ fuel d pl, DataW.trod enc P w 0 (fun _ => true) true fuel t cs = some (d, pl) ∧ Small P t d

theorem flat_one {α : Type} (f : α → Value) (l : List α) : (l.map fun s => [f s]).flatten = l.map f := by
  induction l with
  | nil => rfl
  | cons a l ih => simp [ih]

section
variable {H : Type} {enc : TypeId × Value → H} {P : Program} {w : World} {t : TypeId} {cs : List Value}

theorem Rd.int {k : IntKind} (ht : P.underlying t = some (.int k)) (h : Rd H enc P w t cs) : ∃ n, cs = [.int k n] ∧ (Lit.int k n).wf = true := by
  obtain ⟨f, d, pl, h, _⟩ := h
  obtain ⟨n, h1, _, h2⟩ := DataW.trod_int ht h
  exact ⟨n, h1, h2⟩
theorem Rd.i64 (ht : P.underlying t = some (.int .i64)) (h : Rd H enc P w t cs) : ∃ n : Int, cs = [.int .i64 n] ∧ -9223372036854775808 ≤ n ∧ n ≤ 9223372036854775807 := by
  obtain ⟨n, h1, h2⟩ := h.int ht
  exact ⟨n, h1, i64_of_wf h2⟩
theorem Rd.bool (ht : P.underlying t = some .bool) (h : Rd H enc P w t cs) : ∃ b, cs = [.bool b] := by
  obtain ⟨f, d, pl, h, _⟩ := h
  obtain ⟨n, h1, _⟩ := DataW.trod_bool ht h
  exact ⟨n, h1⟩
theorem Rd.string (ht : P.underlying t = some .string) (h : Rd H enc P w t cs) : ∃ s : ByteArray, cs = [.string s] ∧ s.size ≤ 140737488351232 := by
  obtain ⟨f, d, pl, h, hz⟩ := h
  obtain ⟨s, h1, h2, _⟩ := DataW.trod_string ht h
  injection h2 with h2 _
  subst h2
  refine ⟨s, h1, ?_⟩
  have := hz s.data.toList.length (by simp [DataW.weights])
  simpa using this

theorem weights_all_mem {H : Type} {P : Program} {e : TypeId} {l : List (DataW H)} {d : DataW H} (hd : d ∈ l) : ∀ n ∈ d.weights P e, n ∈ DataW.weightsAll P e l := by
  induction l with
  | nil => cases hd
  | cons x l ih =>
    intro n hn
    simp only [DataW.weightsAll, List.mem_append]
    rcases List.mem_cons.1 hd with rfl | hd
    · exact .inl hn
    · exact .inr (ih hd n hn)

theorem Rd.struct_ {fs : Array Field} (ht : P.underlying t = some (.struct fs)) (h : Rd H enc P w t cs) :
    cs.length = P.cellsOf t ∧ ∀ (i : Nat) (f : Field), fs[i]? = some f → Rd H enc P w f.type ((cs.drop f.offset).take (P.cellsOf f.type)) := by
  obtain ⟨fu, d, pl, h, hz⟩ := h
  obtain ⟨xs, n, _, hx, hl, hlen, hf⟩ := DataW.trod_struct ht h
  injection hx with hd hp
  refine ⟨hl, fun i f hi => ?_⟩
  have h1 := hf i f hi
  have hil : i < xs.length := by rw [hlen]; exact (Array.getElem?_eq_some_iff.1 hi).1
  rw [List.getElem?_eq_getElem hil] at h1
  refine ⟨n, xs[i].1, xs[i].2, h1, fun m hm => hz m ?_⟩
  rw [hd]
  simp only [DataW.weights, ht]
  exact DataW.weights_mem_each (j := i) (t := f.type) (d := xs[i].1) (by simp [hi]) (by simp [hil]) m hm

theorem Rd.slice {e : TypeId} (ht : P.underlying t = some (.slice e)) (h : Rd H enc P w t cs) :
    ∃ A len cap, cs = [.slice A len cap] ∧ len ≤ cap ∧ cap ≤ maxLen ∧ cap * P.bytesOf e ≤ 140737488351232 ∧ (A = none → cap = 0) ∧
      ∀ i, i < cap → ∃ ad cs', A = some ad ∧ w.cells? 0 (ad.add (i * P.cellsOf e)) (P.cellsOf e) = some cs' ∧ Rd H enc P w e cs' := by
  obtain ⟨fu, d, pl, h, hz⟩ := h
  rcases open_slice ht h with ⟨h0, _⟩ | ⟨a, len, cap, m, n, D, Pl, hcs, hb, hl, hm, hmm, hx, hi⟩
  · exact ⟨none, 0, 0, h0, Nat.le_refl _, Nat.zero_le _, by omega, fun _ => rfl, fun i hi => absurd hi (by omega)⟩
  · simp only [if_true] at hmm
    subst hmm
    injection hx with hd hp
    subst hd
    have hw : ∀ x ∈ DataW.weights P t (.slice ((List.range len).map D) ((List.range (m - len)).map fun j => D (len + j)) : DataW H), x ≤ 140737488351232 := hz
    simp only [DataW.weights, ht] at hw
    refine ⟨some a, len, m, hcs, hl, hm, ?_, (fun h => by cases h), fun i him => ?_⟩
    · have := hw _ (List.mem_cons_self ..)
      simp only [List.length_map, List.length_range] at this
      rwa [Nat.add_sub_cancel' hl] at this
    · obtain ⟨cs', h1, h2⟩ := hi i him
      refine ⟨a, cs', rfl, h1, n, D i, Pl i, h2, fun x hx => hw x ?_⟩
      refine List.mem_cons_of_mem _ (List.mem_append.2 ?_)
      by_cases hil : i < len
      · exact .inl (weights_all_mem (List.mem_map.2 ⟨i, List.mem_range.2 hil, rfl⟩) x hx)
      · exact .inr (weights_all_mem (List.mem_map.2 ⟨i - len, List.mem_range.2 (by omega), by rw [Nat.add_sub_cancel' (by omega)]⟩) x hx)

/-- an argument, opened -/
theorem rd_of_trod {v : Value} {d : DataW H} {p : List MemPlace} {ts : List TypeId} {ds : List (DataW H)} {j : Nat} (h : DataW.Trod enc P w 0 (fun _ => true) true t v d p)
    (hz : (DataW.weightsEach P ts ds).all (· ≤ reachBytes) = true) (ht : ts[j]? = some t) (hd : ds[j]? = some d) : Rd H enc P w t v.cells.toList := by
  obtain ⟨fuel, hf⟩ := h
  refine ⟨fuel, d, p, hf, fun n hn => ?_⟩
  have := List.all_eq_true.1 hz n (DataW.weights_mem_each ht hd n hn)
  exact of_decide_eq_true this

/-- the cells that were read lie there -/
theorem cells_at {a : Addr} {n : Nat} {cs : List Value} (h : w.cells? 0 a n = some cs) : cs.length = n ∧ ∀ j, j < n → w.cell? (a.add j) = cs[j]? := by
  obtain ⟨_, h1, h2⟩ := World.cells?_some h
  exact ⟨h1, h2⟩
/-- rows of cells, one an element, make a slice that reads -/
theorem reads_of {size len : Nat} {A : Option Addr} (xs : List (List Value)) (hl : xs.length = len) (hs : 0 < size) (h : ∀ i, i < len → ∃ ad cs', A = some ad ∧ w.cells? 0 (ad.add (i * size)) size = some cs' ∧ xs[i]? = some cs') : Reads w w.heap.size size A len xs.flatten := by
  have hx : ∀ x ∈ xs, x.length = size := by
    intro x hx
    obtain ⟨i, hi, rfl⟩ := List.mem_iff_getElem.1 hx
    obtain ⟨ad, cs', _, h1, h2⟩ := h i (by omega)
    rw [List.getElem?_eq_getElem hi] at h2
    injection h2 with h2
    rw [h2]
    exact (cells_at h1).1
  have hfl : ∀ (l : List (List Value)), (∀ x ∈ l, x.length = size) → l.flatten.length = l.length * size := by
    intro l hl
    induction l with
    | nil => simp
    | cons a l ih => simp only [List.flatten_cons, List.length_append, List.length_cons, ih fun x hx => hl x (List.mem_cons_of_mem _ hx), hl a (List.mem_cons_self ..)]; rw [Nat.succ_mul]; omega
  refine ⟨by rw [hfl xs hx, hl], fun hn => ?_⟩
  obtain ⟨ad, c0, rfl, hc0, _⟩ := h 0 hn
  refine ⟨ad, rfl, ?_, fun j u hu => ?_⟩
  · obtain ⟨h1, h2⟩ := cells_at hc0
    have h3 := h2 0 hs
    rw [List.getElem?_eq_getElem (by omega)] at h3
    have := block_lt h3
    rwa [block_of_add, block_of_add] at this
  · have hj : j < len * size := by
      have := (List.getElem?_eq_some_iff.1 hu).1
      rw [hfl xs hx, hl] at this
      exact this
    have hdiv : j / size < len := by rw [Nat.div_lt_iff_lt_mul hs]; exact hj
    obtain ⟨ad', cs', e, h1, h2⟩ := h (j / size) hdiv
    injection e with e
    subst e
    obtain ⟨h3, h4⟩ := cells_at h1
    have hmod := Nat.mod_lt j hs
    have h5 := h4 (j % size) hmod
    rw [add_of_add, Nat.mul_comm, Nat.div_add_mod] at h5
    rw [h5]
    -- the element of the flattened list
    have hg : ∀ (l : List (List Value)) (q r : Nat) (c : List Value), (∀ x ∈ l, x.length = size) → l[q]? = some c → r < size → l.flatten[size * q + r]? = c[r]? := by
      intro l
      induction l with
      | nil => intro q r c _ hq; simp at hq
      | cons a l ih =>
        intro q r c hl hq hr
        have ha := hl a (List.mem_cons_self ..)
        rcases q with _ | q
        · simp only [List.getElem?_cons_zero, Option.some.injEq] at hq
          subst hq
          rw [List.flatten_cons, Nat.mul_zero, Nat.zero_add, List.getElem?_append_left (by omega)]
        · rw [List.flatten_cons, List.getElem?_append_right (by rw [Nat.mul_succ]; omega), ha, show size * (q + 1) + r - size = size * q + r by rw [Nat.mul_succ]; omega]
          exact ih q r c (fun x hx => hl x (List.mem_cons_of_mem _ hx)) (by simpa using hq) hr
    have := hg xs (j / size) (j % size) cs' hx h2 hmod
    rw [Nat.div_add_mod, hu] at this
    exact this.symm

theorem Rd.strings {e : TypeId} (ht : P.underlying t = some (.slice e)) (he : P.underlying e = some .string) (hc : P.cellsOf e = 1) (hb : P.bytesOf e = 16) (h : Rd H enc P w t cs) :
    ∃ A n c ss, cs = [.slice A n c] ∧ Reads w w.heap.size 1 A n (strV ss) ∧ ss.length = n ∧ n ≤ c ∧ c * 16 ≤ 140737488351232 ∧ (A = none → c = 0) := by
  obtain ⟨A, len, cap, rfl, hl, hm, hz, hA, hi⟩ := h.slice ht
  rw [hc] at hi
  rw [hb] at hz
  have hex : ∀ i, i < len → ∃ s : ByteArray, ∃ ad, A = some ad ∧ w.cells? 0 (ad.add (i * 1)) 1 = some [.string s] := fun i hil => by
    obtain ⟨ad, cs', hA, h1, h2⟩ := hi i (by omega)
    obtain ⟨s, rfl, _⟩ := h2.string he
    exact ⟨s, ad, hA, h1⟩
  have hch : ∃ ss : List ByteArray, ss.length = len ∧ ∀ i, i < len → ∃ s, ss[i]? = some s ∧ ∃ ad, A = some ad ∧ w.cells? 0 (ad.add (i * 1)) 1 = some [.string s] := by
    refine ⟨(List.range len).map fun i => if h : i < len then (hex i h).choose else default, by simp, fun i hil => ⟨(hex i hil).choose, by simp [hil], (hex i hil).choose_spec⟩⟩
  obtain ⟨ss, h1, h2⟩ := hch
  refine ⟨A, len, cap, ss, rfl, ?_, h1, hl, hz, hA⟩
  have := reads_of (w := w) (size := 1) (len := len) (A := A) (ss.map fun s => [.string s]) (by simp [h1]) (by omega) fun i hil => by
    obtain ⟨s, h3, ad, h4, h5⟩ := h2 i hil
    exact ⟨ad, _, h4, h5, by simp [h3]⟩
  rwa [flat_one] at this

theorem Rd.ints {e : TypeId} (ht : P.underlying t = some (.slice e)) (he : P.underlying e = some (.int .i64)) (hc : P.cellsOf e = 1) (hb : P.bytesOf e = 8) (h : Rd H enc P w t cs) :
    ∃ A n c zs, cs = [.slice A n c] ∧ Reads w w.heap.size 1 A n (intV .i64 zs) ∧ zs.length = n ∧ n ≤ c ∧ c * 8 ≤ 140737488351232 ∧ (A = none → c = 0) ∧ ∀ z ∈ zs, -9223372036854775808 ≤ z ∧ z ≤ 9223372036854775807 := by
  obtain ⟨A, len, cap, rfl, hl, hm, hz, hA, hi⟩ := h.slice ht
  rw [hc] at hi
  rw [hb] at hz
  have hex : ∀ i, i < len → ∃ s : Int, (-9223372036854775808 ≤ s ∧ s ≤ 9223372036854775807) ∧ ∃ ad, A = some ad ∧ w.cells? 0 (ad.add (i * 1)) 1 = some [.int .i64 s] := fun i hil => by
    obtain ⟨ad, cs', hA, h1, h2⟩ := hi i (by omega)
    obtain ⟨s, rfl, hs⟩ := h2.i64 he
    exact ⟨s, hs, ad, hA, h1⟩
  have hch : ∃ ss : List Int, ss.length = len ∧ ∀ i, i < len → ∃ s, ss[i]? = some s ∧ (-9223372036854775808 ≤ s ∧ s ≤ 9223372036854775807) ∧ ∃ ad, A = some ad ∧ w.cells? 0 (ad.add (i * 1)) 1 = some [.int .i64 s] := by
    refine ⟨(List.range len).map fun i => if h : i < len then (hex i h).choose else default, by simp, fun i hil => ⟨(hex i hil).choose, by simp [hil], (hex i hil).choose_spec⟩⟩
  obtain ⟨ss, h1, h2⟩ := hch
  refine ⟨A, len, cap, ss, rfl, ?_, h1, hl, hz, hA, fun z hz => ?_⟩
  · have := reads_of (w := w) (size := 1) (len := len) (A := A) (ss.map fun s => [.int .i64 s]) (by simp [h1]) (by omega) fun i hil => by
      obtain ⟨s, h3, _, ad, h4, h5⟩ := h2 i hil
      exact ⟨ad, _, h4, h5, by simp [h3]⟩
    rwa [flat_one] at this
  · obtain ⟨i, hil, rfl⟩ := List.mem_iff_getElem.1 hz
    obtain ⟨s, h3, h4, _⟩ := h2 i (by omega)
    rw [List.getElem?_eq_getElem hil] at h3
    injection h3 with h3
    rw [h3]
    exact h4

/-- a slice whose elements are known one by one, as a list of them -/
theorem Rd.list {e : TypeId} {size bytes : Nat} (ht : P.underlying t = some (.slice e)) (hc : P.cellsOf e = size) (hb : P.bytesOf e = bytes) (hs : 0 < size) {α : Type} [Inhabited α] (cell : α → List Value) (R : α → Prop)
    (he : ∀ cs', cs'.length = size → Rd H enc P w e cs' → ∃ x, cs' = cell x ∧ R x) (h : Rd H enc P w t cs) :
    ∃ (A : Option Addr) (n c : Nat) (xs : List α), cs = [.slice A n c] ∧ Reads w w.heap.size size A n (xs.flatMap cell) ∧ xs.length = n ∧ n ≤ c ∧ c * bytes ≤ 140737488351232 ∧ (A = none → c = 0) ∧ ∀ x ∈ xs, R x := by
  obtain ⟨A, len, cap, rfl, hl, hm, hz, hA, hi⟩ := h.slice ht
  rw [hc] at hi
  rw [hb] at hz
  have hex : ∀ i, i < len → ∃ x : α, R x ∧ ∃ ad, A = some ad ∧ w.cells? 0 (ad.add (i * size)) size = some (cell x) := fun i hil => by
    obtain ⟨ad, cs', hA, h1, h2⟩ := hi i (by omega)
    obtain ⟨x, rfl, hx⟩ := he cs' (cells_at h1).1 h2
    exact ⟨x, hx, ad, hA, h1⟩
  have hch : ∃ xs : List α, xs.length = len ∧ ∀ i, i < len → ∃ x, xs[i]? = some x ∧ R x ∧ ∃ ad, A = some ad ∧ w.cells? 0 (ad.add (i * size)) size = some (cell x) := by
    refine ⟨(List.range len).map fun i => if h : i < len then (hex i h).choose else default, by simp, fun i hil => ⟨(hex i hil).choose, by simp [hil], (hex i hil).choose_spec⟩⟩
  obtain ⟨xs, h1, h2⟩ := hch
  refine ⟨A, len, cap, xs, rfl, ?_, h1, hl, hz, hA, fun z hz => ?_⟩
  · have := reads_of (w := w) (size := size) (len := len) (A := A) (xs.map cell) (by simp [h1]) hs fun i hil => by
      obtain ⟨s, h3, _, ad, h4, h5⟩ := h2 i hil
      exact ⟨ad, _, h4, h5, by simp [h3]⟩
    rwa [← List.flatMap_def] at this
  · obtain ⟨i, hil, rfl⟩ := List.mem_iff_getElem.1 hz
    obtain ⟨s, h3, h4, _⟩ := h2 i (by omega)
    rw [List.getElem?_eq_getElem hil] at h3
    injection h3 with h3
    rw [h3]
    exact h4
end
end Go.Proofs.Ytaipgdhdfpemcaa
