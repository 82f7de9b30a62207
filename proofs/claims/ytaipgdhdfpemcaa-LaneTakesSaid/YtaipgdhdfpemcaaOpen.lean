/-
  ARGUMENTS OPENED TO 'Reads': a slice of texts, a slice of integers, as a list. No program in sight but the variable P.
-/
import Derived.Test.YtaipgdhdfpemcaaMem
import Derived.ProofKit
import Derived.SliceStrings
import Derived.ChangeOld
namespace Go.Proofs.Ytaipgdhdfpemcaa
open Go.ChangeShapes Go.WideShapes Go.ChangeAt Go.RowKit

section
variable {H : Type} {enc : TypeId × Value → H} {P : Program} {w : World}

theorem block_lt {a : Addr} {v : Value} (h : w.cell? a = some v) : a.block < w.heap.size := by
  rcases Nat.lt_or_ge a.block w.heap.size with hlt | hge
  · exact hlt
  · unfold World.cell? at h
    rw [Array.getElem?_eq_none hge] at h
    cases h

theorem open_reads_strings {t e : TypeId} (ht : P.underlying t = some (.slice e)) (he : P.underlying e = some .string) (hc : P.cellsOf e = 1) {A : Option Addr} {len cap : Nat} {d : DataW H} {p : List MemPlace}
    (h : DataW.Trod enc P w 0 (fun _ => true) true t (.slice A len cap) d p) :
    ∃ ss : List ByteArray, Reads w w.heap.size 1 A len (strV ss) ∧ len ≤ maxLen ∧ (∀ x ∈ ss, x.size ≤ maxLen) := by
  obtain ⟨fuel, hf⟩ := h
  rcases open_strings ht he hc hf with ⟨hcs, _⟩ | ⟨a, len', cap', ss, hcs, _, hl, hm, hz, _, hcell, hws⟩
  · simp [Value.cells] at hcs
    obtain ⟨rfl, rfl, rfl⟩ := hcs
    exact ⟨[], Reads.none_, by unfold maxLen; omega, by simp⟩
  · simp [Value.cells] at hcs
    obtain ⟨rfl, rfl, rfl⟩ := hcs
    simp only [if_true] at hz
    refine ⟨ss.take len, ⟨by simp [strV]; omega, fun hn => ⟨a, rfl, ?_, fun j u hu => ?_⟩⟩, by omega, fun x hx => hws x (List.mem_of_mem_take hx)⟩
    · have := hcell 0 (by omega)
      have h2 := block_lt this
      rwa [block_of_add] at h2
    · simp only [strV, List.getElem?_map, Option.map_eq_some_iff] at hu
      obtain ⟨s, hs, rfl⟩ := hu
      have hj : j < ss.length := by
        have := (List.getElem?_eq_some_iff.1 hs).1
        simp at this
        omega
      rw [hcell j hj]
      rw [List.getElem?_take] at hs
      split at hs
      · simp [List.getD, hs]
      · cases hs

/-- integers as values -/
def intV (k : IntKind) (zs : List Int) : List Value := zs.map (Value.int k)
theorem intV_at (k : IntKind) (zs : List Int) (j : Nat) (h : j < zs.length) : (intV k zs)[j]? = some (.int k zs[j]) := by
  simp [intV, h]

theorem open_reads_ints {t e : TypeId} {k : IntKind} (ht : P.underlying t = some (.slice e)) (he : P.underlying e = some (.int k)) (hc : P.cellsOf e = 1) {A : Option Addr} {len cap : Nat} {d : DataW H} {p : List MemPlace}
    (h : DataW.Trod enc P w 0 (fun _ => true) true t (.slice A len cap) d p) :
    ∃ zs : List Int, Reads w w.heap.size 1 A len (intV k zs) ∧ len ≤ maxLen ∧ (∀ x ∈ zs, (Lit.int k x).wf = true) := by
  obtain ⟨fuel, hf⟩ := h
  rcases open_ints ht he hc hf with ⟨hcs, _⟩ | ⟨a, len', cap', zs, hcs, _, hl, hm, hz, _, hcell, hwz⟩
  · simp [Value.cells] at hcs
    obtain ⟨rfl, rfl, rfl⟩ := hcs
    exact ⟨[], Reads.none_, by unfold maxLen; omega, by simp⟩
  · simp [Value.cells] at hcs
    obtain ⟨rfl, rfl, rfl⟩ := hcs
    simp only [if_true] at hz
    refine ⟨zs.take len, ⟨by simp [intV]; omega, fun hn => ⟨a, rfl, ?_, fun j u hu => ?_⟩⟩, by omega, fun x hx => hwz x (List.mem_of_mem_take hx)⟩
    · have := hcell 0 (by omega)
      have h2 := block_lt this
      rwa [block_of_add] at h2
    · simp only [intV, List.getElem?_map, Option.map_eq_some_iff] at hu
      obtain ⟨s, hs, rfl⟩ := hu
      have hj : j < zs.length := by
        have := (List.getElem?_eq_some_iff.1 hs).1
        simp at this
        omega
      rw [hcell j hj]
      rw [List.getElem?_take] at hs
      split at hs
      · simp [List.getD, hs]
      · cases hs

theorem trod_places {t : TypeId} {v : Value} {d : DataW H} {p : List MemPlace} (h : DataW.Trod enc P w 0 (fun _ => true) true t v d p) : ∀ x ∈ p, x.block < w.heap.size := by
  obtain ⟨m, hm⟩ := h
  exact DataW.trod_lt m _ _ _ hm

/-- a number of 32 bits -/
theorem u32_of_wf {a : Int} (h : (Lit.int .u32 a).wf = true) : ∃ s : BitVec 32, a = (s.toNat : Int) := by
  have hx : 0 ≤ a ∧ a ≤ 4294967295 := by simpa [Lit.wf, IntKind.min, IntKind.max, IntKind.signed, IntKind.bits] using h
  refine ⟨BitVec.ofNat 32 a.toNat, ?_⟩
  rw [BitVec.toNat_ofNat, Nat.mod_eq_of_lt (by omega)]
  omega
/-- an int's bounds -/
theorem i64_of_wf {a : Int} (h : (Lit.int .i64 a).wf = true) : -9223372036854775808 ≤ a ∧ a ≤ 9223372036854775807 := by
  simpa [Lit.wf, IntKind.min, IntKind.max, IntKind.signed, IntKind.bits] using h
end

end Go.Proofs.Ytaipgdhdfpemcaa
