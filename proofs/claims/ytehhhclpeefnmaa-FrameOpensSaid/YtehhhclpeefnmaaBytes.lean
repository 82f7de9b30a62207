/-
  BYTES IN A BLOCK: what a '[]byte(s)', or a 'make([]byte, n)', of the call's own holds; a store; the text of it. No program in sight.
-/
import Derived.Test.YtehhhclpeefnmaaMem
import Derived.Lib.ConvBytes
import Derived.Laws.BytesArg
import Derived.WalkKit
namespace Go.Proofs.Ytehhhclpeefnmaa
open Go.RowKit

/-- block g holds these bytes ahead, none of them frozen -/
structure Bytes (w : World) (g : Nat) (l : List UInt8) : Prop where
  lt : g < w.heap.size
  cell : ∀ j (h : j < l.length), w.cell? ⟨g, j, none⟩ = some (.int .u8 (l[j].toNat : Int))
  free : ∀ j, j < l.length → w.frozen? ⟨g, j, none⟩ = false

theorem Bytes.drew {w : World} {g : Nat} {l : List UInt8} (h : Bytes w g l) : Bytes w.drew g l := ⟨h.lt, h.cell, h.free⟩
theorem Bytes.drewN {w : World} {g : Nat} {l : List UInt8} (h : Bytes w g l) (n : Nat) : Bytes (w.drewN n) g l := ⟨h.lt, h.cell, h.free⟩
theorem Bytes.alloc {w : World} {g : Nat} {l : List UInt8} (h : Bytes w g l) (o : Obj) : Bytes (w.alloc o) g l :=
  ⟨Nat.lt_of_lt_of_le h.lt (by simp), fun j hj => (World.cell?_alloc_lt w o ⟨g, j, none⟩ h.lt).trans (h.cell j hj), fun j hj => (World.frozen?_alloc_old w o ⟨g, j, none⟩ (Nat.ne_of_lt h.lt)).trans (h.free j hj)⟩
theorem Bytes.set {w : World} {g : Nat} {l : List UInt8} (h : Bytes w g l) (j : Nat) (hj : j < l.length) (b : UInt8) : Bytes (w.setCell ⟨g, j, none⟩ (.int .u8 (b.toNat : Int))) g (l.set j b) := by
  refine ⟨by simpa [World.setCell] using h.lt, fun i hi => ?_, fun i hi => ?_⟩
  · have hi' : i < l.length := by simpa using hi
    by_cases hij : i = j
    · subst hij
      rw [World.cell?_setCell_same w _ _ (h.cell i (by simpa using hi))]
      simp
    · rw [World.cell?_setCell_other w _ _ _ (fun e => hij (by injection e with _ e2; exact e2.symm)), h.cell i hi']
      have : ¬ j = i := fun e => hij e.symm
      simp [this]
  · simp only [List.length_set] at hi
    rw [World.frozen?_setCell]
    exact h.free i hi
theorem Bytes.reads {w : World} {g : Nat} {l : List UInt8} (h : Bytes w g l) : ∀ i, i < l.length → w.cell? ⟨g, 0 + i, none⟩ = some (.int .u8 ((l.map fun b => (b.toNat : Int)).getD i 0)) := by
  intro i hi
  rw [Nat.zero_add, h.cell i hi]
  simp [List.getD, hi]

/-- the text of bytes -/
theorem Bytes.text {P : Program} {w : World} {g : Nat} {l : List UInt8} (h : Bytes w g l) (src e dst : TypeId) (hs : P.underlying src = some (.slice e)) (he : P.underlying e = some (.int .u8)) (hd : P.underlying dst = some .string) (cap : Nat) :
    (convert src dst (.slice (some ⟨g, 0, none⟩) l.length cap)).run P w = .ok (.string ⟨l.toArray⟩) w := by
  rw [run_convert_bytes_arg w src e hs he g 0 l.length cap (l.map fun b => (b.toNat : Int)) (by simp) h.reads dst hd]
  congr 3
  show (⟨_⟩ : ByteArray) = _
  congr 1
  simp only [List.map_map, Array.mk.injEq]
  refine (List.map_congr_left (g := id) fun b _ => ?_).trans (List.map_id _)
  simp

theorem bytes_conv (w : World) (e : TypeId) (s : ByteArray) : Bytes (Lib.bytesWorld w e s) w.heap.size s.data.toList := by
  refine ⟨by rw [Lib.bytesWorld_size]; omega, fun j hj => ?_, fun j hj => ?_⟩
  · rw [Lib.bytesWorld_cell w e s j (by simpa using hj)]
    simp [List.getD] at hj ⊢
    simp [hj]
  · have h := Lib.bytesWorld_at_new w e s
    have hsz : s.data.toList.length ≤ (Lib.bytesCells w e s).size := by simp [Lib.bytesCells]
    simp [World.frozen?, h]
    omega
theorem below_conv (w : World) (e : TypeId) (s : ByteArray) : Below w.heap.size w (Lib.bytesWorld w e s) := by
  refine ⟨rfl, rfl, rfl, by rw [Lib.bytesWorld_size]; omega, fun k hk => Lib.bytesWorld_at_old w e s k hk⟩

end Go.Proofs.Ytehhhclpeefnmaa
