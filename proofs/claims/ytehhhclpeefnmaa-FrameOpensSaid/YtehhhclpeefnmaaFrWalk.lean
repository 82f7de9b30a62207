/-
  THE WALKS OF FRAMES: numbers written.
-/
import Derived.Test.YtehhhclpeefnmaaFrPlain
import Derived.Test.YtehhhclpeefnmaaBuild
import Derived.Test.YtehhhclpeefnmaaOpen
import Derived.Test.YtehhhclpeefnmaaCrcWalk
import Derived.Deep.DeepCutAuto
namespace Go.Proofs.Ytehhhclpeefnmaa
open Go.RowKit

theorem zig (n : Nat) (hn : n ≤ 1099511627776) : bits .xor .u64 ((n : Int) * 2) ((n : Int) / 9223372036854775808) = ((2 * n : Nat) : Int) := by
  have h := u64_xor_nat (2 * n) 0 (by omega) (by omega)
  have e1 : (n : Int) / 9223372036854775808 = ((0 : Nat) : Int) := by omega
  have e2 : (n : Int) * 2 = ((2 * n : Nat) : Int) := by omega
  rw [e1, e2, h]
  simp
theorem or128 (z : Nat) : bits .or .u8 ((z : Int) % 256) 128 = ((UInt8.ofNat (z % 128 + 128)).toNat : Int) := by
  have e1 : (z : Int) % 256 = ((z % 256 : Nat) : Int) := by omega
  have h := u8_or_nat (z % 256) 128 (by omega) (by omega)
  rw [e1]
  refine h.trans ?_
  congr 1
  have hc : ∀ x : Fin 256, x.val ||| 128 = x.val % 128 + 128 := of_decide_eq_true (by kernel_rfl)
  have := hc ⟨z % 256, by omega⟩
  simp only at this
  rw [this]
  simp
  omega
theorem cell_u8 (c : UInt8) : Lib.byteCells [c] = [.int .u8 c.toNat] := rfl
theorem byteCells_snoc (l : List UInt8) (c : UInt8) : Lib.byteCells (l ++ [c]) = Lib.byteCells l ++ [.int .u8 c.toNat] := by simp [Lib.byteCells]
theorem byteCells_app (l m : List UInt8) : Lib.byteCells (l ++ m) = Lib.byteCells l ++ Lib.byteCells m := by simp [Lib.byteCells]

theorem new_cell (W : World) (t : TypeId) (v : Value) : (W.alloc (.cells #[v] t)).cell? ⟨W.heap.size, 0, none⟩ = some v := by
  rw [(Blk.new W t _).cell 0]
  rfl
theorem strCells_list (s : ByteArray) : Lib.strCells s = Lib.byteCells s.data.toList := rfl
theorem bStr (B b : Nat) (l : List UInt8) (s : ByteArray) (w : World) (h : IsB B b (Lib.byteCells l) w) (hlen : l.length + s.size ≤ 140737488355328) (hBw : B ≤ w.heap.size) :
    Calls Try.prog 18 #[.pointer (some ⟨b, 0, none⟩), .string s] w fun e w' => e = .returned (.tuple #[.int .i64 s.size, .nilIface]) ∧ BAt B b (Lib.byteCells (l ++ s.data.toList)) w' ∧ Below B w w' := by
  refine (bString B b _ s w h (by rw [Lib.byteCells_length]; exact hlen) hBw).mono ?_
  rintro e w' ⟨rfl, h1, h2⟩
  refine ⟨rfl, ?_, h2⟩
  rw [byteCells_app, ← strCells_list]
  exact h1
/-- the four bytes of a sum, as they lie in a list of their own -/
theorem le4_cells (x : BitVec 32) : [Value.int .u8 ((x.toNat : Int) % 256), Value.int .u8 ((x.toNat : Int) / 256 % 256), Value.int .u8 ((x.toNat : Int) / 65536 % 256), Value.int .u8 ((x.toNat : Int) / 16777216)] = Lib.byteCells (Fr.le4 x) := by
  have hx := x.isLt
  have t : ∀ m : Nat, m < 256 → ((UInt8.ofNat m).toNat : Int) = (m : Int) := fun m hm => by simp; omega
  simp only [Lib.byteCells, Fr.le4, List.map_cons, List.map_nil]
  rw [t _ (by omega), t _ (by omega), t _ (by omega), t _ (by omega)]
  have e0 : ((x.toNat % 256 : Nat) : Int) = (x.toNat : Int) % 256 := by omega
  have e1 : ((x.toNat / 256 % 256 : Nat) : Int) = (x.toNat : Int) / 256 % 256 := by omega
  have e2 : ((x.toNat / 65536 % 256 : Nat) : Int) = (x.toNat : Int) / 65536 % 256 := by omega
  have e3 : ((x.toNat / 16777216 % 256 : Nat) : Int) = (x.toNat : Int) / 16777216 := by omega
  rw [e0, e1, e2, e3]
theorem bBytes4 (B b : Nat) (l : List UInt8) (x : BitVec 32) (g : Nat) (w : World) (h : BAt B b (Lib.byteCells l) w) (hg : Blk w g 5 #[.int .u8 ((x.toNat : Int) % 256), .int .u8 ((x.toNat : Int) / 256 % 256), .int .u8 ((x.toNat : Int) / 65536 % 256), .int .u8 ((x.toNat : Int) / 16777216)]) (hlen : l.length + 4 ≤ 140737488355328) (hBw : B ≤ w.heap.size) :
    Calls Try.prog 21 #[.pointer (some ⟨b, 0, none⟩), .slice (some ⟨g, 0, none⟩) 4 4] w fun e w' => e = .returned (.tuple #[.int .i64 4, .nilIface]) ∧ BAt B b (Lib.byteCells (l ++ Fr.le4 x)) w' ∧ Below B w w' := by
  have hr : Reads w (g + 1) 1 (some ⟨g, 0, none⟩) 4 (Lib.byteCells (Fr.le4 x)) := by
    rw [← le4_cells]
    refine ⟨rfl, fun _ => ⟨_, rfl, Nat.lt_succ_self _, fun j u hu => ?_⟩⟩
    have e : (⟨g, 0, none⟩ : Addr).add j = ⟨g, j, none⟩ := by simp [Addr.add]; exact fun h => h.symm
    rw [e, hg.cell j]
    simpa using hu
  refine (bWrite B b (Lib.byteCells l) (some ⟨g, 0, none⟩) 4 4 (Lib.byteCells (Fr.le4 x)) w h _ hr (fun u hu => by
    simp only [Lib.byteCells, List.mem_map] at hu
    obtain ⟨c, _, rfl⟩ := hu
    rfl) (by rw [Lib.byteCells_length]; exact hlen) hBw).mono ?_
  rintro e w' ⟨rfl, h1, h2⟩
  refine ⟨rfl, ?_, h2⟩
  rw [byteCells_app]
  exact h1
theorem size_list (l : List UInt8) : (⟨l.toArray⟩ : ByteArray).size = l.length := by simp [ByteArray.size]

set_option maxHeartbeats 1000000 in
/-- pack.put, of a number that is none below zero -/
theorem put_any (B b : Nat) (bs : List Value) (n : Nat) (w : World) (h : IsB B b bs w) (hn : n ≤ 1099511627776) (hlen : bs.length + (Fr.enc (2 * n)).length ≤ 140737488355328) (hBw : B ≤ w.heap.size) :
    Calls Try.prog 30 #[.pointer (some ⟨b, 0, none⟩), .int .i64 n] w fun e w' => e = .returned (.tuple #[]) ∧ IsB B b (bs ++ Lib.byteCells (Fr.enc (2 * n))) w' ∧ Below B w w' := by
  have HI := Lib.hid h
  have HL := Lib.hid hlen
  clear h hlen
  go_enter Try.func30, Try.ntmps30
  have hz := zig n hn
  go_wp2_with fail
  try rw [hz]
  go_loopw [4] (fun v wr => ∃ (z : Nat) (done : List UInt8), v = .int .u64 z ∧ z ≤ 2 * n ∧ Fr.enc (2 * n) = done ++ Fr.enc z ∧ IsB B b (bs ++ Lib.byteCells done) wr ∧ Below B w wr) (fun v _ => (intOf v).toNat)
  case atStart => exact ⟨2 * n, [], rfl, Nat.le_refl _, rfl, by simpa [Lib.byteCells] using HI.out, Below.refl _ _⟩
  case round =>
    obtain ⟨z, done, rfl, hzn, henc, hB, hbw⟩ := hrel
    have hl : bs.length + (done.length + (Fr.enc z).length) ≤ 140737488355328 := by have := HL.out; rw [henc, List.length_append] at this; exact this
    have HE := Lib.hid henc
    have HB := Lib.hid hB
    have HBW := Lib.hid hbw
    have h1 := Fr.enc_pos z
    clear henc hB hbw hz
    by_cases hz : (127 : Int) < z
    · have hor := or128 z
      go_wp2_with fail
      try rw [hor]
      refine (bByte B b _ _ _ HB.out (by rw [List.length_append, Lib.byteCells_length]; omega) (Nat.le_trans hBw HBW.out.size)).mono ?_
      rintro e w1 ⟨rfl, h2, hb1⟩
      have HB2 := Lib.hid (show IsB B b _ w1 from Or.inr h2)
      have HB1 := Lib.hid hb1
      clear h2 hb1 hor
      go_wp2
      go_roundw
      case rel =>
        refine ⟨z / 128, done ++ [UInt8.ofNat (z % 128 + 128)], by go_num, by omega, ?_, ?_, HBW.out.trans HB1.out⟩
        · rw [HE.out, Fr.enc_ge (by omega)]; simp
        · rw [byteCells_snoc, ← List.append_assoc]; exact HB2.out
      case measure => simp [intOf]; omega
    · have hby : ((UInt8.ofNat z).toNat : Int) = (z : Int) := by simp; omega
      have HBY := Lib.hid hby
      clear hby
      go_wp2_with fail
      refine (bByte B b _ _ _ HB.out (by rw [List.length_append, Lib.byteCells_length]; omega) (Nat.le_trans hBw HBW.out.size)).mono ?_
      rintro e w1 ⟨rfl, h2, hb1⟩
      have HB2 := Lib.hid (show IsB B b _ w1 from Or.inr h2)
      have HB1 := Lib.hid hb1
      clear h2 hb1
      go_wp2
      go_end0
      refine ⟨rfl, ?_, HBW.out.trans HB1.out⟩
      rw [HE.out, Fr.enc_lt (by omega), byteCells_snoc, HBY.out, ← List.append_assoc]
      exact HB2.out

/-- pack.Nums, of one number -/
theorem nums_any (ad : Addr) (n : Nat) (w : World) (had : w.cell? ad = some (.int .i64 n)) (hn : n ≤ 1099511627776) :
    Calls Try.prog 19 #[.slice (some ad) 1 1] w fun e w' => e = .returned (.string ⟨(Fr.enc (2 * n)).toArray⟩) ∧ Below w.heap.size w w' := by
  have hab := block_lt had
  go_enter Try.func19, Try.ntmps19
  have hfr := Lib.fresh_isBuilder 45 5 w
  have hb0 : Below w.heap.size w (w.alloc (.cells #[.pointer none, .slice none 0 0] 45)) := (Below.refl _ _).alloc (Nat.le_refl _) _
  have HF := Lib.hid hfr
  have HB0 := Lib.hid hb0
  have HA := Lib.hid hab
  have hel := Fr.enc_pos (2 * n)
  have HN := Lib.hid had
  clear hfr hb0 had hab
  go_wp2_with fail
  go_loopw [8] (fun i wr => (i = .int .i64 0 ∧ IsB w.heap.size w.heap.size (Lib.byteCells []) wr ∨ i = .int .i64 1 ∧ IsB w.heap.size w.heap.size (Lib.byteCells (Fr.enc (2 * n))) wr) ∧ Below w.heap.size w wr) (fun i _ => 1 - (intOf i).toNat)
  case atStart => exact ⟨Or.inl ⟨rfl, HF.out⟩, HB0.out⟩
  case round =>
    obtain ⟨hrel, hbw⟩ := hrel
    have HBW := Lib.hid hbw
    clear hbw
    rcases hrel with ⟨rfl, hB⟩ | ⟨rfl, hB⟩
    · have hcl : wr.cell? ad = some (.int .i64 n) := (HBW.out.cell HA.out).trans HN.out
      have hcl0 : wr.cell? (ad.add 0) = some (.int .i64 n) := by simpa [Addr.add] using hcl
      have HB := Lib.hid hB
      clear hB
      go_wp2_with fail
      refine (put_any w.heap.size w.heap.size _ n wr HB.out hn (by have := Fr.enc_small (2 * n) (by omega); simp [Lib.byteCells]; omega) HBW.out.size).mono ?_
      rintro e w1 ⟨rfl, h2, hb1⟩
      have HB2 := Lib.hid h2
      have HB1 := Lib.hid hb1
      clear h2 hb1
      go_wp2
      go_roundw
      case rel => exact ⟨Or.inr ⟨rfl, HB2.out⟩, HBW.out.trans HB1.out⟩
      case measure => simp [intOf]
    · have HB := Lib.hid hB
      clear hB
      go_wp2_with fail
      refine (bText w.heap.size w.heap.size _ wr HB.out HBW.out.size).mono ?_
      rintro e w1 ⟨rfl, hb1⟩
      have HB1 := Lib.hid hb1
      clear hb1
      go_wp2
      go_ret
      exact ⟨rfl, HBW.out.trans HB1.out⟩

end Go.Proofs.Ytehhhclpeefnmaa
