/-
  THE WALKS OF FRAMES: payloads put into frames.
-/
import Derived.Test.YtehhhclpeefnmaaFrWalk
import Derived.Test.YtehhhclpeefnmaaDraw
namespace Go.Proofs.Ytehhhclpeefnmaa
open Go.RowKit

def bytes (ss : List ByteArray) : List (List UInt8) := ss.map (·.data.toList)
def sealable (ss : List ByteArray) : Prop := ∀ s ∈ ss, s.size ≤ 1048576

theorem all_take_le (l : List (List UInt8)) (k : Nat) : (Fr.all (l.take k)).length ≤ (Fr.all l).length := by
  have h := congrArg Fr.all (List.take_append_drop k l)
  rw [Fr.all_append] at h
  have := congrArg List.length h
  rw [List.length_append] at this
  omega
theorem all_snoc (ss : List ByteArray) (k : Nat) (h : k < ss.length) : Fr.all (bytes (ss.take (k + 1))) = Fr.all (bytes (ss.take k)) ++ Fr.one ss[k].data.toList := by
  rw [List.take_succ_eq_append_getElem h]
  unfold bytes
  rw [List.map_append, Fr.all_append]
  simp [Fr.all]
theorem bytes_take (ss : List ByteArray) (k : Nat) : bytes (ss.take k) = (bytes ss).take k := by simp [bytes, List.map_take]

/-- the sum of one text that lies in a block -/
theorem sum_one (x : ByteArray) (a : Addr) (w : World) (c : Nat) (hx : x.size ≤ maxLen) (ha : w.cell? a = some (.string x)) :
    Calls Try.prog 20 #[.slice (some a) 1 c] w fun e w' => e = .returned (.int .u32 (Fr.sum x.data.toList).toNat) ∧ w = w' := by
  have h := crcSum_any (a.block + 1) (some a) 1 c [x] w ⟨rfl, fun _ => ⟨a, rfl, by omega, fun j u hu => by
    rcases j with _ | j
    · simp [strV] at hu
      subst hu
      simpa [Addr.add] using ha
    · simp [strV] at hu⟩⟩ (by unfold maxLen; omega) (by simpa using hx)
  simpa [cat, Fr.sum] using h

set_option maxHeartbeats 2000000 in
/-- frame.Seal -/
theorem seal_any (A : Option Addr) (n c : Nat) (ss : List ByteArray) (w : World) (h : Reads w w.heap.size 1 A n (strV ss)) (hn : n ≤ maxLen) (hm : ∀ s ∈ ss, s.size ≤ maxLen) (hb : (Fr.all (bytes ss)).length ≤ 70368744177664) :
    Calls Try.prog 11 #[.slice A n c] w fun e w' => Below w.heap.size w w' ∧
      ((sealable ss ∧ e = .returned (.tuple #[.string ⟨(Fr.all (bytes ss)).toArray⟩, .int .i64 0])) ∨ (¬ sealable ss ∧ e = .returned (.tuple #[.string ⟨#[]⟩, .int .i64 4]))) := by
  have hlen : ss.length = n := by have := h.1; simp [strV] at this; omega
  have HR := Lib.hid h
  have HM := Lib.hid hm
  have HLB := Lib.hid hb
  have HL := Lib.hid hlen
  have hfr := Lib.fresh_isBuilder 45 5 w
  have hb0 : Below w.heap.size w (w.alloc (.cells #[.pointer none, .slice none 0 0] 45)) := (Below.refl _ _).alloc (Nat.le_refl _) _
  have HF := Lib.hid hfr
  have HB0 := Lib.hid hb0
  clear h hm hb hlen hfr hb0
  unfold maxLen at hn
  go_enter Try.func11, Try.ntmps11
  go_wp2_with fail
  go_loopw [10] (fun i wr => ∃ k : Nat, k ≤ n ∧ i = .int .i64 k ∧ sealable (ss.take k) ∧ IsB w.heap.size w.heap.size (Lib.byteCells (Fr.all (bytes (ss.take k)))) wr ∧ Below w.heap.size w wr) (fun i _ => n - (intOf i).toNat)
  case atStart => exact ⟨0, by omega, rfl, fun s hs => by simp at hs, HF.out, HB0.out⟩
  case round =>
    obtain ⟨k, hk, rfl, hsl, hB, hbw⟩ := hrel
    have HS := Lib.hid hsl
    have HB := Lib.hid hB
    have HBW := Lib.hid hbw
    clear hsl hB hbw
    by_cases hkn : k < n
    · obtain ⟨ad, u, rfl, hadb, hu, hcl⟩ := HR.out.at_ hkn
      have hks : k < ss.length := by rw [HL.out]; exact hkn
      rw [strV_at ss k hks] at hu
      injection hu with hu
      subst hu
      obtain ⟨s, hs⟩ : ∃ s, s = ss[k] := ⟨_, rfl⟩
      rw [← hs] at hcl
      have HSK := Lib.hid hs
      have hsm : s.size ≤ maxLen := by rw [hs]; exact HM.out _ (List.getElem_mem hks)
      have HSM := Lib.hid hsm
      have hcl2 : wr.cell? (ad.add k) = some (.string s) := (HBW.out.cell (by rw [block_of_add]; exact hadb)).trans hcl
      unfold maxLen at hsm
      clear hs hcl
      by_cases hbig : (1048576 : Int) < s.size
      · go_wp2
        go_ret2
        refine ⟨HBW.out, Or.inr ⟨fun hall => ?_, rfl⟩⟩
        have := hall ss[k] (List.getElem_mem hks)
        rw [← HSK.out] at this
        omega
      · have hsl : (Fr.all (bytes (ss.take k))).length + (Fr.one s.data.toList).length ≤ 70368744177664 := by
          have h1 := all_snoc ss k hks
          have h2 := all_take_le (bytes ss) (k + 1)
          rw [← bytes_take, h1, List.length_append, ← HSK.out] at h2
          exact Nat.le_trans h2 HLB.out
        have hol := Fr.one_len s.data.toList
        have hds : s.data.toList.length = s.size := by simp
        rw [hds] at hol
        have HOL := Lib.hid hol
        have HSL := Lib.hid hsl
        clear hol hsl
        have ha1 : Below wr.heap.size wr (wr.alloc (.cells #[.int .i64 s.size] 3)) := (Below.refl _ _).alloc (Nat.le_refl _) _
        have HA1 := Lib.hid ha1
        clear ha1
        go_wp2_with fail
        refine (nums_any ⟨wr.heap.size, 0, none⟩ s.size _ (new_cell wr _ _) (by omega)).mono ?_
        rintro e w1 ⟨rfl, hb1⟩
        have hB1 := (HB.out.below HA1.out).below hb1
        have hbw1 : Below w.heap.size w w1 := (HBW.out.trans (HA1.out.mono HBW.out.size)).trans (hb1.mono (Nat.le_trans HBW.out.size HA1.out.size))
        have HB1 := Lib.hid hB1
        have HBW1 := Lib.hid hbw1
        clear hB1 hbw1 hb1
        go_wp2_with fail
        refine (bStr _ _ _ _ w1 HB1.out (by have := HOL.out; have := HSL.out; rw [size_list]; omega) HBW1.out.size).mono ?_
        rintro e w2 ⟨rfl, hB2, hb2⟩
        have hB2' := hB2
        have HBW2 := Lib.hid (HBW1.out.trans hb2)
        have ha2 : Below w2.heap.size w2 (w2.alloc (.cells #[.string s] 9)) := (Below.refl _ _).alloc (Nat.le_refl _) _
        have HA2 := Lib.hid ha2
        have hbsum := (BAt.below hB2 ha2)
        have HBS := Lib.hid hbsum
        clear hB2 hB2' hb2 ha2 hbsum
        go_wp2_with fail
        refine (sum_one s ⟨w2.heap.size, 0, none⟩ _ 1 HSM.out (new_cell w2 _ _)).mono ?_
        rintro e w3 ⟨rfl, rfl⟩
        obtain ⟨x, hx⟩ : ∃ x, x = Fr.sum s.data.toList := ⟨_, rfl⟩
        rw [← hx]
        have HX := Lib.hid hx
        have hxl := x.isLt
        clear hx
        have ha3 : ∀ o, Below (w2.alloc (.cells #[.string s] 9)).heap.size (w2.alloc (.cells #[.string s] 9)) ((w2.alloc (.cells #[.string s] 9)).alloc o) := fun o => (Below.refl _ _).alloc (Nat.le_refl _) _
        have HA3 := Lib.hid ha3
        clear ha3
        have hsz2 : (w2.alloc (.cells #[.string s] 9)).heap.size = w2.heap.size + 1 := by simp
        have HSZ2 := Lib.hid hsz2
        clear hsz2
        go_wp2_with fail
        refine (bBytes4 w.heap.size w.heap.size _ x (w2.heap.size + 1) _ (BAt.below HBS.out (HA3.out _)) (by have := Blk.new (w2.alloc (.cells #[.string s] 9)) 5 #[.int .u8 ((x.toNat : Int) % 256), .int .u8 ((x.toNat : Int) / 256 % 256), .int .u8 ((x.toNat : Int) / 65536 % 256), .int .u8 ((x.toNat : Int) / 16777216)]; rw [HSZ2.out] at this; exact this) ?_ ?_).mono ?_
        · have := HOL.out; have := HSL.out; rw [List.length_append]; omega
        · have := HBW2.out.size; simp; omega
        rintro e w3 ⟨rfl, hB3, hb3⟩
        have HB3 := Lib.hid hB3
        have hbw3 : Below w.heap.size w w3 := ((HBW2.out.trans (HA2.out.mono HBW2.out.size)).trans ((HA3.out _).mono (Nat.le_trans HBW2.out.size HA2.out.size))).trans hb3
        have HBW3 := Lib.hid hbw3
        clear hB3 hb3 hbw3
        go_wp2_with fail
        refine (bStr _ _ _ _ w3 (Or.inr HB3.out) ?_ HBW3.out.size).mono ?_
        · have := HOL.out; have := HSL.out; simp only [List.length_append, Fr.le4_len]; omega
        rintro e w4 ⟨rfl, hB4, hb4⟩
        have hB4' : BAt w.heap.size w.heap.size (Lib.byteCells (Fr.all (bytes (ss.take (k + 1))))) w4 := by
          rw [all_snoc ss k hks, ← HSK.out]
          unfold Fr.one
          rw [hds, ← HX.out]
          simpa [List.append_assoc] using hB4
        have HB4 := Lib.hid hB4'
        have HBW4 := Lib.hid (HBW3.out.trans hb4)
        clear hB4 hB4' hb4
        go_wp2
        go_roundw
        case rel =>
          refine ⟨k + 1, by omega, by go_num, fun s' hs' => ?_, Or.inr HB4.out, HBW4.out⟩
          rw [List.take_succ_eq_append_getElem hks] at hs'
          rcases List.mem_append.1 hs' with h | h
          · exact HS.out s' h
          · simp at h
            rw [h, ← HSK.out]
            omega
        case measure => simp [intOf]; omega
    · obtain rfl : n = k := by omega
      have hall : ss.take n = ss := List.take_of_length_le (by rw [HL.out]; exact Nat.le_refl _)
      rw [hall] at HS HB
      go_wp2_with fail
      refine (bText w.heap.size w.heap.size _ wr HB.out HBW.out.size).mono ?_
      rintro e w1 ⟨rfl, hb1⟩
      have HB1 := Lib.hid hb1
      clear hb1
      go_wp2
      go_ret2
      exact ⟨HBW.out.trans HB1.out, Or.inl ⟨HS.out, rfl⟩⟩

end Go.Proofs.Ytehhhclpeefnmaa
