/-
  THE WALK OF CrcTurned: of two texts that differ, but only within 32 bits side by side, the sums differ.
-/
import Derived.Test.YtnpnonoogdiimaaCrcGo
import Derived.Test.YtnpnonoogdiimaaBytes
import Derived.BigRegion
namespace Go.Proofs.Ytnpnonoogdiimaa
open Go.RowKit

/-- the place of the window's first bit -/
theorem turn_place (a : Int) (n : Nat) (h5 : 5 ≤ n) (hn : n ≤ 4096) : ∃ K : Nat, K + 32 < 8 * n ∧ wrap64 ((IntKind.u64.wrap a).tmod (8 * ((n : Int) - 4))) = (K : Int) := by
  obtain ⟨z, hz⟩ : ∃ z, z = IntKind.u64.wrap a := ⟨_, rfl⟩
  have h0 : 0 ≤ z := by rw [hz]; exact wrap_u64_nonneg a
  rw [← hz, Int.tmod_eq_emod_of_nonneg h0]
  have h1 := Int.emod_nonneg z (show (8 * ((n : Int) - 4)) ≠ 0 by omega)
  have h2 := Int.emod_lt_of_pos z (show (0 : Int) < 8 * ((n : Int) - 4) by omega)
  refine ⟨(z % (8 * ((n : Int) - 4))).toNat, by omega, ?_⟩
  rw [IntWalk.wrap64_in _ (by omega)]
  omega

theorem bit_u32 (b : BitVec 32) (k : Nat) : (bits .and .u32 ((b.toNat : Int) / 2 ^ k) 1 == 1) = b.getLsbD k := by
  have hq : b.toNat / 2 ^ k < 4294967296 := Nat.lt_of_le_of_lt (Nat.div_le_self _ _) (u32_lt b)
  have e1 : ((b.toNat : Int) / 2 ^ k) = ((b.toNat / 2 ^ k : Nat) : Int) := by simp
  rw [e1]
  have h := u32_and_nat (b.toNat / 2 ^ k) 1 hq (by omega)
  rw [Nat.and_one_is_mod] at h
  have h' : bits .and .u32 ((b.toNat / 2 ^ k : Nat) : Int) 1 = ((b.toNat / 2 ^ k % 2 : Nat) : Int) := h
  rw [h', BitVec.getLsbD, Nat.testBit_eq_decide_div_mod_eq, Bool.eq_iff_iff]
  obtain ⟨q, hq⟩ : ∃ q, q = b.toNat / 2 ^ k := ⟨_, rfl⟩
  rw [← hq]
  simp
  omega

theorem xor_bit8 (v : UInt8) (m : Nat) (hm : m < 8) : bits .xor .u8 (v.toNat : Int) ((2 : Int) ^ m % 256) = ((v ^^^ Crc.bit8 m).toNat : Int) := by
  have h8 : ∀ m : Fin 8, ((2 : Int) ^ m.val % 256) = (((Crc.bit8 m.val).toNat : Nat) : Int) := by decide
  have e := h8 ⟨m, hm⟩
  rw [e, u8_xor_nat _ _ v.toNat_lt (Crc.bit8 m).toNat_lt]
  simp
theorem flips_yes (l : List UInt8) (K : Nat) (b : BitVec 32) (k : Nat) (h : b.getLsbD k = true) (hj : (K + k) / 8 < (Crc.flips l K b k).length) :
    Crc.flips l K b (k + 1) = (Crc.flips l K b k).set ((K + k) / 8) ((Crc.flips l K b k)[(K + k) / 8] ^^^ Crc.bit8 ((K + k) % 8)) := by
  show (if b.getLsbD k then _ else _) = _
  rw [if_pos h]
  simp [List.getD, hj]
theorem flips_no (l : List UInt8) (K : Nat) (b : BitVec 32) (k : Nat) (h : b.getLsbD k = false) : Crc.flips l K b (k + 1) = Crc.flips l K b k := by
  show (if b.getLsbD k then _ else _) = _
  rw [if_neg (by simp [h])]

set_option maxHeartbeats 1600000 in
theorem crcTurned_walk (w : World) (s : ByteArray) (hs : s.size ≤ maxLen) (at_ : Int) (_hat : -9223372036854775808 ≤ at_ ∧ at_ ≤ 9223372036854775807) (b : BitVec 32) :
    Calls Try.prog 5 #[.string s, .int .i64 at_, .int .u32 b.toNat] w fun e w' => e = .returned (.bool true) ∧ Below w.heap.size w w' := by
  unfold maxLen at hs
  by_cases h1 : (s.size : Int) < 5
  · go_enter Try.func5, Try.ntmps5
    go_wp2_with fail
    refine (awake_any _).mono ?_
    rintro e w1 ⟨rfl, hb1⟩
    go_wp2_with fail
    refine (awake_any _).mono ?_
    rintro e w2 ⟨rfl, hb2⟩
    go_wp2
    go_ret
    exact ⟨rfl, hb1.trans (hb2.mono hb1.size)⟩
  · by_cases h2 : (4096 : Int) < s.size
    · go_enter Try.func5, Try.ntmps5
      go_wp2_with fail
      refine (awake_any _).mono ?_
      rintro e w1 ⟨rfl, hb1⟩
      go_wp2_with fail
      refine (awake_any _).mono ?_
      rintro e w2 ⟨rfl, hb2⟩
      go_wp2
      go_ret
      exact ⟨rfl, hb1.trans (hb2.mono hb1.size)⟩
    · by_cases h3 : ((b.toNat : Int) == 0) = true
      · go_enter Try.func5, Try.ntmps5
        go_wp2_with fail
        refine (awake_any _).mono ?_
        rintro e w1 ⟨rfl, hb1⟩
        go_wp2_with fail
        refine (awake_any _).mono ?_
        rintro e w2 ⟨rfl, hb2⟩
        go_wp2
        go_ret
        exact ⟨rfl, hb1.trans (hb2.mono hb1.size)⟩
      · have h3 : ((b.toNat : Int) == 0) = false := by simpa using h3
        obtain ⟨K, hK, eK⟩ := turn_place at_ s.size (by omega) (by omega)
        have EK := Lib.hid eK
        clear eK
        go_enter Try.func5, Try.ntmps5
        go_wp2_with fail
        refine (awake_any _).mono ?_
        rintro e w1 ⟨rfl, hb1⟩
        have HB1 := Lib.hid hb1
        clear hb1
        have hcv := Lib.run_convert_string_bytes (P := Try.prog) w1 9 34 5 s Try.underlying9 Try.underlying34 Try.underlying5
        have d1 : decide ((s.size : Int) < 5) = false := by simpa using h1
        have d2 : decide ((4096 : Int) < s.size) = false := by simpa using h2
        go_wp2_with fail
        simp only [EK.out]
        have hb0 := (HB1.out).trans ((below_conv w1 5 s).mono HB1.out.size)
        have hby := bytes_conv w1 5 s
        obtain ⟨W, hW⟩ : ∃ W, W = Lib.bytesWorld w1 5 s := ⟨_, rfl⟩
        obtain ⟨C, hC⟩ : ∃ C, C = grownCap w1 s.size 0 5 := ⟨_, rfl⟩
        obtain ⟨g, hg⟩ : ∃ g, g = w1.heap.size := ⟨_, rfl⟩
        rw [← hC, ← hW, ← hg]
        rw [← hW] at hb0
        rw [← hW, ← hg] at hby
        have hgw : w.heap.size ≤ g := by rw [hg]; exact HB1.out.size
        clear hW hC hg hcv EK
        have HBY := Lib.hid hby
        have HB0 := Lib.hid hb0
        clear hby hb0
        go_loopw [37] (fun i wr => ∃ k : Nat, k ≤ 32 ∧ i = .int .i64 k ∧ Bytes wr g (Crc.flips s.data.toList K b k) ∧ Below w.heap.size w wr) (fun i _ => 32 - (intOf i).toNat)
        case atStart => exact ⟨0, by omega, rfl, HBY.out, HB0.out⟩
        case round =>
          obtain ⟨k, hk, rfl, hbk, hbw⟩ := hrel
          by_cases hk2 : k < 32
          · have hbit := bit_u32 b k
            have hlen : (Crc.flips s.data.toList K b k).length = s.size := by rw [Crc.flips_length]; simp
            obtain ⟨L, hL⟩ : ∃ L, L = Crc.flips s.data.toList K b k := ⟨_, rfl⟩
            rw [← hL] at hbk hlen
            have HL := Lib.hid hL
            clear hL
            cases hbt : b.getLsbD k
            · rw [hbt] at hbit
              have HBT := Lib.hid hbt
              clear hbt
              go_wp2
              go_roundw
              case rel => exact ⟨k + 1, by omega, by go_num, by rw [flips_no _ _ _ _ HBT.out, ← HL.out]; exact hbk, hbw⟩
              case measure => simp [intOf]; omega
            · rw [hbt] at hbit
              have HBT := Lib.hid hbt
              clear hbt
              have hj : (K + k) / 8 < L.length := by omega
              have hcell := hbk.cell _ hj
              have hfree := hbk.free _ hj
              obtain ⟨v, hv⟩ : ∃ v, v = L[(K + k) / 8] := ⟨_, rfl⟩
              rw [← hv] at hcell
              have HV := Lib.hid hv
              have HBK := Lib.hid hbk
              have HLN := Lib.hid hlen
              have hj2 : (K + k) / 8 < s.size := by omega
              clear hv hbk hlen
              go_wp2
              go_region
              have hm : (K + k) % 8 < 8 := Nat.mod_lt _ (by omega)
              rw [xor_bit8 v _ hm]
              go_wp2
              go_roundw
              case rel =>
                refine ⟨k + 1, by omega, by go_num, ?_, (hbw.setCell (by simpa using hgw) _).drew⟩
                have hf : Crc.flips s.data.toList K b (k + 1) = L.set ((K + k) / 8) (v ^^^ Crc.bit8 ((K + k) % 8)) := by
                  have hj3 := hj
                  have h := HL.out
                  have hv := HV.out
                  subst h
                  rw [hv]
                  exact flips_yes _ _ _ _ HBT.out hj3
                rw [hf]
                have h9 := (HBK.out.set _ hj (v ^^^ Crc.bit8 ((K + k) % 8))).drew
                rw [UInt8.toNat_xor] at h9
                exact h9
              case measure => simp [intOf]; omega
          · obtain rfl : k = 32 := by omega
            obtain ⟨L, hL⟩ : ∃ L, L = Crc.flips s.data.toList K b 32 := ⟨_, rfl⟩
            have hlen : L.length = s.size := by rw [hL, Crc.flips_length]; simp
            rw [← hL] at hbk
            have hcv := hbk.text (P := Try.prog) 34 5 9 Try.underlying34 Try.underlying5 Try.underlying9 C
            rw [hlen] at hcv
            have hb0 : b ≠ 0#32 := by
              rintro rfl
              simp at h3
            have hne : ((Crc.more 0#32 L).toNat : Int) ≠ ((Crc.more 0#32 s.data.toList).toNat : Int) := by
              intro e
              have h := Crc.turned s.data.toList K b hb0 (by simp; omega) 0#32
              rw [← hL] at h
              exact h (BitVec.eq_of_toNat_eq (by omega))
            have hne' : (((Crc.more 0#32 L).toNat : Int) != ((Crc.more 0#32 s.data.toList).toNat : Int)) = true := by rw [bne_iff_ne]; exact hne
            have HLL := Lib.hid hlen
            have hx : (⟨L.toArray⟩ : ByteArray).size ≤ maxLen := by simp [ByteArray.size]; rw [hlen]; unfold maxLen; omega
            have H1 : ∀ (a : Addr) (W : World), W.cell? a = some (.string ⟨L.toArray⟩) → Calls Try.prog 9 #[.slice (some a) 1 1] W fun e w' => e = .returned (.int .u32 (Crc.more 0#32 L).toNat) ∧ W = w' := fun a W ha => by
              have h := crcSum_one _ a W 1 hx ha
              simpa using h
            have H1' := Lib.hid H1
            have H2 : ∀ (a : Addr) (W : World), W.cell? a = some (.string s) → Calls Try.prog 9 #[.slice (some a) 1 1] W fun e w' => e = .returned (.int .u32 (Crc.more 0#32 s.data.toList).toNat) ∧ W = w' := fun a W ha =>
              crcSum_one _ a W 1 (by unfold maxLen; omega) ha
            have H2' := Lib.hid H2
            clear H1 H2 hx hL hlen hne hb0 hbk HBY HB0
            go_wp2_with fail
            refine (H1'.out _ _ ?_).mono ?_
            · go_simp
            rintro e w' ⟨rfl, rfl⟩
            go_wp2_with fail
            refine (H2'.out _ _ ?_).mono ?_
            · go_simp
            rintro e w' ⟨rfl, rfl⟩
            go_wp2
            go_ret
            exact ⟨rfl, (hbw.alloc hbw.size _).alloc (by have := hbw.size; simp; omega) _⟩

end Go.Proofs.Ytnpnonoogdiimaa
