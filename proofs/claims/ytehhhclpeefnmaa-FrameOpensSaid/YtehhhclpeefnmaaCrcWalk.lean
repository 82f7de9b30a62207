/-
  THE WALKS OF THE CHECK SUM: what crc.More, crc.Sum and the reference's functions compute.
-/
import Derived.Test.YtehhhclpeefnmaaRows
import Derived.Test.YtehhhclpeefnmaaMem
import Derived.Test.YtehhhclpeefnmaaCrcPlain
import Derived.WalkKit
import Derived.WalkSpells
import Derived.WalkLawsBesides
import Derived.Lib.Hide
namespace Go.Proofs.Ytehhhclpeefnmaa
open Go.RowKit

theorem u32_lt (s : BitVec 32) : s.toNat < 4294967296 := s.isLt
theorem not_u32 (s : BitVec 32) : bits .xor .u32 IntKind.u32.max (s.toNat : Int) = ((~~~s).toNat : Int) := by
  have h := u32_xor_nat 4294967295 s.toNat (by omega) (u32_lt s)
  show bits .xor .u32 ((4294967295 : Nat) : Int) _ = _
  rw [h]
  congr 1
theorem xor_u8 (q : BitVec 32) (b : UInt8) : bits .xor .u32 (q.toNat : Int) ((b.toNat : Int) % 4294967296) = ((q ^^^ b.toBitVec.setWidth 32).toNat : Int) := by
  have hb : b.toNat < 256 := b.toNat_lt
  rw [Int.emod_eq_of_lt (by omega) (by omega), u32_xor_nat _ _ (u32_lt q) (by omega)]
  congr 1
theorem half_u32 (r : BitVec 32) : ((r.toNat : Int) / (2 : Int)) = ((r >>> 1).toNat : Int) := by
  have hsh : (r >>> 1).toNat = r.toNat / 2 := by rw [BitVec.toNat_ushiftRight, Nat.shiftRight_eq_div_pow]
  rw [hsh]
  omega
theorem half_xor (r : BitVec 32) : bits .xor .u32 ((r.toNat : Int) / (2 : Int)) 3988292384 = (((r >>> 1) ^^^ 0xedb88320#32).toNat : Int) := by
  rw [half_u32]
  have h := u32_xor_nat (r >>> 1).toNat 3988292384 (u32_lt _) (by decide)
  exact h
theorem stp_u32 (t : BitVec 32) : bits .xor .u32 ((t.toNat : Int) / 2) (bits .and .u32 3988292384 (-bits .and .u32 (t.toNat : Int) 1 % 4294967296)) = ((Crc.stp t).toNat : Int) := by
  have ht := u32_lt t
  have h1 : bits .and .u32 (t.toNat : Int) 1 = ((t.toNat % 2 : Nat) : Int) := by
    have h := u32_and_nat t.toNat 1 ht (by omega)
    rw [Nat.and_one_is_mod] at h
    exact h
  rw [h1]
  have hbit : t.getLsbD 0 = decide (t.toNat % 2 = 1) := by
    rw [BitVec.getLsbD, Nat.testBit_zero]
  have hd : ((t.toNat : Int) / 2) = ((t.toNat / 2 : Nat) : Int) := by omega
  rw [hd]
  have hsh : (t >>> 1).toNat = t.toNat / 2 := by rw [BitVec.toNat_ushiftRight, Nat.shiftRight_eq_div_pow]
  unfold Crc.stp
  rw [hbit]
  rcases Nat.mod_two_eq_zero_or_one t.toNat with h0 | h0
  · rw [h0]
    have hz : bits .and .u32 3988292384 (-((0 : Nat) : Int) % 4294967296) = ((0 : Nat) : Int) := by
      have h := u32_and_nat 3988292384 0 (by omega) (by omega)
      rw [Nat.and_zero] at h
      exact h
    rw [hz, u32_xor_nat _ _ (by omega) (by omega), Nat.xor_zero]
    simp [hsh]
  · rw [h0]
    have hz : bits .and .u32 3988292384 (-((1 : Nat) : Int) % 4294967296) = ((3988292384 : Nat) : Int) := by
      have h := u32_and_nat 3988292384 4294967295 (by omega) (by omega)
      rw [show 3988292384 &&& 4294967295 = 3988292384 from by decide +kernel] at h
      exact h
    rw [hz, u32_xor_nat _ _ (by omega) (by omega)]
    simp only [decide_true, if_true]
    rw [BitVec.toNat_xor, hsh]
    rfl
theorem stps_succ' (n : Nat) (r : BitVec 32) : Crc.stps (n + 1) r = Crc.stp (Crc.stps n r) := by
  induction n generalizing r with
  | zero => rfl
  | succ n ih => exact ih (Crc.stp r)
theorem run_take (r : BitVec 32) (x : ByteArray) (j : Nat) (h : j < x.size) : Crc.run r (x.data.toList.take (j + 1)) = Crc.byt (Crc.run r (x.data.toList.take j)) x[j] := by
  rw [List.take_succ_eq_append_getElem (by simpa using h), Crc.run_snoc]
  rfl
theorem u32_ret {a b : BitVec 32} (h : a = b) : Value.int .u32 (a.toNat : Int) = .int .u32 (b.toNat : Int) := by rw [h]

set_option maxHeartbeats 400000 in
theorem crcMore_some (s : BitVec 32) (ad : Addr) (n c : Nat) (ss : List ByteArray) (w : World) (hl : ss.length = n) (hn : n ≤ maxLen)
    (hc : ∀ k (h : k < ss.length), w.cell? (ad.add k) = some (.string ss[k])) (hs : ∀ k (h : k < ss.length), ss[k].size ≤ maxLen) :
    Calls Try.prog 31 #[.int .u32 s.toNat, .slice (some ad) n c] w fun e w' => e = .returned (.int .u32 (Crc.more s (cat ss)).toNat) ∧ w = w' := by
  unfold maxLen at hn
  have HL := Lib.hid hl
  have HC := Lib.hid hc
  have HS := Lib.hid hs
  clear hl hc hs
  go_enter Try.func31, Try.ntmps31
  go_wp2
  go_loop [5, 13] (fun r i => ∃ k : Nat, k ≤ n ∧ i = .int .i64 k ∧ r = .int .u32 (Crc.run (~~~ s) (cat (ss.take k))).toNat) (fun _ i => n - (intOf i).toNat)
  case atStart => exact ⟨0, Nat.zero_le _, rfl, by rw [not_u32]; rfl⟩
  case round =>
    obtain ⟨k, hk, rfl, rfl⟩ := hrel
    by_cases hlt : k < n
    · have hk' : k < ss.length := by rw [HL.out]; exact hlt
      have hcell := HC.out k hk'
      have hsz := HS.out k hk'
      obtain ⟨R, hR⟩ : ∃ R, R = Crc.run (~~~ s) (cat (ss.take k)) := ⟨_, rfl⟩
      rw [← hR]
      obtain ⟨x, hx⟩ : ∃ x, x = ss[k] := ⟨_, rfl⟩
      rw [← hx] at hcell hsz
      have HR := Lib.hid hR
      have HX := Lib.hid hx
      clear hR hx
      unfold maxLen at hsz
      go_wp2
      go_loop [5, 19] (fun r i => ∃ j : Nat, j ≤ x.size ∧ i = .int .i64 j ∧ r = .int .u32 (Crc.run R (x.data.toList.take j)).toNat) (fun _ i => x.size - (intOf i).toNat)
      case atStart => exact ⟨0, Nat.zero_le _, rfl, rfl⟩
      case round =>
        obtain ⟨j, hj, rfl, rfl⟩ := hrel
        by_cases hjt : j < x.size
        · obtain ⟨Q, hQ⟩ : ∃ Q, Q = Crc.run R (x.data.toList.take j) := ⟨_, rfl⟩
          rw [← hQ]
          have HQ := Lib.hid hQ
          clear hQ
          obtain ⟨b, hb⟩ : ∃ b, b = x[j] := ⟨_, rfl⟩
          go_wp2
          go_loop [5, 28] (fun r i => ∃ t : Nat, t ≤ 8 ∧ i = .int .i64 t ∧ r = .int .u32 (Crc.stps t (Q ^^^ b.toBitVec.setWidth 32)).toNat) (fun _ i => 8 - (intOf i).toNat)
          case atStart => exact ⟨0, Nat.zero_le _, rfl, by rw [xor_u8, hb]; rfl⟩
          case round =>
            obtain ⟨t, ht, rfl, rfl⟩ := hrel
            obtain ⟨T, hT⟩ : ∃ T, T = Crc.stps t (Q ^^^ b.toBitVec.setWidth 32) := ⟨_, rfl⟩
            rw [← hT]
            have HT := Lib.hid hT
            clear hT
            by_cases htt : t < 8
            · go_wp2
              go_round
              case rel => exact ⟨t + 1, by omega, by go_num, by rw [stp_u32, stps_succ', ← HT.out]⟩
              case measure => simp [intOf]; omega
            · go_wp2
              go_round
              case rel => exact ⟨j + 1, by omega, by go_num, by rw [run_take R x j hjt, ← HQ.out, HT.out, hb]; exact u32_ret (by rw [show t = 8 from by omega]; rfl)⟩
              case measure => simp [intOf]; omega
        · go_wp2
          go_round
          case rel => exact ⟨k + 1, by omega, by go_num, u32_ret (by rw [show j = x.size from by omega, cat_snoc ss k hk', Crc.run_append, ← HR.out, ← HX.out, List.take_of_length_le (by simp)])⟩
          case measure => simp [intOf]; omega
    · go_wp2
      go_ret
      exact ⟨ret_int (by rw [not_u32, List.take_of_length_le (by have := HL.out; omega)]; rfl), rfl⟩


set_option maxHeartbeats 400000 in
theorem crcMore_none (s : BitVec 32) (c : Nat) (w : World) :
    Calls Try.prog 31 #[.int .u32 s.toNat, .slice none 0 c] w fun e w' => e = .returned (.int .u32 (Crc.more s []).toNat) ∧ w = w' := by
  go_enter Try.func31, Try.ntmps31
  go_wp2
  go_loop [5, 13] (fun r i => i = .int .i64 0 ∧ r = .int .u32 (~~~ s).toNat) (fun _ _ => 0)
  case atStart => exact ⟨rfl, by rw [not_u32]⟩
  case round =>
    obtain ⟨rfl, rfl⟩ := hrel
    obtain ⟨q, hq⟩ : ∃ q, q = ~~~ s := ⟨_, rfl⟩
    rw [← hq]
    have HQ := Lib.hid hq
    clear hq
    go_wp2
    go_ret
    exact ⟨ret_int (by rw [not_u32, HQ.out]; rfl), rfl⟩

/-- crc.More, at whatever texts -/
theorem crcMore_any (s : BitVec 32) (B : Nat) (A : Option Addr) (n c : Nat) (ss : List ByteArray) (w : World) (h : Reads w B 1 A n (strV ss)) (hn : n ≤ maxLen) (hs : ∀ x ∈ ss, x.size ≤ maxLen) :
    Calls Try.prog 31 #[.int .u32 s.toNat, .slice A n c] w fun e w' => e = .returned (.int .u32 (Crc.more s (cat ss)).toNat) ∧ w = w' := by
  have hl : ss.length = n := by have := h.1; simpa [strV] using this
  rcases A with _ | ad
  · have h0 : n = 0 := by
      rcases Nat.eq_zero_or_pos n with h0 | h0
      · exact h0
      · obtain ⟨ad, h', _⟩ := h.2 h0
        cases h'
    subst h0
    have : ss = [] := List.eq_nil_of_length_eq_zero hl
    subst this
    exact crcMore_none s c w
  · refine crcMore_some s ad n c ss w hl hn (fun k hk => ?_) (fun k hk => hs _ (List.getElem_mem hk))
    obtain ⟨ad', u, he, _, hu, hc⟩ := h.at_ (k := k) (by omega)
    injection he with he
    subst he
    rw [strV_at ss k hk] at hu
    injection hu with hu
    subst hu
    exact hc

set_option maxHeartbeats 400000 in
/-- crc.Sum -/
theorem crcSum_any (B : Nat) (A : Option Addr) (n c : Nat) (ss : List ByteArray) (w : World) (h : Reads w B 1 A n (strV ss)) (hn : n ≤ maxLen) (hs : ∀ x ∈ ss, x.size ≤ maxLen) :
    Calls Try.prog 20 #[.slice A n c] w fun e w' => e = .returned (.int .u32 (Crc.more 0#32 (cat ss)).toNat) ∧ w = w' := by
  have H := hide (crcMore_any 0#32 B A n c ss w h hn hs)
  clear h hn hs
  go_enter Try.func20, Try.ntmps20
  go_wp2_with (go_at_call 31; refine (H.out).mono ?_; rintro e w' ⟨rfl, rfl⟩)
  go_ret
  exact ⟨rfl, rfl⟩

theorem low_snoc (x : BitVec 32) (n : Nat) : Crc.low x (n + 1) = Crc.low x n ++ [x.getLsbD n] := by
  simp [Crc.low, List.range_succ]
theorem bitsRun_snoc (r : BitVec 32) (l : List Bool) (b : Bool) : Crc.bitsRun r (l ++ [b]) = Crc.bt (Crc.bitsRun r l) b := by simp [Crc.bitsRun]
theorem odd_u32 (r : BitVec 32) : ((r.toNat : Int) % 2 == 1) = r.getLsbD 0 := by
  rw [BitVec.getLsbD, Nat.testBit_zero, Bool.eq_iff_iff]
  simp
  omega
theorem odd_u8 (b : UInt8) (i : Nat) : (((b.toNat / 2 ^ i : Nat) : Int) % 2 == 1) = (b.toBitVec.setWidth 32).getLsbD i := by
  rw [BitVec.getLsbD_setWidth, Bool.eq_iff_iff]
  have e : b.toBitVec.getLsbD i = decide (b.toNat / 2 ^ i % 2 = 1) := by
    rw [BitVec.getLsbD]
    exact Nat.testBit_eq_decide_div_mod_eq
  rw [e]
  by_cases hi : i < 32
  · obtain ⟨q, hq⟩ : ∃ q, q = b.toNat / 2 ^ i := ⟨_, rfl⟩
    rw [← hq]
    simp [hi]
    omega
  · have : b.toNat / 2 ^ i = 0 := Nat.div_eq_of_lt (Nat.lt_of_lt_of_le b.toNat_lt (Nat.le_trans (by decide) (Nat.pow_le_pow_right (by omega) (Nat.le_of_not_lt hi))))
    rw [this]
    simp
theorem bt_no (r : BitVec 32) (b : Bool) (h : (r.getLsbD 0 ^^ b) = false) : Crc.bt r b = r >>> 1 := by
  unfold Crc.bt Crc.stp
  have h0 : (r ^^^ Crc.one b).getLsbD 0 = false := by
    rw [BitVec.getLsbD_xor, ← h]
    cases b <;> simp [Crc.one]
  rw [h0]
  simp only [Bool.false_eq_true, if_false, BitVec.xor_zero]
  ext i hi
  have : (Crc.one b).getLsbD (1 + i) = false := by
    cases b <;> simp [Crc.one]
  simp [this]
theorem bt_yes (r : BitVec 32) (b : Bool) (h : (r.getLsbD 0 ^^ b) = true) : Crc.bt r b = (r >>> 1) ^^^ 0xedb88320#32 := by
  unfold Crc.bt Crc.stp
  have h0 : (r ^^^ Crc.one b).getLsbD 0 = true := by
    rw [BitVec.getLsbD_xor, ← h]
    cases b <;> simp [Crc.one]
  rw [h0, if_pos rfl]
  congr 1
  ext i hi
  have : (Crc.one b).getLsbD (1 + i) = false := by
    cases b <;> simp [Crc.one]
  simp [this]

set_option maxHeartbeats 400000 in
/-- the reference's step -/
theorem refTaken_any (r : BitVec 32) (b : UInt8) (w : World) :
    Calls Try.prog 39 #[.int .u32 r.toNat, .int .u8 b.toNat] w fun e w' => e = .returned (.int .u32 (Crc.byt r b).toNat) ∧ w = w' := by
  go_enter Try.func39, Try.ntmps39
  go_wp2
  go_loop [0, 1, 5] (fun x y i => ∃ t : Nat, t ≤ 8 ∧ i = .int .i64 t ∧ x = .int .u32 (Crc.bitsRun r (Crc.low (b.toBitVec.setWidth 32) t)).toNat ∧ y = .int .u8 ((b.toNat / 2 ^ t : Nat) : Int)) (fun _ _ i => 8 - (intOf i).toNat)
  case atStart => exact ⟨0, by omega, rfl, rfl, by simp⟩
  case round =>
    obtain ⟨t, ht, rfl, rfl, rfl⟩ := hrel
    obtain ⟨R, hR⟩ : ∃ R, R = Crc.bitsRun r (Crc.low (b.toBitVec.setWidth 32) t) := ⟨_, rfl⟩
    rw [← hR]
    have HR := Lib.hid hR
    clear hR
    obtain ⟨C, hC⟩ : ∃ C, C = b.toNat / 2 ^ t := ⟨_, rfl⟩
    rw [← hC]
    have hCb : C < 256 := by rw [hC]; exact Nat.lt_of_le_of_lt (Nat.div_le_self _ _) b.toNat_lt
    have HC := Lib.hid hC
    clear hC
    by_cases htt : t < 8
    · have hstep : Value.int .u8 ((C : Int) / 2) = .int .u8 ((b.toNat / 2 ^ (t + 1) : Nat) : Int) := by
        rw [HC.out, Nat.pow_succ, ← Nat.div_div_eq_div_mul]; rfl
      have HT := Lib.hid hstep
      clear hstep
      have hC : ((C : Int) % 2 == 1) = (b.toBitVec.setWidth 32).getLsbD t := by rw [HC.out]; exact odd_u8 b t
      have hR0 := odd_u32 R
      have HC0 := Lib.hid hC
      have HR0 := Lib.hid hR0
      clear hC hR0
      cases hq : ((C : Int) % 2 == 1) <;> cases hp : ((R.toNat : Int) % 2 == 1)
      all_goals
        go_wp2
        go_round
        case rel =>
          refine ⟨t + 1, by omega, by go_num, ?_, HT.out⟩
          rw [low_snoc, bitsRun_snoc, ← HR.out]
          first
            | (rw [bt_yes _ _ (by rw [← HC0.out, ← HR0.out, hp, hq]; rfl), half_xor])
            | (rw [bt_no _ _ (by rw [← HC0.out, ← HR0.out, hp, hq]; rfl), half_u32])
        case measure => simp [intOf]; omega
    · go_wp2
      go_ret
      exact ⟨ret_int (by rw [HR.out, Crc.byt_bits, show t = 8 from by omega]; rfl), rfl⟩

end Go.Proofs.Ytehhhclpeefnmaa
