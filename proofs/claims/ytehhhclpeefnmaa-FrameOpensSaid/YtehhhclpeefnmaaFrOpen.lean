/-
  THE WALKS OF FRAMES: a number read, what stands first.
-/
import Derived.Test.YtehhhclpeefnmaaFrRef
import Derived.Deep.QuietTactic
import Derived.BigQuiet
namespace Go.Proofs.Ytehhhclpeefnmaa
open Go.RowKit

theorem and127 (c : Nat) (hc : c < 256) : bits .and .u8 (c : Int) 127 = ((c % 128 : Nat) : Int) := by
  have h := u8_and_nat c 127 (by omega) (by omega)
  refine h.trans ?_
  congr 1
  exact Nat.and_two_pow_sub_one_eq_mod c 7
theorem and128 (c : Nat) (hc : c < 256) : bits .and .u8 (c : Int) 128 = ((c / 128 * 128 : Nat) : Int) := by
  have h := u8_and_nat c 128 (by omega) (by omega)
  refine h.trans ?_
  congr 1
  have hx : ∀ x : Fin 256, x.val &&& 128 = x.val / 128 * 128 := of_decide_eq_true (by kernel_rfl)
  exact hx ⟨c, hc⟩
theorem u64w (a : Int) (h0 : 0 ≤ a) (h1 : a < 18446744073709551616) : IntKind.u64.wrap a = a := by
  simp [IntKind.wrap, IntKind.signed, IntKind.bits]
  omega
/-- a byte's seven bits join what was read -/
theorem or_step (a c i : Nat) (hc : c < 256) (ha : a < 2 ^ i) (hb : c % 128 * 2 ^ i < 18446744073709551616) (ha2 : a < 18446744073709551616) :
    bits .or .u64 (a : Int) (IntKind.u64.wrap (IntKind.u64.wrap (bits .and .u8 (c : Int) 127) * 2 ^ i)) = ((a + c % 128 * 2 ^ i : Nat) : Int) := by
  rw [and127 c hc, u64w ((c % 128 : Nat) : Int) (by omega) (by omega)]
  have e : ((c % 128 : Nat) : Int) * 2 ^ i = ((c % 128 * 2 ^ i : Nat) : Int) := by push_cast; rfl
  rw [e, u64w _ (by omega) (by omega), u64_or_nat _ _ ha2 hb]
  congr 1
  rw [Nat.or_comm, Nat.mul_comm, ← Nat.two_pow_add_eq_or_of_lt ha]
  omega

theorem unz_bits (z : Nat) (hz : z < 18446744073709551616) : bits .xor .i64 ((z : Int) / 2) (wrap64 (-wrap64 (bits .and .u64 (z : Int) 1))) = Fr.unz z := by
  have ha : bits .and .u64 (z : Int) 1 = ((z % 2 : Nat) : Int) := by
    have h := u64_and_nat z 1 hz (by omega)
    refine h.trans ?_
    congr 1
    exact Nat.and_one_is_mod z
  rw [ha]
  have h2 : z / 2 < 9223372036854775808 := by omega
  have ho : BitVec.ofInt 64 ((z : Int) / 2) = BitVec.ofNat 64 (z / 2) := by
    have : (z : Int) / 2 = ((z / 2 : Nat) : Int) := by omega
    rw [this]
    rfl
  rcases Nat.mod_two_eq_zero_or_one z with h | h
  · rw [h]
    show IntKind.i64.wrap ((BitVec.ofInt 64 ((z : Int) / 2) ^^^ BitVec.ofInt 64 (wrap64 (-wrap64 ((0 : Nat) : Int)))).toNat : Int) = _
    have e0 : BitVec.ofInt 64 (wrap64 (-wrap64 ((0 : Nat) : Int))) = 0#64 := of_decide_eq_true (by kernel_rfl)
    rw [e0, ho, BitVec.xor_zero, BitVec.toNat_ofNat, Nat.mod_eq_of_lt (by omega)]
    unfold Fr.unz
    rw [if_neg (by omega)]
    simp [IntKind.wrap, IntKind.signed, IntKind.bits]
    omega
  · rw [h]
    show IntKind.i64.wrap ((BitVec.ofInt 64 ((z : Int) / 2) ^^^ BitVec.ofInt 64 (wrap64 (-wrap64 ((1 : Nat) : Int)))).toNat : Int) = _
    have e0 : BitVec.ofInt 64 (wrap64 (-wrap64 ((1 : Nat) : Int))) = BitVec.allOnes 64 := of_decide_eq_true (by kernel_rfl)
    rw [e0, ho, BitVec.xor_allOnes, BitVec.toNat_not, BitVec.toNat_ofNat, Nat.mod_eq_of_lt (by omega)]
    unfold Fr.unz
    rw [if_pos h]
    simp [IntKind.wrap, IntKind.signed, IntKind.bits]
    omega
/-- what reading a number leaves -/
def NumPost (bn r : Nat) (s : ByteArray) (w : World) (e : Ending) (w' : World) : Prop :=
  match Fr.dec s.data.toList 0 0 with
  | none => e = .returned (.bool false) ∧ w' = w
  | some (z, m) => e = .returned (.bool true) ∧ Blk w' r 69 #[.string (s.extract m s.size), .bool false] ∧ Blk w' bn 3 #[.int .i64 (Fr.unz z)] ∧ ∀ B, B ≤ r → B ≤ bn → Below B w w'
theorem numPost_none {bn r : Nat} {s : ByteArray} {w w' : World} {e : Ending} (h : Fr.dec s.data.toList 0 0 = none) (he : e = .returned (.bool false)) (hw : w' = w) : NumPost bn r s w e w' := by
  unfold NumPost; rw [h]; exact ⟨he, hw⟩
theorem numPost_some {bn r : Nat} {s : ByteArray} {w w' : World} {e : Ending} {z m : Nat} (hr : Blk w r 69 #[.string s, .bool false]) (hbn : Blk w bn 3 #[.int .i64 0]) (h : Fr.dec s.data.toList 0 0 = some (z, m)) (he : e = .returned (.bool true))
    (hw : w' = ((w.setCell ⟨bn, 0, none⟩ (.int .i64 (Fr.unz z))).setCell ⟨r, 0, none⟩ (.string (s.extract m s.size))).drew ∨ w' = ((w.setCell ⟨r, 0, none⟩ (.string (s.extract m s.size))).setCell ⟨bn, 0, none⟩ (.int .i64 (Fr.unz z))).drew) : NumPost bn r s w e w' := by
  unfold NumPost
  rw [h]
  have n2 : bn ≠ r := hbn.ne_ hr (by decide)
  have n2' := n2.symm
  rcases hw with rfl | rfl
  · refine ⟨he, ?_, ?_, fun B h1 h2 => ?_⟩
    · exact (((hr.far (p := ⟨bn, 0, none⟩) n2' _).set_ 0 _).drew)
    · exact (((hbn.set_ 0 _).far (p := ⟨r, 0, none⟩) n2 _).drew)
    · exact (((Below.refl B w).setCell (p := ⟨bn, 0, none⟩) h2 _).setCell (p := ⟨r, 0, none⟩) h1 _).drew
  · refine ⟨he, ?_, ?_, fun B h1 h2 => ?_⟩
    · exact (((hr.set_ 0 _).far (p := ⟨bn, 0, none⟩) n2' _).drew)
    · exact (((hbn.far (p := ⟨r, 0, none⟩) n2 _).set_ 0 _).drew)
    · exact (((Below.refl B w).setCell (p := ⟨r, 0, none⟩) h1 _).setCell (p := ⟨bn, 0, none⟩) h2 _).drew
theorem drop_byte (s : ByteArray) (k : Nat) (h : k < s.size) : s.data.toList.drop k = s[k] :: s.data.toList.drop (k + 1) := by
  rw [List.drop_eq_getElem_cons (by simpa using h)]
  rfl

set_option maxHeartbeats 2000000 in
/-- a number is read -/
theorem num1_any (br bn r : Nat) (s : ByteArray) (w : World) (hr : Blk w r 69 #[.string s, .bool false]) (hbr : Blk w br 56 #[.pointer (some ⟨r, 0, none⟩)]) (hbn : Blk w bn 3 #[.int .i64 0]) (hs : s.size ≤ 1099511627776) :
    Calls Try.prog 35 #[.pointer (some ⟨br, 0, none⟩), .pointer (some ⟨bn, 0, none⟩)] w (NumPost bn r s w) := by
  have c1 := hbr.cell 0
  have c2 := hr.cell 0
  have c3 := hr.cell 1
  have c4 := hbn.cell 0
  have f2 := hr.frozen 0
  have f4 := hbn.frozen 0
  simp at c1 c2 c3 c4
  have n1 : bn ≠ br := hbn.ne_ hbr (by decide)
  have n2 : bn ≠ r := hbn.ne_ hr (by decide)
  have n3 : br ≠ r := hbr.ne_ hr (by decide)
  have n1' : br ≠ bn := n1.symm
  have n2' : r ≠ bn := n2.symm
  have n3' : r ≠ br := n3.symm
  have HR := Lib.hid hr
  have HBR := Lib.hid hbr
  have HBN := Lib.hid hbn
  clear hr hbr hbn
  go_enter Try.func35, Try.ntmps35
  go_wp2_with fail
  go_loop [3, 4, 5] (fun z sh i => ∃ k a : Nat, k ≤ 9 ∧ k ≤ s.size ∧ z = .int .u64 a ∧ sh = .int .i64 ((7 * k : Nat) : Int) ∧ i = .int .i64 k ∧ a < 2 ^ (7 * k) ∧ Fr.dec s.data.toList 0 0 = Fr.dec (s.data.toList.drop k) k a) (fun _ _ i => s.size - (intOf i).toNat)
  case atStart => exact ⟨0, 0, by omega, by omega, rfl, rfl, rfl, by simp, by simp⟩
  case round =>
    obtain ⟨k, a, hk9, hks, rfl, rfl, rfl, ha, hd⟩ := hrel
    by_cases hkn : k < s.size
    · rw [drop_byte s k hkn] at hd
      have hclt := (s[k]).toNat_lt
      have ha63 : a < 9223372036854775808 := Nat.lt_of_lt_of_le ha (by
        have := Nat.pow_le_pow_right (n := 2) (by omega) (show 7 * k ≤ 63 by omega)
        exact Nat.le_trans this (by decide))
      have hand := and128 (s[k]).toNat hclt
      have HD := Lib.hid hd
      clear hd
      by_cases h9 : k = 9
      · subst h9
        by_cases hc1 : (1 : Int) < (s[9].toNat : Int)
        · go_wp2_with fail
          go_ret
          exact numPost_none (by rw [HD.out, Fr.dec_stop9 _ _ _ (by omega)]) rfl rfl
        · have hor := or_step a s[9].toNat 63 hclt ha (by omega) (by omega)
          obtain ⟨z, hz0⟩ : ∃ z, z = a + s[9].toNat % 128 * 2 ^ 63 := ⟨_, rfl⟩
          rw [← hz0] at hor
          have hor' : bits .or .u64 (a : Int) (IntKind.u64.wrap (IntKind.u64.wrap (bits .and .u8 ((s[9]).toNat : Int) 127) * 9223372036854775808)) = (z : Int) := hor
          have hzb : z < 18446744073709551616 := by omega
          have HZ := Lib.hid hz0
          have e128 : s[9].toNat / 128 * 128 = 0 := by omega
          rw [e128] at hand
          have hun := unz_bits z hzb
          have hw1 : IntKind.i64.wrap 10 = 10 := by decide
          clear hor hz0
          by_cases hz : s[9].toNat = 0
          · have hz2 : ((s[9].toNat : Int) == 0) = true := by rw [hz]; rfl
            rw [hz] at hand
            go_wp2_with fail
            go_ret
            exact numPost_none (by rw [HD.out, Fr.dec_zero _ _ _ _ hz (by omega)]) rfl rfl
          · have hz2 : ((s[9].toNat : Int) == 0) = false := by simpa using hz
            go_wp2_with fail
            go_region
            all_goals
              go_wp2
              go_ret
              exact numPost_some HR.out HBN.out (by rw [HD.out, Fr.dec_end _ _ _ _ (fun _ => by omega) (by omega) (fun h => hz h.1), ← HZ.out]) rfl (by first | exact Or.inl rfl | exact Or.inr rfl)
      · have t9 : ((7 : Int) * (k : Int) == 63) = false := by simp; omega
        have hlow : s[k].toNat % 128 * 2 ^ (7 * k) < 2 ^ (7 * (k + 1)) := by
          have h1 : 2 ^ (7 * (k + 1)) = 128 * 2 ^ (7 * k) := by rw [Nat.mul_add, Nat.pow_add]; omega
          rw [h1]
          exact Nat.mul_lt_mul_of_pos_right (by omega) (Nat.two_pow_pos _)
        have hup : a + s[k].toNat % 128 * 2 ^ (7 * k) < 2 ^ (7 * (k + 1)) := by
          have h1 : 2 ^ (7 * (k + 1)) = 128 * 2 ^ (7 * k) := by rw [Nat.mul_add, Nat.pow_add]; omega
          have h2 : s[k].toNat % 128 * 2 ^ (7 * k) ≤ 127 * 2 ^ (7 * k) := Nat.mul_le_mul_right _ (by omega)
          rw [h1]
          omega
        have hup2 : 2 ^ (7 * (k + 1)) ≤ 9223372036854775808 := by
          have := Nat.pow_le_pow_right (n := 2) (by omega) (show 7 * (k + 1) ≤ 63 by omega)
          exact Nat.le_trans this (by decide)
        have hor := or_step a s[k].toNat (7 * k) hclt ha (by omega) (by omega)
        obtain ⟨z, hz0⟩ : ∃ z, z = a + s[k].toNat % 128 * 2 ^ (7 * k) := ⟨_, rfl⟩
        rw [← hz0] at hor hup
        have hzb : z < 18446744073709551616 := by omega
        have HZ := Lib.hid hz0
        have HUP := Lib.hid hup
        have hun := unz_bits z hzb
        have hw1 : IntKind.i64.wrap ((k : Int) + 1) = (k : Int) + 1 := by
          simp [IntKind.wrap, IntKind.signed, IntKind.bits]; omega
        have ha0 : k = 0 → a = 0 := by
          rintro rfl
          simpa using ha
        have HA0 := Lib.hid ha0
        clear hz0 hlow hup hup2 ha ha63 ha0
        by_cases hc : 128 ≤ s[k].toNat
        · have e128 : s[k].toNat / 128 * 128 = 128 := by omega
          rw [e128] at hand
          go_wp2_with fail
          go_round
          case rel => exact ⟨k + 1, z, by omega, by omega, rfl, by go_num, by go_num, HUP.out, by rw [HD.out, Fr.dec_more _ _ _ _ (fun h => absurd h h9) hc, HZ.out, Fr.pow7]⟩
          case measure => simp [intOf]; omega
        · have e128 : s[k].toNat / 128 * 128 = 0 := by omega
          rw [e128] at hand
          by_cases hz : s[k].toNat = 0 ∧ 0 < k
          · have hz2 : ((s[k].toNat : Int) == 0) = true := by rw [hz.1]; rfl
            have hz3 : (0 : Int) < (k : Int) := by omega
            go_wp2_with fail
            go_ret
            exact numPost_none (by rw [HD.out, Fr.dec_zero _ _ _ _ hz.1 hz.2]) rfl rfl
          · have hfin : Fr.dec s.data.toList 0 0 = some (z, k + 1) := by rw [HD.out, Fr.dec_end _ _ _ _ (fun h => absurd h h9) (by omega) hz, HZ.out, Fr.pow7]
            have HFIN := Lib.hid hfin
            clear hfin
            by_cases hz4 : s[k].toNat = 0
            · have hz2 : ((s[k].toNat : Int) == 0) = true := by rw [hz4]; rfl
              have hk0 : k = 0 := by omega
              subst hk0
              obtain rfl : a = 0 := HA0.out rfl
              have hz00 : z = 0 := by rw [HZ.out, hz4]
              subst hz00
              have hor0 : bits .or .u64 0 (IntKind.u64.wrap (IntKind.u64.wrap (bits .and .u8 0 127))) = 0 := by kernel_rfl
              clear hor hun
              have hun : bits .xor .i64 0 (wrap64 (-wrap64 (bits .and .u64 0 1))) = Fr.unz 0 := unz_bits 0 (by omega)
              go_wp2_with fail
              go_region
              all_goals
                go_wp2
                go_ret
                exact numPost_some HR.out HBN.out HFIN.out rfl (by first | exact Or.inl rfl | exact Or.inr rfl)
            · have hz2 : ((s[k].toNat : Int) == 0) = false := by simpa using hz4
              go_wp2_with fail
              go_region
              all_goals
                go_wp2
                go_ret
                exact numPost_some HR.out HBN.out HFIN.out rfl (by first | exact Or.inl rfl | exact Or.inr rfl)
    · have hnil : s.data.toList.drop k = [] := by rw [List.drop_eq_nil_iff]; simp; omega
      rw [hnil] at hd
      have HD := Lib.hid hd
      clear hd
      go_wp2_with fail
      go_ret
      exact numPost_none (by rw [HD.out]; rfl) rfl rfl
end Go.Proofs.Ytehhhclpeefnmaa
