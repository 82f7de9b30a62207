/-
  THE WALK OF FrameTurns.
-/
import Derived.Test.YtehhhclpeefnmaaFrLong
import Derived.Test.YtehhhclpeefnmaaFrTurnP
namespace Go.Proofs.Ytehhhclpeefnmaa
open Go.RowKit

theorem turn_place4 (a : Int) (h n : Nat) (hn : n ≤ 4096) : ∃ K : Nat, K < 8 * (4 + n) ∧ wrap64 ((IntKind.u64.wrap a).tmod (8 * ((h : Int) + 4 + (n : Int) - (h : Int)))) = (K : Int) := by
  have e : 8 * ((h : Int) + 4 + (n : Int) - (h : Int)) = 8 * (4 + (n : Int)) := by omega
  rw [e]
  obtain ⟨z, hz⟩ : ∃ z, z = IntKind.u64.wrap a := ⟨_, rfl⟩
  have h0 : 0 ≤ z := by rw [hz]; exact wrap_u64_nonneg a
  rw [← hz, Int.tmod_eq_emod_of_nonneg h0]
  have h1 := Int.emod_nonneg z (show (8 * (4 + (n : Int))) ≠ 0 by omega)
  have h2 := Int.emod_lt_of_pos z (show (0 : Int) < 8 * (4 + (n : Int)) by omega)
  refine ⟨(z % (8 * (4 + (n : Int)))).toNat, by omega, ?_⟩
  rw [IntWalk.wrap64_in _ (by omega)]
  omega
theorem xor_bit8 (v : UInt8) (m : Nat) (hm : m < 8) : bits .xor .u8 (v.toNat : Int) ((2 : Int) ^ m % 256) = ((v ^^^ Crc.bit8 m).toNat : Int) := by
  have h8 : ∀ m : Fin 8, ((2 : Int) ^ m.val % 256) = (((Crc.bit8 m.val).toNat : Nat) : Int) := by decide
  have e := h8 ⟨m, hm⟩
  rw [e, u8_xor_nat _ _ v.toNat_lt (Crc.bit8 m).toNat_lt]
  simp
theorem bit8_ne (v : UInt8) (m : Nat) (hm : m < 8) : v ≠ v ^^^ Crc.bit8 m := by
  intro e
  have h8 : ∀ m : Fin 8, Crc.bit8 m.val ≠ 0 := by decide
  apply h8 ⟨m, hm⟩
  have : v ^^^ v = v ^^^ (v ^^^ Crc.bit8 m) := by rw [← e]
  rw [← UInt8.xor_assoc, UInt8.xor_self, UInt8.zero_xor] at this
  exact this.symm

theorem turned_none (p : List UInt8) (hp : p.length ≤ 1048576) (h i : Nat) (hh : h = (Fr.enc (2 * p.length)).length) (hi : i < 4 + p.length) (v c : UInt8) (hv : (Fr.one p)[h + i]? = some v) (hc : v ≠ c) : Fr.openF ((Fr.one p).set (h + i) c) = none := by
  have hl : (Fr.le4 (Fr.sum p) ++ p).length = 4 + p.length := by simp [Fr.le4_len]
  have hv2 : (Fr.le4 (Fr.sum p) ++ p)[i]? = some v := by
    unfold Fr.one at hv
    rw [hh, List.getElem?_append_right (by omega)] at hv
    simpa using hv
  have hv3 : (Fr.le4 (Fr.sum p) ++ p)[i]'(by omega) = v := by
    rw [List.getElem?_eq_getElem (by omega)] at hv2
    injection hv2
  have hset : (Fr.one p).set (h + i) c = Fr.enc (2 * p.length) ++ ((Fr.le4 (Fr.sum p) ++ p).take i ++ c :: (Fr.le4 (Fr.sum p) ++ p).drop (i + 1)) := by
    unfold Fr.one
    rw [hh, List.set_append_right _ _ (by omega), Nat.add_sub_cancel_left, List.set_eq_take_append_cons_drop, if_pos (by omega)]
  rw [hset]
  refine Fr.open_turned p hp _ _ v c hc ?_
  rw [← hv3, ← List.drop_eq_getElem_cons (by omega), List.take_append_drop]

set_option maxHeartbeats 1000000 in
theorem frameTurns_walk (w : World) (s : ByteArray) (hs : s.size ≤ maxLen) (bit : Int) (_hb : -9223372036854775808 ≤ bit ∧ bit ≤ 9223372036854775807) :
    Calls Try.prog 4 #[.string s, .int .i64 bit] w fun e w' => e = .returned (.bool true) ∧ Below w.heap.size w w' := by
  unfold maxLen at hs
  go_enter Try.func4, Try.ntmps4
  go_wp2_with fail
  refine (awake_any w).mono ?_
  rintro e w1 ⟨rfl, hb1⟩
  have HB1 := Lib.hid hb1
  clear hb1
  by_cases hbig : (4096 : Int) < s.size
  · go_wp2_with fail
    refine (awake_any w1).mono ?_
    rintro e w2 ⟨rfl, hb2⟩
    go_wp2
    go_ret
    exact ⟨rfl, HB1.out.trans (hb2.mono HB1.out.size)⟩
  · go_wp2_with fail
    refine (seal1 s w1 (by omega)).mono ?_
    rintro e w2 ⟨rfl, hb2⟩
    have HB2 := Lib.hid (HB1.out.trans (hb2.mono HB1.out.size))
    obtain ⟨S, hS⟩ : ∃ S : ByteArray, S = ⟨(Fr.one s.data.toList).toArray⟩ := ⟨_, rfl⟩
    obtain ⟨h, hh⟩ : ∃ h, h = (Fr.enc (2 * s.size)).length := ⟨_, rfl⟩
    have hh1 : 1 ≤ h := by rw [hh]; exact Fr.enc_pos _
    have hh9 : h ≤ 9 := by rw [hh]; exact Fr.enc_small _ (by omega)
    have hSs : S.size = h + 4 + s.size := by
      have h4 := Fr.one_len s.data.toList
      have h5 : s.data.toList.length = s.size := by simp
      rw [h5, ← hh] at h4
      rw [hS, size_list]
      omega
    rw [← hS]
    have HS := Lib.hid hS
    have HH := Lib.hid hh
    clear hS hh hb2
    have hSc : (S.size : Int) = (h : Int) + 4 + (s.size : Int) := by omega
    have hcv := Lib.run_convert_string_bytes (P := Try.prog) w2 9 31 5 S Try.underlying9 Try.underlying31 Try.underlying5
    obtain ⟨K, hK, eK⟩ := turn_place4 bit h s.size (by omega)
    have EK := Lib.hid eK
    clear eK
    go_wp2_with fail
    simp only [EK.out]
    have hb0 := (HB2.out).trans ((below_conv w2 5 S).mono HB2.out.size)
    have hby := bytes_conv w2 5 S
    obtain ⟨W, hW⟩ : ∃ W, W = Lib.bytesWorld w2 5 S := ⟨_, rfl⟩
    obtain ⟨C, hC⟩ : ∃ C, C = grownCap w2 (h + 4 + s.size) 0 5 := ⟨_, rfl⟩
    obtain ⟨g, hg⟩ : ∃ g, g = w2.heap.size := ⟨_, rfl⟩
    rw [← hC, ← hW, ← hg]
    rw [← hW] at hb0
    rw [← hW, ← hg] at hby
    have hgw : w.heap.size ≤ g := by rw [hg]; exact HB2.out.size
    have hj : h + K / 8 < S.data.toList.length := by simp; omega
    have hcell := hby.cell _ hj
    have hfree := hby.free _ hj
    obtain ⟨v, hv⟩ : ∃ v, v = S.data.toList[h + K / 8] := ⟨_, rfl⟩
    rw [← hv] at hcell
    have HV := Lib.hid hv
    have HBY := Lib.hid hby
    have HB0 := Lib.hid hb0
    have hj2 : h + K / 8 < h + 4 + s.size := by omega
    clear hW hC hg hcv EK hv hby hb0
    go_region
    have hm : K % 8 < 8 := Nat.mod_lt _ (by omega)
    rw [xor_bit8 v _ hm]
    obtain ⟨c, hc⟩ : ∃ c, c = v ^^^ Crc.bit8 (K % 8) := ⟨_, rfl⟩
    rw [← hc]
    have hne : v ≠ c := by rw [hc]; exact bit8_ne v _ hm
    have hby2 := ((HBY.out.set _ hj c).drew)
    obtain ⟨L, hL⟩ : ∃ L, L = S.data.toList.set (h + K / 8) c := ⟨_, rfl⟩
    rw [← hL] at hby2
    have hLl : L.length = h + 4 + s.size := by rw [hL, List.length_set]; simp; omega
    have hcv := hby2.text (P := Try.prog) 31 5 9 Try.underlying31 Try.underlying5 Try.underlying9 C
    rw [hLl] at hcv
    have hnone : Fr.openF L = none := by
      have hSl : S.data.toList = Fr.one s.data.toList := by rw [HS.out]
      rw [hL, hSl]
      refine turned_none s.data.toList (by simp; omega) h (K / 8) (by rw [HH.out]; simp) (by simp; omega) v c ?_ hne
      rw [← hSl, List.getElem?_eq_getElem hj, ← HV.out]
    obtain ⟨W2, hW2⟩ : ∃ W2, W2 = (W.setCell ⟨g, h + K / 8, none⟩ (.int .u8 (c.toNat : Int))).drew := ⟨_, rfl⟩
    have hb2 : Below w.heap.size w W2 := by rw [hW2]; exact (HB0.out.setCell (by simpa using hgw) _).drew
    rw [← hW2] at hcv ⊢
    have hop := open_any ⟨L.toArray⟩ W2 (by rw [size_list]; omega)
    have HOP := Lib.hid hop
    have HNO := Lib.hid hnone
    have HB9 := Lib.hid hb2
    clear hby2 hL hnone hW2 hb2 hop hc hne hcell hfree
    go_wp2_with fail
    refine (HOP.out).mono ?_
    rintro e w5 ⟨h5, hb5⟩
    unfold Opened at h5
    rw [show (⟨L.toArray⟩ : ByteArray).data.toList = L from rfl, HNO.out] at h5
    subst h5
    go_wp2
    go_ret
    exact ⟨rfl, HB9.out.trans (hb5.mono HB9.out.size)⟩
end Go.Proofs.Ytehhhclpeefnmaa
