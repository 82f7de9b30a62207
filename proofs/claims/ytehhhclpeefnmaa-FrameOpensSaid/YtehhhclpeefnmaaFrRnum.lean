/-
  THE WALKS OF FRAMES: the reference's reader.
-/
import Derived.Test.YtehhhclpeefnmaaFrSame
namespace Go.Proofs.Ytehhhclpeefnmaa
open Go.RowKit

/-- what the reference's reader tells, and what it holds then -/
def RNumbered (r : Nat) (s : ByteArray) (e : Ending) (w' : World) : Prop :=
  match Fr.dec s.data.toList 0 0 with
  | none => e = .returned (.int .i64 0) ∧ Blk w' r 61 #[.string s, .int .i64 0, .bool true]
  | some (z, m) => e = .returned (.int .i64 (Fr.unz z)) ∧ Blk w' r 61 #[.string s, .int .i64 m, .bool false]
theorem rnum_none {r : Nat} {s : ByteArray} {w' : World} (h : Fr.dec s.data.toList 0 0 = none) (hb : Blk w' r 61 #[.string s, .int .i64 0, .bool true]) : RNumbered r s (.returned (.int .i64 0)) w' := by
  unfold RNumbered; rw [h]; exact ⟨rfl, hb⟩
theorem rnum_some {r : Nat} {s : ByteArray} {w' : World} {z m : Nat} {v : Int} (h : Fr.dec s.data.toList 0 0 = some (z, m)) (hv : v = Fr.unz z) (hb : Blk w' r 61 #[.string s, .int .i64 m, .bool false]) : RNumbered r s (.returned (.int .i64 v)) w' := by
  subst hv
  unfold RNumbered; rw [h]; exact ⟨rfl, hb⟩

theorem belR2 {B r : Nat} (w : World) (q : Nat) (hB : B ≤ r) (i : Nat) (u : Value) : Below B w ((w.drewN q).setCell ⟨r, i, none⟩ u) := (below_drewN (Below.refl B w) q).setCell (p := ⟨r, i, none⟩) hB u

set_option maxRecDepth 100000 in
set_option maxHeartbeats 2000000 in
theorem rnum_any (B r : Nat) (s : ByteArray) (w : World) (hr : Blk w r 61 #[.string s, .int .i64 0, .bool false]) (hB : B ≤ r) (hs : s.size ≤ 1099511627776) :
    Calls Try.prog 28 #[.pointer (some ⟨r, 0, none⟩)] w fun e w' => RNumbered r s e w' ∧ Below B w w' := by
  have c2 := hr.cell 2
  simp at c2
  have HR := Lib.hid hr
  clear hr
  go_enter Try.func28, Try.ntmps28
  go_wp2_with fail
  clear c2
  go_loopw [3, 4, 5] (fun z un i wr => ∃ k a U : Nat, k ≤ 9 ∧ k ≤ s.size ∧ z = .int .u64 a ∧ un = .int .u64 U ∧ i = .int .i64 k ∧ U = 2 ^ (7 * k) ∧ a < U ∧ Fr.dec s.data.toList 0 0 = Fr.dec (s.data.toList.drop k) k a ∧ ∃ q, wr = w.drewN q) (fun _ _ i _ => s.size - (intOf i).toNat)
  case atStart => exact ⟨0, 0, 1, by omega, by omega, rfl, rfl, rfl, by simp, by simp, by simp, 0, rfl⟩
  case round =>
    obtain ⟨k, a, U, hk9, hks, rfl, rfl, rfl, hU, ha, hd, q, rfl⟩ := hrel
    have hU63 : U ≤ 9223372036854775808 := by
      rw [hU]
      have := Nat.pow_le_pow_right (n := 2) (by omega) (show 7 * k ≤ 63 by omega)
      exact Nat.le_trans this (by decide)
    have hrq := HR.out.drewN q
    have c0 : w.cell? ⟨r, 0, none⟩ = some (.string s) := by have := HR.out.cell 0; simpa using this
    have c1 : w.cell? ⟨r, 1, none⟩ = some (.int .i64 0) := by have := HR.out.cell 1; simpa using this
    have c2 : w.cell? ⟨r, 2, none⟩ = some (.bool false) := by have := HR.out.cell 2; simpa using this
    have f1 := HR.out.frozen 1
    have f2 := HR.out.frozen 2
    have HRQ := Lib.hid hrq
    have HU := Lib.hid hU
    clear hrq hU
    have h10 : decide ((k : Int) < 10) = true := decide_eq_true (by omega)
    by_cases hkn : k < s.size
    · rw [drop_byte s k hkn] at hd
      have hclt := (s[k]).toNat_lt
      obtain ⟨P, hP⟩ : ∃ P, P = s[k].toNat % 128 * U := ⟨_, rfl⟩
      have hPI : ((s[k]).toNat : Int) % 128 * (U : Int) = (P : Int) := by rw [hP, Int.natCast_mul]; rfl
      have hPl : P ≤ 127 * U := by rw [hP]; exact Nat.mul_le_mul_right _ (by omega)
      have hP0 : s[k].toNat = 0 → P = 0 := by intro e; simp [hP, e]
      have hP1 : s[k].toNat = 1 → P = U := by intro e; simp [hP, e]
      have hUs : k = 9 → U = 9223372036854775808 := by rintro rfl; rw [HU.out]
      have hU56 : k ≠ 9 → U ≤ 72057594037927936 := by
        intro h9
        rw [HU.out]
        have := Nat.pow_le_pow_right (n := 2) (by omega) (show 7 * k ≤ 56 by omega)
        exact Nat.le_trans this (by decide)
      have ha0 : k = 0 → a = 0 := by
        rintro rfl
        have := HU.out
        simp at this
        omega
      have HD := Lib.hid hd
      have HP := Lib.hid hP
      have HP0 := Lib.hid hP0
      have HP1 := Lib.hid hP1
      have HPL := Lib.hid hPl
      have HUS := Lib.hid hUs
      have HU56 := Lib.hid hU56
      clear hd hP hP0 hP1 hPl hUs hU56
      go_wp2_with fail
      go_quiet (fail)
      go_wp2_with fail
      go_quiet (fail)
      by_cases h9 : k = 9
      · subst h9
        by_cases hc1 : (1 : Int) < (s[9].toNat : Int)
        · go_wp2_with fail
          go_ret
          exact ⟨rnum_none (by rw [HD.out, Fr.dec_stop9 _ _ _ (by omega)]) (Blk.set_ (show Blk _ r _ _ from HR.out) 2 _), belR2 _ _ hB _ _⟩
        · have hU := HUS.out rfl
          have ha9 : a < 9223372036854775808 := by omega
          have hP9 : P ≤ 9223372036854775808 := by
            have h1 := HPL.out
            rcases Nat.lt_or_ge (s[9].toNat) 1 with h | h
            · rw [HP0.out (by omega)]; omega
            · rw [HP1.out (by omega)]; omega
          clear hU
          by_cases hz : s[9].toNat = 0
          · have hz2 : ((s[9].toNat : Int) == 0) = true := by rw [hz]; rfl
            go_wp2_with fail
            go_ret
            exact ⟨rnum_none (by rw [HD.out, Fr.dec_zero _ _ _ _ hz (by omega)]) (Blk.set_ (show Blk _ r _ _ from HR.out) 2 _), belR2 _ _ hB _ _⟩
          · have hz2 : ((s[9].toNat : Int) == 0) = false := by simpa using hz
            have hfin : Fr.dec s.data.toList 0 0 = some (a + P, 9 + 1) := by rw [HD.out, Fr.dec_end _ _ _ _ (fun _ => by omega) (by omega) (fun h => hz h.1), HP.out, HU.out, Fr.pow7]
            have HFIN := Lib.hid hfin
            clear hfin
            by_cases hodd : (a + P) % 2 = 1
            · have hq : (((a : Int) + (P : Int)) % 2 == 1) = true := by simp; omega
              go_wp2_with fail
              go_ret
              exact ⟨rnum_some HFIN.out (by unfold Fr.unz; rw [if_pos hodd]; omega) (Blk.set_ (show Blk _ r _ _ from HR.out) 1 _), belR2 _ _ hB _ _⟩
            · have hq : (((a : Int) + (P : Int)) % 2 == 1) = false := by simp; omega
              go_wp2_with fail
              go_ret
              exact ⟨rnum_some HFIN.out (by unfold Fr.unz; rw [if_neg hodd]; omega) (Blk.set_ (show Blk _ r _ _ from HR.out) 1 _), belR2 _ _ hB _ _⟩
      · have t9 : ((k : Int) == 9) = false := by simp; omega
        have hU := HU56.out h9
        have hPl := HPL.out
        by_cases hc : 128 ≤ s[k].toNat
        · go_wp2_with fail
          go_roundw
          case rel => exact ⟨k + 1, a + P, 128 * U, by omega, by omega, by go_num, by go_num, by go_num, by rw [HU.out, Nat.mul_add, Nat.pow_add]; omega, by omega, by rw [HD.out, Fr.dec_more _ _ _ _ (fun h => absurd h h9) hc, HP.out, HU.out, Fr.pow7], _, rfl⟩
          case measure => simp [intOf]; omega
        · by_cases hz : s[k].toNat = 0 ∧ 0 < k
          · have hz2 : ((s[k].toNat : Int) == 0) = true := by rw [hz.1]; rfl
            have hz3 : (0 : Int) < (k : Int) := by omega
            go_wp2_with fail
            go_ret
            exact ⟨rnum_none (by rw [HD.out, Fr.dec_zero _ _ _ _ hz.1 hz.2]) (Blk.set_ (show Blk _ r _ _ from HR.out) 2 _), belR2 _ _ hB _ _⟩
          · have hfin : Fr.dec s.data.toList 0 0 = some (a + P, k + 1) := by rw [HD.out, Fr.dec_end _ _ _ _ (fun h => absurd h h9) (by omega) hz, HP.out, HU.out, Fr.pow7]
            have HFIN := Lib.hid hfin
            clear hfin
            by_cases hk0 : k = 0
            · subst hk0
              obtain rfl : a = 0 := ha0 rfl
              obtain rfl : U = 1 := by have := HU.out; simpa using this
              by_cases hodd : (0 + P) % 2 = 1
              · have hq : (((0 : Int) + (P : Int)) % 2 == 1) = true := by simp; omega
                go_wp2_with fail
                go_ret
                exact ⟨rnum_some HFIN.out (by unfold Fr.unz; rw [if_pos hodd]; omega) (Blk.set_ (show Blk _ r _ _ from HR.out) 1 _), belR2 _ _ hB _ _⟩
              · have hq : (((0 : Int) + (P : Int)) % 2 == 1) = false := by simp; omega
                go_wp2_with fail
                go_ret
                exact ⟨rnum_some HFIN.out (by unfold Fr.unz; rw [if_neg hodd]; omega) (Blk.set_ (show Blk _ r _ _ from HR.out) 1 _), belR2 _ _ hB _ _⟩
            · have hk1 : (0 : Int) < (k : Int) := by omega
              have hz2 : ((s[k].toNat : Int) == 0) = false := by simp; omega
              by_cases hodd : (a + P) % 2 = 1
              · have hq : (((a : Int) + (P : Int)) % 2 == 1) = true := by simp; omega
                go_wp2_with fail
                go_ret
                exact ⟨rnum_some HFIN.out (by unfold Fr.unz; rw [if_pos hodd]; omega) (Blk.set_ (show Blk _ r _ _ from HR.out) 1 _), belR2 _ _ hB _ _⟩
              · have hq : (((a : Int) + (P : Int)) % 2 == 1) = false := by simp; omega
                go_wp2_with fail
                go_ret
                exact ⟨rnum_some HFIN.out (by unfold Fr.unz; rw [if_neg hodd]; omega) (Blk.set_ (show Blk _ r _ _ from HR.out) 1 _), belR2 _ _ hB _ _⟩
    · have hnil : s.data.toList.drop k = [] := by rw [List.drop_eq_nil_iff]; simp; omega
      rw [hnil] at hd
      have HD := Lib.hid hd
      clear hd
      go_wp2_with fail
      go_quiet (fail)
      go_wp2
      go_ret
      exact ⟨rnum_none (by rw [HD.out]; rfl) (Blk.set_ (show Blk _ r _ _ from HR.out) 2 _), belR2 _ _ hB _ _⟩
end Go.Proofs.Ytehhhclpeefnmaa
