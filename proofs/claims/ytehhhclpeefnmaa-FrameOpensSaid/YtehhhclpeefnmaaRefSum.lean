/-
  THE WALK OF THE REFERENCE's SUM.
-/
import Derived.Test.YtehhhclpeefnmaaCrcWalk
import Derived.Test.YtehhhclpeefnmaaApp
import Derived.Deep.QuietTactic
import Derived.BigQuiet
import Derived.Deep.RegionHeld3
namespace Go.Proofs.Ytehhhclpeefnmaa
open Go.RowKit

theorem refNot (s : BitVec 32) : ((4294967295 : Int) - (s.toNat : Int)) = ((~~~ s).toNat : Int) := by
  rw [BitVec.toNat_not]
  have := u32_lt s
  omega

set_option maxHeartbeats 400000 in
theorem refMore_any (s : BitVec 32) (x : ByteArray) (w : World) (hx : x.size ≤ maxLen) :
    Calls Try.prog 38 #[.int .u32 s.toNat, .string x] w fun e w' => e = .returned (.int .u32 (Crc.more s x.data.toList).toNat) ∧ w = w' := by
  unfold maxLen at hx
  have hs := u32_lt s
  go_enter Try.func38, Try.ntmps38
  go_wp2
  go_loop [5, 6] (fun r i => ∃ j : Nat, j ≤ x.size ∧ i = .int .i64 j ∧ r = .int .u32 (Crc.run (~~~ s) (x.data.toList.take j)).toNat) (fun _ i => x.size - (intOf i).toNat)
  case atStart => exact ⟨0, Nat.zero_le _, rfl, by rw [refNot]; rfl⟩
  case round =>
    obtain ⟨j, hj, rfl, rfl⟩ := hrel
    obtain ⟨Q, hQ⟩ : ∃ Q, Q = Crc.run (~~~ s) (x.data.toList.take j) := ⟨_, rfl⟩
    rw [← hQ]
    have hq := u32_lt Q
    have HQ := Lib.hid hQ
    clear hQ
    by_cases hjt : j < x.size
    · go_wp2_with (go_at_call 39; refine (refTaken_any _ _ _).mono ?_; rintro e w' ⟨rfl, rfl⟩)
      go_round
      case rel => exact ⟨j + 1, by omega, by go_num, by rw [run_take _ x j hjt, ← HQ.out]⟩
      case measure => simp [intOf]; omega
    · go_wp2
      go_ret
      exact ⟨ret_int (by rw [refNot, HQ.out, List.take_of_length_le (by simp; omega)]; rfl), rfl⟩

set_option maxHeartbeats 400000 in
theorem refSum_any (x : ByteArray) (w : World) (hx : x.size ≤ maxLen) :
    Calls Try.prog 32 #[.string x] w fun e w' => e = .returned (.int .u32 (Crc.more 0#32 x.data.toList).toNat) ∧ w = w' := by
  have H := hide (refMore_any 0#32 x w hx)
  clear hx
  go_enter Try.func32, Try.ntmps32
  go_wp2_with (go_at_call 38; refine (H.out).mono ?_; rintro e w' ⟨rfl, rfl⟩)
  go_ret
  exact ⟨rfl, rfl⟩

end Go.Proofs.Ytehhhclpeefnmaa
