/-
  THE WALKS OF FRAMES: two lists of the same texts.
-/
import Derived.Test.YtehhhclpeefnmaaFrScan
namespace Go.Proofs.Ytehhhclpeefnmaa
open Go.RowKit

theorem bytes_inj {ss tt : List ByteArray} (h : bytes ss = bytes tt) : ss = tt := by
  induction ss generalizing tt with
  | nil =>
    cases tt with
    | nil => rfl
    | cons b l => simp [bytes] at h
  | cons a l ih =>
    cases tt with
    | nil => simp [bytes] at h
    | cons b m =>
      simp only [bytes, List.map_cons, List.cons.injEq] at h
      have e : a = b := by
        apply ByteArray.ext
        exact Array.ext' h.1
      rw [e, ih h.2]

set_option maxHeartbeats 1000000 in
theorem same_any (A B : Option Addr) (n c d : Nat) (ss : List ByteArray) (w : World) (h : Reads w w.heap.size 1 A n (strV ss)) (h' : Reads w w.heap.size 1 B n (strV ss)) (hn : n ≤ maxLen) :
    Calls Try.prog 17 #[.slice A n c, .slice B n d] w fun e w' => e = .returned (.bool true) ∧ Below w.heap.size w w' := by
  have hlen : ss.length = n := by have := h.1; simp [strV] at this; omega
  have HR := Lib.hid h
  have HR' := Lib.hid h'
  have HL := Lib.hid hlen
  clear h h' hlen
  unfold maxLen at hn
  go_enter Try.func17, Try.ntmps17
  go_wp2_with fail
  go_loopw [5] (fun i wr => ∃ k : Nat, k ≤ n ∧ i = .int .i64 k ∧ ∃ q, wr = w.drewN q) (fun i _ => n - (intOf i).toNat)
  case atStart => exact ⟨0, by omega, rfl, 0, rfl⟩
  case round =>
    obtain ⟨k, hk, rfl, q, rfl⟩ := hrel
    by_cases hkn : k < n
    · obtain ⟨ad, u, rfl, hadb, hu, hcl⟩ := HR.out.at_ hkn
      obtain ⟨ad', u', rfl, hadb', hu', hcl'⟩ := HR'.out.at_ hkn
      have hks : k < ss.length := by rw [HL.out]; exact hkn
      rw [strV_at ss k hks] at hu hu'
      injection hu with hu
      injection hu' with hu'
      subst hu
      subst hu'
      obtain ⟨s, hs⟩ : ∃ s, s = ss[k] := ⟨_, rfl⟩
      rw [← hs] at hcl hcl'
      clear hs
      have hc1 : (w.drewN q).cell? (ad.add k) = some (.string s) := hcl
      have hc2 : (w.drewN q).cell? (ad'.add k) = some (.string s) := hcl'
      go_wp2_with fail
      go_quiet (fail)
      go_wp2
      go_round
      case rel => exact ⟨k + 1, by omega, by go_num, _, rfl⟩
      case measure => simp [intOf]; omega
    · obtain rfl : n = k := by omega
      go_wp2
      go_ret
      exact ⟨rfl, below_drewN (Below.refl _ _) q⟩
end Go.Proofs.Ytehhhclpeefnmaa
