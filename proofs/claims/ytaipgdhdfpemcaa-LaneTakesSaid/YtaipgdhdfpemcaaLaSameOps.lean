/-
  THE WALKS OF THE LANE: the reference's comparison of lists of operations.
-/
import Derived.Test.YtaipgdhdfpemcaaLaSame
namespace Go.Proofs.Ytaipgdhdfpemcaa
open Go.RowKit

def SopV (ad ad' : Addr) (n c c' k : Nat) (o o' : Array Value) : Nat → Value → World → Prop
  | 0, v, _ => v = .slice (some ad) n c
  | 1, v, _ => v = .int .i64 k
  | 2, v, _ => v = .pointer (some (ad.add (k * 9)))
  | 3, v, _ => v = .agg o
  | 4, v, _ => v = .slice (some ad') n c'
  | 5, v, _ => v = .int .i64 k
  | 6, v, _ => v = .pointer (some (ad'.add (k * 9)))
  | 7, v, _ => v = .agg o'
  | 8, v, _ => v = .bool true
  | 9, v, _ => v = .bool false
  | _, _, _ => True

set_option maxRecDepth 100000 in
set_option maxHeartbeats 4000000 in
theorem sameOps_any {A A' : Option Addr} {n n' c c' : Nat} {xs : List OpC} {S S' : Nat → Prop} (w : World) (h : OpsIs w S A n c xs) (h' : OpsIs w S' A' n' c' xs) (hn : n ≤ 140737488351232) (hok : ∀ o ∈ xs, o.hs.length ≤ 140737488351232) :
    Calls Try.prog 21 #[.slice A n c, .slice A' n' c'] w fun e w' => e = .returned (.bool true) ∧ Below w.heap.size w w' := by
  obtain rfl : n = n' := by rw [← h.len, ← h'.len]
  have HR := Lib.hid h
  have HR' := Lib.hid h'
  have HO := Lib.hid hok
  clear h h' hok
  go_enter Try.func21, Try.ntmps21
  go_wp2_with fail
  go_loopw [5] (fun i wr => ∃ k : Nat, k ≤ n ∧ i = .int .i64 k ∧ Below w.heap.size w wr) (fun i _ => n - (intOf i).toNat)
  case atStart => exact ⟨0, by omega, rfl, Below.refl _ _⟩
  case round =>
    obtain ⟨k, hk, rfl, hb⟩ := hrel
    have HB := Lib.hid hb
    clear hb
    rcases Nat.lt_or_ge k n with hk1 | hk1
    · obtain ⟨ad, o, hA, hn1, hc1, rfl, hab, hck, hop, hss⟩ := (HR.out.below HB.out).at_ hk1
      obtain ⟨ad', o', hA', hn', hc', rfl, hab', hck', hop', hss'⟩ := (HR'.out.below HB.out).at_ hk1
      rw [hck] at hck'
      injection hck' with hck'
      subst hck'
      have hz : hn1 ≤ 140737488351232 := by rw [← hss.len]; exact HO.out o (List.mem_of_getElem? hck)
      obtain ⟨x1, x2, x3, x4, x5, x6, x7, x8, x9⟩ := o
      simp only [OpC.at_] at hop hop' hss hss'
      have HP := Lib.hid hop
      have HP' := Lib.hid hop'
      have HS := Lib.hid hss
      have HS' := Lib.hid hss'
      have HAB := Lib.hid hab
      have HAB' := Lib.hid hab'
      clear hck hop hop' hss hss' hab hab'
      have b1 : (0 : Int) ≤ (k : Int) := by omega
      have b2 : (k : Int) < (n : Int) := by omega
      go_wp2_with fail
      refine wp_region_yields (by kernel_rfl) (SopV ad ad' n c c' k #[.int .i64 x1, .int .i64 x2, .int .i64 x3, .int .i64 x4, .int .i64 x5, .int .i64 x6, .string x7, .int .i64 x8, .slice hA hn1 hc1] #[.int .i64 x1, .int .i64 x2, .int .i64 x3, .int .i64 x4, .int .i64 x5, .int .i64 x6, .string x7, .int .i64 x8, .slice hA' hn' hc']) (fun W => Below wr.heap.size wr W) (fun W W' => Below W.heap.size W W') (by kernel_rfl) ?hG ?hmono ?hstep ?hend
      case hG => exact (Below.refl _ _).drew
      case hmono =>
        intro i v W W' _ hv
        match i with
        | 0 | 1 | 2 | 3 | 4 | 5 | 6 | 7 | 8 | 9 => exact hv
        | i + 10 => exact hv
      case hstep =>
        intro i o F U W ho hGW hat hoff hp
        have hrefl := fun W : World => Below.refl W.heap.size W
        match i with
        | 0 =>
          injection (show some _ = some o from ho) with ho
          subst ho
          exact wp_move' (.tmp 0) rfl ⟨_, rfl, (hoff 0 (of_decide_eq_true (by kernel_rfl))).trans rfl, hGW, hrefl W⟩
        | 1 =>
          injection (show some _ = some o from ho) with ho
          subst ho
          exact wp_move' (.tmp 5) rfl ⟨_, rfl, (hoff 5 (of_decide_eq_true (by kernel_rfl))).trans rfl, hGW, hrefl W⟩
        | 2 =>
          injection (show some _ = some o from ho) with ho
          subst ho
          have hv0 : SopV ad ad' n c c' k #[.int .i64 x1, .int .i64 x2, .int .i64 x3, .int .i64 x4, .int .i64 x5, .int .i64 x6, .string x7, .int .i64 x8, .slice hA hn1 hc1] #[.int .i64 x1, .int .i64 x2, .int .i64 x3, .int .i64 x4, .int .i64 x5, .int .i64 x6, .string x7, .int .i64 x8, .slice hA' hn' hc'] 0 (U 0) W := hp ⟨0, .data⟩ (by simp) rfl
          have ht0 := act_tmp (hat 0 17 (of_decide_eq_true (by kernel_rfl)) rfl)
          have hv1 : SopV ad ad' n c c' k #[.int .i64 x1, .int .i64 x2, .int .i64 x3, .int .i64 x4, .int .i64 x5, .int .i64 x6, .string x7, .int .i64 x8, .slice hA hn1 hc1] #[.int .i64 x1, .int .i64 x2, .int .i64 x3, .int .i64 x4, .int .i64 x5, .int .i64 x6, .string x7, .int .i64 x8, .slice hA' hn' hc'] 1 (U 1) W := hp ⟨1, .data⟩ (by simp) rfl
          have ht1 := act_tmp (hat 1 18 (of_decide_eq_true (by kernel_rfl)) rfl)
          clear hat hoff hp
          rw [hv0] at ht0
          rw [hv1] at ht1
          exact wp_value' (.pointer (some (ad.add (k * 9)))) W (by unfold execOp; go_simp) ⟨_, rfl, rfl, hGW, hrefl W⟩
        | 3 =>
          injection (show some _ = some o from ho) with ho
          subst ho
          have hv2 : SopV ad ad' n c c' k #[.int .i64 x1, .int .i64 x2, .int .i64 x3, .int .i64 x4, .int .i64 x5, .int .i64 x6, .string x7, .int .i64 x8, .slice hA hn1 hc1] #[.int .i64 x1, .int .i64 x2, .int .i64 x3, .int .i64 x4, .int .i64 x5, .int .i64 x6, .string x7, .int .i64 x8, .slice hA' hn' hc'] 2 (U 2) W := hp ⟨2, .data⟩ (by simp) rfl
          have ht2 := act_tmp (hat 2 19 (of_decide_eq_true (by kernel_rfl)) rfl)
          clear hat hoff hp
          rw [hv2] at ht2
          obtain ⟨k0, k1, k2, k3, k4, k5, k6, k7, k8⟩ := HP.out.below hGW HAB.out
          exact wp_value' (.agg #[.int .i64 x1, .int .i64 x2, .int .i64 x3, .int .i64 x4, .int .i64 x5, .int .i64 x6, .string x7, .int .i64 x8, .slice hA hn1 hc1]) W (by unfold execOp; go_simp) ⟨_, rfl, rfl, hGW, hrefl W⟩
        | 4 =>
          injection (show some _ = some o from ho) with ho
          subst ho
          exact wp_move' (.tmp 1) rfl ⟨_, rfl, (hoff 1 (of_decide_eq_true (by kernel_rfl))).trans rfl, hGW, hrefl W⟩
        | 5 =>
          injection (show some _ = some o from ho) with ho
          subst ho
          exact wp_move' (.tmp 5) rfl ⟨_, rfl, (hoff 5 (of_decide_eq_true (by kernel_rfl))).trans rfl, hGW, hrefl W⟩
        | 6 =>
          injection (show some _ = some o from ho) with ho
          subst ho
          have hv4 : SopV ad ad' n c c' k #[.int .i64 x1, .int .i64 x2, .int .i64 x3, .int .i64 x4, .int .i64 x5, .int .i64 x6, .string x7, .int .i64 x8, .slice hA hn1 hc1] #[.int .i64 x1, .int .i64 x2, .int .i64 x3, .int .i64 x4, .int .i64 x5, .int .i64 x6, .string x7, .int .i64 x8, .slice hA' hn' hc'] 4 (U 4) W := hp ⟨4, .data⟩ (by simp) rfl
          have ht4 := act_tmp (hat 4 21 (of_decide_eq_true (by kernel_rfl)) rfl)
          have hv5 : SopV ad ad' n c c' k #[.int .i64 x1, .int .i64 x2, .int .i64 x3, .int .i64 x4, .int .i64 x5, .int .i64 x6, .string x7, .int .i64 x8, .slice hA hn1 hc1] #[.int .i64 x1, .int .i64 x2, .int .i64 x3, .int .i64 x4, .int .i64 x5, .int .i64 x6, .string x7, .int .i64 x8, .slice hA' hn' hc'] 5 (U 5) W := hp ⟨5, .data⟩ (by simp) rfl
          have ht5 := act_tmp (hat 5 22 (of_decide_eq_true (by kernel_rfl)) rfl)
          clear hat hoff hp
          rw [hv4] at ht4
          rw [hv5] at ht5
          exact wp_value' (.pointer (some (ad'.add (k * 9)))) W (by unfold execOp; go_simp) ⟨_, rfl, rfl, hGW, hrefl W⟩
        | 7 =>
          injection (show some _ = some o from ho) with ho
          subst ho
          have hv6 : SopV ad ad' n c c' k #[.int .i64 x1, .int .i64 x2, .int .i64 x3, .int .i64 x4, .int .i64 x5, .int .i64 x6, .string x7, .int .i64 x8, .slice hA hn1 hc1] #[.int .i64 x1, .int .i64 x2, .int .i64 x3, .int .i64 x4, .int .i64 x5, .int .i64 x6, .string x7, .int .i64 x8, .slice hA' hn' hc'] 6 (U 6) W := hp ⟨6, .data⟩ (by simp) rfl
          have ht6 := act_tmp (hat 6 23 (of_decide_eq_true (by kernel_rfl)) rfl)
          clear hat hoff hp
          rw [hv6] at ht6
          obtain ⟨k0, k1, k2, k3, k4, k5, k6, k7, k8⟩ := HP'.out.below hGW HAB'.out
          exact wp_value' (.agg #[.int .i64 x1, .int .i64 x2, .int .i64 x3, .int .i64 x4, .int .i64 x5, .int .i64 x6, .string x7, .int .i64 x8, .slice hA' hn' hc']) W (by unfold execOp; go_simp) ⟨_, rfl, rfl, hGW, hrefl W⟩
        | 8 =>
          injection (show some _ = some o from ho) with ho
          subst ho
          have hv3 : SopV ad ad' n c c' k #[.int .i64 x1, .int .i64 x2, .int .i64 x3, .int .i64 x4, .int .i64 x5, .int .i64 x6, .string x7, .int .i64 x8, .slice hA hn1 hc1] #[.int .i64 x1, .int .i64 x2, .int .i64 x3, .int .i64 x4, .int .i64 x5, .int .i64 x6, .string x7, .int .i64 x8, .slice hA' hn' hc'] 3 (U 3) W := hp ⟨3, .data⟩ (by simp) rfl
          have ht3 := act_tmp (hat 3 20 (of_decide_eq_true (by kernel_rfl)) rfl)
          have hv7 : SopV ad ad' n c c' k #[.int .i64 x1, .int .i64 x2, .int .i64 x3, .int .i64 x4, .int .i64 x5, .int .i64 x6, .string x7, .int .i64 x8, .slice hA hn1 hc1] #[.int .i64 x1, .int .i64 x2, .int .i64 x3, .int .i64 x4, .int .i64 x5, .int .i64 x6, .string x7, .int .i64 x8, .slice hA' hn' hc'] 7 (U 7) W := hp ⟨7, .data⟩ (by simp) rfl
          have ht7 := act_tmp (hat 7 24 (of_decide_eq_true (by kernel_rfl)) rfl)
          clear hat hoff hp
          rw [hv3] at ht3
          rw [hv7] at ht7
          refine wp_enter' 71 #[.agg #[.int .i64 x1, .int .i64 x2, .int .i64 x3, .int .i64 x4, .int .i64 x5, .int .i64 x6, .string x7, .int .i64 x8, .slice hA hn1 hc1], .agg #[.int .i64 x1, .int .i64 x2, .int .i64 x3, .int .i64 x4, .int .i64 x5, .int .i64 x6, .string x7, .int .i64 x8, .slice hA' hn' hc']] (by unfold execOp; go_simp) ?_
          refine (sameOp_any ⟨x1, x2, x3, x4, x5, x6, x7, x8, x9⟩ W (HS.out.below hGW) (HS'.out.below hGW) hz).mono ?_
          rintro e W' ⟨rfl, hb⟩
          exact ⟨_, rfl, _, rfl, rfl, hGW.trans (hb.mono hGW.size), hb⟩
        | 9 =>
          injection (show some _ = some o from ho) with ho
          subst ho
          have hv8 : SopV ad ad' n c c' k #[.int .i64 x1, .int .i64 x2, .int .i64 x3, .int .i64 x4, .int .i64 x5, .int .i64 x6, .string x7, .int .i64 x8, .slice hA hn1 hc1] #[.int .i64 x1, .int .i64 x2, .int .i64 x3, .int .i64 x4, .int .i64 x5, .int .i64 x6, .string x7, .int .i64 x8, .slice hA' hn' hc'] 8 (U 8) W := hp ⟨8, .data⟩ (by simp) rfl
          have ht8 := act_tmp (hat 8 25 (of_decide_eq_true (by kernel_rfl)) rfl)
          clear hat hoff hp
          rw [hv8] at ht8
          exact wp_value' (.bool false) W (by unfold execOp; go_simp) ⟨_, rfl, rfl, hGW, hrefl W⟩
        | i + 10 => exact absurd ho (by simp)
      case hend =>
        intro U W hGW hV
        have h9 : U 9 = .bool false := hV 9 (of_decide_eq_true (by kernel_rfl))
        have HG := Lib.hid hGW
        have HU := Lib.hid h9
        clear hV hGW h9
        simp [putU, dstAt, Act.put, HU.out]
        go_wp2
        go_roundw
        case rel => exact ⟨k + 1, by omega, by go_num, HB.out.trans (HG.out.mono HB.out.size)⟩
        case measure => simp [intOf]; omega
    · obtain rfl : n = k := by omega
      go_wp2
      go_ret
      exact ⟨rfl, HB.out⟩
end Go.Proofs.Ytaipgdhdfpemcaa
