/-
  THE WALK OF FrameOpens.
-/
import Derived.Test.YtehhhclpeefnmaaFrRscan
import Derived.Test.YtehhhclpeefnmaaFrBehind
namespace Go.Proofs.Ytehhhclpeefnmaa
open Go.RowKit

set_option maxRecDepth 100000 in
set_option maxHeartbeats 2000000 in
theorem frameOpens_walk (w : World) (s : ByteArray) (hs : s.size ≤ maxLen) :
    Calls Try.prog 6 #[.string s] w fun e w' => e = .returned (.bool true) ∧ Below w.heap.size w w' := by
  unfold maxLen at hs
  go_enter Try.func6, Try.ntmps6
  go_wp2_with fail
  refine (awake_any w).mono ?_
  rintro e w1 ⟨rfl, hb1⟩
  have HB1 := Lib.hid hb1
  clear hb1
  by_cases hbig : (8192 : Int) < s.size
  · go_wp2_with fail
    refine (awake_any w1).mono ?_
    rintro e w2 ⟨rfl, hb2⟩
    go_wp2
    go_ret
    exact ⟨rfl, HB1.out.trans (hb2.mono HB1.out.size)⟩
  · go_wp2_with fail
    refine (open_any s w1 (by omega)).mono ?_
    rintro e w2 ⟨hop, hb2⟩
    have HB2 := Lib.hid (HB1.out.trans (hb2.mono HB1.out.size))
    clear hb2
    have hro := ropen_any s w2 (by omega)
    have HRO := Lib.hid hro
    clear hro
    unfold Opened at hop
    cases ho : Fr.openF s.data.toList with
    | none =>
      rw [ho] at hop
      subst hop
      have HO := Lib.hid ho
      clear ho
      go_wp2_with fail
      refine (HRO.out).mono ?_
      rintro e w4 ⟨hop, hb4⟩
      have HB4 := Lib.hid (HB2.out.trans (hb4.mono HB2.out.size))
      clear hb4
      unfold ROpened at hop
      rw [HO.out] at hop
      subst hop
      go_wp2_with fail
      refine (scan_any s w4 (by omega)).mono ?_
      rintro e w5 ⟨⟨A1, n1, c1, tt, rfl, hnc1, hc1, htt, hr1, _⟩, hb5⟩
      obtain ⟨R, hR⟩ : ∃ R, R = (Fr.scan s.data.toList).2.length := ⟨_, rfl⟩
      rw [← hR]
      have hRb : R ≤ s.size := by rw [hR]; exact Nat.le_trans (scan_rest _) (by simp)
      have HRR := Lib.hid hR
      have HTT := Lib.hid htt
      have HR1 := Lib.hid hr1
      have HB5 := Lib.hid (HB4.out.trans (hb5.mono HB4.out.size))
      clear hR htt hr1
      go_wp2_with fail
      refine (rscan_any s w5 (by omega)).mono ?_
      rintro e w6 ⟨⟨A2, n2, c2, uu, rfl, hnc2, hc2, huu, hr2, _⟩, hb6⟩
      rw [← HRR.out]
      obtain rfl : uu = tt := bytes_inj (huu.trans HTT.out.symm)
      obtain rfl : n2 = n1 := by
        have h1 := HR1.out.1
        have h2 := hr2.1
        omega
      have hx1 := (HR1.out.below hb6).more hb6.size
      have HX1 := Lib.hid hx1
      have HX2 := Lib.hid hr2
      have HB6 := Lib.hid (HB5.out.trans (hb6.mono HB5.out.size))
      clear huu hr2 hb6 hx1 hb5
      unfold maxLen at hc1 hc2
      go_wp2_with fail
      refine (same_any A1 A2 n2 c1 c2 uu w6 HX1.out HX2.out (by unfold maxLen; omega)).mono ?_
      rintro e w7 ⟨rfl, hb7⟩
      have HB7 := Lib.hid (HB6.out.trans (hb7.mono HB6.out.size))
      clear hb7
      go_wp2
      go_ret
      exact ⟨rfl, HB7.out⟩
    | some pt =>
      obtain ⟨p, t⟩ := pt
      rw [ho] at hop
      subst hop
      have HO := Lib.hid ho
      clear ho
      obtain ⟨x, hx⟩ : ∃ x : ByteArray, x = ⟨p.toArray⟩ := ⟨_, rfl⟩
      obtain ⟨y, hy⟩ : ∃ y : ByteArray, y = ⟨t.toArray⟩ := ⟨_, rfl⟩
      rw [← hx, ← hy]
      have HX := Lib.hid hx
      have HY := Lib.hid hy
      clear hx hy
      go_wp2_with fail
      refine (HRO.out).mono ?_
      rintro e w4 ⟨hop, hb4⟩
      have HB4 := Lib.hid (HB2.out.trans (hb4.mono HB2.out.size))
      clear hb4
      unfold ROpened at hop
      rw [HO.out] at hop
      simp only at hop
      rw [← HX.out, ← HY.out] at hop
      subst hop
      go_wp2_with fail
      refine (scan_any s w4 (by omega)).mono ?_
      rintro e w5 ⟨⟨A1, n1, c1, tt, rfl, hnc1, hc1, htt, hr1, _⟩, hb5⟩
      obtain ⟨R, hR⟩ : ∃ R, R = (Fr.scan s.data.toList).2.length := ⟨_, rfl⟩
      rw [← hR]
      have hRb : R ≤ s.size := by rw [hR]; exact Nat.le_trans (scan_rest _) (by simp)
      have HRR := Lib.hid hR
      have HTT := Lib.hid htt
      have HR1 := Lib.hid hr1
      have HB5 := Lib.hid (HB4.out.trans (hb5.mono HB4.out.size))
      clear hR htt hr1
      go_wp2_with fail
      refine (rscan_any s w5 (by omega)).mono ?_
      rintro e w6 ⟨⟨A2, n2, c2, uu, rfl, hnc2, hc2, huu, hr2, _⟩, hb6⟩
      rw [← HRR.out]
      obtain rfl : uu = tt := bytes_inj (huu.trans HTT.out.symm)
      obtain rfl : n2 = n1 := by
        have h1 := HR1.out.1
        have h2 := hr2.1
        omega
      have hx1 := (HR1.out.below hb6).more hb6.size
      have HX1 := Lib.hid hx1
      have HX2 := Lib.hid hr2
      have HB6 := Lib.hid (HB5.out.trans (hb6.mono HB5.out.size))
      clear huu hr2 hb6 hx1 hb5
      unfold maxLen at hc1 hc2
      go_wp2_with fail
      refine (same_any A1 A2 n2 c1 c2 uu w6 HX1.out HX2.out (by unfold maxLen; omega)).mono ?_
      rintro e w7 ⟨rfl, hb7⟩
      have HB7 := Lib.hid (HB6.out.trans (hb7.mono HB6.out.size))
      clear hb7
      go_wp2
      go_ret
      exact ⟨rfl, HB7.out⟩
end Go.Proofs.Ytehhhclpeefnmaa
