/-
  THE WALK OF THE REFERENCE's One: where it says yes, the epochs of both lists never fall.
-/
import Derived.Test.YtbbmdiagfcidiaaSeamNev
namespace Go.Proofs.Ytbbmdiagfcidiaa
open Go.RowKit

/-- what One says: no; or yes, and then no epoch falls -/
def OneP (a b : List Int) (w : World) (e : Ending) (w' : World) : Prop := ∃ r : Bool, e = .returned (.bool r) ∧ (r = true → Seam.Rising a ∧ Seam.Rising b) ∧ Drew w w'
/-- the last epoch so far -/
def lastOf (l : List Int) (j : Nat) : Int := if j = 0 then 1 else l.getD (j - 1) 0

set_option maxRecDepth 100000 in
set_option maxHeartbeats 3200000 in
theorem one_any (w : World) (A : Option Addr) (n c : Nat) (l : List Int) (h : Reads w w.heap.size 1 A n (intV .i64 l)) (hn : n ≤ 300)
    (B : Option Addr) (m d : Nat) (k : List Int) (hk : Reads w w.heap.size 1 B m (intV .i64 k)) (hm : m ≤ 300) :
    Calls Try.prog 15 #[.slice A n c, .slice B m d] w (OneP l k w) := by
  have hr1 : ∀ W, Drew w W → Reads W W.heap.size 1 A n (intV .i64 l) := fun W hW => (h.below (hW.below _)).more (hW.below 0).size
  have hk1 : ∀ W, Drew w W → Reads W W.heap.size 1 B m (intV .i64 k) := fun W hW => (hk.below (hW.below _)).more (hW.below 0).size
  have HR1 := Lib.hid hr1
  have HK1 := Lib.hid hk1
  have HLN := Lib.hid (ints_len h)
  have HKM := Lib.hid (ints_len hk)
  clear h hk hr1 hk1
  go_enter Try.func15, Try.ntmps15
  go_wp2_with fail
  go_loopw [4, 6, 7, 8, 14] (fun f _ _ _ i wr => ∃ q : Nat, q ≤ 2 ∧ i = .int .i64 q ∧ f = .bool false ∧ Drew w wr ∧ (1 ≤ q → Steps l n) ∧ (2 ≤ q → Steps k m)) (fun _ _ _ _ i _ => 2 - (intOf i).toNat)
  case atStart => exact ⟨0, by omega, rfl, rfl, Drew.refl _, fun h => absurd h (by omega), fun h => absurd h (by omega)⟩
  case round =>
    obtain ⟨q, hq, rfl, rfl, hbw, hs1, hs2⟩ := hrel
    have HBW := Lib.hid hbw
    have HS1 := Lib.hid hs1
    have HS2 := Lib.hid hs2
    clear hbw hs1 hs2
    by_cases hq2 : q < 2
    · obtain ⟨Al, nl, cl, ll, hidx, hrl, hll, hnl, hq0, hq1⟩ : ∃ (Al : Option Addr) (nl cl : Nat) (ll : List Int),
          (∀ W, (Instr.index 35 (.agg #[.slice A n c, .slice B m d]) (.int .i64 (q : Int))).run Try.prog W = .ok (.slice Al nl cl) W) ∧ (∀ W, Drew w W → Reads W W.heap.size 1 Al nl (intV .i64 ll)) ∧ ll.length = nl ∧ nl ≤ 300 ∧ (q = 0 → Steps ll nl → Steps l n) ∧ (q = 1 → Steps ll nl → Steps k m) := by
        match q, hq2 with
        | 0, _ => exact ⟨A, n, c, l, fun W => by kernel_rfl, HR1.out, HLN.out, by omega, fun _ h => h, fun h => by cases h⟩
        | 1, _ => exact ⟨B, m, d, k, fun W => by kernel_rfl, HK1.out, HKM.out, by omega, (fun h => by cases h), fun _ h => h⟩
      have HRL := Lib.hid hrl
      have HLL := Lib.hid hll
      have HQ0 := Lib.hid hq0
      have HQ1 := Lib.hid hq1
      clear hrl hll hq0 hq1
      have dq : decide ((q : Int) < 2) = true := by simp; omega
      go_wp2
      obtain ⟨wo, hwo⟩ : ∃ wo : World, wo = wr := ⟨_, rfl⟩
      subst hwo
      go_loopw [4, 7, 8] (fun f t i wr => ∃ j : Nat, j ≤ nl ∧ i = .int .i64 j ∧ f = .bool false ∧ t = .int .i64 (lastOf ll j) ∧ Drew w wr ∧ Steps ll j) (fun _ _ i _ => nl - (intOf i).toNat)
      case atStart => exact ⟨0, by omega, rfl, rfl, rfl, HBW.out, fun j h1 h2 => absurd h1 (by omega)⟩
      case round =>
        obtain ⟨j, hj, rfl, rfl, rfl, hbw, hst⟩ := hrel
        have HBW2 := Lib.hid hbw
        have HST := Lib.hid hst
        clear hbw hst
        obtain ⟨t, ht⟩ : ∃ t, t = lastOf ll j := ⟨_, rfl⟩
        rw [← ht]
        have HTT := Lib.hid ht
        clear ht
        by_cases hjn : j < nl
        · obtain ⟨ad, hA, hx⟩ := int_at (HRL.out wr HBW2.out) hjn
          subst hA
          obtain ⟨x, hxe⟩ : ∃ x, x = ll.getD j 0 := ⟨_, rfl⟩
          rw [← hxe] at hx
          have HXE := Lib.hid hxe
          clear hxe
          by_cases hxt : x < t
          · go_wp2
            go_ret
            exact ⟨_, rfl, (fun h => by cases h), HBW2.out⟩
          · go_wp2
            go_roundw
            case rel =>
              refine ⟨j + 1, by omega, by go_num, rfl, by rw [HXE.out]; simp [lastOf], HBW2.out, fun i h1 h2 => ?_⟩
              by_cases hij : i = j
              · subst hij
                have h3 := HXE.out
                have h4 := HTT.out
                unfold lastOf at h4
                rw [if_neg (by omega)] at h4
                omega
              · exact HST.out i h1 (by omega)
            case measure => simp [intOf]; omega
        · have hfin : Steps ll nl := fun i h1 h2 => HST.out i h1 (by omega)
          have HF := Lib.hid hfin
          clear hfin
          go_wp2
          go_roundw
          case rel =>
            refine ⟨q + 1, by omega, by go_num, rfl, HBW2.out, fun _ => ?_, fun h2 => ?_⟩
            · by_cases hq0 : q = 0
              · exact HQ0.out hq0 HF.out
              · exact HS1.out (by omega)
            · exact HQ1.out (by omega) HF.out
          case measure => simp [intOf]; omega
    · obtain rfl : q = 2 := by omega
      have hrm : Seam.Rising l := rising_of (by rw [HLN.out]; exact HS1.out (by omega))
      have hrk : Seam.Rising k := rising_of (by rw [HKM.out]; exact HS2.out (by omega))
      have HRM := Lib.hid hrm
      have HRK := Lib.hid hrk
      clear hrm hrk
      go_wp2
      go_loopw [4, 9] (fun f i wr => ∃ j : Nat, j ≤ n ∧ i = .int .i64 j ∧ f = .bool false ∧ Drew w wr) (fun _ i _ => n - (intOf i).toNat)
      case atStart => exact ⟨0, by omega, rfl, rfl, HBW.out⟩
      case round =>
        obtain ⟨j, hj, rfl, rfl, hbw⟩ := hrel
        have HBW3 := Lib.hid hbw
        clear hbw
        by_cases hjn : j < n
        · have dj : decide (j < n) = true := by simp; omega
          by_cases hjm : j < m
          · have dm : decide (j < m) = true := by simp; omega
            obtain ⟨ad1, hA1, hx1⟩ := int_at (HR1.out _ HBW3.out) hjn
            obtain ⟨ad2, hA2, hx2⟩ := int_at (HK1.out _ HBW3.out) hjm
            subst hA1
            subst hA2
            obtain ⟨x1, hx1e⟩ : ∃ x1, x1 = l.getD j 0 := ⟨_, rfl⟩
            obtain ⟨x2, hx2e⟩ : ∃ x2, x2 = k.getD j 0 := ⟨_, rfl⟩
            rw [← hx1e] at hx1
            rw [← hx2e] at hx2
            clear hx1e hx2e
            by_cases hxx : x1 = x2
            · have hb : (x1 == x2) = true := by simpa using hxx
              clear hxx
              go_wp2_with fail
              go_quiet (fail)
              go_wp2
              obtain ⟨wo, hwo⟩ : ∃ wo : World, wo = wr.drewN nq := ⟨_, rfl⟩
              have hwo2 : Drew w wo := by rw [hwo]; exact HBW3.out.drewN _
              rw [← hwo]
              have HWO := Lib.hid hwo2
              clear hwo hwo2 hx1 hx2
              go_loopw [4, 10] (fun f i wr => ∃ p : Nat, p ≤ j ∧ i = .int .i64 p ∧ f = .bool false ∧ Drew w wr) (fun _ i _ => j - (intOf i).toNat)
              case atStart => exact ⟨0, by omega, rfl, rfl, HWO.out⟩
              case round =>
                obtain ⟨p, hp, rfl, rfl, hbw⟩ := hrel
                have HBW4 := Lib.hid hbw
                clear hbw
                by_cases hpj : p < j
                · obtain ⟨ad3, hA3, hx3⟩ := int_at (HR1.out _ HBW4.out) (show p < n by omega)
                  obtain ⟨ad4, hA4, hx4⟩ := int_at (HK1.out _ HBW4.out) (show p < m by omega)
                  injection hA3 with hA3
                  injection hA4 with hA4
                  subst hA3
                  subst hA4
                  obtain ⟨x3, hx3e⟩ : ∃ x3, x3 = l.getD p 0 := ⟨_, rfl⟩
                  obtain ⟨x4, hx4e⟩ : ∃ x4, x4 = k.getD p 0 := ⟨_, rfl⟩
                  rw [← hx3e] at hx3
                  rw [← hx4e] at hx4
                  clear hx3e hx4e
                  have hpn : p < n := by omega
                  have hpm : p < m := by omega
                  cases hb2 : (x3 != x4)
                  · go_wp2_with fail
                    go_quiet (fail)
                    go_wp2
                    go_roundw
                    case rel => exact ⟨p + 1, by omega, by go_num, rfl, HBW4.out.drewN _⟩
                    case measure => simp [intOf]; omega
                  · go_wp2_with fail
                    go_quiet (fail)
                    go_wp2
                    go_ret
                    exact ⟨_, rfl, (fun h => by cases h), HBW4.out.drewN _⟩
                · go_wp2
                  go_roundw
                  case rel => exact ⟨j + 1, by omega, by go_num, rfl, HBW4.out⟩
                  case measure => simp [intOf]; omega
            · have hb : (x1 == x2) = false := by simpa using hxx
              clear hxx
              go_wp2_with fail
              go_quiet (fail)
              go_wp2
              go_roundw
              case rel => exact ⟨j + 1, by omega, by go_num, rfl, HBW3.out.drewN _⟩
              case measure => simp [intOf]; omega
          · have dm : decide (j < m) = false := by simp; omega
            go_wp2
            go_ret
            exact ⟨_, rfl, fun _ => ⟨HRM.out, HRK.out⟩, HBW3.out⟩
        · have dj : decide (j < n) = false := by simp; omega
          go_wp2
          go_ret
          exact ⟨_, rfl, fun _ => ⟨HRM.out, HRK.out⟩, HBW3.out⟩

end Go.Proofs.Ytbbmdiagfcidiaa
