/-
  THE WALK OF SeamNever: looking never passes over a place that both have, wherever it begins, whatever lists whose epochs never fall these are.
-/
import Derived.Test.YtbbmdiagfcidiaaSeamHint
namespace Go.Proofs.Ytbbmdiagfcidiaa
open Go.RowKit

/-- step by step no epoch falls -/
def Steps (l : List Int) (i : Nat) : Prop := ∀ j, 1 ≤ j → j < i → l.getD (j - 1) 0 ≤ l.getD j 0
theorem rising_of {l : List Int} (h : Steps l l.length) : Seam.Rising l := by
  intro i j hij hj
  induction j with
  | zero =>
    obtain rfl : i = 0 := by omega
    exact Int.le_refl _
  | succ j ih =>
    by_cases h1 : i = j + 1
    · subst h1; exact Int.le_refl _
    · have h2 := ih (by omega) (by omega)
      have h3 := h (j + 1) (by omega) hj
      simp only [Nat.add_sub_cancel] at h3
      omega
theorem never_place (a : Int) (n : Nat) (h1 : 1 ≤ n) (hn : n ≤ 4096) : ∃ K : Nat, 1 ≤ K ∧ K ≤ n ∧ wrap64 (1 + wrap64 ((IntKind.u64.wrap a).tmod (n : Int))) = (K : Int) := by
  obtain ⟨z, hz⟩ : ∃ z, z = IntKind.u64.wrap a := ⟨_, rfl⟩
  have h0 : 0 ≤ z := by rw [hz]; exact wrap_u64_nonneg a
  rw [← hz, Int.tmod_eq_emod_of_nonneg h0]
  have h1 := Int.emod_nonneg z (show (n : Int) ≠ 0 by omega)
  have h2 := Int.emod_lt_of_pos z (show (0 : Int) < (n : Int) by omega)
  refine ⟨1 + (z % (n : Int)).toNat, by omega, by omega, ?_⟩
  rw [IntWalk.wrap64_in (z % (n : Int)) (by omega), IntWalk.wrap64_in _ (by omega)]
  omega

set_option maxRecDepth 100000 in
set_option maxHeartbeats 3200000 in
theorem seamNever_walk (w : World) (A : Option Addr) (n c : Nat) (l : List Int) (h : Reads w w.heap.size 1 A n (intV .i64 l)) (hn : n ≤ maxLen) (_hl : ∀ x ∈ l, (Lit.int .i64 x).wf = true)
    (B : Option Addr) (m d : Nat) (k : List Int) (hk : Reads w w.heap.size 1 B m (intV .i64 k)) (hm : m ≤ maxLen) (_hkw : ∀ x ∈ k, (Lit.int .i64 x).wf = true)
    (fr : Int) (_hf : -9223372036854775808 ≤ fr ∧ fr ≤ 9223372036854775807) :
    Calls Try.prog 6 #[.slice A n c, .slice B m d, .int .i64 fr] w fun e w' => e = .returned (.bool true) ∧ Below w.heap.size w w' := by
  have HR := Lib.hid h
  have HK := Lib.hid hk
  have HLN := Lib.hid (ints_len h)
  have HKM := Lib.hid (ints_len hk)
  clear h hk
  unfold maxLen at hn hm
  by_cases hg : (n : Int) < 1 ∨ (300 : Int) < n ∨ (300 : Int) < m
  · rcases hg with g1 | g1
    · go_enter Try.func6, Try.ntmps6
      go_wp2_with fail
      refine (awake_any _).mono ?_
      rintro e w1 ⟨rfl, hb1⟩
      go_wp2_with fail
      refine (awake_any _).mono ?_
      rintro e w2 ⟨rfl, hb2⟩
      go_wp2
      go_ret
      exact ⟨rfl, hb1.trans (hb2.mono hb1.size)⟩
    · rcases g1 with g1 | g1
      · have g0 : ¬ (n : Int) < 1 := by omega
        go_enter Try.func6, Try.ntmps6
        go_wp2_with fail
        refine (awake_any _).mono ?_
        rintro e w1 ⟨rfl, hb1⟩
        go_wp2_with fail
        refine (awake_any _).mono ?_
        rintro e w2 ⟨rfl, hb2⟩
        go_wp2
        go_ret
        exact ⟨rfl, hb1.trans (hb2.mono hb1.size)⟩
      · by_cases g0 : (n : Int) < 1
        · go_enter Try.func6, Try.ntmps6
          go_wp2_with fail
          refine (awake_any _).mono ?_
          rintro e w1 ⟨rfl, hb1⟩
          go_wp2_with fail
          refine (awake_any _).mono ?_
          rintro e w2 ⟨rfl, hb2⟩
          go_wp2
          go_ret
          exact ⟨rfl, hb1.trans (hb2.mono hb1.size)⟩
        · by_cases g2 : (300 : Int) < n
          all_goals
            go_enter Try.func6, Try.ntmps6
            go_wp2_with fail
            refine (awake_any _).mono ?_
            rintro e w1 ⟨rfl, hb1⟩
            go_wp2_with fail
            refine (awake_any _).mono ?_
            rintro e w2 ⟨rfl, hb2⟩
            go_wp2
            go_ret
            exact ⟨rfl, hb1.trans (hb2.mono hb1.size)⟩
  · have g1 : ¬ (n : Int) < 1 := by omega
    have g2 : ¬ (300 : Int) < n := by omega
    have g3 : ¬ (300 : Int) < m := by omega
    clear hg
    have d1 : decide ((n : Int) < 1) = false := by simpa using g1
    have d2 : decide ((300 : Int) < n) = false := by simpa using g2
    have d3 : decide ((300 : Int) < m) = false := by simpa using g3
    go_enter Try.func6, Try.ntmps6
    go_wp2_with fail
    refine (awake_any _).mono ?_
    rintro e w1 ⟨rfl, hb1⟩
    have hr1 : ∀ W, Below w.heap.size w W → Reads W W.heap.size 1 A n (intV .i64 l) := fun W hW => (HR.out.below hW).more hW.size
    have hk1 : ∀ W, Below w.heap.size w W → Reads W W.heap.size 1 B m (intV .i64 k) := fun W hW => (HK.out.below hW).more hW.size
    have HR1 := Lib.hid hr1
    have HK1 := Lib.hid hk1
    have HB1 := Lib.hid hb1
    clear hr1 hk1 hb1
    go_wp2_with fail
    go_loopw [33] (fun i wr => ∃ q : Nat, q ≤ 2 ∧ i = .int .i64 q ∧ Below w.heap.size w wr ∧ (1 ≤ q → Steps l n) ∧ (2 ≤ q → Steps k m)) (fun i _ => 2 - (intOf i).toNat)
    case atStart => exact ⟨0, by omega, rfl, HB1.out, fun h => absurd h (by omega), fun h => absurd h (by omega)⟩
    case round =>
      obtain ⟨q, hq, rfl, hbw, hs1, hs2⟩ := hrel
      have HBW := Lib.hid hbw
      have HS1 := Lib.hid hs1
      have HS2 := Lib.hid hs2
      clear hbw hs1 hs2
      by_cases hq2 : q < 2
      · obtain ⟨Al, nl, cl, ll, hidx, hrl, hll, hnl, hq0, hq1⟩ : ∃ (Al : Option Addr) (nl cl : Nat) (ll : List Int),
            (∀ W, (Instr.index 35 (.agg #[.slice A n c, .slice B m d]) (.int .i64 (q : Int))).run Try.prog W = .ok (.slice Al nl cl) W) ∧ (∀ W, Below w.heap.size w W → Reads W W.heap.size 1 Al nl (intV .i64 ll)) ∧ ll.length = nl ∧ nl ≤ 300 ∧ (q = 0 → Steps ll nl → Steps l n) ∧ (q = 1 → Steps ll nl → Steps k m) := by
          match q, hq2 with
          | 0, _ => exact ⟨A, n, c, l, fun W => by kernel_rfl, HR1.out, HLN.out, by omega, fun _ h => h, fun h => by cases h⟩
          | 1, _ => exact ⟨B, m, d, k, fun W => by kernel_rfl, HK1.out, HKM.out, by omega, (fun h => by cases h), fun _ h => h⟩
        have HRL := Lib.hid hrl
        have HLL := Lib.hid hll
        have HQ0 := Lib.hid hq0
        have HQ1 := Lib.hid hq1
        clear hrl hll hq0 hq1
        have dq : decide ((q : Int) < 2) = true := by simp; omega
        go_wp2
        obtain ⟨wo, hwo⟩ : ∃ wo : World, wo = wr := ⟨_, rfl⟩
        subst hwo
        go_loopw [6, 9] (fun _ i wr => ∃ j : Nat, 1 ≤ j ∧ (j ≤ nl ∨ j = 1) ∧ i = .int .i64 j ∧ Below w.heap.size w wr ∧ Steps ll j) (fun _ i _ => nl - (intOf i).toNat)
        case atStart => exact ⟨1, by omega, Or.inr rfl, rfl, HBW.out, fun j h1 h2 => absurd h1 (by omega)⟩
        case round =>
          obtain ⟨j, hj1, hj2, rfl, hbw, hst⟩ := hrel
          have HBW2 := Lib.hid hbw
          have HST := Lib.hid hst
          clear hbw hst
          by_cases hjn : j < nl
          · have hj301 : j ≤ 300 := by omega
            obtain ⟨ad, hA, hx⟩ := int_at (HRL.out wr HBW2.out) hjn
            obtain ⟨ad', hA', hy⟩ := int_at (HRL.out wr HBW2.out) (show j - 1 < nl by omega)
            rw [hA] at hA'
            injection hA' with hA'
            subst hA'
            subst hA
            obtain ⟨x, hxe⟩ : ∃ x, x = ll.getD j 0 := ⟨_, rfl⟩
            obtain ⟨y, hye⟩ : ∃ y, y = ll.getD (j - 1) 0 := ⟨_, rfl⟩
            rw [← hxe] at hx
            rw [← hye] at hy
            have HXE := Lib.hid hxe
            have HYE := Lib.hid hye
            clear hxe hye hj2
            by_cases hxy : x < y
            · go_wp2_with fail
              go_quiet (fail)
              go_wp2
              go_ret
              exact ⟨rfl, below_drewN HBW2.out _⟩
            · go_wp2_with fail
              go_quiet (fail)
              go_wp2
              go_roundw
              case rel =>
                refine ⟨j + 1, by omega, Or.inl (by omega), by go_num, below_drewN HBW2.out _, fun i h1 h2 => ?_⟩
                by_cases hij : i = j
                · subst hij
                  have h3 := HXE.out
                  have h4 := HYE.out
                  omega
                · exact HST.out i h1 (by omega)
              case measure => simp [intOf]; omega
          · have hfin : Steps ll nl := fun i h1 h2 => HST.out i h1 (by omega)
            have HF := Lib.hid hfin
            clear hfin
            go_wp2
            go_roundw
            case rel =>
              refine ⟨q + 1, by omega, by go_num, HBW2.out, fun _ => ?_, fun h2 => ?_⟩
              · by_cases hq0 : q = 0
                · exact HQ0.out hq0 HF.out
                · exact HS1.out (by omega)
              · exact HQ1.out (by omega) HF.out
            case measure => simp [intOf]; omega
      · obtain rfl : q = 2 := by omega
        have hrm : Seam.Rising l := rising_of (by rw [HLN.out]; exact HS1.out (by omega))
        have hrk : Seam.Rising k := rising_of (by rw [HKM.out]; exact HS2.out (by omega))
        have HRM := Lib.hid hrm
        have HRK := Lib.hid hrk
        clear hrm hrk
        obtain ⟨K, hK1, hK2, hKe⟩ := never_place fr n (by omega) (by omega)
        have HKE := Lib.hid hKe
        clear hKe
        obtain ⟨ad, hA, hx⟩ := int_at (HR1.out wr HBW.out) (show K - 1 < n by omega)
        subst hA
        obtain ⟨x, hxe⟩ : ∃ x, x = l.getD (K - 1) 0 := ⟨_, rfl⟩
        rw [← hxe] at hx
        obtain ⟨P, hP⟩ : ∃ P, P = Seam.hintN k K x := ⟨_, rfl⟩
        obtain ⟨X, hX⟩ : ∃ X, X = Seam.ep k P := ⟨_, rfl⟩
        obtain ⟨q, hq⟩ : ∃ q, q = Seam.upTo l P X := ⟨_, rfl⟩
        have hqn : q = Seam.nextOf l k K := by rw [hq, hX, hP, hxe]; rfl
        have hqK : q < K := by rw [hqn]; exact Seam.nextOf_lt _ _ _ (by omega)
        have hPm : P ≤ m := by rw [hP, ← HKM.out]; exact (Seam.hintN_lt _ _ _ (by omega)).2
        have HXC := Lib.hid hx
        have HQN := Lib.hid hqn
        have HO : ∀ W, Later wr W → Calls Try.prog 8 #[.slice (some ad) n c] W fun x w' => ∃ g c', x = .returned (.slice (some ⟨g, 0, none⟩) n c') ∧ Reads w' w'.heap.size 1 (some ⟨g, 0, none⟩) n (intV .i64 l) ∧ Later wr w' ∧ Below W.heap.size W w' := fun W hW =>
          (own_any _ n c l W (HR1.out W (HBW.out.trans (hW.out.mono HBW.out.size))) (by omega)).mono fun x w' ⟨g, c', hx, _, _, _, hr, hb⟩ => ⟨g, c', hx, hr, hW.step hb, hb⟩
        have HO2 : ∀ W, Later wr W → Calls Try.prog 8 #[.slice B m d] W fun x w' => ∃ g c', x = .returned (.slice (some ⟨g, 0, none⟩) m c') ∧ Reads w' w'.heap.size 1 (some ⟨g, 0, none⟩) m (intV .i64 k) ∧ Later wr w' ∧ Below W.heap.size W w' := fun W hW =>
          (own_any _ m d k W (HK1.out W (HBW.out.trans (hW.out.mono HBW.out.size))) (by omega)).mono fun x w' ⟨g, c', hx, _, _, _, hr, hb⟩ => ⟨g, c', hx, hr, hW.step hb, hb⟩
        have HH : ∀ W g c', Reads W W.heap.size 1 (some ⟨g, 0, none⟩) m (intV .i64 k) → Later wr W → Calls Try.prog 11 #[.slice (some ⟨g, 0, none⟩) m c', .int .i64 K, .int .i64 x] W fun x w' => x = .returned (.agg #[.int .i64 P, .int .i64 X]) ∧ Later wr w' ∧ Below W.heap.size W w' := fun W g c' hr hW =>
          (hint_any _ m c' k W hr (by unfold maxLen; omega) K x (by omega)).mono fun x w' ⟨hx, hb⟩ => ⟨by rw [hx, hX, hP]; rfl, hW.step hb, hb⟩
        have HX : ∀ W g c', Reads W W.heap.size 1 (some ⟨g, 0, none⟩) n (intV .i64 l) → Later wr W → Calls Try.prog 13 #[.slice (some ⟨g, 0, none⟩) n c', .agg #[.int .i64 P, .int .i64 X]] W fun x w' => x = .returned (.int .i64 q) ∧ Later wr w' := fun W g c' hr hW =>
          (next_any _ n c' l W hr (by unfold maxLen; omega) P X (by omega)).mono fun x w' ⟨hx, hb⟩ => ⟨by rw [hx, hq], hW.step hb⟩
        have hL0 : Later wr wr.drew := (Below.refl _ _).drew
        have HO' := Lib.hid HO
        have HO2' := Lib.hid HO2
        have HH' := Lib.hid HH
        have HX' := Lib.hid HX
        clear HO HO2 HH HX hxe hX hP hq hqn
        go_wp2_with fail
        simp only [HKE.out]
        go_cut [10] (fun s10 wx => s10 = .int .i64 q ∧ Later wr wx)
        case first =>
          have z1 : IntKind.i64.wrap ((K : Int) - 1) = (K : Int) - 1 := IntWalk.i64_in _ (by omega)
          have z4 : ((K : Int) - 1).toNat = K - 1 := by omega
          have z2 : (0 : Int) ≤ (K : Int) - 1 := by omega
          have z3 : (K : Int) - 1 < n := by omega
          go_region_with (first
            | (go_at_call_of 8 (Value.slice (some ad) n c); (with_reducible refine (HO'.out _ (by assumption)).mono ?_); rintro e wa ⟨g1, c1, rfl, hr1, hla, _⟩; have k0 := hla.cell HXC.out)
            | (go_at_call 8; (with_reducible refine (HO2'.out _ (by assumption)).mono ?_); rintro e wb ⟨g2, c2, rfl, hr2, hlb, hbb⟩; have hr1b := (hr1.below hbb).more hbb.size; have k0 := hlb.cell HXC.out)
            | (go_at_call 11; (with_reducible refine (HH'.out _ _ _ (by assumption) (by assumption)).mono ?_); rintro e wc ⟨rfl, hlc, hbc⟩; have hr1c := (hr1b.below hbc).more hbc.size; have k0 := hlc.cell HXC.out)
            | (go_at_call 13; (with_reducible refine (HX'.out _ _ _ (by assumption) (by assumption)).mono ?_); rintro e wd ⟨rfl, hld⟩; have k0 := hld.cell HXC.out))
          all_goals (go_wp2_with fail; go_meet; exact ⟨rfl, by assumption⟩)
        case rest =>
        obtain ⟨rfl, hlw⟩ := hcut
        have hbc : Below w.heap.size w wc := HBW.out.trans (hlw.out.mono HBW.out.size)
        have HBC := Lib.hid hbc
        clear hbc hlw
        go_wp2
        go_loopw [6, 11] (fun _ i wr => ∃ j : Nat, q + 1 ≤ j ∧ j ≤ K ∧ i = .int .i64 j ∧ Below w.heap.size w wr) (fun _ i _ => K - (intOf i).toNat)
        case atStart => exact ⟨q + 1, by omega, by omega, by go_num, HBC.out⟩
        case round =>
          obtain ⟨j, hj1, hj2, rfl, hbw2⟩ := hrel
          have HBW2 := Lib.hid hbw2
          clear hbw2
          by_cases hjK : j < K
          · by_cases hjm : (j : Int) ≤ m
            · have dj : decide (j ≤ m) = true := by simp; omega
              obtain ⟨ad1, hA1, hx1⟩ := int_at (HR1.out _ HBW2.out) (show j - 1 < n by omega)
              injection hA1 with hA1
              subst hA1
              obtain ⟨ad2, hA2, hx2⟩ := int_at (HK1.out _ HBW2.out) (show j - 1 < m by omega)
              subst hA2
              obtain ⟨x1, hx1e⟩ : ∃ x1, x1 = l.getD (j - 1) 0 := ⟨_, rfl⟩
              obtain ⟨x2, hx2e⟩ : ∃ x2, x2 = k.getD (j - 1) 0 := ⟨_, rfl⟩
              rw [← hx1e] at hx1
              rw [← hx2e] at hx2
              have hne : ¬ x2 = x1 := by
                intro e
                rw [hx1e, hx2e] at e
                have := Seam.never l k HRM.out HRK.out K j (by omega) hjK (by rw [HLN.out]; omega) (by rw [HKM.out]; omega) e
                rw [← HQN.out] at this
                omega
              have hne' : (x2 == x1) = false := by simpa using hne
              clear hx1e hx2e hne
              go_wp2_with fail
              go_quiet (fail)
              go_wp2
              go_roundw
              case rel => exact ⟨j + 1, by omega, by omega, by go_num, below_drewN HBW2.out _⟩
              case measure => simp [intOf]; omega
            · have dj : decide (j ≤ m) = false := by simp; omega
              go_wp2_with fail
              go_quiet (fail)
              go_wp2
              go_roundw
              case rel => (repeat apply Exists.intro); exact ⟨⟨j + 1, by omega, by omega, by go_num, below_drewN HBW2.out _⟩, rfl⟩
              case measure => simp [intOf]; omega
          · have e2 : decide (q < K) = true := by simp; omega
            go_wp2
            go_ret
            exact ⟨rfl, HBW2.out⟩

end Go.Proofs.Ytbbmdiagfcidiaa
