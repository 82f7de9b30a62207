/-
  THE WALK OF SeamFinds: of two lists of one history, looking ends where they part, behind as many questions as the sender's list has epochs, and one, at most.
-/
import Derived.Test.YtbbmdiagfcidiaaSeamOne
namespace Go.Proofs.Ytbbmdiagfcidiaa
open Go.RowKit

theorem reads_alloc {W : World} {A : Option Addr} {n : Nat} {xs : List Value} (h : Reads W W.heap.size 1 A n xs) (o : Obj) : Reads (W.alloc o) (W.alloc o).heap.size 1 A n xs := (h.alloc (Nat.le_refl _) o).more (by simp)
theorem later_alloc {w W : World} (h : Later w W) (o : Obj) : Later w (W.alloc o) := Below.alloc h h.out.size o
/-- a place's box: its cells, none frozen -/
def BoxAt (w : World) (g : Nat) : Prop := Blk w g 30 #[.int .i64 0, .int .i64 0]
theorem box_all {w : World} {g : Nat} (h : BoxAt w g) : BoxAt w g ∧ w.cell? ⟨g, 0, none⟩ = some (.int .i64 0) ∧ w.cell? ⟨g, 1, none⟩ = some (.int .i64 0) ∧ w.frozen? ⟨g, 0, none⟩ = false ∧ w.frozen? ⟨g, 1, none⟩ = false :=
  ⟨h, Blk.cell h 0, Blk.cell h 1, Blk.frozen h 0, Blk.frozen h 1⟩
theorem box_new {w w' : World} (hb : Below (w.alloc (.cells #[.int .i64 0, .int .i64 0] 30)).drew.heap.size (w.alloc (.cells #[.int .i64 0, .int .i64 0] 30)).drew w') :
    BoxAt w' w.heap.size ∧ w'.cell? ⟨w.heap.size, 0, none⟩ = some (.int .i64 0) ∧ w'.cell? ⟨w.heap.size, 1, none⟩ = some (.int .i64 0) ∧ w'.frozen? ⟨w.heap.size, 0, none⟩ = false ∧ w'.frozen? ⟨w.heap.size, 1, none⟩ = false :=
  box_all ((Blk.new w _ _).drew.below hb (by simp))
theorem box_new' {w w' : World} (hb : Below (w.alloc (.cells #[.int .i64 0, .int .i64 0] 30)).heap.size (w.alloc (.cells #[.int .i64 0, .int .i64 0] 30)) w') :
    BoxAt w' w.heap.size ∧ w'.cell? ⟨w.heap.size, 0, none⟩ = some (.int .i64 0) ∧ w'.cell? ⟨w.heap.size, 1, none⟩ = some (.int .i64 0) ∧ w'.frozen? ⟨w.heap.size, 0, none⟩ = false ∧ w'.frozen? ⟨w.heap.size, 1, none⟩ = false :=
  box_all ((Blk.new w _ _).below hb (by simp))
theorem box_keep {w w' : World} {g : Nat} (h : BoxAt w g) (hb : Below w.heap.size w w') :
    BoxAt w' g ∧ w'.cell? ⟨g, 0, none⟩ = some (.int .i64 0) ∧ w'.cell? ⟨g, 1, none⟩ = some (.int .i64 0) ∧ w'.frozen? ⟨g, 0, none⟩ = false ∧ w'.frozen? ⟨g, 1, none⟩ = false :=
  box_all (Blk.below h hb h.lt)
theorem box_use {w : World} {g : Nat} {C : Prop} (h : BoxAt w g ∧ w.cell? ⟨g, 0, none⟩ = some (.int .i64 0) ∧ w.cell? ⟨g, 1, none⟩ = some (.int .i64 0) ∧ w.frozen? ⟨g, 0, none⟩ = false ∧ w.frozen? ⟨g, 1, none⟩ = false)
    (k : BoxAt w g → w.cell? ⟨g, 0, none⟩ = some (.int .i64 0) → w.cell? ⟨g, 1, none⟩ = some (.int .i64 0) → w.frozen? ⟨g, 0, none⟩ = false → w.frozen? ⟨g, 1, none⟩ = false → C) : C := k h.1 h.2.1 h.2.2.1 h.2.2.2.1 h.2.2.2.2
theorem box_sets {w : World} {g : Nat} {u v : Value} (p q : Value) (h0 : w.cell? ⟨g, 0, none⟩ = some u) (h1 : w.cell? ⟨g, 1, none⟩ = some v) :
    ((w.setCell ⟨g, 0, none⟩ p).setCell ⟨g, 1, none⟩ q).cell? ⟨g, 0, none⟩ = some p ∧ ((w.setCell ⟨g, 0, none⟩ p).setCell ⟨g, 1, none⟩ q).cell? ⟨g, 1, none⟩ = some q := by
  refine ⟨?_, ?_⟩
  · rw [World.cell?_setCell_other _ _ _ _ (by simp), World.cell?_setCell_same _ _ _ h0]
  · rw [World.cell?_setCell_same (u := v)]
    rw [World.cell?_setCell_other _ _ _ _ (by simp)]
    exact h1
theorem later_sets {w W : World} (h : Later w W) {g : Nat} (hg : w.heap.size ≤ g) (p q : Value) : Later w ((W.setCell ⟨g, 0, none⟩ p).setCell ⟨g, 1, none⟩ q) :=
  (Below.setCell h (p := ⟨g, 0, none⟩) hg p).setCell (p := ⟨g, 1, none⟩) hg q
theorem box_made (w : World) (p q : Value) : (w.alloc (.cells #[p, q] 30)).cell? ⟨w.heap.size, 0, none⟩ = some p ∧ (w.alloc (.cells #[p, q] 30)).cell? ⟨w.heap.size, 1, none⟩ = some q :=
  ⟨(Blk.new w _ _).cell 0, (Blk.new w _ _).cell 1⟩
theorem keep_cell {W W' : World} (hb : Below W.heap.size W W') {a : Addr} {v : Value} (h : W.cell? a = some v) : W'.cell? a = some v := (hb.cell (block_lt h)).trans h
theorem commonL_two (l k : List Int) : commonL [l, k] = Seam.common l k := by
  unfold commonL Seam.common
  refine Seam.lastUp_congr _ _ _ fun j h1 h2 => ?_
  simp [allB, Seam.atB]
  have : j ≤ l.length := h2
  simp [this]

set_option maxHeartbeats 400000 in
/-- the reference's Common of two lists that lie in a new block -/
theorem refCommon_two (A : Option Addr) (n c : Nat) (l : List Int) (B : Option Addr) (m d : Nat) (k : List Int) (w : World) (g : Nat) (hb : Blk w g 23 #[.slice A n c, .slice B m d])
    (h : Reads w w.heap.size 1 A n (intV .i64 l)) (hk : Reads w w.heap.size 1 B m (intV .i64 k)) (hn : n ≤ 300) (hm : m ≤ 300) :
    Calls Try.prog 10 #[.slice (some ⟨g, 0, none⟩) 2 2] w fun e w' => e = .returned (.int .i64 (Seam.common l k)) ∧ Drew w w' := by
  rw [← commonL_two]
  refine refCommon_any _ 2 2 [l, k] w ⟨rfl, fun i hi => ?_⟩ (by omega)
  match i, hi with
  | 0, _ => exact ⟨_, A, n, c, rfl, hb.lt, hb.cell 0, h, by omega⟩
  | 1, _ => exact ⟨_, B, m, d, rfl, hb.lt, hb.cell 1, hk, by omega⟩

set_option maxRecDepth 100000 in
set_option maxHeartbeats 3200000 in
theorem seamFinds_walk (w : World) (A : Option Addr) (n c : Nat) (l : List Int) (h : Reads w w.heap.size 1 A n (intV .i64 l)) (hn : n ≤ maxLen) (_hl : ∀ x ∈ l, (Lit.int .i64 x).wf = true)
    (B : Option Addr) (m d : Nat) (k : List Int) (hk : Reads w w.heap.size 1 B m (intV .i64 k)) (hm : m ≤ maxLen) (_hkw : ∀ x ∈ k, (Lit.int .i64 x).wf = true) :
    Calls Try.prog 5 #[.slice A n c, .slice B m d] w fun e w' => e = .returned (.bool true) ∧ Below w.heap.size w w' := by
  have HR := Lib.hid h
  have HK := Lib.hid hk
  have HLN := Lib.hid (ints_len h)
  have HKM := Lib.hid (ints_len hk)
  clear h hk
  unfold maxLen at hn hm
  by_cases g1 : (300 : Int) < n
  · have d1 : decide ((300 : Int) < n) = true := by simpa using g1
    go_enter Try.func5, Try.ntmps5
    go_wp2_with fail
    refine (awake_any _).mono ?_
    rintro e w1 ⟨rfl, hb1⟩
    go_wp2_with fail
    refine (awake_any _).mono ?_
    rintro e w2 ⟨rfl, hb2⟩
    go_wp2
    go_ret
    exact ⟨rfl, hb1.trans (hb2.mono hb1.size)⟩
  by_cases g2 : (300 : Int) < m
  · have d1 : decide ((300 : Int) < n) = false := by simpa using g1
    have d2 : decide ((300 : Int) < m) = true := by simpa using g2
    go_enter Try.func5, Try.ntmps5
    go_wp2_with fail
    refine (awake_any _).mono ?_
    rintro e w1 ⟨rfl, hb1⟩
    go_wp2_with fail
    refine (awake_any _).mono ?_
    rintro e w2 ⟨rfl, hb2⟩
    go_wp2
    go_ret
    exact ⟨rfl, hb1.trans (hb2.mono hb1.size)⟩
  have d1 : decide ((300 : Int) < n) = false := by simpa using g1
  have d2 : decide ((300 : Int) < m) = false := by simpa using g2
  have hr1 : ∀ W, Below w.heap.size w W → Reads W W.heap.size 1 A n (intV .i64 l) := fun W hW => (HR.out.below hW).more hW.size
  have hk1 : ∀ W, Below w.heap.size w W → Reads W W.heap.size 1 B m (intV .i64 k) := fun W hW => (HK.out.below hW).more hW.size
  have HR1 := Lib.hid hr1
  have HK1 := Lib.hid hk1
  clear hr1 hk1
  go_enter Try.func5, Try.ntmps5
  go_wp2_with fail
  refine (awake_any _).mono ?_
  rintro e w1 ⟨rfl, hb1⟩
  have HB1 := Lib.hid hb1
  clear hb1
  go_wp2_with fail
  refine (one_any w1 A n c l (HR1.out w1 HB1.out) (by omega) B m d k (HK1.out w1 HB1.out) (by omega)).mono ?_
  rintro e w2 ⟨r, rfl, hri, hd2⟩
  have hb2 : Below w.heap.size w w2 := HB1.out.trans (hd2.below _)
  have HB2 := Lib.hid hb2
  have HRI := Lib.hid hri
  clear hb2 hd2 hri
  cases r
  · go_wp2_with fail
    refine (awake_any _).mono ?_
    rintro e w3 ⟨rfl, hb3⟩
    have hb4 := HB2.out.trans (hb3.mono HB2.out.size)
    have HB4 := Lib.hid hb4
    clear hb3 hb4
    go_wp2
    go_ret
    exact ⟨rfl, HB4.out⟩
  · obtain ⟨hrm, hrk⟩ := HRI.out rfl
    have HRM := Lib.hid hrm
    have HRK := Lib.hid hrk
    clear hrm hrk HRI
    go_wp2_with fail
    go_loopw [5, 31] (fun v i wr => ∃ j : Nat, j ≤ n ∧ i = .int .i64 j ∧ v = .int .i64 ((Seam.runs l j : Int) + 1) ∧ Seam.runs l j ≤ j ∧ Below w.heap.size w wr) (fun _ i _ => n - (intOf i).toNat)
    case atStart => exact ⟨0, by omega, rfl, rfl, by simp [Seam.runs], HB2.out⟩
    case round =>
      obtain ⟨j, hj, rfl, rfl, hrj, hbw⟩ := hrel
      have HBW := Lib.hid hbw
      have hsucc := Seam.runs_succ l j
      have HSC := Lib.hid hsucc
      obtain ⟨R, hR⟩ : ∃ R, R = Seam.runs l j := ⟨_, rfl⟩
      rw [← hR] at hrj ⊢
      have HRR := Lib.hid hR
      clear hbw hsucc hR
      by_cases hjn : j < n
      · rcases Nat.eq_zero_or_pos j with hz | hp
        · subst hz
          have hs : Seam.runs l (0 + 1) = R + 1 := by rw [HSC.out, if_pos (Or.inl rfl), HRR.out]
          have HS := Lib.hid hs
          clear hs
          go_wp2_with fail
          go_quiet (fail)
          go_wp2
          go_roundw
          case rel => exact ⟨1, by omega, by go_num, by rw [HS.out]; go_num, by rw [HS.out]; omega, below_drewN HBW.out _⟩
          case measure => simp [intOf]; omega
        · have hjz : ((j : Int) == 0) = false := by simp; omega
          obtain ⟨ad, hA, hx⟩ := int_at (HR1.out _ HBW.out) hjn
          obtain ⟨ad', hA', hy⟩ := int_at (HR1.out _ HBW.out) (show j - 1 < n by omega)
          rw [hA] at hA'
          injection hA' with hA'
          subst hA'
          subst hA
          obtain ⟨x, hxe⟩ : ∃ x, x = l.getD j 0 := ⟨_, rfl⟩
          obtain ⟨y, hye⟩ : ∃ y, y = l.getD (j - 1) 0 := ⟨_, rfl⟩
          rw [← hxe] at hx
          rw [← hye] at hy
          have HXE := Lib.hid hxe
          have HYE := Lib.hid hye
          clear hxe hye
          by_cases hxy : x = y
          · have hb : (x != y) = false := by simp [hxy]
            have hs : Seam.runs l (j + 1) = R := by
              rw [HSC.out, if_neg (by rintro (h | h); · omega
                                      · exact h (by rw [← HXE.out, ← HYE.out]; exact hxy)), HRR.out]
            have HS := Lib.hid hs
            clear hs hxy
            go_wp2_with fail
            go_quiet (fail)
            go_wp2
            go_roundw
            case rel => exact ⟨j + 1, by omega, by go_num, by rw [HS.out], by rw [HS.out]; omega, below_drewN HBW.out _⟩
            case measure => simp [intOf]; omega
          · have hb : (x != y) = true := by rw [bne_iff_ne]; exact hxy
            have hs : Seam.runs l (j + 1) = R + 1 := by
              rw [HSC.out, if_pos (Or.inr (by rw [← HXE.out, ← HYE.out]; exact hxy)), HRR.out]
            have HS := Lib.hid hs
            clear hs hxy
            go_wp2_with fail
            go_quiet (fail)
            go_wp2
            go_roundw
            case rel => exact ⟨j + 1, by omega, by go_num, by rw [HS.out]; go_num, by rw [HS.out]; omega, below_drewN HBW.out _⟩
            case measure => simp [intOf]; omega
      · obtain rfl : n = j := by omega
        have hRn : R ≤ 300 := by omega
        clear HSC
        go_wp2_with fail
        go_loopw [4, 7, 54] (fun f v i wr => ∃ t N : Nat, t ≤ R + 1 ∧ i = .int .i64 t ∧ v = .int .i64 N ∧ f = .bool false ∧ N ≤ n ∧ Seam.common l k ≤ N ∧ (t + Seam.runs l N ≤ R ∨ (Seam.stopB l k N = true ∧ t ≤ R)) ∧ Below w.heap.size w wr) (fun _ _ i _ => R + 1 - (intOf i).toNat)
        case atStart =>
          refine ⟨0, n, by omega, rfl, rfl, rfl, Nat.le_refl _, ?_, Or.inl (by rw [← HRR.out]; omega), HBW.out⟩
          have := Seam.common_le l k
          rw [HLN.out] at this
          exact this
        case round =>
          obtain ⟨t, N, ht, rfl, rfl, rfl, hNn, hcN, hinv, hbw2⟩ := hrel
          have HINV := Lib.hid hinv
          have HCN := Lib.hid hcN
          have HBW2 := Lib.hid hbw2
          clear hinv hcN hbw2
          by_cases htR : t < R + 1
          · have dt : decide ((t : Int) < (R : Int) + 1) = true := by simp; omega
            go_upto_region 13 with fail
            go_cut [76] (fun s76 wx => s76 = .bool (Seam.stopB l k N) ∧ Drew wr wx)
            case first =>
              rcases Nat.eq_zero_or_pos N with hz | hp
              · subst hz
                have hs : Seam.stopB l k 0 = true := by simp [Seam.stopB]
                have HS := Lib.hid hs
                clear hs
                go_quiet (fail)
                go_wp2_with fail
                go_meet
                exact ⟨by rw [HS.out], (Drew.refl _).drewN _⟩
              · have hNz : ((N : Int) == 0) = false := by simp; omega
                have hNz' : ¬ N = 0 := by omega
                by_cases hNm : N ≤ m
                · have dN : decide (N ≤ m) = true := by simpa using hNm
                  obtain ⟨ad1, hA1, hx1⟩ := int_at (HR1.out _ HBW2.out) (show N - 1 < n by omega)
                  obtain ⟨ad2, hA2, hx2⟩ := int_at (HK1.out _ HBW2.out) (show N - 1 < m by omega)
                  subst hA1
                  subst hA2
                  obtain ⟨x1, hx1e⟩ : ∃ x1, x1 = l.getD (N - 1) 0 := ⟨_, rfl⟩
                  obtain ⟨x2, hx2e⟩ : ∃ x2, x2 = k.getD (N - 1) 0 := ⟨_, rfl⟩
                  rw [← hx1e] at hx1
                  rw [← hx2e] at hx2
                  have hs : Seam.stopB l k N = (x2 == x1) := by
                    unfold Seam.stopB
                    rw [hx1e, hx2e, HKM.out]
                    simp only [hNz', hNm, decide_false, decide_true, Bool.false_or, Bool.true_and]
                  have HS := Lib.hid hs
                  clear hs hx1e hx2e
                  go_quiet (fail)
                  go_wp2_with fail
                  go_meet
                  exact ⟨by rw [HS.out], (Drew.refl _).drewN _⟩
                · have dN : decide (N ≤ m) = false := by simpa using hNm
                  have hs : Seam.stopB l k N = false := by
                    unfold Seam.stopB
                    rw [HKM.out]
                    simp only [hNz', hNm, decide_false, Bool.false_or, Bool.false_and]
                  have HS := Lib.hid hs
                  clear hs
                  go_quiet (fail)
                  go_wp2_with fail
                  go_meet
                  exact ⟨by rw [HS.out], (Drew.refl _).drewN _⟩
            case rest =>
            obtain ⟨rfl, hdw⟩ := hcut
            obtain ⟨wq, rfl⟩ : ∃ wq : World, wq = wc := ⟨_, rfl⟩
            have hbw3 : Below w.heap.size w wq := HBW2.out.trans (hdw.below _)
            have HBW3 := Lib.hid hbw3
            clear hbw3 hdw
            cases hst : Seam.stopB l k N
            · have hN0 : 0 < N := by
                rcases Nat.eq_zero_or_pos N with hz | hp
                · subst hz; simp [Seam.stopB] at hst
                · exact hp
              obtain ⟨hlk1, hlk2, hlk3⟩ := Seam.look l k HRM.out HRK.out N (by rw [HLN.out]; exact hNn) hst HCN.out
              have hrun : t + Seam.runs l N ≤ R := by
                rcases HINV.out with h | h
                · exact h
                · rw [hst] at h; exact absurd h.1 (by simp)
              have hrp := Seam.runs_pos l N hN0
              obtain ⟨ad, hA, hx⟩ := int_at (HR1.out _ HBW3.out) (show N - 1 < n by omega)
              subst hA
              obtain ⟨x, hxe⟩ : ∃ x, x = l.getD (N - 1) 0 := ⟨_, rfl⟩
              rw [← hxe] at hx
              obtain ⟨P, hP⟩ : ∃ P, P = Seam.hintN k N x := ⟨_, rfl⟩
              obtain ⟨X, hX⟩ : ∃ X, X = Seam.ep k P := ⟨_, rfl⟩
              obtain ⟨q, hq⟩ : ∃ q, q = Seam.upTo l P X := ⟨_, rfl⟩
              have hqn : Seam.nextOf l k N = q := by rw [hq, hX, hP, hxe]; rfl
              rw [hqn] at hlk1 hlk2 hlk3
              have hPm : P ≤ m := by rw [hP, ← HKM.out]; exact (Seam.hintN_lt _ _ _ hN0).2
              have hinv2 : t + 1 + Seam.runs l q ≤ R ∨ (Seam.stopB l k q = true ∧ t + 1 ≤ R) := by
                rcases hlk3 with h | h
                · left; omega
                · right; exact ⟨h, by omega⟩
              have HINV2 := Lib.hid hinv2
              have HLK2 := Lib.hid hlk2
              have HXC := Lib.hid hx
              have HO2 : ∀ W, Later wq W → Calls Try.prog 8 #[.slice B m d] W fun x w' => ∃ g c', x = .returned (.slice (some ⟨g, 0, none⟩) m c') ∧ Reads w' w'.heap.size 1 (some ⟨g, 0, none⟩) m (intV .i64 k) ∧ Later wq w' ∧ Below W.heap.size W w' := fun W hW =>
                (own_any _ m d k W (HK1.out W (HBW3.out.trans (hW.out.mono HBW3.out.size))) (by omega)).mono fun x w' ⟨g, c', hx, _, _, _, hr, hb⟩ => ⟨g, c', hx, hr, hW.step hb, hb⟩
              have HH : ∀ W g c', Reads W W.heap.size 1 (some ⟨g, 0, none⟩) m (intV .i64 k) → Later wq W → Calls Try.prog 11 #[.slice (some ⟨g, 0, none⟩) m c', .int .i64 N, .int .i64 x] W fun x w' => x = .returned (.agg #[.int .i64 P, .int .i64 X]) ∧ Later wq w' ∧ Below W.heap.size W w' := fun W g c' hr hW =>
                (hint_any _ m c' k W hr (by unfold maxLen; omega) N x (by omega)).mono fun x w' ⟨hx, hb⟩ => ⟨by rw [hx, hX, hP]; rfl, hW.step hb, hb⟩
              have HOM : ∀ W, Below w.heap.size w W → Calls Try.prog 8 #[.slice (some ad) n c] W fun x w' => ∃ g c', x = .returned (.slice (some ⟨g, 0, none⟩) n c') ∧ Reads w' w'.heap.size 1 (some ⟨g, 0, none⟩) n (intV .i64 l) ∧ Below w.heap.size w w' ∧ Below W.heap.size W w' := fun W hW =>
                (own_any _ n c l W (HR1.out W hW) (by omega)).mono fun x w' ⟨g, c', hx, _, _, _, hr, hb⟩ => ⟨g, c', hx, hr, hW.trans (hb.mono hW.size), hb⟩
              have HXN : ∀ W g c', Reads W W.heap.size 1 (some ⟨g, 0, none⟩) n (intV .i64 l) → Below w.heap.size w W → Calls Try.prog 13 #[.slice (some ⟨g, 0, none⟩) n c', .agg #[.int .i64 P, .int .i64 X]] W fun x w' => x = .returned (.int .i64 q) ∧ Below w.heap.size w w' := fun W g c' hr hW =>
                (next_any _ n c' l W hr (by unfold maxLen; omega) P X (by omega)).mono fun x w' ⟨hx, hb⟩ => ⟨by rw [hx, hq], hW.trans (hb.mono hW.size)⟩
              have hL0 : Later wq wq.drew := (Below.refl _ _).drew
              have hL1 : ∀ o, Later wq (wq.alloc o).drew := fun o => ((Below.refl _ _).alloc (Nat.le_refl _) o).drew
              have HO2' := Lib.hid HO2
              have HH' := Lib.hid HH
              have HOM' := Lib.hid HOM
              have HXN' := Lib.hid HXN
              clear HO2 HH HOM HXN hxe hX hP hq hqn hst hlk2 hlk3 hrun hrp hinv2
              have z1 : IntKind.i64.wrap ((N : Int) - 1) = (N : Int) - 1 := IntWalk.i64_in _ (by omega)
              have z4 : ((N : Int) - 1).toNat = N - 1 := by omega
              have z2 : (0 : Int) ≤ (N : Int) - 1 := by omega
              have z3 : (N : Int) - 1 < n := by omega
              have hx1 : ∀ o, (wq.alloc o).cell? (ad.add (N - 1)) = some (.int .i64 x) := fun o => (hL1 o).cell HXC.out
              go_wp2_with fail
              go_cut [8] (fun s8 wx => ∃ g, s8 = .pointer (some ⟨g, 0, none⟩) ∧ wx.cell? ⟨g, 0, none⟩ = some (.int .i64 P) ∧ wx.cell? ⟨g, 1, none⟩ = some (.int .i64 X) ∧ Later wq wx)
              case first =>
                go_region_with (first
                  | (go_at_call 8; (with_reducible refine (HO2'.out _ (by first | assumption | exact hL1 _)).mono ?_); rintro e wb ⟨g2, c2, rfl, hr2, hlb, hbb⟩; have k0 := hlb.cell HXC.out; have hr2a := fun o => reads_alloc hr2 o; have hlba := fun o => later_alloc hlb o; have k0a := fun o => (later_alloc hlb o).cell HXC.out; (first | (refine box_use (box_new hbb) ?_; intro hbl hp0 hp1 hp2 hp3; have HBL := Lib.hid hbl; clear hbl) | skip))
                  | (go_at_call 11; (with_reducible refine (HH'.out _ _ _ (by first | assumption | exact hr2a _) (by first | assumption | exact hlba _)).mono ?_); rintro e wd ⟨rfl, hld, hbd⟩; have k0 := hld.cell HXC.out; (first | (refine box_use (box_keep HBL.out hbd) ?_; intro hbl hp0 hp1 hp2 hp3; clear hbl) | (refine box_use (box_new' hbd) ?_; intro hbl hp0 hp1 hp2 hp3; clear hbl) | skip)))
                all_goals (go_wp2_with fail; go_meet)
                all_goals first
                  | exact ⟨_, rfl, (box_made _ _ _).1, (box_made _ _ _).2, later_alloc (by assumption) _⟩
                  | exact ⟨_, rfl, (box_sets _ _ hp0 hp1).1, (box_sets _ _ hp0 hp1).2, later_sets (by assumption) hlb.out.size _ _⟩
                  | exact ⟨_, rfl, (box_sets _ _ hp0 hp1).1, (box_sets _ _ hp0 hp1).2, later_sets (by assumption) (Nat.le_refl _) _ _⟩
              case rest =>
              obtain ⟨g8, rfl, hg0, hg1, hlw⟩ := hcut
              have hbw5 : Below w.heap.size w wc := HBW3.out.trans (hlw.out.mono HBW3.out.size)
              have HBW5 := Lib.hid hbw5
              have HG0 := Lib.hid hg0
              have HG1 := Lib.hid hg1
              have hbd : Below w.heap.size w wc.drew := hbw5.drew
              clear hbw5 hlw z1 z2 z3 z4 hx hx1 hL0 hL1
              go_wp2_with fail
              go_region_with (first
                | (go_at_call 8; (with_reducible refine (HOM'.out _ (by assumption)).mono ?_); rintro e wf ⟨g3, c3, rfl, hr3, hbf, hbg⟩; have k0 := keep_cell (W := wc.drew) hbg HG0.out; have k1 := keep_cell (W := wc.drew) hbg HG1.out)
                | (go_at_call 13; (with_reducible refine (HXN'.out _ _ _ (by assumption) (by assumption)).mono ?_); rintro e wh ⟨rfl, hbh⟩))
              all_goals
                have HBH := Lib.hid hbh
                clear hbh hbf hbg hbd
                have eq1 : decide (N ≤ q) = false := by simp; omega
                have eq2 : decide ((q : Int) < 0) = false := by simp
                go_wp2
                go_roundw
                case rel => exact ⟨t + 1, q, by omega, by go_num, rfl, rfl, by omega, HLK2.out, HINV2.out, HBH.out⟩
                case measure => simp [intOf]; omega
            · have hcom : Seam.common l k = N := by
                have h1 := Seam.common_ge l k N (by rw [HLN.out]; exact hNn) hst
                have h2 := HCN.out
                omega
              have HST := Lib.hid hst
              clear hst
              have hblk := Blk.new wq 23 #[.slice A n c, .slice B m d]
              have hbw4 : Below w.heap.size w (wq.alloc (.cells #[.slice A n c, .slice B m d] 23)) := HBW3.out.alloc HBW3.out.size _
              have hcall := refCommon_two A n c l B m d k _ _ hblk (HR1.out _ hbw4) (HK1.out _ hbw4) (by omega) (by omega)
              rw [hcom] at hcall
              have HCALL := hide hcall
              have HBW4 := Lib.hid hbw4
              clear hcall hcom hblk hbw4
              go_wp2_with fail
              refine (HCALL.out).mono ?_
              rintro e w5 ⟨rfl, hd5⟩
              have hbw5 := HBW4.out.trans (hd5.below _)
              have HBW5 := Lib.hid hbw5
              clear hbw5 hd5
              go_wp2
              go_ret
              exact ⟨rfl, HBW5.out⟩
          · exfalso
            have h := HINV.out
            rcases h with h | h <;> omega

end Go.Proofs.Ytbbmdiagfcidiaa
