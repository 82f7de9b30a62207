/-
  THE WALKS OF THE LANE: Meet answers, in what is asked first. (wip/meet2gen.py prints this.)
-/
import Derived.Test.YtaipgdhdfpemcaaLaMeet
import Derived.Test.YtaipgdhdfpemcaaLaAwC
import Derived.Test.YtaipgdhdfpemcaaLaStore
namespace Go.Proofs.Ytaipgdhdfpemcaa
open Go.RowKit

/-- what the operations yield that hint -/
def MeetH (b4 b6 : Nat) : Nat → Value → World → Prop
  | 0, v, _ => v = .slice none 0 0
  | 1, v, _ => ∃ ge, v = .slice (some ⟨ge, 0, none⟩) 0 0
  | 2, v, _ => v = .pointer (some ⟨b4, 11, none⟩)
  | 3, v, _ => v = .pointer (some ⟨b4, 11, none⟩)
  | 4, v, _ => v = .int .i64 2
  | 5, v, _ => v = .pointer (some ⟨b4, 11, none⟩)
  | 6, v, _ => v = .pointer (some ⟨b4, 12, none⟩)
  | 7, v, _ => v = .int .i64 1
  | 8, v, _ => v = .agg #[.int .i64 0, .int .i64 0]
  | 9, v, _ => v = .pointer (some ⟨b6, 11, none⟩)
  | 10, _, _ => True
  | _, _, _ => False

/-- what the operations yield that hand back -/
def MeetE : Nat → Value → World → Prop
  | 0, v, _ => v = .agg awAnswer
  | 1, v, _ => v = .agg noCmd
  | 2, _, _ => True
  | 3, _, _ => True
  | 4, v, _ => v = .int .i64 1
  | _, _, _ => False

set_option maxRecDepth 100000 in
set_option maxHeartbeats 8000000 in
theorem meet2 (g gp pc : Nat) (w : World) (h : LedAt w g 1) :
    Calls Try.prog 16 #[.pointer (some ⟨g, 0, none⟩), .agg (awShip ⟨gp, 0, none⟩ pc), .agg #[.int .i64 0, .int .i64 0, .slice none 0 0]] w fun x w' => (x = .returned (.tuple #[.agg awAnswer, .agg noCmd, .int .i64 1])) ∧ Below w.heap.size w w' := by
  have hg := h.lt
  have hbl : Below w.heap.size w ((((w.alloc (.cells (awShip ⟨gp, 0, none⟩ pc) 30)).alloc (.cells #[.int .i64 0, .int .i64 0, .slice none 0 0] 32)).alloc (.cells noMail 30)).alloc (.cells noCmd 47)) := ((((Below.refl _ _).alloc (Nat.le_refl _) _).alloc (by simp) _).alloc (by simp; omega) _).alloc (by simp; omega) _
  have hk4 := (((Blk.new w 30 (awShip ⟨gp, 0, none⟩ pc)).alloc (.cells #[.int .i64 0, .int .i64 0, .slice none 0 0] 32)).alloc (.cells noMail 30)).alloc (.cells noCmd 47)
  have hk6 := (Blk.new ((w.alloc (.cells (awShip ⟨gp, 0, none⟩ pc) 30)).alloc (.cells #[.int .i64 0, .int .i64 0, .slice none 0 0] 32)) 30 noMail).alloc (.cells noCmd 47)
  have hk7 := Blk.new (((w.alloc (.cells (awShip ⟨gp, 0, none⟩ pc) 30)).alloc (.cells #[.int .i64 0, .int .i64 0, .slice none 0 0] 32)).alloc (.cells noMail 30)) 47 noCmd
  have hs6 : ((w.alloc (.cells (awShip ⟨gp, 0, none⟩ pc) 30)).alloc (.cells #[.int .i64 0, .int .i64 0, .slice none 0 0] 32)).heap.size = w.heap.size + 1 + 1 := by simp
  have hs7 : (((w.alloc (.cells (awShip ⟨gp, 0, none⟩ pc) 30)).alloc (.cells #[.int .i64 0, .int .i64 0, .slice none 0 0] 32)).alloc (.cells noMail 30)).heap.size = w.heap.size + 1 + 1 + 1 := by simp
  rw [hs6] at hk6
  rw [hs7] at hk7
  have hl := h.below hbl hg
  have HBL := Lib.hid hbl
  have HK4 := Lib.hid hk4
  have HK6 := Lib.hid hk6
  have HK7 := Lib.hid hk7
  have HL := Lib.hid hl
  clear h hbl hk4 hk6 hk7 hl hs6 hs7
  go_enter Try.func16, Try.ntmps16
  go_wp2_with fail
  refine (holder_aw g 1 _ HL.out).mono ?_
  rintro x w1 ⟨rfl, hb1⟩
  have hk4 := (HK4.out.below hb1 HK4.out.lt).alloc (.cells #[.int .i64 0, .int .i64 0] 93)
  have hk6 := (HK6.out.below hb1 HK6.out.lt).alloc (.cells #[.int .i64 0, .int .i64 0] 93)
  have hk7 := (HK7.out.below hb1 HK7.out.lt).alloc (.cells #[.int .i64 0, .int .i64 0] 93)
  have hb1' := HBL.out.trans (hb1.mono HBL.out.size)
  have hbg : Below w1.heap.size w1 (w1.alloc (.cells #[.int .i64 0, .int .i64 0] 93)) := (Below.refl _ _).alloc (Nat.le_refl _) _
  have hl := (HL.out.below hb1 HL.out.lt).below hbg (HL.out.below hb1 HL.out.lt).lt
  have hkg := Blk.new w1 93 #[.int .i64 0, .int .i64 0]
  have c0 := hk4.cell 0
  have c1 := hk4.cell 1
  have c2 := hk4.cell 2
  have c3 := hk4.cell 3
  have c4 := hk4.cell 4
  have c5 := hk4.cell 5
  have c6 := hk4.cell 6
  have c7 := hk4.cell 7
  have c8 := hk4.cell 8
  have c9 := hk4.cell 9
  have c10 := hk4.cell 10
  have c11 := hk4.cell 11
  have c12 := hk4.cell 12
  have c13 := hk4.cell 13
  have c14 := hk4.cell 14
  have c15 := hk4.cell 15
  have c16 := hk4.cell 16
  simp at c0 c1 c2 c3 c4 c5 c6 c7 c8 c9 c10 c11 c12 c13 c14 c15 c16
  have HB1 := Lib.hid (hb1'.trans (hbg.mono hb1'.size))
  have K4 := Lib.hid hk4
  have K6 := Lib.hid hk6
  have K7 := Lib.hid hk7
  have L := Lib.hid hl
  have KG := Lib.hid hkg
  clear hk4 hk6 hk7 hb1' hbg hl hb1 hkg
  go_wp2_with fail
  refine (check9c ⟨gp, 0, none⟩ pc _).mono ?_
  rintro x w2 ⟨rfl, hb2⟩
  have hk4 := K4.out.below hb2 K4.out.lt
  have hk6 := K6.out.below hb2 K6.out.lt
  have hk7 := K7.out.below hb2 K7.out.lt
  have hl := L.out.below hb2 L.out.lt
  have hkg := KG.out.below hb2 KG.out.lt
  clear c0 c1 c2 c3 c4 c5 c6 c7 c8 c9 c10 c11 c12 c13 c14 c15 c16
  have c9 := hk4.cell 9
  have c10 := hk4.cell 10
  have e0 := hkg.cell 0
  have e1 := hkg.cell 1
  simp at c9 c10 e0 e1
  have HB2 := Lib.hid (HB1.out.trans (hb2.mono HB1.out.size))
  have K4' := Lib.hid hk4
  have K6' := Lib.hid hk6
  have K7' := Lib.hid hk7
  have L' := Lib.hid hl
  clear hk4 hk6 hk7 hl hb2 hkg
  go_wp2_with fail
  refine (fence_aw g 1 w2 L'.out).mono ?_
  rintro x w3 ⟨rfl, rfl⟩
  go_wp2_with fail
  refine (ops_aw g 1 w3 L'.out).mono ?_
  rintro x w4 ⟨rfl, rfl⟩
  go_upto_region 5 with fail
  have hbs : Below w4.heap.size w4 (w4.alloc (.cells #[.slice none 0 0] 28)) := (Below.refl _ _).alloc (Nat.le_refl _) _
  have hk6 := K6'.out.alloc (.cells #[.slice none 0 0] 28)
  have f0 := hk6.frozen 0
  have f1 := hk6.frozen 1
  have f2 := hk6.frozen 2
  have f3 := hk6.frozen 3
  have f4 := hk6.frozen 4
  have f5 := hk6.frozen 5
  have f6 := hk6.frozen 6
  have f7 := hk6.frozen 7
  have f8 := hk6.frozen 8
  have f9 := hk6.frozen 9
  have f10 := hk6.frozen 10
  have f11 := hk6.frozen 11
  have f12 := hk6.frozen 12
  have f13 := hk6.frozen 13
  have f14 := hk6.frozen 14
  have f15 := hk6.frozen 15
  have f16 := hk6.frozen 16
  have d0 := hk6.cell 0
  have d1 := hk6.cell 1
  have d2 := hk6.cell 2
  have d3 := hk6.cell 3
  have d4 := hk6.cell 4
  have d5 := hk6.cell 5
  have d6 := hk6.cell 6
  have d7 := hk6.cell 7
  have d8 := hk6.cell 8
  have d9 := hk6.cell 9
  have d10 := hk6.cell 10
  have d11 := hk6.cell 11
  have d12 := hk6.cell 12
  have d13 := hk6.cell 13
  have d14 := hk6.cell 14
  have d15 := hk6.cell 15
  have d16 := hk6.cell 16
  simp at d0 d1 d2 d3 d4 d5 d6 d7 d8 d9 d10 d11 d12 d13 d14 d15 d16
  have q9 := (K4'.out.alloc (.cells #[.slice none 0 0] 28)).cell 9
  simp at q9
  have P6 := Lib.hid hk6
  clear hk6
  go_cut [51] (fun v wx => (Blk wx w.heap.size 30 (awShip ⟨gp, 0, none⟩ pc) ∧ Blk wx (w.heap.size + 1 + 1) 30 awAnswer ∧ Blk wx (w.heap.size + 1 + 1 + 1) 47 noCmd ∧ LedAt wx g 1 ∧ Below w.heap.size w wx) ∧ Blk wx w4.heap.size 28 #[.slice none 0 0])
  case first =>
    go_wp2
    go_meet
    have hne : w4.heap.size ≠ (w.heap.size + 1 + 1) := by have := K6'.out.lt; omega
    have hne7 : (w.heap.size + 1 + 1 + 1) ≠ (w.heap.size + 1 + 1) := by omega
    have hne4 : w.heap.size ≠ (w.heap.size + 1 + 1) := by omega
    have hsv := putCells_save (w.heap.size + 1 + 1) awAnswer.toList (w4.alloc (.cells #[.slice none 0 0] 28)) 0
    have h4 := hsv.blk (K4'.out.alloc (.cells #[.slice none 0 0] 28)) hne4
    have h6 := putCells_blk (l := awAnswer.toList) P6.out rfl
    have h7 := hsv.blk (K7'.out.alloc (.cells #[.slice none 0 0] 28)) hne7
    obtain ⟨m1, m2, hled⟩ := L'.out.below hbs L'.out.lt
    have hb := putCells_below (B := w.heap.size) (rb := (w.heap.size + 1 + 1)) (by omega) awAnswer.toList w _ 0 (HB2.out.trans (hbs.mono HB2.out.size))
    exact ⟨⟨h4, h6, h7, ⟨m1, m2, hsv.blk hled (by omega)⟩, hb⟩, hsv.blk (Blk.new w4 _ _) hne⟩
  case rest =>
  obtain ⟨⟨h4, h6, h7, hl, hb⟩, hops⟩ := hcut
  have c9 := h4.cell 9
  have c11 := h4.cell 11
  have c12 := h4.cell 12
  have o0 := hops.cell 0
  simp at c9 c11 c12 o0
  have hop4 := hops
  have K4 := Lib.hid h4
  have K6 := Lib.hid h6
  have K7 := Lib.hid h7
  have KO := Lib.hid hops
  have HB := Lib.hid hb
  have hbs2 := K4'.out.lt
  have hbo6 : w4.heap.size ≠ w.heap.size + 1 + 1 := by have := K6'.out.lt; omega
  have hbo7 : w4.heap.size ≠ w.heap.size + 1 + 1 + 1 := by have := K7'.out.lt; omega
  clear h4 h6 h7 hl hb hops hop4
  go_wp2_with fail
  refine (has_aw _ _ (Blk.new wc 26 #[.int .i64 2, .int .i64 1])).mono ?_
  rintro x w5 ⟨rfl, hb5⟩
  have hbsp : Below wc.heap.size wc (wc.alloc (.cells #[.int .i64 2, .int .i64 1] 26)) := (Below.refl _ _).alloc (Nat.le_refl _) _
  have hb5' : Below wc.heap.size wc w5 := hbsp.trans (hb5.mono hbsp.size)
  have k4 := K4.out.below hb5' K4.out.lt
  have k6 := K6.out.below hb5' K6.out.lt
  have k7 := K7.out.below hb5' K7.out.lt
  have ko := KO.out.below hb5' KO.out.lt
  have hbw := HB.out.trans (hb5'.mono HB.out.size)
  have R4 := Lib.hid k4
  have R6 := Lib.hid k6
  have R7 := Lib.hid k7
  have RO := Lib.hid ko
  have RB := Lib.hid hbw
  clear k4 k6 k7 ko hbw hb5 hb5' hbsp c9 c11 c12 o0
  go_wp2_with fail
  obtain ⟨b4, e4⟩ : ∃ b, b = w.heap.size := ⟨_, rfl⟩
  obtain ⟨b6, e6⟩ : ∃ b, b = w.heap.size + 1 + 1 := ⟨_, rfl⟩
  obtain ⟨b7, e7⟩ : ∃ b, b = w.heap.size + 1 + 1 + 1 := ⟨_, rfl⟩
  obtain ⟨bo, eo⟩ : ∃ b, b = w4.heap.size := ⟨_, rfl⟩
  have HB6 := Lib.hid (show w.heap.size ≤ b6 by omega)
  have HB7 := Lib.hid (show w.heap.size ≤ b7 by omega)
  have HN46 := Lib.hid (show b4 ≠ b6 by omega)
  have HN47 := Lib.hid (show b4 ≠ b7 by omega)
  have HN76 := Lib.hid (show b7 ≠ b6 by omega)
  have HNO6 := Lib.hid (show bo ≠ b6 by omega)
  have HNO7 := Lib.hid (show bo ≠ b7 by omega)
  have E4 := Lib.hid e4
  have E6 := Lib.hid e6
  have E7 := Lib.hid e7
  have EO := Lib.hid eo
  clear e4 e6 e7 eo hbo6 hbo7 hbs2
  refine wp_region_stores (by kernel_rfl) (MeetH b4 b6) (fun W => Below w.heap.size w W ∧ Blk W b4 30 (awShip ⟨gp, 0, none⟩ pc) ∧ Blk W b6 30 awAnswer ∧ Blk W b7 47 noCmd ∧ Blk W bo 28 #[.slice none 0 0]) (fun _ _ => True) (by kernel_rfl) ?hG ?hmono ?hstep ?hend
  case hG =>
    rw [E4.out, E6.out, E7.out, EO.out]
    exact ⟨RB.out.drew, R4.out.drew, R6.out.drew, R7.out.drew, RO.out.drew⟩
  case hmono =>
    intro i v W W' hx hv
    match i with
    | 0 | 1 | 2 | 3 | 4 | 5 | 6 | 7 | 8 | 9 | 10 => exact hv
    | i + 11 => exact hv
  case hstep =>
    intro i o F U W ho hGW hat hoff hp
    match i with
    | 0 =>
      injection (show some _ = some o from ho) with ho
      subst ho
      have hrb4 : F.eval (.tmp 4) = .pointer (some ⟨b4, 0, none⟩) := (hoff 4 (of_decide_eq_true (by kernel_rfl))).trans (by rw [E4.out]; rfl)
      have hrb6 : F.eval (.tmp 6) = .pointer (some ⟨b6, 0, none⟩) := (hoff 6 (of_decide_eq_true (by kernel_rfl))).trans (by rw [E6.out]; rfl)
      have hrb7 : F.eval (.tmp 7) = .pointer (some ⟨b7, 0, none⟩) := (hoff 7 (of_decide_eq_true (by kernel_rfl))).trans (by rw [E7.out]; rfl)
      have hrbo : F.eval (.tmp 11) = .pointer (some ⟨bo, 0, none⟩) := (hoff 11 (of_decide_eq_true (by kernel_rfl))).trans (by rw [EO.out]; rfl)
      clear hat hoff hp
      have hx := act_tmp hrbo
      have hc := hGW.2.2.2.2.cell 0
      simp at hc
      exact wp_value' (.slice none 0 0) W (by unfold execOp; go_simp) ⟨_, rfl, rfl, hGW, trivial⟩
    | 1 =>
      injection (show some _ = some o from ho) with ho
      subst ho
      have hv0 : MeetH b4 b6 0 (U 0) W := hp ⟨0, .data⟩ (by simp) rfl
      have ht0 := act_tmp (hat 0 68 (of_decide_eq_true (by kernel_rfl)) rfl)
      have hrb4 : F.eval (.tmp 4) = .pointer (some ⟨b4, 0, none⟩) := (hoff 4 (of_decide_eq_true (by kernel_rfl))).trans (by rw [E4.out]; rfl)
      have hrb6 : F.eval (.tmp 6) = .pointer (some ⟨b6, 0, none⟩) := (hoff 6 (of_decide_eq_true (by kernel_rfl))).trans (by rw [E6.out]; rfl)
      have hrb7 : F.eval (.tmp 7) = .pointer (some ⟨b7, 0, none⟩) := (hoff 7 (of_decide_eq_true (by kernel_rfl))).trans (by rw [E7.out]; rfl)
      have hrbo : F.eval (.tmp 11) = .pointer (some ⟨bo, 0, none⟩) := (hoff 11 (of_decide_eq_true (by kernel_rfl))).trans (by rw [EO.out]; rfl)
      clear hat hoff hp
      rw [hv0] at ht0
      refine wp_enter' 56 #[.slice none 0 0] (by unfold execOp; go_simp) ?_
      refine (epochs_any none 0 0 [] W (reads_none _ _ _ _) (by omega)).mono ?_
      rintro e W' ⟨ge, rfl, _, hb⟩
      exact ⟨_, rfl, _, rfl, ⟨ge, rfl⟩, ⟨hGW.1.trans (hb.mono hGW.1.size), hGW.2.1.below hb hGW.2.1.lt, hGW.2.2.1.below hb hGW.2.2.1.lt, hGW.2.2.2.1.below hb hGW.2.2.2.1.lt, hGW.2.2.2.2.below hb hGW.2.2.2.2.lt⟩, trivial⟩
    | 2 =>
      injection (show some _ = some o from ho) with ho
      subst ho
      have hrb4 : F.eval (.tmp 4) = .pointer (some ⟨b4, 0, none⟩) := (hoff 4 (of_decide_eq_true (by kernel_rfl))).trans (by rw [E4.out]; rfl)
      have hrb6 : F.eval (.tmp 6) = .pointer (some ⟨b6, 0, none⟩) := (hoff 6 (of_decide_eq_true (by kernel_rfl))).trans (by rw [E6.out]; rfl)
      have hrb7 : F.eval (.tmp 7) = .pointer (some ⟨b7, 0, none⟩) := (hoff 7 (of_decide_eq_true (by kernel_rfl))).trans (by rw [E7.out]; rfl)
      have hrbo : F.eval (.tmp 11) = .pointer (some ⟨bo, 0, none⟩) := (hoff 11 (of_decide_eq_true (by kernel_rfl))).trans (by rw [EO.out]; rfl)
      clear hat hoff hp
      have hx := act_tmp hrb4
      exact wp_value' (.pointer (some ⟨b4, 11, none⟩)) W (by unfold execOp; go_simp) ⟨_, rfl, rfl, hGW, trivial⟩
    | 3 =>
      injection (show some _ = some o from ho) with ho
      subst ho
      have hv2 : MeetH b4 b6 2 (U 2) W := hp ⟨2, .data⟩ (by simp) rfl
      have ht2 := act_tmp (hat 2 70 (of_decide_eq_true (by kernel_rfl)) rfl)
      have hrb4 : F.eval (.tmp 4) = .pointer (some ⟨b4, 0, none⟩) := (hoff 4 (of_decide_eq_true (by kernel_rfl))).trans (by rw [E4.out]; rfl)
      have hrb6 : F.eval (.tmp 6) = .pointer (some ⟨b6, 0, none⟩) := (hoff 6 (of_decide_eq_true (by kernel_rfl))).trans (by rw [E6.out]; rfl)
      have hrb7 : F.eval (.tmp 7) = .pointer (some ⟨b7, 0, none⟩) := (hoff 7 (of_decide_eq_true (by kernel_rfl))).trans (by rw [E7.out]; rfl)
      have hrbo : F.eval (.tmp 11) = .pointer (some ⟨bo, 0, none⟩) := (hoff 11 (of_decide_eq_true (by kernel_rfl))).trans (by rw [EO.out]; rfl)
      clear hat hoff hp
      rw [hv2] at ht2
      exact wp_value' (.pointer (some ⟨b4, 11, none⟩)) W (by unfold execOp; go_simp) ⟨_, rfl, rfl, hGW, trivial⟩
    | 4 =>
      injection (show some _ = some o from ho) with ho
      subst ho
      have hv3 : MeetH b4 b6 3 (U 3) W := hp ⟨3, .data⟩ (by simp) rfl
      have ht3 := act_tmp (hat 3 71 (of_decide_eq_true (by kernel_rfl)) rfl)
      have hrb4 : F.eval (.tmp 4) = .pointer (some ⟨b4, 0, none⟩) := (hoff 4 (of_decide_eq_true (by kernel_rfl))).trans (by rw [E4.out]; rfl)
      have hrb6 : F.eval (.tmp 6) = .pointer (some ⟨b6, 0, none⟩) := (hoff 6 (of_decide_eq_true (by kernel_rfl))).trans (by rw [E6.out]; rfl)
      have hrb7 : F.eval (.tmp 7) = .pointer (some ⟨b7, 0, none⟩) := (hoff 7 (of_decide_eq_true (by kernel_rfl))).trans (by rw [E7.out]; rfl)
      have hrbo : F.eval (.tmp 11) = .pointer (some ⟨bo, 0, none⟩) := (hoff 11 (of_decide_eq_true (by kernel_rfl))).trans (by rw [EO.out]; rfl)
      clear hat hoff hp
      rw [hv3] at ht3
      have hc := hGW.2.1.cell 11
      simp at hc
      exact wp_value' (.int .i64 2) W (by unfold execOp; go_simp) ⟨_, rfl, rfl, hGW, trivial⟩
    | 5 =>
      injection (show some _ = some o from ho) with ho
      subst ho
      have hrb4 : F.eval (.tmp 4) = .pointer (some ⟨b4, 0, none⟩) := (hoff 4 (of_decide_eq_true (by kernel_rfl))).trans (by rw [E4.out]; rfl)
      have hrb6 : F.eval (.tmp 6) = .pointer (some ⟨b6, 0, none⟩) := (hoff 6 (of_decide_eq_true (by kernel_rfl))).trans (by rw [E6.out]; rfl)
      have hrb7 : F.eval (.tmp 7) = .pointer (some ⟨b7, 0, none⟩) := (hoff 7 (of_decide_eq_true (by kernel_rfl))).trans (by rw [E7.out]; rfl)
      have hrbo : F.eval (.tmp 11) = .pointer (some ⟨bo, 0, none⟩) := (hoff 11 (of_decide_eq_true (by kernel_rfl))).trans (by rw [EO.out]; rfl)
      clear hat hoff hp
      have hx := act_tmp hrb4
      exact wp_value' (.pointer (some ⟨b4, 11, none⟩)) W (by unfold execOp; go_simp) ⟨_, rfl, rfl, hGW, trivial⟩
    | 6 =>
      injection (show some _ = some o from ho) with ho
      subst ho
      have hv5 : MeetH b4 b6 5 (U 5) W := hp ⟨5, .data⟩ (by simp) rfl
      have ht5 := act_tmp (hat 5 73 (of_decide_eq_true (by kernel_rfl)) rfl)
      have hrb4 : F.eval (.tmp 4) = .pointer (some ⟨b4, 0, none⟩) := (hoff 4 (of_decide_eq_true (by kernel_rfl))).trans (by rw [E4.out]; rfl)
      have hrb6 : F.eval (.tmp 6) = .pointer (some ⟨b6, 0, none⟩) := (hoff 6 (of_decide_eq_true (by kernel_rfl))).trans (by rw [E6.out]; rfl)
      have hrb7 : F.eval (.tmp 7) = .pointer (some ⟨b7, 0, none⟩) := (hoff 7 (of_decide_eq_true (by kernel_rfl))).trans (by rw [E7.out]; rfl)
      have hrbo : F.eval (.tmp 11) = .pointer (some ⟨bo, 0, none⟩) := (hoff 11 (of_decide_eq_true (by kernel_rfl))).trans (by rw [EO.out]; rfl)
      clear hat hoff hp
      rw [hv5] at ht5
      exact wp_value' (.pointer (some ⟨b4, 12, none⟩)) W (by unfold execOp; go_simp) ⟨_, rfl, rfl, hGW, trivial⟩
    | 7 =>
      injection (show some _ = some o from ho) with ho
      subst ho
      have hv6 : MeetH b4 b6 6 (U 6) W := hp ⟨6, .data⟩ (by simp) rfl
      have ht6 := act_tmp (hat 6 74 (of_decide_eq_true (by kernel_rfl)) rfl)
      have hrb4 : F.eval (.tmp 4) = .pointer (some ⟨b4, 0, none⟩) := (hoff 4 (of_decide_eq_true (by kernel_rfl))).trans (by rw [E4.out]; rfl)
      have hrb6 : F.eval (.tmp 6) = .pointer (some ⟨b6, 0, none⟩) := (hoff 6 (of_decide_eq_true (by kernel_rfl))).trans (by rw [E6.out]; rfl)
      have hrb7 : F.eval (.tmp 7) = .pointer (some ⟨b7, 0, none⟩) := (hoff 7 (of_decide_eq_true (by kernel_rfl))).trans (by rw [E7.out]; rfl)
      have hrbo : F.eval (.tmp 11) = .pointer (some ⟨bo, 0, none⟩) := (hoff 11 (of_decide_eq_true (by kernel_rfl))).trans (by rw [EO.out]; rfl)
      clear hat hoff hp
      rw [hv6] at ht6
      have hc := hGW.2.1.cell 12
      simp at hc
      exact wp_value' (.int .i64 1) W (by unfold execOp; go_simp) ⟨_, rfl, rfl, hGW, trivial⟩
    | 8 =>
      injection (show some _ = some o from ho) with ho
      subst ho
      have hv1 : MeetH b4 b6 1 (U 1) W := hp ⟨1, .data⟩ (by simp) rfl
      have ht1 := act_tmp (hat 1 69 (of_decide_eq_true (by kernel_rfl)) rfl)
      have hv4 : MeetH b4 b6 4 (U 4) W := hp ⟨4, .data⟩ (by simp) rfl
      have ht4 := act_tmp (hat 4 72 (of_decide_eq_true (by kernel_rfl)) rfl)
      have hv7 : MeetH b4 b6 7 (U 7) W := hp ⟨7, .data⟩ (by simp) rfl
      have ht7 := act_tmp (hat 7 75 (of_decide_eq_true (by kernel_rfl)) rfl)
      have hrb4 : F.eval (.tmp 4) = .pointer (some ⟨b4, 0, none⟩) := (hoff 4 (of_decide_eq_true (by kernel_rfl))).trans (by rw [E4.out]; rfl)
      have hrb6 : F.eval (.tmp 6) = .pointer (some ⟨b6, 0, none⟩) := (hoff 6 (of_decide_eq_true (by kernel_rfl))).trans (by rw [E6.out]; rfl)
      have hrb7 : F.eval (.tmp 7) = .pointer (some ⟨b7, 0, none⟩) := (hoff 7 (of_decide_eq_true (by kernel_rfl))).trans (by rw [E7.out]; rfl)
      have hrbo : F.eval (.tmp 11) = .pointer (some ⟨bo, 0, none⟩) := (hoff 11 (of_decide_eq_true (by kernel_rfl))).trans (by rw [EO.out]; rfl)
      clear hat hoff hp
      obtain ⟨ge, hge⟩ := hv1
      rw [hge] at ht1
      rw [hv4] at ht4
      rw [hv7] at ht7
      refine wp_enter' 55 #[.slice (some ⟨ge, 0, none⟩) 0 0, .int .i64 2, .int .i64 1] (by unfold execOp; go_simp) ?_
      refine (hint_any (some ⟨ge, 0, none⟩) 0 0 [] W Reads.none_ (by unfold maxLen; omega) 2 1 (by omega)).mono ?_
      rintro e W' ⟨rfl, hb⟩
      exact ⟨_, rfl, _, rfl, rfl, ⟨hGW.1.trans (hb.mono hGW.1.size), hGW.2.1.below hb hGW.2.1.lt, hGW.2.2.1.below hb hGW.2.2.1.lt, hGW.2.2.2.1.below hb hGW.2.2.2.1.lt, hGW.2.2.2.2.below hb hGW.2.2.2.2.lt⟩, trivial⟩
    | 9 =>
      injection (show some _ = some o from ho) with ho
      subst ho
      have hrb4 : F.eval (.tmp 4) = .pointer (some ⟨b4, 0, none⟩) := (hoff 4 (of_decide_eq_true (by kernel_rfl))).trans (by rw [E4.out]; rfl)
      have hrb6 : F.eval (.tmp 6) = .pointer (some ⟨b6, 0, none⟩) := (hoff 6 (of_decide_eq_true (by kernel_rfl))).trans (by rw [E6.out]; rfl)
      have hrb7 : F.eval (.tmp 7) = .pointer (some ⟨b7, 0, none⟩) := (hoff 7 (of_decide_eq_true (by kernel_rfl))).trans (by rw [E7.out]; rfl)
      have hrbo : F.eval (.tmp 11) = .pointer (some ⟨bo, 0, none⟩) := (hoff 11 (of_decide_eq_true (by kernel_rfl))).trans (by rw [EO.out]; rfl)
      clear hat hoff hp
      have hx := act_tmp hrb6
      exact wp_value' (.pointer (some ⟨b6, 11, none⟩)) W (by unfold execOp; go_simp) ⟨_, rfl, rfl, hGW, trivial⟩
    | 10 =>
      injection (show some _ = some o from ho) with ho
      subst ho
      have hv8 : MeetH b4 b6 8 (U 8) W := hp ⟨8, .data⟩ (by simp) rfl
      have ht8 := act_tmp (hat 8 76 (of_decide_eq_true (by kernel_rfl)) rfl)
      have hv9 : MeetH b4 b6 9 (U 9) W := hp ⟨9, .data⟩ (by simp) rfl
      have ht9 := act_tmp (hat 9 77 (of_decide_eq_true (by kernel_rfl)) rfl)
      have hrb4 : F.eval (.tmp 4) = .pointer (some ⟨b4, 0, none⟩) := (hoff 4 (of_decide_eq_true (by kernel_rfl))).trans (by rw [E4.out]; rfl)
      have hrb6 : F.eval (.tmp 6) = .pointer (some ⟨b6, 0, none⟩) := (hoff 6 (of_decide_eq_true (by kernel_rfl))).trans (by rw [E6.out]; rfl)
      have hrb7 : F.eval (.tmp 7) = .pointer (some ⟨b7, 0, none⟩) := (hoff 7 (of_decide_eq_true (by kernel_rfl))).trans (by rw [E7.out]; rfl)
      have hrbo : F.eval (.tmp 11) = .pointer (some ⟨bo, 0, none⟩) := (hoff 11 (of_decide_eq_true (by kernel_rfl))).trans (by rw [EO.out]; rfl)
      clear hat hoff hp
      rw [hv8] at ht8
      rw [hv9] at ht9
      have hk := hGW.2.2.1
      have f0 := hk.frozen 11
      have f1 := hk.frozen 12
      have d0 := hk.cell 11
      have d1 := hk.cell 12
      simp at d0 d1
      refine wp_skip' ((W.setCell ⟨b6, 11, none⟩ (.int .i64 0)).setCell ⟨b6, 12, none⟩ (.int .i64 0)) (by unfold execOp; go_simp) ?_
      have hsv : ∀ {b : Nat} {t : TypeId} {cs : Array Value}, Blk W b t cs → b ≠ b6 → Blk ((W.setCell ⟨b6, 11, none⟩ (.int .i64 0)).setCell ⟨b6, 12, none⟩ (.int .i64 0)) b t cs := fun h hne => (h.far (p := ⟨b6, 11, none⟩) hne _).far (p := ⟨b6, 12, none⟩) hne _
      exact ⟨_, rfl, trivial, ⟨(hGW.1.setCell (p := ⟨b6, 11, none⟩) HB6.out _).setCell (p := ⟨b6, 12, none⟩) HB6.out _, hsv hGW.2.1 HN46.out, (hk.set_ 11 _).set_ 12 _, hsv hGW.2.2.2.1 HN76.out, hsv hGW.2.2.2.2 HNO6.out⟩, trivial⟩
    | i + 11 => exact absurd ho (by simp)
  case hend =>
  intro U W hGW hV
  have HGW := Lib.hid hGW
  clear hV hGW
  simp [putU, dstAt, Act.put, Exit.then]
  go_wp2_with fail
  refine wp_region_stores (by kernel_rfl) MeetE (fun W => Below w.heap.size w W ∧ Blk W b4 30 (awShip ⟨gp, 0, none⟩ pc) ∧ Blk W b6 30 awAnswer ∧ Blk W b7 47 noCmd ∧ Blk W bo 28 #[.slice none 0 0]) (fun _ _ => True) (by kernel_rfl) ?hG ?hmono ?hstep ?hend
  case hG => exact ⟨HGW.out.1.drew, HGW.out.2.1.drew, HGW.out.2.2.1.drew, HGW.out.2.2.2.1.drew, HGW.out.2.2.2.2.drew⟩
  case hmono =>
    intro i v W W' hx hv
    match i with
    | 0 | 1 | 2 | 3 | 4 => exact hv
    | i + 5 => exact hv
  case hstep =>
    intro i o F U W ho hGW hat hoff hp
    match i with
    | 0 =>
      injection (show some _ = some o from ho) with ho
      subst ho
      have hrb4 : F.eval (.tmp 4) = .pointer (some ⟨b4, 0, none⟩) := (hoff 4 (of_decide_eq_true (by kernel_rfl))).trans (by rw [E4.out]; rfl)
      have hrb6 : F.eval (.tmp 6) = .pointer (some ⟨b6, 0, none⟩) := (hoff 6 (of_decide_eq_true (by kernel_rfl))).trans (by rw [E6.out]; rfl)
      have hrb7 : F.eval (.tmp 7) = .pointer (some ⟨b7, 0, none⟩) := (hoff 7 (of_decide_eq_true (by kernel_rfl))).trans (by rw [E7.out]; rfl)
      have hrbo : F.eval (.tmp 11) = .pointer (some ⟨bo, 0, none⟩) := (hoff 11 (of_decide_eq_true (by kernel_rfl))).trans (by rw [EO.out]; rfl)
      clear hat hoff hp
      exact wp_value' (.agg awAnswer) W (load_mail 6 rfl F W b6 hrb6 hGW.2.2.1) ⟨_, rfl, rfl, hGW, trivial⟩
    | 1 =>
      injection (show some _ = some o from ho) with ho
      subst ho
      have hrb4 : F.eval (.tmp 4) = .pointer (some ⟨b4, 0, none⟩) := (hoff 4 (of_decide_eq_true (by kernel_rfl))).trans (by rw [E4.out]; rfl)
      have hrb6 : F.eval (.tmp 6) = .pointer (some ⟨b6, 0, none⟩) := (hoff 6 (of_decide_eq_true (by kernel_rfl))).trans (by rw [E6.out]; rfl)
      have hrb7 : F.eval (.tmp 7) = .pointer (some ⟨b7, 0, none⟩) := (hoff 7 (of_decide_eq_true (by kernel_rfl))).trans (by rw [E7.out]; rfl)
      have hrbo : F.eval (.tmp 11) = .pointer (some ⟨bo, 0, none⟩) := (hoff 11 (of_decide_eq_true (by kernel_rfl))).trans (by rw [EO.out]; rfl)
      clear hat hoff hp
      exact wp_value' (.agg noCmd) W (load_cmd 7 rfl F W b7 hrb7 hGW.2.2.2.1) ⟨_, rfl, rfl, hGW, trivial⟩
    | 2 =>
      injection (show some _ = some o from ho) with ho
      subst ho
      have hv0 : MeetE 0 (U 0) W := hp ⟨0, .data⟩ (by simp) rfl
      have ht0 := act_tmp (hat 0 78 (of_decide_eq_true (by kernel_rfl)) rfl)
      have hrb4 : F.eval (.tmp 4) = .pointer (some ⟨b4, 0, none⟩) := (hoff 4 (of_decide_eq_true (by kernel_rfl))).trans (by rw [E4.out]; rfl)
      have hrb6 : F.eval (.tmp 6) = .pointer (some ⟨b6, 0, none⟩) := (hoff 6 (of_decide_eq_true (by kernel_rfl))).trans (by rw [E6.out]; rfl)
      have hrb7 : F.eval (.tmp 7) = .pointer (some ⟨b7, 0, none⟩) := (hoff 7 (of_decide_eq_true (by kernel_rfl))).trans (by rw [E7.out]; rfl)
      have hrbo : F.eval (.tmp 11) = .pointer (some ⟨bo, 0, none⟩) := (hoff 11 (of_decide_eq_true (by kernel_rfl))).trans (by rw [EO.out]; rfl)
      clear hat hoff hp
      rw [hv0] at ht0
      refine wp_skip' (putCells W b6 0 awAnswer.toList) (store_mail 6 78 rfl F W b6 hrb6 (by simpa [Act.eval] using ht0) hGW.2.2.1) ?_
      exact ⟨_, rfl, trivial, ⟨putCells_below HB6.out _ _ _ _ hGW.1, (putCells_save _ _ _ _).blk hGW.2.1 HN46.out, putCells_blk (l := awAnswer.toList) hGW.2.2.1 rfl, (putCells_save _ _ _ _).blk hGW.2.2.2.1 HN76.out, (putCells_save _ _ _ _).blk hGW.2.2.2.2 HNO6.out⟩, trivial⟩
    | 3 =>
      injection (show some _ = some o from ho) with ho
      subst ho
      have hv1 : MeetE 1 (U 1) W := hp ⟨1, .data⟩ (by simp) rfl
      have ht1 := act_tmp (hat 1 79 (of_decide_eq_true (by kernel_rfl)) rfl)
      have hrb4 : F.eval (.tmp 4) = .pointer (some ⟨b4, 0, none⟩) := (hoff 4 (of_decide_eq_true (by kernel_rfl))).trans (by rw [E4.out]; rfl)
      have hrb6 : F.eval (.tmp 6) = .pointer (some ⟨b6, 0, none⟩) := (hoff 6 (of_decide_eq_true (by kernel_rfl))).trans (by rw [E6.out]; rfl)
      have hrb7 : F.eval (.tmp 7) = .pointer (some ⟨b7, 0, none⟩) := (hoff 7 (of_decide_eq_true (by kernel_rfl))).trans (by rw [E7.out]; rfl)
      have hrbo : F.eval (.tmp 11) = .pointer (some ⟨bo, 0, none⟩) := (hoff 11 (of_decide_eq_true (by kernel_rfl))).trans (by rw [EO.out]; rfl)
      clear hat hoff hp
      rw [hv1] at ht1
      refine wp_skip' (putCells W b7 0 noCmd.toList) (store_cmd 7 79 rfl F W b7 hrb7 (by simpa [Act.eval] using ht1) hGW.2.2.2.1) ?_
      exact ⟨_, rfl, trivial, ⟨putCells_below HB7.out _ _ _ _ hGW.1, (putCells_save _ _ _ _).blk hGW.2.1 HN47.out, (putCells_save _ _ _ _).blk hGW.2.2.1 (Ne.symm HN76.out), putCells_blk (l := noCmd.toList) hGW.2.2.2.1 rfl, (putCells_save _ _ _ _).blk hGW.2.2.2.2 HNO7.out⟩, trivial⟩
    | 4 =>
      injection (show some _ = some o from ho) with ho
      subst ho
      have hrb4 : F.eval (.tmp 4) = .pointer (some ⟨b4, 0, none⟩) := (hoff 4 (of_decide_eq_true (by kernel_rfl))).trans (by rw [E4.out]; rfl)
      have hrb6 : F.eval (.tmp 6) = .pointer (some ⟨b6, 0, none⟩) := (hoff 6 (of_decide_eq_true (by kernel_rfl))).trans (by rw [E6.out]; rfl)
      have hrb7 : F.eval (.tmp 7) = .pointer (some ⟨b7, 0, none⟩) := (hoff 7 (of_decide_eq_true (by kernel_rfl))).trans (by rw [E7.out]; rfl)
      have hrbo : F.eval (.tmp 11) = .pointer (some ⟨bo, 0, none⟩) := (hoff 11 (of_decide_eq_true (by kernel_rfl))).trans (by rw [EO.out]; rfl)
      clear hat hoff hp
      exact wp_assign' (.const (.int .i64 1)) rfl ⟨_, rfl, rfl, hGW, trivial⟩
    | i + 5 => exact absurd ho (by simp)
  case hend =>
    intro U' W' hGW hV
    have h4' : U' 4 = .int .i64 1 := hV 4 (of_decide_eq_true (by kernel_rfl))
    have hk6 := hGW.2.2.1
    have hk7 := hGW.2.2.2.1
    rw [E6.out] at hk6
    rw [E7.out] at hk7
    have K6f := Lib.hid hk6
    have K7f := Lib.hid hk7
    have HW := Lib.hid hGW.1
    clear hV hGW hk6 hk7
    simp [putU, dstAt, Act.put, Exit.then, h4']
    go_wp2
    refine bodyPost_ret (v := .tuple #[.agg awAnswer, .agg noCmd, .int .i64 1]) (meet_results rfl rfl rfl K6f.out K7f.out) rfl ?_
    exact ⟨rfl, HW.out⟩

end Go.Proofs.Ytaipgdhdfpemcaa

namespace Go.Proofs.Ytaipgdhdfpemcaa
open Go.RowKit

theorem field_ops (kind term index prev commit : Int) (good : Bool) (eA : Option Addr) (en ec : Nat) (data : ByteArray) (hA : Option Addr) (hn hc : Nat) (epoch site atN atE whN whE : Int) (oA : Option Addr) (on oc : Nat) (pA : Option Addr) (pn pc : Nat) (w : World) :
    (Instr.field 30 (.agg (mailC kind term index prev commit good eA en ec data hA hn hc epoch site atN atE whN whE oA on oc pA pn pc)) 14).run Try.prog w = .ok (.slice pA pn pc) w := by
  kernel_rfl
end Go.Proofs.Ytaipgdhdfpemcaa
