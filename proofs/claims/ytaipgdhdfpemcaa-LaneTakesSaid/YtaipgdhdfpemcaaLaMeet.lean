/-
  THE WALKS OF THE LANE: Meet, in what is asked first.
-/
import Derived.Test.YtaipgdhdfpemcaaLaOffer
import Derived.Test.YtaipgdhdfpemcaaLaRes
namespace Go.Proofs.Ytaipgdhdfpemcaa
open Go.RowKit

set_option maxRecDepth 100000 in
set_option maxHeartbeats 2000000 in
theorem has_aw (g : Nat) (w : World) (h : Blk w g 26 #[.int .i64 2, .int .i64 1]) :
    Calls Try.prog 54 #[.slice none 0 0, .slice (some ⟨g, 0, none⟩) 1 1] w fun x w' => x = .returned (.bool false) ∧ Below w.heap.size w w' := by
  have hc0 := h.cell 0
  have hc1 := h.cell 1
  simp at hc0 hc1
  clear h
  go_enter Try.func54, Try.ntmps54
  go_wp2_with fail
  go_loopw [9] (fun i wr => i = .int .i64 0 ∧ wr = w) (fun _ _ => 0)
  case atStart => exact ⟨rfl, rfl⟩
  case round =>
    obtain ⟨rfl, rfl⟩ := hrel
    go_wp2_with fail
    go_quiet (fail)
    go_wp2
    go_ret
    exact ⟨rfl, below_drewN ((Below.refl _ _).alloc (Nat.le_refl _) _) _⟩

/-- a mail that says nothing, a command that says nothing -/
@[reducible] def noMail : Array Value := mailC 0 0 0 0 0 false none 0 0 ⟨#[]⟩ none 0 0 0 0 0 0 0 0 none 0 0 none 0 0
@[reducible] def noCmd : Array Value := #[.int .i64 0, .int .i64 0, .int .i64 0, .int .i64 0, .int .i64 0, .int .i64 0, .int .i64 0, .int .i64 0, .int .i64 0, .string ⟨#[]⟩, .int .i64 0, .slice none 0 0, .int .i64 0, .int .i64 0, .slice none 0 0, .int .i64 0]

def Cells16 (W : World) (rb : Nat) : Prop := ∃ a0 a1 a2 a3 a4 a5 a6 a7 a8 a9 a10 a11 a12 a13 a14 a15, Blk W rb 47 #[a0, a1, a2, a3, a4, a5, a6, a7, a8, a9, a10, a11, a12, a13, a14, a15]
theorem cells16_below {W W' : World} {rb : Nat} (h : Cells16 W rb) (hb : Below W.heap.size W W') : Cells16 W' rb := by
  obtain ⟨a0, a1, a2, a3, a4, a5, a6, a7, a8, a9, a10, a11, a12, a13, a14, a15, h⟩ := h
  exact ⟨_, _, _, _, _, _, _, _, _, _, _, _, _, _, _, _, h.below hb h.lt⟩

/-- what the operations yield that propose a command -/
def MeetV (b4 b6 b7 gp pc : Nat) : Nat → Value → World → Prop
  | 0, v, _ => v = .agg noMail
  | 1, v, _ => v = .pointer (some ⟨b4, 9, none⟩)
  | 2, v, _ => v = .int .i64 1
  | 3, v, _ => v = .pointer (some ⟨b4, 10, none⟩)
  | 4, v, _ => v = .int .i64 0
  | 5, v, _ => v = .pointer (some ⟨b4, 11, none⟩)
  | 6, v, _ => v = .pointer (some ⟨b4, 11, none⟩)
  | 7, v, _ => v = .int .i64 2
  | 8, v, _ => v = .pointer (some ⟨b4, 11, none⟩)
  | 9, v, _ => v = .pointer (some ⟨b4, 12, none⟩)
  | 10, v, _ => v = .int .i64 1
  | 11, v, _ => v = .pointer (some ⟨b4, 16, none⟩)
  | 12, v, _ => v = .slice (some ⟨gp, 0, none⟩) 0 pc
  | 13, v, _ => ∃ g' c', v = .slice (some ⟨g', 0, none⟩) 0 c'
  | 14, v, _ => ∃ g' c', v = .agg (awCmd ⟨g', 0, none⟩ c')
  | 15, _, W => Blk W b6 30 noMail
  | 16, _, W => ∃ g' c', Blk W b7 47 (awCmd ⟨g', 0, none⟩ c')
  | 17, v, _ => v = .int .i64 2
  | _, _, _ => False

-- MEETS
set_option maxRecDepth 100000 in
set_option maxHeartbeats 8000000 in
theorem meet1 (g gp pc : Nat) (w : World) (h : LedAt w g 0) :
    Calls Try.prog 16 #[.pointer (some ⟨g, 0, none⟩), .agg (awShip ⟨gp, 0, none⟩ pc), .agg #[.int .i64 0, .int .i64 0, .slice none 0 0]] w fun x w' => (∃ g' c', x = .returned (.tuple #[.agg noMail, .agg (awCmd ⟨g', 0, none⟩ c'), .int .i64 2])) ∧ Below w.heap.size w w' := by
  have hg := h.lt
  have hbl : Below w.heap.size w ((((w.alloc (.cells (awShip ⟨gp, 0, none⟩ pc) 30)).alloc (.cells #[.int .i64 0, .int .i64 0, .slice none 0 0] 32)).alloc (.cells noMail 30)).alloc (.cells noCmd 47)) := ((((Below.refl _ _).alloc (Nat.le_refl _) _).alloc (by simp) _).alloc (by simp; omega) _).alloc (by simp; omega) _
  have hk4 := (((Blk.new w 30 (awShip ⟨gp, 0, none⟩ pc)).alloc (.cells #[.int .i64 0, .int .i64 0, .slice none 0 0] 32)).alloc (.cells noMail 30)).alloc (.cells noCmd 47)
  have hk6 := (Blk.new ((w.alloc (.cells (awShip ⟨gp, 0, none⟩ pc) 30)).alloc (.cells #[.int .i64 0, .int .i64 0, .slice none 0 0] 32)) 30 noMail).alloc (.cells noCmd 47)
  have hk7 := Blk.new (((w.alloc (.cells (awShip ⟨gp, 0, none⟩ pc) 30)).alloc (.cells #[.int .i64 0, .int .i64 0, .slice none 0 0] 32)).alloc (.cells noMail 30)) 47 noCmd
  have hs6 : ((w.alloc (.cells (awShip ⟨gp, 0, none⟩ pc) 30)).alloc (.cells #[.int .i64 0, .int .i64 0, .slice none 0 0] 32)).heap.size = w.heap.size + 1 + 1 := by simp
  have hs7 : (((w.alloc (.cells (awShip ⟨gp, 0, none⟩ pc) 30)).alloc (.cells #[.int .i64 0, .int .i64 0, .slice none 0 0] 32)).alloc (.cells noMail 30)).heap.size = w.heap.size + 1 + 1 + 1 := by simp
  rw [hs6] at hk6
  rw [hs7] at hk7
  have hl := h.below hbl hg
  have HBL := Lib.hid hbl
  have HK4 := Lib.hid hk4
  have HK6 := Lib.hid hk6
  have HK7 := Lib.hid hk7
  have HL := Lib.hid hl
  clear h hbl hk4 hk6 hk7 hl hs6 hs7
  go_enter Try.func16, Try.ntmps16
  go_wp2_with fail
  refine (holder_aw g 0 _ HL.out).mono ?_
  rintro x w1 ⟨rfl, hb1⟩
  have hk4 := (HK4.out.below hb1 HK4.out.lt).alloc (.cells #[.int .i64 0, .int .i64 0] 93)
  have hk6 := (HK6.out.below hb1 HK6.out.lt).alloc (.cells #[.int .i64 0, .int .i64 0] 93)
  have hk7 := (HK7.out.below hb1 HK7.out.lt).alloc (.cells #[.int .i64 0, .int .i64 0] 93)
  have hb1' := HBL.out.trans (hb1.mono HBL.out.size)
  have hbg : Below w1.heap.size w1 (w1.alloc (.cells #[.int .i64 0, .int .i64 0] 93)) := (Below.refl _ _).alloc (Nat.le_refl _) _
  have hl := (HL.out.below hb1 HL.out.lt).below hbg (HL.out.below hb1 HL.out.lt).lt
  have hkg := Blk.new w1 93 #[.int .i64 0, .int .i64 0]
  have c0 := hk4.cell 0
  have c1 := hk4.cell 1
  have c2 := hk4.cell 2
  have c3 := hk4.cell 3
  have c4 := hk4.cell 4
  have c5 := hk4.cell 5
  have c6 := hk4.cell 6
  have c7 := hk4.cell 7
  have c8 := hk4.cell 8
  have c9 := hk4.cell 9
  have c10 := hk4.cell 10
  have c11 := hk4.cell 11
  have c12 := hk4.cell 12
  have c13 := hk4.cell 13
  have c14 := hk4.cell 14
  have c15 := hk4.cell 15
  have c16 := hk4.cell 16
  simp at c0 c1 c2 c3 c4 c5 c6 c7 c8 c9 c10 c11 c12 c13 c14 c15 c16
  have HB1 := Lib.hid (hb1'.trans (hbg.mono hb1'.size))
  have K4 := Lib.hid hk4
  have K6 := Lib.hid hk6
  have K7 := Lib.hid hk7
  have L := Lib.hid hl
  have KG := Lib.hid hkg
  clear hk4 hk6 hk7 hb1' hbg hl hb1 hkg
  go_wp2_with fail
  refine (check9c ⟨gp, 0, none⟩ pc _).mono ?_
  rintro x w2 ⟨rfl, hb2⟩
  have hk4 := K4.out.below hb2 K4.out.lt
  have hk6 := K6.out.below hb2 K6.out.lt
  have hk7 := K7.out.below hb2 K7.out.lt
  have hl := L.out.below hb2 L.out.lt
  have hkg := KG.out.below hb2 KG.out.lt
  clear c0 c1 c2 c3 c4 c5 c6 c7 c8 c9 c10 c11 c12 c13 c14 c15 c16
  have c9 := hk4.cell 9
  have c10 := hk4.cell 10
  have e0 := hkg.cell 0
  have e1 := hkg.cell 1
  simp at c9 c10 e0 e1
  have HB2 := Lib.hid (HB1.out.trans (hb2.mono HB1.out.size))
  have K4' := Lib.hid hk4
  have K6' := Lib.hid hk6
  have K7' := Lib.hid hk7
  have L' := Lib.hid hl
  clear hk4 hk6 hk7 hl hb2 hkg
  go_wp2_with fail
  refine (fence_aw g 0 w2 L'.out).mono ?_
  rintro x w3 ⟨rfl, rfl⟩
  go_wp2_with fail
  refine (ops_aw g 0 w3 L'.out).mono ?_
  rintro x w4 ⟨rfl, rfl⟩
  go_upto_region 5 with fail
  have hbs : Below w4.heap.size w4 (w4.alloc (.cells #[.slice none 0 0] 28)) := (Below.refl _ _).alloc (Nat.le_refl _) _
  have hk6 := K6'.out.alloc (.cells #[.slice none 0 0] 28)
  have f0 := hk6.frozen 0
  have f1 := hk6.frozen 1
  have f2 := hk6.frozen 2
  have f3 := hk6.frozen 3
  have f4 := hk6.frozen 4
  have f5 := hk6.frozen 5
  have f6 := hk6.frozen 6
  have f7 := hk6.frozen 7
  have f8 := hk6.frozen 8
  have f9 := hk6.frozen 9
  have f10 := hk6.frozen 10
  have f11 := hk6.frozen 11
  have f12 := hk6.frozen 12
  have f13 := hk6.frozen 13
  have f14 := hk6.frozen 14
  have f15 := hk6.frozen 15
  have f16 := hk6.frozen 16
  have d0 := hk6.cell 0
  have d1 := hk6.cell 1
  have d2 := hk6.cell 2
  have d3 := hk6.cell 3
  have d4 := hk6.cell 4
  have d5 := hk6.cell 5
  have d6 := hk6.cell 6
  have d7 := hk6.cell 7
  have d8 := hk6.cell 8
  have d9 := hk6.cell 9
  have d10 := hk6.cell 10
  have d11 := hk6.cell 11
  have d12 := hk6.cell 12
  have d13 := hk6.cell 13
  have d14 := hk6.cell 14
  have d15 := hk6.cell 15
  have d16 := hk6.cell 16
  simp at d0 d1 d2 d3 d4 d5 d6 d7 d8 d9 d10 d11 d12 d13 d14 d15 d16
  have q9 := (K4'.out.alloc (.cells #[.slice none 0 0] 28)).cell 9
  simp at q9
  have P6 := Lib.hid hk6
  clear hk6
  go_cut [51] (fun v wx => (Blk wx w.heap.size 30 (awShip ⟨gp, 0, none⟩ pc) ∧ Blk wx (w.heap.size + 1 + 1) 30 awAnswer ∧ Blk wx (w.heap.size + 1 + 1 + 1) 47 noCmd ∧ LedAt wx g 0 ∧ Below w.heap.size w wx) ∧ Blk wx w4.heap.size 28 #[.slice none 0 0])
  case first =>
    go_wp2
    go_meet
    have hne : w4.heap.size ≠ (w.heap.size + 1 + 1) := by have := K6'.out.lt; omega
    have hne7 : (w.heap.size + 1 + 1 + 1) ≠ (w.heap.size + 1 + 1) := by omega
    have hne4 : w.heap.size ≠ (w.heap.size + 1 + 1) := by omega
    have hsv := putCells_save (w.heap.size + 1 + 1) awAnswer.toList (w4.alloc (.cells #[.slice none 0 0] 28)) 0
    have h4 := hsv.blk (K4'.out.alloc (.cells #[.slice none 0 0] 28)) hne4
    have h6 := putCells_blk (l := awAnswer.toList) P6.out rfl
    have h7 := hsv.blk (K7'.out.alloc (.cells #[.slice none 0 0] 28)) hne7
    obtain ⟨m1, m2, hled⟩ := L'.out.below hbs L'.out.lt
    have hb := putCells_below (B := w.heap.size) (rb := (w.heap.size + 1 + 1)) (by omega) awAnswer.toList w _ 0 (HB2.out.trans (hbs.mono HB2.out.size))
    exact ⟨⟨h4, h6, h7, ⟨m1, m2, hsv.blk hled (by omega)⟩, hb⟩, hsv.blk (Blk.new w4 _ _) hne⟩
  case rest =>
  obtain ⟨⟨h4, h6, h7, hl, hb⟩, hops⟩ := hcut
  have c9 := h4.cell 9
  simp at c9
  have K4 := Lib.hid h4
  have K6 := Lib.hid h6
  have K7 := Lib.hid h7
  have HB := Lib.hid hb
  clear h4 h6 h7 hl hb hops
  go_wp2_with fail
  obtain ⟨b4, e4⟩ : ∃ b, b = w.heap.size := ⟨_, rfl⟩
  obtain ⟨b6, e6⟩ : ∃ b, b = w.heap.size + 1 + 1 := ⟨_, rfl⟩
  obtain ⟨b7, e7⟩ : ∃ b, b = w.heap.size + 1 + 1 + 1 := ⟨_, rfl⟩
  have HB6 := Lib.hid (show w.heap.size ≤ b6 by omega)
  have HB7 := Lib.hid (show w.heap.size ≤ b7 by omega)
  have HN46 := Lib.hid (show b4 ≠ b6 by omega)
  have HN47 := Lib.hid (show b4 ≠ b7 by omega)
  have HN76 := Lib.hid (show b7 ≠ b6 by omega)
  have E4 := Lib.hid e4
  have E6 := Lib.hid e6
  have E7 := Lib.hid e7
  clear e4 e6 e7
  refine wp_region_stores (by kernel_rfl) (MeetV b4 b6 b7 gp pc) (fun W => Below w.heap.size w W ∧ Blk W b4 30 (awShip ⟨gp, 0, none⟩ pc) ∧ Cells17 W b6 ∧ Cells16 W b7) (fun W W' => (Blk W b6 30 noMail → Blk W' b6 30 noMail) ∧ ((∃ g' c', Blk W b7 47 (awCmd ⟨g', 0, none⟩ c')) → ∃ g' c', Blk W' b7 47 (awCmd ⟨g', 0, none⟩ c'))) (by kernel_rfl) ?hG ?hmono ?hstep ?hend
  case hG =>
    rw [E4.out, E6.out, E7.out]
    exact ⟨HB.out.drew, K4.out.drew, ⟨_, _, _, _, _, _, _, _, _, _, _, _, _, _, _, _, _, K6.out.drew⟩, ⟨_, _, _, _, _, _, _, _, _, _, _, _, _, _, _, _, K7.out.drew⟩⟩
  case hmono =>
    intro i v W W' hx hv
    match i with
    | 15 => exact hx.1 hv
    | 16 => exact hx.2 hv
    | 0 | 1 | 2 | 3 | 4 | 5 | 6 | 7 | 8 | 9 | 10 | 11 | 12 | 13 | 14 | 17 => exact hv
    | i + 18 => exact hv
  case hstep =>
    intro i o F U W ho hGW hat hoff hp
    have hrefl := fun W : World => (⟨fun h => h, fun h => h⟩ : (Blk W b6 30 noMail → Blk W b6 30 noMail) ∧ ((∃ g' c', Blk W b7 47 (awCmd ⟨g', 0, none⟩ c')) → ∃ g' c', Blk W b7 47 (awCmd ⟨g', 0, none⟩ c')))
    match i with
    | 0 =>
      injection (show some _ = some o from ho) with ho
      subst ho
      have hrb4 : F.eval (.tmp 4) = .pointer (some ⟨b4, 0, none⟩) := (hoff 4 (of_decide_eq_true (by kernel_rfl))).trans (by rw [E4.out]; rfl)
      have hrb6 : F.eval (.tmp 6) = .pointer (some ⟨b6, 0, none⟩) := (hoff 6 (of_decide_eq_true (by kernel_rfl))).trans (by rw [E6.out]; rfl)
      have hrb7 : F.eval (.tmp 7) = .pointer (some ⟨b7, 0, none⟩) := (hoff 7 (of_decide_eq_true (by kernel_rfl))).trans (by rw [E7.out]; rfl)
      clear hat hoff hp
      exact wp_value' (.agg noMail) W (by unfold execOp; go_simp) ⟨_, rfl, rfl, hGW, hrefl W⟩
    | 1 =>
      injection (show some _ = some o from ho) with ho
      subst ho
      have hrb4 : F.eval (.tmp 4) = .pointer (some ⟨b4, 0, none⟩) := (hoff 4 (of_decide_eq_true (by kernel_rfl))).trans (by rw [E4.out]; rfl)
      have hrb6 : F.eval (.tmp 6) = .pointer (some ⟨b6, 0, none⟩) := (hoff 6 (of_decide_eq_true (by kernel_rfl))).trans (by rw [E6.out]; rfl)
      have hrb7 : F.eval (.tmp 7) = .pointer (some ⟨b7, 0, none⟩) := (hoff 7 (of_decide_eq_true (by kernel_rfl))).trans (by rw [E7.out]; rfl)
      clear hat hoff hp
      have hx := act_tmp hrb4
      exact wp_value' (.pointer (some ⟨b4, 9, none⟩)) W (by unfold execOp; go_simp) ⟨_, rfl, rfl, hGW, hrefl W⟩
    | 2 =>
      injection (show some _ = some o from ho) with ho
      subst ho
      have hv1 : MeetV b4 b6 b7 gp pc 1 (U 1) W := hp ⟨1, .data⟩ (by simp) rfl
      have ht1 := act_tmp (hat 1 114 (of_decide_eq_true (by kernel_rfl)) rfl)
      have hrb4 : F.eval (.tmp 4) = .pointer (some ⟨b4, 0, none⟩) := (hoff 4 (of_decide_eq_true (by kernel_rfl))).trans (by rw [E4.out]; rfl)
      have hrb6 : F.eval (.tmp 6) = .pointer (some ⟨b6, 0, none⟩) := (hoff 6 (of_decide_eq_true (by kernel_rfl))).trans (by rw [E6.out]; rfl)
      have hrb7 : F.eval (.tmp 7) = .pointer (some ⟨b7, 0, none⟩) := (hoff 7 (of_decide_eq_true (by kernel_rfl))).trans (by rw [E7.out]; rfl)
      clear hat hoff hp
      rw [hv1] at ht1
      have hc := hGW.2.1.cell 9
      simp at hc
      exact wp_value' (.int .i64 1) W (by unfold execOp; go_simp) ⟨_, rfl, rfl, hGW, hrefl W⟩
    | 3 =>
      injection (show some _ = some o from ho) with ho
      subst ho
      have hrb4 : F.eval (.tmp 4) = .pointer (some ⟨b4, 0, none⟩) := (hoff 4 (of_decide_eq_true (by kernel_rfl))).trans (by rw [E4.out]; rfl)
      have hrb6 : F.eval (.tmp 6) = .pointer (some ⟨b6, 0, none⟩) := (hoff 6 (of_decide_eq_true (by kernel_rfl))).trans (by rw [E6.out]; rfl)
      have hrb7 : F.eval (.tmp 7) = .pointer (some ⟨b7, 0, none⟩) := (hoff 7 (of_decide_eq_true (by kernel_rfl))).trans (by rw [E7.out]; rfl)
      clear hat hoff hp
      have hx := act_tmp hrb4
      exact wp_value' (.pointer (some ⟨b4, 10, none⟩)) W (by unfold execOp; go_simp) ⟨_, rfl, rfl, hGW, hrefl W⟩
    | 4 =>
      injection (show some _ = some o from ho) with ho
      subst ho
      have hv3 : MeetV b4 b6 b7 gp pc 3 (U 3) W := hp ⟨3, .data⟩ (by simp) rfl
      have ht3 := act_tmp (hat 3 116 (of_decide_eq_true (by kernel_rfl)) rfl)
      have hrb4 : F.eval (.tmp 4) = .pointer (some ⟨b4, 0, none⟩) := (hoff 4 (of_decide_eq_true (by kernel_rfl))).trans (by rw [E4.out]; rfl)
      have hrb6 : F.eval (.tmp 6) = .pointer (some ⟨b6, 0, none⟩) := (hoff 6 (of_decide_eq_true (by kernel_rfl))).trans (by rw [E6.out]; rfl)
      have hrb7 : F.eval (.tmp 7) = .pointer (some ⟨b7, 0, none⟩) := (hoff 7 (of_decide_eq_true (by kernel_rfl))).trans (by rw [E7.out]; rfl)
      clear hat hoff hp
      rw [hv3] at ht3
      have hc := hGW.2.1.cell 10
      simp at hc
      exact wp_value' (.int .i64 0) W (by unfold execOp; go_simp) ⟨_, rfl, rfl, hGW, hrefl W⟩
    | 5 =>
      injection (show some _ = some o from ho) with ho
      subst ho
      have hrb4 : F.eval (.tmp 4) = .pointer (some ⟨b4, 0, none⟩) := (hoff 4 (of_decide_eq_true (by kernel_rfl))).trans (by rw [E4.out]; rfl)
      have hrb6 : F.eval (.tmp 6) = .pointer (some ⟨b6, 0, none⟩) := (hoff 6 (of_decide_eq_true (by kernel_rfl))).trans (by rw [E6.out]; rfl)
      have hrb7 : F.eval (.tmp 7) = .pointer (some ⟨b7, 0, none⟩) := (hoff 7 (of_decide_eq_true (by kernel_rfl))).trans (by rw [E7.out]; rfl)
      clear hat hoff hp
      have hx := act_tmp hrb4
      exact wp_value' (.pointer (some ⟨b4, 11, none⟩)) W (by unfold execOp; go_simp) ⟨_, rfl, rfl, hGW, hrefl W⟩
    | 6 =>
      injection (show some _ = some o from ho) with ho
      subst ho
      have hv5 : MeetV b4 b6 b7 gp pc 5 (U 5) W := hp ⟨5, .data⟩ (by simp) rfl
      have ht5 := act_tmp (hat 5 118 (of_decide_eq_true (by kernel_rfl)) rfl)
      have hrb4 : F.eval (.tmp 4) = .pointer (some ⟨b4, 0, none⟩) := (hoff 4 (of_decide_eq_true (by kernel_rfl))).trans (by rw [E4.out]; rfl)
      have hrb6 : F.eval (.tmp 6) = .pointer (some ⟨b6, 0, none⟩) := (hoff 6 (of_decide_eq_true (by kernel_rfl))).trans (by rw [E6.out]; rfl)
      have hrb7 : F.eval (.tmp 7) = .pointer (some ⟨b7, 0, none⟩) := (hoff 7 (of_decide_eq_true (by kernel_rfl))).trans (by rw [E7.out]; rfl)
      clear hat hoff hp
      rw [hv5] at ht5
      exact wp_value' (.pointer (some ⟨b4, 11, none⟩)) W (by unfold execOp; go_simp) ⟨_, rfl, rfl, hGW, hrefl W⟩
    | 7 =>
      injection (show some _ = some o from ho) with ho
      subst ho
      have hv6 : MeetV b4 b6 b7 gp pc 6 (U 6) W := hp ⟨6, .data⟩ (by simp) rfl
      have ht6 := act_tmp (hat 6 119 (of_decide_eq_true (by kernel_rfl)) rfl)
      have hrb4 : F.eval (.tmp 4) = .pointer (some ⟨b4, 0, none⟩) := (hoff 4 (of_decide_eq_true (by kernel_rfl))).trans (by rw [E4.out]; rfl)
      have hrb6 : F.eval (.tmp 6) = .pointer (some ⟨b6, 0, none⟩) := (hoff 6 (of_decide_eq_true (by kernel_rfl))).trans (by rw [E6.out]; rfl)
      have hrb7 : F.eval (.tmp 7) = .pointer (some ⟨b7, 0, none⟩) := (hoff 7 (of_decide_eq_true (by kernel_rfl))).trans (by rw [E7.out]; rfl)
      clear hat hoff hp
      rw [hv6] at ht6
      have hc := hGW.2.1.cell 11
      simp at hc
      exact wp_value' (.int .i64 2) W (by unfold execOp; go_simp) ⟨_, rfl, rfl, hGW, hrefl W⟩
    | 8 =>
      injection (show some _ = some o from ho) with ho
      subst ho
      have hrb4 : F.eval (.tmp 4) = .pointer (some ⟨b4, 0, none⟩) := (hoff 4 (of_decide_eq_true (by kernel_rfl))).trans (by rw [E4.out]; rfl)
      have hrb6 : F.eval (.tmp 6) = .pointer (some ⟨b6, 0, none⟩) := (hoff 6 (of_decide_eq_true (by kernel_rfl))).trans (by rw [E6.out]; rfl)
      have hrb7 : F.eval (.tmp 7) = .pointer (some ⟨b7, 0, none⟩) := (hoff 7 (of_decide_eq_true (by kernel_rfl))).trans (by rw [E7.out]; rfl)
      clear hat hoff hp
      have hx := act_tmp hrb4
      exact wp_value' (.pointer (some ⟨b4, 11, none⟩)) W (by unfold execOp; go_simp) ⟨_, rfl, rfl, hGW, hrefl W⟩
    | 9 =>
      injection (show some _ = some o from ho) with ho
      subst ho
      have hv8 : MeetV b4 b6 b7 gp pc 8 (U 8) W := hp ⟨8, .data⟩ (by simp) rfl
      have ht8 := act_tmp (hat 8 121 (of_decide_eq_true (by kernel_rfl)) rfl)
      have hrb4 : F.eval (.tmp 4) = .pointer (some ⟨b4, 0, none⟩) := (hoff 4 (of_decide_eq_true (by kernel_rfl))).trans (by rw [E4.out]; rfl)
      have hrb6 : F.eval (.tmp 6) = .pointer (some ⟨b6, 0, none⟩) := (hoff 6 (of_decide_eq_true (by kernel_rfl))).trans (by rw [E6.out]; rfl)
      have hrb7 : F.eval (.tmp 7) = .pointer (some ⟨b7, 0, none⟩) := (hoff 7 (of_decide_eq_true (by kernel_rfl))).trans (by rw [E7.out]; rfl)
      clear hat hoff hp
      rw [hv8] at ht8
      exact wp_value' (.pointer (some ⟨b4, 12, none⟩)) W (by unfold execOp; go_simp) ⟨_, rfl, rfl, hGW, hrefl W⟩
    | 10 =>
      injection (show some _ = some o from ho) with ho
      subst ho
      have hv9 : MeetV b4 b6 b7 gp pc 9 (U 9) W := hp ⟨9, .data⟩ (by simp) rfl
      have ht9 := act_tmp (hat 9 122 (of_decide_eq_true (by kernel_rfl)) rfl)
      have hrb4 : F.eval (.tmp 4) = .pointer (some ⟨b4, 0, none⟩) := (hoff 4 (of_decide_eq_true (by kernel_rfl))).trans (by rw [E4.out]; rfl)
      have hrb6 : F.eval (.tmp 6) = .pointer (some ⟨b6, 0, none⟩) := (hoff 6 (of_decide_eq_true (by kernel_rfl))).trans (by rw [E6.out]; rfl)
      have hrb7 : F.eval (.tmp 7) = .pointer (some ⟨b7, 0, none⟩) := (hoff 7 (of_decide_eq_true (by kernel_rfl))).trans (by rw [E7.out]; rfl)
      clear hat hoff hp
      rw [hv9] at ht9
      have hc := hGW.2.1.cell 12
      simp at hc
      exact wp_value' (.int .i64 1) W (by unfold execOp; go_simp) ⟨_, rfl, rfl, hGW, hrefl W⟩
    | 11 =>
      injection (show some _ = some o from ho) with ho
      subst ho
      have hrb4 : F.eval (.tmp 4) = .pointer (some ⟨b4, 0, none⟩) := (hoff 4 (of_decide_eq_true (by kernel_rfl))).trans (by rw [E4.out]; rfl)
      have hrb6 : F.eval (.tmp 6) = .pointer (some ⟨b6, 0, none⟩) := (hoff 6 (of_decide_eq_true (by kernel_rfl))).trans (by rw [E6.out]; rfl)
      have hrb7 : F.eval (.tmp 7) = .pointer (some ⟨b7, 0, none⟩) := (hoff 7 (of_decide_eq_true (by kernel_rfl))).trans (by rw [E7.out]; rfl)
      clear hat hoff hp
      have hx := act_tmp hrb4
      exact wp_value' (.pointer (some ⟨b4, 16, none⟩)) W (by unfold execOp; go_simp) ⟨_, rfl, rfl, hGW, hrefl W⟩
    | 12 =>
      injection (show some _ = some o from ho) with ho
      subst ho
      have hv11 : MeetV b4 b6 b7 gp pc 11 (U 11) W := hp ⟨11, .data⟩ (by simp) rfl
      have ht11 := act_tmp (hat 11 124 (of_decide_eq_true (by kernel_rfl)) rfl)
      have hrb4 : F.eval (.tmp 4) = .pointer (some ⟨b4, 0, none⟩) := (hoff 4 (of_decide_eq_true (by kernel_rfl))).trans (by rw [E4.out]; rfl)
      have hrb6 : F.eval (.tmp 6) = .pointer (some ⟨b6, 0, none⟩) := (hoff 6 (of_decide_eq_true (by kernel_rfl))).trans (by rw [E6.out]; rfl)
      have hrb7 : F.eval (.tmp 7) = .pointer (some ⟨b7, 0, none⟩) := (hoff 7 (of_decide_eq_true (by kernel_rfl))).trans (by rw [E7.out]; rfl)
      clear hat hoff hp
      rw [hv11] at ht11
      have hc := hGW.2.1.cell 16
      simp at hc
      exact wp_value' (.slice (some ⟨gp, 0, none⟩) 0 pc) W (by unfold execOp; go_simp) ⟨_, rfl, rfl, hGW, hrefl W⟩
    | 13 =>
      injection (show some _ = some o from ho) with ho
      subst ho
      have hv12 : MeetV b4 b6 b7 gp pc 12 (U 12) W := hp ⟨12, .data⟩ (by simp) rfl
      have ht12 := act_tmp (hat 12 125 (of_decide_eq_true (by kernel_rfl)) rfl)
      have hrb4 : F.eval (.tmp 4) = .pointer (some ⟨b4, 0, none⟩) := (hoff 4 (of_decide_eq_true (by kernel_rfl))).trans (by rw [E4.out]; rfl)
      have hrb6 : F.eval (.tmp 6) = .pointer (some ⟨b6, 0, none⟩) := (hoff 6 (of_decide_eq_true (by kernel_rfl))).trans (by rw [E6.out]; rfl)
      have hrb7 : F.eval (.tmp 7) = .pointer (some ⟨b7, 0, none⟩) := (hoff 7 (of_decide_eq_true (by kernel_rfl))).trans (by rw [E7.out]; rfl)
      clear hat hoff hp
      rw [hv12] at ht12
      refine wp_enter' 62 #[.slice (some ⟨gp, 0, none⟩) 0 pc] (by unfold execOp; go_simp) ?_
      refine (copied_bare ⟨gp, 0, none⟩ 0 pc [] W (reads_none _ _ _ _) (by omega) (by simp)).mono ?_
      rintro e W' ⟨g', c', rfl, _, _, _, hb⟩
      exact ⟨_, rfl, _, rfl, ⟨g', c', rfl⟩, ⟨hGW.1.trans (hb.mono hGW.1.size), hGW.2.1.below hb hGW.2.1.lt, cells17_below hGW.2.2.1 hb, cells16_below hGW.2.2.2 hb⟩, fun h => h.below hb h.lt, fun ⟨g', c', h⟩ => ⟨g', c', h.below hb h.lt⟩⟩
    | 14 =>
      injection (show some _ = some o from ho) with ho
      subst ho
      have hv2 : MeetV b4 b6 b7 gp pc 2 (U 2) W := hp ⟨2, .data⟩ (by simp) rfl
      have ht2 := act_tmp (hat 2 115 (of_decide_eq_true (by kernel_rfl)) rfl)
      have hv4 : MeetV b4 b6 b7 gp pc 4 (U 4) W := hp ⟨4, .data⟩ (by simp) rfl
      have ht4 := act_tmp (hat 4 117 (of_decide_eq_true (by kernel_rfl)) rfl)
      have hv7 : MeetV b4 b6 b7 gp pc 7 (U 7) W := hp ⟨7, .data⟩ (by simp) rfl
      have ht7 := act_tmp (hat 7 120 (of_decide_eq_true (by kernel_rfl)) rfl)
      have hv10 : MeetV b4 b6 b7 gp pc 10 (U 10) W := hp ⟨10, .data⟩ (by simp) rfl
      have ht10 := act_tmp (hat 10 123 (of_decide_eq_true (by kernel_rfl)) rfl)
      have hv13 : MeetV b4 b6 b7 gp pc 13 (U 13) W := hp ⟨13, .data⟩ (by simp) rfl
      have ht13 := act_tmp (hat 13 126 (of_decide_eq_true (by kernel_rfl)) rfl)
      have hrb4 : F.eval (.tmp 4) = .pointer (some ⟨b4, 0, none⟩) := (hoff 4 (of_decide_eq_true (by kernel_rfl))).trans (by rw [E4.out]; rfl)
      have hrb6 : F.eval (.tmp 6) = .pointer (some ⟨b6, 0, none⟩) := (hoff 6 (of_decide_eq_true (by kernel_rfl))).trans (by rw [E6.out]; rfl)
      have hrb7 : F.eval (.tmp 7) = .pointer (some ⟨b7, 0, none⟩) := (hoff 7 (of_decide_eq_true (by kernel_rfl))).trans (by rw [E7.out]; rfl)
      clear hat hoff hp
      obtain ⟨g', c', hg'⟩ := hv13
      rw [hv2] at ht2
      rw [hv4] at ht4
      rw [hv7] at ht7
      rw [hv10] at ht10
      rw [hg'] at ht13
      exact wp_value' (.agg (awCmd ⟨g', 0, none⟩ c')) W (by unfold execOp; go_simp) ⟨_, rfl, ⟨g', c', rfl⟩, hGW, hrefl W⟩
    | 15 =>
      injection (show some _ = some o from ho) with ho
      subst ho
      have hv0 : MeetV b4 b6 b7 gp pc 0 (U 0) W := hp ⟨0, .data⟩ (by simp) rfl
      have ht0 := act_tmp (hat 0 113 (of_decide_eq_true (by kernel_rfl)) rfl)
      have hrb4 : F.eval (.tmp 4) = .pointer (some ⟨b4, 0, none⟩) := (hoff 4 (of_decide_eq_true (by kernel_rfl))).trans (by rw [E4.out]; rfl)
      have hrb6 : F.eval (.tmp 6) = .pointer (some ⟨b6, 0, none⟩) := (hoff 6 (of_decide_eq_true (by kernel_rfl))).trans (by rw [E6.out]; rfl)
      have hrb7 : F.eval (.tmp 7) = .pointer (some ⟨b7, 0, none⟩) := (hoff 7 (of_decide_eq_true (by kernel_rfl))).trans (by rw [E7.out]; rfl)
      clear hat hoff hp
      rw [hv0] at ht0
      obtain ⟨a0, a1, a2, a3, a4, a5, a6, a7, a8, a9, a10, a11, a12, a13, a14, a15, a16, hbk⟩ := hGW.2.2.1
      refine wp_skip' (putCells W b6 0 (noMail).toList) (store_mail 6 113 rfl F W b6 hrb6 (by simpa [Act.eval] using ht0) hbk) ?_
      exact ⟨_, rfl, putCells_blk hbk rfl, ⟨putCells_below HB6.out _ _ _ _ hGW.1, (putCells_save _ _ _ _).blk hGW.2.1 HN46.out, ⟨_, _, _, _, _, _, _, _, _, _, _, _, _, _, _, _, _, putCells_blk (l := noMail.toList) hbk rfl⟩, by obtain ⟨q0, q1, q2, q3, q4, q5, q6, q7, q8, q9, q10, q11, q12, q13, q14, q15, h7⟩ := hGW.2.2.2; exact ⟨_, _, _, _, _, _, _, _, _, _, _, _, _, _, _, _, (putCells_save _ _ _ _).blk h7 HN76.out⟩⟩, fun _ => putCells_blk hbk rfl, fun ⟨g', c', h⟩ => ⟨g', c', (putCells_save _ _ _ _).blk h HN76.out⟩⟩
    | 16 =>
      injection (show some _ = some o from ho) with ho
      subst ho
      have hv14 : MeetV b4 b6 b7 gp pc 14 (U 14) W := hp ⟨14, .data⟩ (by simp) rfl
      have ht14 := act_tmp (hat 14 127 (of_decide_eq_true (by kernel_rfl)) rfl)
      have hrb4 : F.eval (.tmp 4) = .pointer (some ⟨b4, 0, none⟩) := (hoff 4 (of_decide_eq_true (by kernel_rfl))).trans (by rw [E4.out]; rfl)
      have hrb6 : F.eval (.tmp 6) = .pointer (some ⟨b6, 0, none⟩) := (hoff 6 (of_decide_eq_true (by kernel_rfl))).trans (by rw [E6.out]; rfl)
      have hrb7 : F.eval (.tmp 7) = .pointer (some ⟨b7, 0, none⟩) := (hoff 7 (of_decide_eq_true (by kernel_rfl))).trans (by rw [E7.out]; rfl)
      clear hat hoff hp
      obtain ⟨g', c', hg'⟩ := hv14
      rw [hg'] at ht14
      obtain ⟨a0, a1, a2, a3, a4, a5, a6, a7, a8, a9, a10, a11, a12, a13, a14, a15, hbk⟩ := hGW.2.2.2
      refine wp_skip' (putCells W b7 0 (awCmd ⟨g', 0, none⟩ c').toList) (store_cmd 7 127 rfl F W b7 hrb7 (by simpa [Act.eval] using ht14) hbk) ?_
      exact ⟨_, rfl, ⟨g', c', putCells_blk hbk rfl⟩, ⟨putCells_below HB7.out _ _ _ _ hGW.1, (putCells_save _ _ _ _).blk hGW.2.1 HN47.out, by obtain ⟨q0, q1, q2, q3, q4, q5, q6, q7, q8, q9, q10, q11, q12, q13, q14, q15, q16, h6⟩ := hGW.2.2.1; exact ⟨_, _, _, _, _, _, _, _, _, _, _, _, _, _, _, _, _, (putCells_save _ _ _ _).blk h6 (Ne.symm HN76.out)⟩, ⟨_, _, _, _, _, _, _, _, _, _, _, _, _, _, _, _, putCells_blk (l := (awCmd ⟨g', 0, none⟩ c').toList) hbk rfl⟩⟩, fun h => (putCells_save _ _ _ _).blk h (Ne.symm HN76.out), fun _ => ⟨g', c', putCells_blk hbk rfl⟩⟩
    | 17 =>
      injection (show some _ = some o from ho) with ho
      subst ho
      have hrb4 : F.eval (.tmp 4) = .pointer (some ⟨b4, 0, none⟩) := (hoff 4 (of_decide_eq_true (by kernel_rfl))).trans (by rw [E4.out]; rfl)
      have hrb6 : F.eval (.tmp 6) = .pointer (some ⟨b6, 0, none⟩) := (hoff 6 (of_decide_eq_true (by kernel_rfl))).trans (by rw [E6.out]; rfl)
      have hrb7 : F.eval (.tmp 7) = .pointer (some ⟨b7, 0, none⟩) := (hoff 7 (of_decide_eq_true (by kernel_rfl))).trans (by rw [E7.out]; rfl)
      clear hat hoff hp
      exact wp_assign' (.const (.int .i64 2)) rfl ⟨_, rfl, rfl, hGW, hrefl W⟩
    | i + 18 => exact absurd ho (by simp)
  case hend =>
    intro U W hGW hV
    have h15 : Blk W b6 30 noMail := hV 15 (of_decide_eq_true (by kernel_rfl))
    obtain ⟨g', c', h16⟩ := hV 16 (of_decide_eq_true (by kernel_rfl))
    have h17 : U 17 = .int .i64 2 := hV 17 (of_decide_eq_true (by kernel_rfl))
    have K15 := Lib.hid h15
    have K16 := Lib.hid h16
    have HW := Lib.hid hGW.1
    clear hV hGW h15 h16
    simp [putU, dstAt, Act.put, Exit.then, h17]
    go_wp2
    have hk6 := K15.out
    have hk7 := K16.out
    rw [E6.out] at hk6
    rw [E7.out] at hk7
    refine bodyPost_ret (v := .tuple #[.agg noMail, .agg (awCmd ⟨g', 0, none⟩ c'), .int .i64 2]) (meet_results rfl rfl rfl hk6 hk7) rfl ?_
    exact ⟨⟨g', c', rfl⟩, HW.out⟩

end Go.Proofs.Ytaipgdhdfpemcaa
