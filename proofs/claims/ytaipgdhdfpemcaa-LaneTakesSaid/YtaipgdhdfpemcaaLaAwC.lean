/-
  THE WALKS OF THE LANE: a mail, a command, read whole.
-/
import Derived.Test.YtaipgdhdfpemcaaLaStore
import Derived.Test.YtaipgdhdfpemcaaLaOffer
namespace Go.Proofs.Ytaipgdhdfpemcaa
open Go.RowKit

set_option maxRecDepth 100000 in
set_option maxHeartbeats 4000000 in
theorem load_mail {o : Oper} (p : Tmp) (hop : o.op = .load 30 (.tmp p)) (F : Act) (W : World) (b : Nat) {x0 x1 x2 x3 x4 x5 x6 x7 x8 x9 x10 x11 x12 x13 x14 x15 x16 : Value} (hp : F.eval (.tmp p) = .pointer (some ⟨b, 0, none⟩)) (hbk : Blk W b 30 #[x0, x1, x2, x3, x4, x5, x6, x7, x8, x9, x10, x11, x12, x13, x14, x15, x16]) :
    (execOp F.eval o).run Try.prog W = .ok (.value (.agg #[x0, x1, x2, x3, x4, x5, x6, x7, x8, x9, x10, x11, x12, x13, x14, x15, x16])) W := by
  have d0 := hbk.cell 0
  have d1 := hbk.cell 1
  have d2 := hbk.cell 2
  have d3 := hbk.cell 3
  have d4 := hbk.cell 4
  have d5 := hbk.cell 5
  have d6 := hbk.cell 6
  have d7 := hbk.cell 7
  have d8 := hbk.cell 8
  have d9 := hbk.cell 9
  have d10 := hbk.cell 10
  have d11 := hbk.cell 11
  have d12 := hbk.cell 12
  have d13 := hbk.cell 13
  have d14 := hbk.cell 14
  have d15 := hbk.cell 15
  have d16 := hbk.cell 16
  simp at d0 d1 d2 d3 d4 d5 d6 d7 d8 d9 d10 d11 d12 d13 d14 d15 d16
  clear hbk
  have hp2 := act_tmp hp
  unfold execOp
  rw [hop]
  go_simp

set_option maxRecDepth 100000 in
set_option maxHeartbeats 4000000 in
theorem load_cmd {o : Oper} (p : Tmp) (hop : o.op = .load 47 (.tmp p)) (F : Act) (W : World) (b : Nat) {x0 x1 x2 x3 x4 x5 x6 x7 x8 x9 x10 x11 x12 x13 x14 x15 : Value} (hp : F.eval (.tmp p) = .pointer (some ⟨b, 0, none⟩)) (hbk : Blk W b 47 #[x0, x1, x2, x3, x4, x5, x6, x7, x8, x9, x10, x11, x12, x13, x14, x15]) :
    (execOp F.eval o).run Try.prog W = .ok (.value (.agg #[x0, x1, x2, x3, x4, x5, x6, x7, x8, x9, x10, x11, x12, x13, x14, x15])) W := by
  have d0 := hbk.cell 0
  have d1 := hbk.cell 1
  have d2 := hbk.cell 2
  have d3 := hbk.cell 3
  have d4 := hbk.cell 4
  have d5 := hbk.cell 5
  have d6 := hbk.cell 6
  have d7 := hbk.cell 7
  have d8 := hbk.cell 8
  have d9 := hbk.cell 9
  have d10 := hbk.cell 10
  have d11 := hbk.cell 11
  have d12 := hbk.cell 12
  have d13 := hbk.cell 13
  have d14 := hbk.cell 14
  have d15 := hbk.cell 15
  simp at d0 d1 d2 d3 d4 d5 d6 d7 d8 d9 d10 d11 d12 d13 d14 d15
  clear hbk
  have hp2 := act_tmp hp
  unfold execOp
  rw [hop]
  go_simp
end Go.Proofs.Ytaipgdhdfpemcaa

namespace Go.Proofs.Ytaipgdhdfpemcaa
open Go.RowKit

/-- what the operations yield that look back -/
def TakeV (lb gp b : Nat) : Nat → Value → World → Prop
  | 0, v, _ => v = .pointer (some ⟨lb, 0, none⟩)
  | 1, v, _ => v = .pointer (some ⟨lb, 0, none⟩)
  | 2, v, _ => v = .pointer (some ⟨lb, 0, none⟩)
  | 3, v, _ => v = .pointer (some ⟨lb, 7, none⟩)
  | 4, v, _ => v = .int .i64 2 ∨ v = .int .i64 0
  | 5, v, _ => v = .pointer (some ⟨lb, 0, none⟩)
  | 6, v, _ => v = .pointer (some ⟨lb, 0, none⟩)
  | 7, v, _ => v = .pointer (some ⟨lb, 0, none⟩)
  | 8, v, _ => v = .pointer (some ⟨lb, 0, none⟩)
  | 9, v, _ => v = .pointer (some ⟨lb, 0, none⟩)
  | 10, v, _ => v = .int .i64 0
  | 11, v, _ => v = .slice (some ⟨gp, 0, none⟩) 2 2
  | 12, v, W => ∃ ge, v = .slice (some ⟨ge, 0, none⟩) 2 2 ∧ ge ≠ lb ∧ ge < W.heap.size ∧ W.cell? ⟨ge, 0, none⟩ = some (.int .i64 1) ∧ W.cell? ⟨ge, 1, none⟩ = some (.int .i64 1)
  | 13, v, _ => v = .pointer (some ⟨b, 11, none⟩)
  | 14, v, _ => v = .agg #[.int .i64 0, .int .i64 0]
  | 15, v, _ => v = .int .i64 0
  | 16, v, _ => v = .int .i64 0
  | 17, v, _ => v = .int .i64 0
  | 18, v, _ => v = .pointer (some ⟨lb, 0, none⟩)
  | 19, v, _ => v = .pointer (some ⟨lb, 7, none⟩)
  | 20, _, W => Blk W lb 127 (laneC 0 0 0 0 none 0 0 1 0 0)
  | _, _, _ => False

set_option maxRecDepth 100000 in
set_option maxHeartbeats 4000000 in
theorem take_aw (lb gp : Nat) (w : World) (hl : Blk w lb 127 (laneC 0 0 0 0 none 0 0 1 0 2)) (ho : Blk w gp 45 (opsV awOps).toArray) (hne : gp ≠ lb) (B : Nat) (hB : B ≤ lb) :
    Calls Try.prog 28 #[.pointer (some ⟨lb, 0, none⟩), .agg awAnswer, .slice (some ⟨gp, 0, none⟩) 2 2] w fun x w' => x = .returned (.int .i64 1) ∧ Blk w' lb 127 (laneC 0 0 0 0 none 0 0 1 0 0) ∧ Save lb w w' ∧ w.heap.size ≤ w'.heap.size ∧ Below B w w' := by
  have hbl : Below w.heap.size w (w.alloc (.cells awAnswer 30)) := (Below.refl _ _).alloc (Nat.le_refl _) _
  have hk := Blk.new w 30 awAnswer
  have hl1 := hl.below hbl hl.lt
  have ho1 := ho.below hbl ho.lt
  have hlt := hl.lt
  have HBW := Lib.hid (show B ≤ w.heap.size by omega)
  have HBL0 := Lib.hid hB
  have HBL := Lib.hid hbl
  have HK := Lib.hid hk
  have HL1 := Lib.hid hl1
  have HO1 := Lib.hid ho1
  clear hl ho hbl hk hl1 ho1
  go_enter Try.func28, Try.ntmps28
  go_wp2_with fail
  refine (check10c _).mono ?_
  rintro x w1 ⟨rfl, hb1⟩
  have hk := HK.out.below hb1 HK.out.lt
  have hl1 := HL1.out.below hb1 HL1.out.lt
  have ho1 := HO1.out.below hb1 HO1.out.lt
  have hbw := HBL.out.trans (hb1.mono HBL.out.size)
  have c5 := hk.cell 5
  have c9 := hk.cell 9
  have l5 := hl1.cell 5
  simp at c5 c9 l5
  have RK := Lib.hid hk
  have RL := Lib.hid hl1
  have RO := Lib.hid ho1
  have RB := Lib.hid hbw
  clear hk hl1 ho1 hbw hb1
  go_wp2_with fail
  go_quiet (fail)
  go_wp2_with fail
  clear c5 c9 l5
  obtain ⟨b, eb⟩ : ∃ b, b = w.heap.size := ⟨_, rfl⟩
  have HNB := Lib.hid (show b ≠ lb by omega)
  have HNG := Lib.hid hne
  have EB := Lib.hid eb
  clear eb hne hB
  refine wp_region_stores (by kernel_rfl) (TakeV lb gp b) (fun W => Save lb w W ∧ (Blk W lb 127 (laneC 0 0 0 0 none 0 0 1 0 2) ∨ Blk W lb 127 (laneC 0 0 0 0 none 0 0 1 0 0)) ∧ Blk W b 30 awAnswer ∧ Blk W gp 45 (opsV awOps).toArray ∧ w.heap.size ≤ W.heap.size ∧ Below B w W) (fun W W' => Save lb W W' ∧ W.heap.size ≤ W'.heap.size ∧ (Blk W lb 127 (laneC 0 0 0 0 none 0 0 1 0 0) → Blk W' lb 127 (laneC 0 0 0 0 none 0 0 1 0 0))) (by kernel_rfl) ?hG ?hmono ?hstep ?hend
  case hG =>
    rw [EB.out]
    exact ⟨fun b h _ => RB.out.block b h, Or.inl RL.out, RK.out, RO.out, RB.out.size, ⟨(RB.out.mono HBW.out).os, (RB.out.mono HBW.out).tape, (RB.out.mono HBW.out).output, (RB.out.mono HBW.out).size, (RB.out.mono HBW.out).block⟩⟩
  case hmono =>
    intro i v W W' hx hv
    match i with
    | 20 => exact hx.2.2 hv
    | 12 =>
      obtain ⟨ge, h1, h2, h3, h4, h5⟩ := hv
      refine ⟨ge, h1, h2, Nat.lt_of_lt_of_le h3 hx.2.1, ?_, ?_⟩
      · rw [← h4]; exact World.cell?_of_block (hx.1 ge h3 h2)
      · rw [← h5]; exact World.cell?_of_block (hx.1 ge h3 h2)
    | 0 | 1 | 2 | 3 | 4 | 5 | 6 | 7 | 8 | 9 | 10 | 11 | 13 | 14 | 15 | 16 | 17 | 18 | 19 => exact hv
    | i + 21 => exact hv
  case hstep =>
    intro i o F U W ho hGW hat hoff hp
    have hrefl := fun W : World => (⟨fun _ _ _ => rfl, Nat.le_refl _, fun h => h⟩ : Save lb W W ∧ W.heap.size ≤ W.heap.size ∧ (Blk W lb 127 (laneC 0 0 0 0 none 0 0 1 0 0) → Blk W lb 127 (laneC 0 0 0 0 none 0 0 1 0 0)))
    match i with
    | 0 =>
      injection (show some _ = some o from ho) with ho
      subst ho
      exact wp_move' (.tmp 0) rfl ⟨_, rfl, (hoff 0 (of_decide_eq_true (by kernel_rfl))).trans rfl, hGW, hrefl W⟩
    | 1 =>
      injection (show some _ = some o from ho) with ho
      subst ho
      exact wp_move' (.tmp 0) rfl ⟨_, rfl, (hoff 0 (of_decide_eq_true (by kernel_rfl))).trans rfl, hGW, hrefl W⟩
    | 2 =>
      injection (show some _ = some o from ho) with ho
      subst ho
      have hv1 : TakeV lb gp b 1 (U 1) W := hp ⟨1, .data⟩ (by simp) rfl
      have ht1 := act_tmp (hat 1 20 (of_decide_eq_true (by kernel_rfl)) rfl)
      have hrb4 : F.eval (.tmp 4) = .pointer (some ⟨b, 0, none⟩) := (hoff 4 (of_decide_eq_true (by kernel_rfl))).trans (by rw [EB.out]; rfl)
      clear hat hoff hp
      rw [hv1] at ht1
      exact wp_value' (.pointer (some ⟨lb, 0, none⟩)) W (by unfold execOp; go_simp) ⟨_, rfl, rfl, hGW, hrefl W⟩
    | 3 =>
      injection (show some _ = some o from ho) with ho
      subst ho
      have hv2 : TakeV lb gp b 2 (U 2) W := hp ⟨2, .data⟩ (by simp) rfl
      have ht2 := act_tmp (hat 2 21 (of_decide_eq_true (by kernel_rfl)) rfl)
      have hrb4 : F.eval (.tmp 4) = .pointer (some ⟨b, 0, none⟩) := (hoff 4 (of_decide_eq_true (by kernel_rfl))).trans (by rw [EB.out]; rfl)
      clear hat hoff hp
      rw [hv2] at ht2
      exact wp_value' (.pointer (some ⟨lb, 7, none⟩)) W (by unfold execOp; go_simp) ⟨_, rfl, rfl, hGW, hrefl W⟩
    | 4 =>
      injection (show some _ = some o from ho) with ho
      subst ho
      have hv3 : TakeV lb gp b 3 (U 3) W := hp ⟨3, .data⟩ (by simp) rfl
      have ht3 := act_tmp (hat 3 22 (of_decide_eq_true (by kernel_rfl)) rfl)
      have hrb4 : F.eval (.tmp 4) = .pointer (some ⟨b, 0, none⟩) := (hoff 4 (of_decide_eq_true (by kernel_rfl))).trans (by rw [EB.out]; rfl)
      clear hat hoff hp
      rw [hv3] at ht3
      rcases hGW.2.1 with h | h
      · have hc := h.cell 7
        simp at hc
        exact wp_value' (.int .i64 2) W (by unfold execOp; go_simp) ⟨_, rfl, Or.inl rfl, hGW, hrefl W⟩
      · have hc := h.cell 7
        simp at hc
        exact wp_value' (.int .i64 0) W (by unfold execOp; go_simp) ⟨_, rfl, Or.inr rfl, hGW, hrefl W⟩
    | 5 =>
      injection (show some _ = some o from ho) with ho
      subst ho
      exact wp_move' (.tmp 0) rfl ⟨_, rfl, (hoff 0 (of_decide_eq_true (by kernel_rfl))).trans rfl, hGW, hrefl W⟩
    | 6 =>
      injection (show some _ = some o from ho) with ho
      subst ho
      have hv5 : TakeV lb gp b 5 (U 5) W := hp ⟨5, .data⟩ (by simp) rfl
      have ht5 := act_tmp (hat 5 24 (of_decide_eq_true (by kernel_rfl)) rfl)
      have hrb4 : F.eval (.tmp 4) = .pointer (some ⟨b, 0, none⟩) := (hoff 4 (of_decide_eq_true (by kernel_rfl))).trans (by rw [EB.out]; rfl)
      clear hat hoff hp
      rw [hv5] at ht5
      exact wp_value' (.pointer (some ⟨lb, 0, none⟩)) W (by unfold execOp; go_simp) ⟨_, rfl, rfl, hGW, hrefl W⟩
    | 7 =>
      injection (show some _ = some o from ho) with ho
      subst ho
      have hv6 : TakeV lb gp b 6 (U 6) W := hp ⟨6, .data⟩ (by simp) rfl
      have ht6 := act_tmp (hat 6 25 (of_decide_eq_true (by kernel_rfl)) rfl)
      have hrb4 : F.eval (.tmp 4) = .pointer (some ⟨b, 0, none⟩) := (hoff 4 (of_decide_eq_true (by kernel_rfl))).trans (by rw [EB.out]; rfl)
      clear hat hoff hp
      rw [hv6] at ht6
      exact wp_value' (.pointer (some ⟨lb, 0, none⟩)) W (by unfold execOp; go_simp) ⟨_, rfl, rfl, hGW, hrefl W⟩
    | 8 =>
      injection (show some _ = some o from ho) with ho
      subst ho
      have hv7 : TakeV lb gp b 7 (U 7) W := hp ⟨7, .data⟩ (by simp) rfl
      have ht7 := act_tmp (hat 7 26 (of_decide_eq_true (by kernel_rfl)) rfl)
      have hrb4 : F.eval (.tmp 4) = .pointer (some ⟨b, 0, none⟩) := (hoff 4 (of_decide_eq_true (by kernel_rfl))).trans (by rw [EB.out]; rfl)
      clear hat hoff hp
      rw [hv7] at ht7
      exact wp_value' (.pointer (some ⟨lb, 0, none⟩)) W (by unfold execOp; go_simp) ⟨_, rfl, rfl, hGW, hrefl W⟩
    | 9 =>
      injection (show some _ = some o from ho) with ho
      subst ho
      have hv8 : TakeV lb gp b 8 (U 8) W := hp ⟨8, .data⟩ (by simp) rfl
      have ht8 := act_tmp (hat 8 27 (of_decide_eq_true (by kernel_rfl)) rfl)
      have hrb4 : F.eval (.tmp 4) = .pointer (some ⟨b, 0, none⟩) := (hoff 4 (of_decide_eq_true (by kernel_rfl))).trans (by rw [EB.out]; rfl)
      clear hat hoff hp
      rw [hv8] at ht8
      exact wp_value' (.pointer (some ⟨lb, 0, none⟩)) W (by unfold execOp; go_simp) ⟨_, rfl, rfl, hGW, hrefl W⟩
    | 10 =>
      injection (show some _ = some o from ho) with ho
      subst ho
      have hv9 : TakeV lb gp b 9 (U 9) W := hp ⟨9, .data⟩ (by simp) rfl
      have ht9 := act_tmp (hat 9 28 (of_decide_eq_true (by kernel_rfl)) rfl)
      have hrb4 : F.eval (.tmp 4) = .pointer (some ⟨b, 0, none⟩) := (hoff 4 (of_decide_eq_true (by kernel_rfl))).trans (by rw [EB.out]; rfl)
      clear hat hoff hp
      rw [hv9] at ht9
      have hc : W.cell? ⟨lb, 0, none⟩ = some (.int .i64 0) := by rcases hGW.2.1 with h | h <;> (rw [h.cell 0]; rfl)
      exact wp_value' (.int .i64 0) W (by unfold execOp; go_simp) ⟨_, rfl, rfl, hGW, hrefl W⟩
    | 11 =>
      injection (show some _ = some o from ho) with ho
      subst ho
      exact wp_move' (.tmp 2) rfl ⟨_, rfl, (hoff 2 (of_decide_eq_true (by kernel_rfl))).trans rfl, hGW, hrefl W⟩
    | 12 =>
      injection (show some _ = some o from ho) with ho
      subst ho
      have hv11 : TakeV lb gp b 11 (U 11) W := hp ⟨11, .data⟩ (by simp) rfl
      have ht11 := act_tmp (hat 11 30 (of_decide_eq_true (by kernel_rfl)) rfl)
      have hrb4 : F.eval (.tmp 4) = .pointer (some ⟨b, 0, none⟩) := (hoff 4 (of_decide_eq_true (by kernel_rfl))).trans (by rw [EB.out]; rfl)
      clear hat hoff hp
      rw [hv11] at ht11
      refine wp_enter' 56 #[.slice (some ⟨gp, 0, none⟩) 2 2] (by unfold execOp; go_simp) ?_
      refine (epochs_any (some ⟨gp, 0, none⟩) 2 2 awOps W (aw_reads hGW.2.2.2.1) (by omega)).mono ?_
      rintro e W' ⟨ge, rfl, hre, hb⟩
      obtain ⟨ad, e1, hlt, hcs⟩ := hre.2 (by omega)
      injection e1 with e1
      subst e1
      have q0 := hcs 0 (.int .i64 1) rfl
      have q1 := hcs 1 (.int .i64 1) rfl
      have q0' : W'.cell? ⟨ge, 0, none⟩ = some (.int .i64 1) := q0
      have q1' : W'.cell? ⟨ge, 1, none⟩ = some (.int .i64 1) := q1
      have hne : ge ≠ lb := by
        intro e
        have hc : W'.cell? ⟨lb, 0, none⟩ = some (.int .i64 0) := by rcases hGW.2.1 with h | h <;> (rw [(h.below hb h.lt).cell 0]; rfl)
        rw [e, hc] at q0'
        simp at q0'
      exact ⟨_, rfl, _, rfl, ⟨ge, rfl, hne, hlt, q0', q1'⟩, ⟨hGW.1.below hGW.2.2.2.2.1 hb, (by rcases hGW.2.1 with h | h; exact Or.inl (h.below hb h.lt); exact Or.inr (h.below hb h.lt)), hGW.2.2.1.below hb hGW.2.2.1.lt, hGW.2.2.2.1.below hb hGW.2.2.2.1.lt, Nat.le_trans hGW.2.2.2.2.1 hb.size, hGW.2.2.2.2.2.trans (hb.mono (Nat.le_trans HBW.out hGW.2.2.2.2.1))⟩, Save.of hb, hb.size, fun h => h.below hb h.lt⟩
    | 13 =>
      injection (show some _ = some o from ho) with ho
      subst ho
      have hrb4 : F.eval (.tmp 4) = .pointer (some ⟨b, 0, none⟩) := (hoff 4 (of_decide_eq_true (by kernel_rfl))).trans (by rw [EB.out]; rfl)
      clear hat hoff hp
      have hx := act_tmp hrb4
      exact wp_value' (.pointer (some ⟨b, 11, none⟩)) W (by unfold execOp; go_simp) ⟨_, rfl, rfl, hGW, hrefl W⟩
    | 14 =>
      injection (show some _ = some o from ho) with ho
      subst ho
      have hv13 : TakeV lb gp b 13 (U 13) W := hp ⟨13, .data⟩ (by simp) rfl
      have ht13 := act_tmp (hat 13 32 (of_decide_eq_true (by kernel_rfl)) rfl)
      have hrb4 : F.eval (.tmp 4) = .pointer (some ⟨b, 0, none⟩) := (hoff 4 (of_decide_eq_true (by kernel_rfl))).trans (by rw [EB.out]; rfl)
      clear hat hoff hp
      rw [hv13] at ht13
      have hc := hGW.2.2.1.cell 11
      have hd := hGW.2.2.1.cell 12
      simp at hc hd
      exact wp_value' (.agg #[.int .i64 0, .int .i64 0]) W (by unfold execOp; go_simp) ⟨_, rfl, rfl, hGW, hrefl W⟩
    | 15 =>
      injection (show some _ = some o from ho) with ho
      subst ho
      have hv12 : TakeV lb gp b 12 (U 12) W := hp ⟨12, .data⟩ (by simp) rfl
      have ht12 := act_tmp (hat 12 31 (of_decide_eq_true (by kernel_rfl)) rfl)
      have hv14 : TakeV lb gp b 14 (U 14) W := hp ⟨14, .data⟩ (by simp) rfl
      have ht14 := act_tmp (hat 14 33 (of_decide_eq_true (by kernel_rfl)) rfl)
      have hrb4 : F.eval (.tmp 4) = .pointer (some ⟨b, 0, none⟩) := (hoff 4 (of_decide_eq_true (by kernel_rfl))).trans (by rw [EB.out]; rfl)
      clear hat hoff hp
      obtain ⟨ge, hge, hne, hlt, q0, q1⟩ := hv12
      rw [hge] at ht12
      rw [hv14] at ht14
      refine wp_enter' 79 #[.slice (some ⟨ge, 0, none⟩) 2 2, .agg #[.int .i64 0, .int .i64 0]] (by unfold execOp; go_simp) ?_
      have hre : Reads W W.heap.size 1 (some ⟨ge, 0, none⟩) 2 (intV .i64 [1, 1]) := by
        refine ⟨rfl, fun _ => ⟨_, rfl, hlt, fun j u hu => ?_⟩⟩
        match j with
        | 0 => rw [show (⟨ge, 0, none⟩ : Addr).add 0 = ⟨ge, 0, none⟩ from rfl, q0]; exact hu
        | 1 => rw [show (⟨ge, 0, none⟩ : Addr).add 1 = ⟨ge, 1, none⟩ from rfl, q1]; exact hu
        | j + 2 => simp [intV] at hu
      refine (next_any (some ⟨ge, 0, none⟩) 2 2 [1, 1] W hre (by unfold maxLen; omega) 0 0 (by omega)).mono ?_
      rintro e W' ⟨rfl, hb⟩
      exact ⟨_, rfl, _, rfl, rfl, ⟨hGW.1.below hGW.2.2.2.2.1 hb, (by rcases hGW.2.1 with h | h; exact Or.inl (h.below hb h.lt); exact Or.inr (h.below hb h.lt)), hGW.2.2.1.below hb hGW.2.2.1.lt, hGW.2.2.2.1.below hb hGW.2.2.2.1.lt, Nat.le_trans hGW.2.2.2.2.1 hb.size, hGW.2.2.2.2.2.trans (hb.mono (Nat.le_trans HBW.out hGW.2.2.2.2.1))⟩, Save.of hb, hb.size, fun h => h.below hb h.lt⟩
    | 16 =>
      injection (show some _ = some o from ho) with ho
      subst ho
      have hv10 : TakeV lb gp b 10 (U 10) W := hp ⟨10, .data⟩ (by simp) rfl
      have ht10 := act_tmp (hat 10 29 (of_decide_eq_true (by kernel_rfl)) rfl)
      have hv15 : TakeV lb gp b 15 (U 15) W := hp ⟨15, .data⟩ (by simp) rfl
      have ht15 := act_tmp (hat 15 34 (of_decide_eq_true (by kernel_rfl)) rfl)
      have hrb4 : F.eval (.tmp 4) = .pointer (some ⟨b, 0, none⟩) := (hoff 4 (of_decide_eq_true (by kernel_rfl))).trans (by rw [EB.out]; rfl)
      clear hat hoff hp
      rw [hv10] at ht10
      rw [hv15] at ht15
      exact wp_value' (.int .i64 0) W (by unfold execOp; go_simp) ⟨_, rfl, rfl, hGW, hrefl W⟩
    | 17 =>
      injection (show some _ = some o from ho) with ho
      subst ho
      have hv4 : TakeV lb gp b 4 (U 4) W := hp ⟨4, .data⟩ (by simp) rfl
      have ht4 := act_tmp (hat 4 23 (of_decide_eq_true (by kernel_rfl)) rfl)
      have hv16 : TakeV lb gp b 16 (U 16) W := hp ⟨16, .data⟩ (by simp) rfl
      have ht16 := act_tmp (hat 16 35 (of_decide_eq_true (by kernel_rfl)) rfl)
      have hrb4 : F.eval (.tmp 4) = .pointer (some ⟨b, 0, none⟩) := (hoff 4 (of_decide_eq_true (by kernel_rfl))).trans (by rw [EB.out]; rfl)
      clear hat hoff hp
      rw [hv16] at ht16
      rcases hv4 with hv4 | hv4
      · rw [hv4] at ht4
        exact wp_value' (.int .i64 0) W (by unfold execOp; go_simp) ⟨_, rfl, rfl, hGW, hrefl W⟩
      · rw [hv4] at ht4
        exact wp_value' (.int .i64 0) W (by unfold execOp; go_simp) ⟨_, rfl, rfl, hGW, hrefl W⟩
    | 18 =>
      injection (show some _ = some o from ho) with ho
      subst ho
      have hv0 : TakeV lb gp b 0 (U 0) W := hp ⟨0, .data⟩ (by simp) rfl
      have ht0 := act_tmp (hat 0 19 (of_decide_eq_true (by kernel_rfl)) rfl)
      have hrb4 : F.eval (.tmp 4) = .pointer (some ⟨b, 0, none⟩) := (hoff 4 (of_decide_eq_true (by kernel_rfl))).trans (by rw [EB.out]; rfl)
      clear hat hoff hp
      rw [hv0] at ht0
      exact wp_value' (.pointer (some ⟨lb, 0, none⟩)) W (by unfold execOp; go_simp) ⟨_, rfl, rfl, hGW, hrefl W⟩
    | 19 =>
      injection (show some _ = some o from ho) with ho
      subst ho
      have hv18 : TakeV lb gp b 18 (U 18) W := hp ⟨18, .data⟩ (by simp) rfl
      have ht18 := act_tmp (hat 18 37 (of_decide_eq_true (by kernel_rfl)) rfl)
      have hrb4 : F.eval (.tmp 4) = .pointer (some ⟨b, 0, none⟩) := (hoff 4 (of_decide_eq_true (by kernel_rfl))).trans (by rw [EB.out]; rfl)
      clear hat hoff hp
      rw [hv18] at ht18
      exact wp_value' (.pointer (some ⟨lb, 7, none⟩)) W (by unfold execOp; go_simp) ⟨_, rfl, rfl, hGW, hrefl W⟩
    | 20 =>
      injection (show some _ = some o from ho) with ho
      subst ho
      have hv17 : TakeV lb gp b 17 (U 17) W := hp ⟨17, .data⟩ (by simp) rfl
      have ht17 := act_tmp (hat 17 36 (of_decide_eq_true (by kernel_rfl)) rfl)
      have hv19 : TakeV lb gp b 19 (U 19) W := hp ⟨19, .data⟩ (by simp) rfl
      have ht19 := act_tmp (hat 19 38 (of_decide_eq_true (by kernel_rfl)) rfl)
      have hrb4 : F.eval (.tmp 4) = .pointer (some ⟨b, 0, none⟩) := (hoff 4 (of_decide_eq_true (by kernel_rfl))).trans (by rw [EB.out]; rfl)
      clear hat hoff hp
      rw [hv17] at ht17
      rw [hv19] at ht19
      have f7 : W.frozen? ⟨lb, 7, none⟩ = false := by rcases hGW.2.1 with h | h <;> exact h.frozen 7
      obtain ⟨nx, hc⟩ : ∃ nx, W.cell? ⟨lb, 7, none⟩ = some (.int .i64 nx) := by rcases hGW.2.1 with h | h <;> exact ⟨_, h.cell 7⟩
      have hnew : Blk (W.setCell ⟨lb, 7, none⟩ (.int .i64 0)) lb 127 (laneC 0 0 0 0 none 0 0 1 0 0) := by rcases hGW.2.1 with h | h <;> exact h.set_ 7 _
      have hsv : Save lb W (W.setCell ⟨lb, 7, none⟩ (.int .i64 0)) := fun x _ h2 => Below.heap_setCell W ⟨lb, 7, none⟩ _ x h2
      refine wp_skip' (W.setCell ⟨lb, 7, none⟩ (.int .i64 0)) (by unfold execOp; go_simp) ?_
      exact ⟨_, rfl, hnew, ⟨hGW.1.trans hGW.2.2.2.2.1 hsv, Or.inr hnew, hsv.blk hGW.2.2.1 HNB.out, hsv.blk hGW.2.2.2.1 HNG.out, by rw [setCell_size]; exact hGW.2.2.2.2.1, hGW.2.2.2.2.2.setCell (p := ⟨lb, 7, none⟩) HBL0.out _⟩, hsv, by rw [setCell_size]; exact Nat.le_refl _, fun _ => hnew⟩
    | i + 21 => exact absurd ho (by simp)
  case hend =>
    intro U W hGW hV
    have h20 : Blk W lb 127 (laneC 0 0 0 0 none 0 0 1 0 0) := hV 20 (of_decide_eq_true (by kernel_rfl))
    have hk := hGW.2.2.1
    rw [EB.out] at hk
    have c9 := hk.cell 9
    simp at c9
    have H20 := Lib.hid h20
    have HS := Lib.hid hGW.1
    have HZ := Lib.hid hGW.2.2.2.2
    clear hV hGW hk h20
    simp [putU, dstAt, Act.put]
    go_wp2
    go_ret
    exact ⟨rfl, H20.out, HS.out, HZ.out.1, HZ.out.2⟩

theorem next_aw (lb : Nat) (w : World) (hl : Blk w lb 127 (laneC 0 0 0 0 none 0 0 1 0 0)) : Calls Try.prog 33 #[.pointer (some ⟨lb, 0, none⟩)] w fun x w' => x = .returned (.int .i64 0) ∧ w' = w := by
  have c7 := hl.cell 7
  simp at c7
  clear hl
  go_enter Try.func33, Try.ntmps33
  go_wp2
  go_ret
  exact ⟨rfl, rfl⟩
end Go.Proofs.Ytaipgdhdfpemcaa

namespace Go.Proofs.Ytaipgdhdfpemcaa
open Go.RowKit

/-- what Offer's last operations yield, behind 0 operations -/
def OfferV0 (lb gp rb : Nat) : Nat → Value → World → Prop
  | 0, v, _ => v = .pointer (some ⟨lb, 0, none⟩)
  | 1, v, _ => v = .pointer (some ⟨lb, 0, none⟩)
  | 2, v, _ => v = .pointer (some ⟨lb, 5, none⟩)
  | 3, v, _ => v = .int .i64 1
  | 4, v, _ => v = .pointer (some ⟨lb, 0, none⟩)
  | 5, v, _ => v = .pointer (some ⟨lb, 0, none⟩)
  | 6, v, _ => v = .pointer (some ⟨lb, 6, none⟩)
  | 7, v, _ => v = .int .i64 0
  | 8, v, _ => v = .agg #[.int .i64 0, .int .i64 0]
  | 9, v, _ => v = .slice (some ⟨gp, 0, none⟩) 2 2
  | 10, v, _ => v = .int .i64 0
  | 11, v, _ => v = .slice (some ⟨gp, 0, none⟩) 0 2
  | 12, v, _ => v = .agg #[.int .i64 0, .int .i64 0]
  | 13, v, _ => v = .slice (some ⟨gp, 0, none⟩) 2 2
  | 14, v, _ => v = .int .i64 0
  | 15, v, _ => v = .slice (some ⟨gp, 0, none⟩) 2 2
  | 16, v, _ => v = .int .i64 2
  | 17, v, _ => v = .int .i64 0
  | 18, v, _ => v = .int .i64 8
  | 19, v, _ => v = .int .i64 2
  | 20, v, _ => v = .slice (some ⟨gp, 0, none⟩) 2 2
  | 21, v, _ => ∃ g c', v = .slice (some ⟨g, 0, none⟩) 2 c'
  | 22, v, _ => ∃ g c', v = .agg (mailC 9 0 0 0 0 false none 0 0 ⟨#[]⟩ none 0 0 1 0 0 0 0 0 none 0 0 (some ⟨g, 0, none⟩) 2 c')
  | 23, _, W => ∃ g c', Blk W rb 30 (mailC 9 0 0 0 0 false none 0 0 ⟨#[]⟩ none 0 0 1 0 0 0 0 0 none 0 0 (some ⟨g, 0, none⟩) 2 c')
  | _, _, _ => False

set_option maxRecDepth 100000 in
set_option maxHeartbeats 2000000 in
theorem offer0 (lb gp : Nat) (mN mE wN wE : Int) (oA : Option Addr) (on oc : Nat) (w : World) (hl : Blk w lb 127 (laneC mN mE wN wE oA on oc 1 0 0)) (ho : Blk w gp 45 (opsV awOps).toArray) :
    Calls Try.prog 26 #[.pointer (some ⟨lb, 0, none⟩), .slice (some ⟨gp, 0, none⟩) 2 2] w fun x w' => (∃ g c', x = .returned (.agg (mailC 9 0 0 0 0 false none 0 0 ⟨#[]⟩ none 0 0 1 0 0 0 0 0 none 0 0 (some ⟨g, 0, none⟩) 2 c'))) ∧ Below w.heap.size w w' := by
  have hr := aw_reads ho
  have HR0 := Lib.hid (hr.head (k := 0) (by omega))
  have HR2 := Lib.hid hr
  have HD0 := Lib.hid hr
  have HD2 := Lib.hid (reads_none w w.heap.size 9 (some ⟨gp, 0, none⟩))
  have HL := Lib.hid hl
  have c7 := (hl.alloc (.cells (mailC 0 0 0 0 0 false none 0 0 ⟨#[]⟩ none 0 0 0 0 0 0 0 0 none 0 0 none 0 0) 30)).cell 7
  simp at c7
  have hbl : Below w.heap.size w (w.alloc (.cells (mailC 0 0 0 0 0 false none 0 0 ⟨#[]⟩ none 0 0 0 0 0 0 0 0 none 0 0 none 0 0) 30)) := (Below.refl _ _).alloc (Nat.le_refl _) _
  have HBL := Lib.hid hbl
  clear hl ho hr hbl
  go_enter Try.func26, Try.ntmps26
  go_wp2_with fail
  obtain ⟨rb, hrb⟩ : ∃ rb, rb = w.heap.size := ⟨_, rfl⟩
  have HRB := Lib.hid hrb
  clear hrb
  refine wp_region_stores (by kernel_rfl) (OfferV0 lb gp rb) (fun W => Below w.heap.size w W ∧ w.heap.size < W.heap.size ∧ Cells17 W rb) (fun W W' => Save rb W W' ∧ W.heap.size ≤ W'.heap.size ∧ ((∃ g c', Blk W rb 30 (mailC 9 0 0 0 0 false none 0 0 ⟨#[]⟩ none 0 0 1 0 0 0 0 0 none 0 0 (some ⟨g, 0, none⟩) 2 c')) → ∃ g c', Blk W' rb 30 (mailC 9 0 0 0 0 false none 0 0 ⟨#[]⟩ none 0 0 1 0 0 0 0 0 none 0 0 (some ⟨g, 0, none⟩) 2 c'))) (by kernel_rfl) ?hG ?hmono ?hstep ?hend
  case hG => exact ⟨HBL.out.drew, by show w.heap.size < (w.alloc _).heap.size; simp, by rw [HRB.out]; exact ⟨_, _, _, _, _, _, _, _, _, _, _, _, _, _, _, _, _, (Blk.new w _ _).drew⟩⟩
  case hmono =>
    intro i v W W' hx hv
    match i with
    | 23 => exact hx.2.2 hv
    | 0 | 1 | 2 | 3 | 4 | 5 | 6 | 7 | 8 | 9 | 10 | 11 | 12 | 13 | 14 | 15 | 16 | 17 | 18 | 19 | 20 | 21 | 22 => exact hv
    | i + 24 => exact hv
  case hstep =>
    intro i o F U W ho hGW hat hoff hp
    have hrefl := fun W : World => (⟨fun _ _ _ => rfl, Nat.le_refl _, fun h => h⟩ : Save rb W W ∧ W.heap.size ≤ W.heap.size ∧ ((∃ g c', Blk W rb 30 (mailC 9 0 0 0 0 false none 0 0 ⟨#[]⟩ none 0 0 1 0 0 0 0 0 none 0 0 (some ⟨g, 0, none⟩) 2 c')) → ∃ g c', Blk W rb 30 (mailC 9 0 0 0 0 false none 0 0 ⟨#[]⟩ none 0 0 1 0 0 0 0 0 none 0 0 (some ⟨g, 0, none⟩) 2 c')))
    match i with
    | 0 =>
      injection (show some _ = some o from ho) with ho
      subst ho
      exact wp_move' (.tmp 0) rfl ⟨_, rfl, (hoff 0 (of_decide_eq_true (by kernel_rfl))).trans rfl, hGW, hrefl W⟩
    | 1 =>
      injection (show some _ = some o from ho) with ho
      subst ho
      have hv0 : OfferV0 lb gp rb 0 (U 0) W := hp ⟨0, .data⟩ (by simp) rfl
      have ht0 := act_tmp (hat 0 16 (of_decide_eq_true (by kernel_rfl)) rfl)
      clear hat hoff hp
      rw [hv0] at ht0
      exact wp_value' (.pointer (some ⟨lb, 0, none⟩)) W (by unfold execOp; go_simp) ⟨_, rfl, rfl, hGW, hrefl W⟩
    | 2 =>
      injection (show some _ = some o from ho) with ho
      subst ho
      have hv1 : OfferV0 lb gp rb 1 (U 1) W := hp ⟨1, .data⟩ (by simp) rfl
      have ht1 := act_tmp (hat 1 17 (of_decide_eq_true (by kernel_rfl)) rfl)
      clear hat hoff hp
      rw [hv1] at ht1
      exact wp_value' (.pointer (some ⟨lb, 5, none⟩)) W (by unfold execOp; go_simp) ⟨_, rfl, rfl, hGW, hrefl W⟩
    | 3 =>
      injection (show some _ = some o from ho) with ho
      subst ho
      have hv2 : OfferV0 lb gp rb 2 (U 2) W := hp ⟨2, .data⟩ (by simp) rfl
      have ht2 := act_tmp (hat 2 18 (of_decide_eq_true (by kernel_rfl)) rfl)
      clear hat hoff hp
      rw [hv2] at ht2
      have hc := (HL.out.below hGW.1 HL.out.lt).cell 5
      simp at hc
      exact wp_value' (.int .i64 1) W (by unfold execOp; go_simp) ⟨_, rfl, rfl, hGW, hrefl W⟩
    | 4 =>
      injection (show some _ = some o from ho) with ho
      subst ho
      exact wp_move' (.tmp 0) rfl ⟨_, rfl, (hoff 0 (of_decide_eq_true (by kernel_rfl))).trans rfl, hGW, hrefl W⟩
    | 5 =>
      injection (show some _ = some o from ho) with ho
      subst ho
      have hv4 : OfferV0 lb gp rb 4 (U 4) W := hp ⟨4, .data⟩ (by simp) rfl
      have ht4 := act_tmp (hat 4 20 (of_decide_eq_true (by kernel_rfl)) rfl)
      clear hat hoff hp
      rw [hv4] at ht4
      exact wp_value' (.pointer (some ⟨lb, 0, none⟩)) W (by unfold execOp; go_simp) ⟨_, rfl, rfl, hGW, hrefl W⟩
    | 6 =>
      injection (show some _ = some o from ho) with ho
      subst ho
      have hv5 : OfferV0 lb gp rb 5 (U 5) W := hp ⟨5, .data⟩ (by simp) rfl
      have ht5 := act_tmp (hat 5 21 (of_decide_eq_true (by kernel_rfl)) rfl)
      clear hat hoff hp
      rw [hv5] at ht5
      exact wp_value' (.pointer (some ⟨lb, 6, none⟩)) W (by unfold execOp; go_simp) ⟨_, rfl, rfl, hGW, hrefl W⟩
    | 7 =>
      injection (show some _ = some o from ho) with ho
      subst ho
      have hv6 : OfferV0 lb gp rb 6 (U 6) W := hp ⟨6, .data⟩ (by simp) rfl
      have ht6 := act_tmp (hat 6 22 (of_decide_eq_true (by kernel_rfl)) rfl)
      clear hat hoff hp
      rw [hv6] at ht6
      have hc := (HL.out.below hGW.1 HL.out.lt).cell 6
      simp at hc
      exact wp_value' (.int .i64 0) W (by unfold execOp; go_simp) ⟨_, rfl, rfl, hGW, hrefl W⟩
    | 8 =>
      injection (show some _ = some o from ho) with ho
      subst ho
      clear hat hoff hp
      exact wp_value' (.agg #[.int .i64 0, .int .i64 0]) W (by unfold execOp; go_simp) ⟨_, rfl, rfl, hGW, hrefl W⟩
    | 9 =>
      injection (show some _ = some o from ho) with ho
      subst ho
      exact wp_move' (.tmp 1) rfl ⟨_, rfl, (hoff 1 (of_decide_eq_true (by kernel_rfl))).trans rfl, hGW, hrefl W⟩
    | 10 =>
      injection (show some _ = some o from ho) with ho
      subst ho
      exact wp_move' (.tmp 5) rfl ⟨_, rfl, (hoff 5 (of_decide_eq_true (by kernel_rfl))).trans rfl, hGW, hrefl W⟩
    | 11 =>
      injection (show some _ = some o from ho) with ho
      subst ho
      have hv9 : OfferV0 lb gp rb 9 (U 9) W := hp ⟨9, .data⟩ (by simp) rfl
      have ht9 := act_tmp (hat 9 25 (of_decide_eq_true (by kernel_rfl)) rfl)
      have hv10 : OfferV0 lb gp rb 10 (U 10) W := hp ⟨10, .data⟩ (by simp) rfl
      have ht10 := act_tmp (hat 10 26 (of_decide_eq_true (by kernel_rfl)) rfl)
      clear hat hoff hp
      rw [hv9] at ht9
      rw [hv10] at ht10
      exact wp_value' (.slice (some ⟨gp, 0, none⟩) 0 2) W (by unfold execOp; go_simp) ⟨_, rfl, rfl, hGW, hrefl W⟩
    | 12 =>
      injection (show some _ = some o from ho) with ho
      subst ho
      have hv8 : OfferV0 lb gp rb 8 (U 8) W := hp ⟨8, .data⟩ (by simp) rfl
      have ht8 := act_tmp (hat 8 24 (of_decide_eq_true (by kernel_rfl)) rfl)
      have hv11 : OfferV0 lb gp rb 11 (U 11) W := hp ⟨11, .data⟩ (by simp) rfl
      have ht11 := act_tmp (hat 11 27 (of_decide_eq_true (by kernel_rfl)) rfl)
      clear hat hoff hp
      rw [hv8] at ht8
      rw [hv11] at ht11
      refine wp_enter' 60 #[.agg #[.int .i64 0, .int .i64 0], .slice (some ⟨gp, 0, none⟩) 0 2] (by unfold execOp; go_simp) ?_
      refine (last_any 0 0 (some ⟨gp, 0, none⟩) 0 2 (awOps.take 0) W (((HR0.out).below hGW.1).more hGW.1.size) (by omega)).mono ?_
      rintro e W' ⟨rfl, hb⟩
      exact ⟨_, rfl, _, rfl, rfl, ⟨hGW.1.trans (hb.mono hGW.1.size), Nat.lt_of_lt_of_le hGW.2.1 hb.size, cells17_below hGW.2.2 hb⟩, Save.of hb, hb.size, fun ⟨g, c', h⟩ => ⟨g, c', h.below hb h.lt⟩⟩
    | 13 =>
      injection (show some _ = some o from ho) with ho
      subst ho
      exact wp_move' (.tmp 1) rfl ⟨_, rfl, (hoff 1 (of_decide_eq_true (by kernel_rfl))).trans rfl, hGW, hrefl W⟩
    | 14 =>
      injection (show some _ = some o from ho) with ho
      subst ho
      exact wp_move' (.tmp 5) rfl ⟨_, rfl, (hoff 5 (of_decide_eq_true (by kernel_rfl))).trans rfl, hGW, hrefl W⟩
    | 15 =>
      injection (show some _ = some o from ho) with ho
      subst ho
      exact wp_move' (.tmp 1) rfl ⟨_, rfl, (hoff 1 (of_decide_eq_true (by kernel_rfl))).trans rfl, hGW, hrefl W⟩
    | 16 =>
      injection (show some _ = some o from ho) with ho
      subst ho
      have hv15 : OfferV0 lb gp rb 15 (U 15) W := hp ⟨15, .data⟩ (by simp) rfl
      have ht15 := act_tmp (hat 15 31 (of_decide_eq_true (by kernel_rfl)) rfl)
      clear hat hoff hp
      rw [hv15] at ht15
      exact wp_value' (.int .i64 2) W (by unfold execOp; go_simp) ⟨_, rfl, rfl, hGW, hrefl W⟩
    | 17 =>
      injection (show some _ = some o from ho) with ho
      subst ho
      exact wp_move' (.tmp 5) rfl ⟨_, rfl, (hoff 5 (of_decide_eq_true (by kernel_rfl))).trans rfl, hGW, hrefl W⟩
    | 18 =>
      injection (show some _ = some o from ho) with ho
      subst ho
      have hv17 : OfferV0 lb gp rb 17 (U 17) W := hp ⟨17, .data⟩ (by simp) rfl
      have ht17 := act_tmp (hat 17 33 (of_decide_eq_true (by kernel_rfl)) rfl)
      clear hat hoff hp
      rw [hv17] at ht17
      exact wp_value' (.int .i64 8) W (by unfold execOp; go_simp; first | done | decide) ⟨_, rfl, rfl, hGW, hrefl W⟩
    | 19 =>
      injection (show some _ = some o from ho) with ho
      subst ho
      have hv16 : OfferV0 lb gp rb 16 (U 16) W := hp ⟨16, .data⟩ (by simp) rfl
      have ht16 := act_tmp (hat 16 32 (of_decide_eq_true (by kernel_rfl)) rfl)
      have hv18 : OfferV0 lb gp rb 18 (U 18) W := hp ⟨18, .data⟩ (by simp) rfl
      have ht18 := act_tmp (hat 18 34 (of_decide_eq_true (by kernel_rfl)) rfl)
      clear hat hoff hp
      rw [hv16] at ht16
      rw [hv18] at ht18
      exact wp_value' (.int .i64 2) W (by unfold execOp; go_simp) ⟨_, rfl, rfl, hGW, hrefl W⟩
    | 20 =>
      injection (show some _ = some o from ho) with ho
      subst ho
      have hv13 : OfferV0 lb gp rb 13 (U 13) W := hp ⟨13, .data⟩ (by simp) rfl
      have ht13 := act_tmp (hat 13 29 (of_decide_eq_true (by kernel_rfl)) rfl)
      have hv14 : OfferV0 lb gp rb 14 (U 14) W := hp ⟨14, .data⟩ (by simp) rfl
      have ht14 := act_tmp (hat 14 30 (of_decide_eq_true (by kernel_rfl)) rfl)
      have hv19 : OfferV0 lb gp rb 19 (U 19) W := hp ⟨19, .data⟩ (by simp) rfl
      have ht19 := act_tmp (hat 19 35 (of_decide_eq_true (by kernel_rfl)) rfl)
      clear hat hoff hp
      rw [hv13] at ht13
      rw [hv14] at ht14
      rw [hv19] at ht19
      exact wp_value' (.slice (some ⟨gp, 0, none⟩) 2 2) W (by unfold execOp; go_simp) ⟨_, rfl, rfl, hGW, hrefl W⟩
    | 21 =>
      injection (show some _ = some o from ho) with ho
      subst ho
      have hv20 : OfferV0 lb gp rb 20 (U 20) W := hp ⟨20, .data⟩ (by simp) rfl
      have ht20 := act_tmp (hat 20 36 (of_decide_eq_true (by kernel_rfl)) rfl)
      clear hat hoff hp
      rw [hv20] at ht20
      refine wp_enter' 62 #[.slice (some ⟨gp, 0, none⟩) 2 2] (by unfold execOp; go_simp) ?_
      refine (copied_bare ⟨gp, 0, none⟩ 2 2 (awOps.drop 0) W (((HD0.out).below hGW.1).more hGW.1.size) (by omega) (fun o ho => awOps_bare o (List.mem_of_mem_drop ho))).mono ?_
      rintro e W' ⟨g, c', rfl, _, _, _, hb⟩
      exact ⟨_, rfl, _, rfl, ⟨g, c', rfl⟩, ⟨hGW.1.trans (hb.mono hGW.1.size), Nat.lt_of_lt_of_le hGW.2.1 hb.size, cells17_below hGW.2.2 hb⟩, Save.of hb, hb.size, fun ⟨g, c', h⟩ => ⟨g, c', h.below hb h.lt⟩⟩
    | 22 =>
      injection (show some _ = some o from ho) with ho
      subst ho
      have hv3 : OfferV0 lb gp rb 3 (U 3) W := hp ⟨3, .data⟩ (by simp) rfl
      have ht3 := act_tmp (hat 3 19 (of_decide_eq_true (by kernel_rfl)) rfl)
      have hv7 : OfferV0 lb gp rb 7 (U 7) W := hp ⟨7, .data⟩ (by simp) rfl
      have ht7 := act_tmp (hat 7 23 (of_decide_eq_true (by kernel_rfl)) rfl)
      have hv12 : OfferV0 lb gp rb 12 (U 12) W := hp ⟨12, .data⟩ (by simp) rfl
      have ht12 := act_tmp (hat 12 28 (of_decide_eq_true (by kernel_rfl)) rfl)
      have hv21 : OfferV0 lb gp rb 21 (U 21) W := hp ⟨21, .data⟩ (by simp) rfl
      have ht21 := act_tmp (hat 21 37 (of_decide_eq_true (by kernel_rfl)) rfl)
      clear hat hoff hp
      obtain ⟨g, c', hg⟩ := hv21
      rw [hv3] at ht3
      rw [hv7] at ht7
      rw [hv12] at ht12
      rw [hg] at ht21
      exact wp_value' (.agg (mailC 9 0 0 0 0 false none 0 0 ⟨#[]⟩ none 0 0 1 0 0 0 0 0 none 0 0 (some ⟨g, 0, none⟩) 2 c')) W (by unfold execOp; go_simp) ⟨_, rfl, ⟨g, c', rfl⟩, hGW, hrefl W⟩
    | 23 =>
      injection (show some _ = some o from ho) with ho
      subst ho
      have hv22 : OfferV0 lb gp rb 22 (U 22) W := hp ⟨22, .data⟩ (by simp) rfl
      have ht22 := act_tmp (hat 22 38 (of_decide_eq_true (by kernel_rfl)) rfl)
      have hrb4 : F.eval (.tmp 4) = .pointer (some ⟨rb, 0, none⟩) := (hoff 4 (of_decide_eq_true (by kernel_rfl))).trans (by rw [HRB.out]; rfl)
      clear hat hoff hp
      obtain ⟨g, c', hg⟩ := hv22
      rw [hg] at ht22
      have hrbt := act_tmp (hrb4)
      obtain ⟨a0, a1, a2, a3, a4, a5, a6, a7, a8, a9, a10, a11, a12, a13, a14, a15, a16, hbk⟩ := hGW.2.2
      have f0 := hbk.frozen 0
      have f1 := hbk.frozen 1
      have f2 := hbk.frozen 2
      have f3 := hbk.frozen 3
      have f4 := hbk.frozen 4
      have f5 := hbk.frozen 5
      have f6 := hbk.frozen 6
      have f7 := hbk.frozen 7
      have f8 := hbk.frozen 8
      have f9 := hbk.frozen 9
      have f10 := hbk.frozen 10
      have f11 := hbk.frozen 11
      have f12 := hbk.frozen 12
      have f13 := hbk.frozen 13
      have f14 := hbk.frozen 14
      have f15 := hbk.frozen 15
      have f16 := hbk.frozen 16
      have d0 := hbk.cell 0
      have d1 := hbk.cell 1
      have d2 := hbk.cell 2
      have d3 := hbk.cell 3
      have d4 := hbk.cell 4
      have d5 := hbk.cell 5
      have d6 := hbk.cell 6
      have d7 := hbk.cell 7
      have d8 := hbk.cell 8
      have d9 := hbk.cell 9
      have d10 := hbk.cell 10
      have d11 := hbk.cell 11
      have d12 := hbk.cell 12
      have d13 := hbk.cell 13
      have d14 := hbk.cell 14
      have d15 := hbk.cell 15
      have d16 := hbk.cell 16
      simp at d0 d1 d2 d3 d4 d5 d6 d7 d8 d9 d10 d11 d12 d13 d14 d15 d16
      refine wp_skip' (putCells W rb 0 (mailC 9 0 0 0 0 false none 0 0 ⟨#[]⟩ none 0 0 1 0 0 0 0 0 none 0 0 (some ⟨g, 0, none⟩) 2 c').toList) (by unfold execOp; go_simp; rfl) ?_
      exact ⟨_, rfl, ⟨g, c', putCells_blk hbk rfl⟩, ⟨putCells_below (by rw [HRB.out]; exact Nat.le_refl _) _ _ _ _ hGW.1, by rw [putCells_size]; exact hGW.2.1, ⟨_, _, _, _, _, _, _, _, _, _, _, _, _, _, _, _, _, putCells_blk (l := (mailC 9 0 0 0 0 false none 0 0 ⟨#[]⟩ none 0 0 1 0 0 0 0 0 none 0 0 (some ⟨g, 0, none⟩) 2 c').toList) hbk rfl⟩⟩, putCells_save _ _ _ _, by rw [putCells_size]; exact Nat.le_refl _, fun _ => ⟨g, c', putCells_blk hbk rfl⟩⟩
    | i + 24 => exact absurd ho (by simp)
  case hend =>
    intro U W hGW hV
    have h23 := hV 23 (of_decide_eq_true (by kernel_rfl))
    obtain ⟨g, c', hbk⟩ := h23
    have HK := Lib.hid hbk
    have HW := Lib.hid hGW.1
    have hrb := HRB.out
    clear hV hGW hbk
    simp [putU, dstAt, Act.put, Exit.then]
    go_wp2
    have hk := HK.out
    rw [HRB.out] at hk
    have e0 := hk.cell 0
    have e1 := hk.cell 1
    have e2 := hk.cell 2
    have e3 := hk.cell 3
    have e4 := hk.cell 4
    have e5 := hk.cell 5
    have e6 := hk.cell 6
    have e7 := hk.cell 7
    have e8 := hk.cell 8
    have e9 := hk.cell 9
    have e10 := hk.cell 10
    have e11 := hk.cell 11
    have e12 := hk.cell 12
    have e13 := hk.cell 13
    have e14 := hk.cell 14
    have e15 := hk.cell 15
    have e16 := hk.cell 16
    simp at e0 e1 e2 e3 e4 e5 e6 e7 e8 e9 e10 e11 e12 e13 e14 e15 e16
    refine bodyPost_ret (v := .agg (mailC 9 0 0 0 0 false none 0 0 ⟨#[]⟩ none 0 0 1 0 0 0 0 0 none 0 0 (some ⟨g, 0, none⟩) 2 c')) (by simp [results, Try.results26, e0, e1, e2, e3, e4, e5, e6, e7, e8, e9, e10, e11, e12, e13, e14, e15, e16, go_sem]) rfl ?_
    exact ⟨⟨g, c', rfl⟩, HW.out⟩
end Go.Proofs.Ytaipgdhdfpemcaa
