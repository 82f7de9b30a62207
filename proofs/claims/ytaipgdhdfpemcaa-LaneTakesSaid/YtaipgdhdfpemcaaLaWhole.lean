/-
  THE WALKS OF THE LANE: how far the chunks are; a lane's copy. (wip/gen/whole.py prints this text.)
-/
import Derived.Test.YtaipgdhdfpemcaaLaGen
namespace Go.Proofs.Ytaipgdhdfpemcaa
open Go.RowKit

theorem Try.sizeReach : (Try.prog.info? 32).map (·.size) = some 3 := by kernel_rfl
theorem reachC_one {N E : Int} {A : Option Addr} {n c : Nat} : (#[.int .i64 N, .int .i64 E, .slice A n c] : Array Value).all (·.oneCell') = true := all_oneCell_toArray (by
  intro v hv
  simp only [List.mem_cons, List.not_mem_nil, or_false] at hv
  rcases hv with rfl | rfl | rfl <;> rfl)
/-- a reach lies there -/
def ReachIs (w : World) (S : Nat → Prop) (b : Nat) (N E : Int) (holes : List Int) : Prop :=
  ∃ A n c, Blk w b 32 #[.int .i64 N, .int .i64 E, .slice A n c] ∧ IntIs w S A n c holes
theorem ReachIs.below {w w' : World} {S : Nat → Prop} {b : Nat} {N E : Int} {holes : List Int} (h : ReachIs w S b N E holes) (hb : Below w.heap.size w w') : ReachIs w' S b N E holes := by
  obtain ⟨A, n, c, h1, h2⟩ := h
  exact ⟨A, n, c, h1.below hb h1.lt, h2.below hb⟩
/-- a reach's block -/
def RBlk (w : World) (b : Nat) : Prop := ∃ cs, Blk w b 32 cs ∧ cs.size = 3
theorem RBlk.below {w w' : World} {b : Nat} (h : RBlk w b) (hb : Below w.heap.size w w') : RBlk w' b := by
  obtain ⟨cs, h1, h2⟩ := h
  exact ⟨cs, h1.below hb h1.lt, h2⟩

set_option maxRecDepth 100000 in
set_option maxHeartbeats 4000000 in
theorem wholeL_any (b : Nat) (l : LaneC) {S : Nat → Prop} (w : World) (h : LaneIs w S b l) (hok : l.holes.length * 8 ≤ 140737488351232) :
    Calls Try.prog 32 #[.pointer (some ⟨b, 0, none⟩)] w fun x w' => ∃ A n c, x = .returned (.agg #[.int .i64 l.wN, .int .i64 l.wE, .slice A n c]) ∧ IntIs w' (From w.heap.size) A n c l.holes ∧ Below w.heap.size w w' := by
  obtain ⟨oA, on, oc, h1, h2⟩ := h
  have hn := h2.len
  have HN := Lib.hid (show on * 8 ≤ 140737488351232 by omega)
  have HB := Lib.hid h1
  have HI := Lib.hid h2
  have HW := Lib.hid (show Below w.heap.size w (w.alloc (.cells #[.int .i64 0, .int .i64 0, .slice none 0 0] 32)) from (Below.refl _ _).alloc (Nat.le_refl _) _)
  have HK := Lib.hid (Blk.new w 32 #[.int .i64 0, .int .i64 0, .slice none 0 0])
  clear h1 h2 hn hok
  go_enter Try.func32, Try.ntmps32
  go_wp2_with fail
  refine wp_region_all (by kernel_rfl) (fun i v W => match i with | 0 => v = .pointer (some ⟨b, 0, none⟩) | 1 => v = .pointer (some ⟨b, 0, none⟩) | 2 => v = .pointer (some ⟨b, 0, none⟩) | 3 => v = .pointer (some ⟨b, 2, none⟩) | 4 => v = .pointer (some ⟨b, 2, none⟩) | 5 => v = .agg #[.int .i64 l.wN, .int .i64 l.wE] | 6 => v = .pointer (some ⟨b, 0, none⟩) | 7 => v = .pointer (some ⟨b, 0, none⟩) | 8 => v = .pointer (some ⟨b, 0, none⟩) | 9 => v = .pointer (some ⟨b, 2, none⟩) | 10 => v = .pointer (some ⟨b, 4, none⟩) | 11 => v = .slice oA on oc | 12 => ∃ A c, v = .slice A on c ∧ IntIs W (From (w.heap.size + 1)) A on c l.holes | 13 => ∃ A c, v = .agg #[.int .i64 l.wN, .int .i64 l.wE, .slice A on c] ∧ IntIs W (From (w.heap.size + 1)) A on c l.holes | 14 => ReachIs W (From (w.heap.size + 1)) w.heap.size l.wN l.wE l.holes | _ => True) (fun W => Below w.heap.size w W ∧ w.heap.size + 1 ≤ W.heap.size ∧ RBlk W w.heap.size) (fun W W' => Save w.heap.size W W' ∧ W.heap.size ≤ W'.heap.size ∧ (ReachIs W (From (w.heap.size + 1)) w.heap.size l.wN l.wE l.holes → ReachIs W' (From (w.heap.size + 1)) w.heap.size l.wN l.wE l.holes)) (by kernel_rfl) ?hG ?hmono ?hstep ?hend
  case hG => exact ⟨HW.out.drew, by show w.heap.size + 1 ≤ (w.alloc _).heap.size; simp, _, HK.out.drew, rfl⟩
  case hmono =>
    intro i v W W' hx hv
    match i with
    | 12 =>
      obtain ⟨A, c, rfl, hi⟩ := hv
      exact ⟨A, c, rfl, hi.kept ⟨hx.2.1, fun b h1 h2 => hx.1 b h2 (by have : w.heap.size + 1 ≤ b := h1; omega)⟩⟩
    | 13 =>
      obtain ⟨A, c, rfl, hi⟩ := hv
      exact ⟨A, c, rfl, hi.kept ⟨hx.2.1, fun b h1 h2 => hx.1 b h2 (by have : w.heap.size + 1 ≤ b := h1; omega)⟩⟩
    | 14 =>
      exact hx.2.2 hv
    | 0 | 1 | 2 | 3 | 4 | 5 | 6 | 7 | 8 | 9 | 10 | 11 => exact hv
    | i + 15 => exact hv
  case hstep =>
    intro i o F U W ho hGW hat hoff hp
    have hrefl := fun W : World => (⟨fun _ _ _ => rfl, Nat.le_refl _, fun h => h⟩ : Save w.heap.size W W ∧ W.heap.size ≤ W.heap.size ∧ (ReachIs W (From (w.heap.size + 1)) w.heap.size l.wN l.wE l.holes → ReachIs W (From (w.heap.size + 1)) w.heap.size l.wN l.wE l.holes))
    match i with
      | 0 =>
        injection (show some _ = some o from ho) with ho
        subst ho
        refine on_ (wanted_none rfl) ?_
        have e0 : F.eval (.tmp 0) = .pointer (some ⟨b, 0, none⟩) := (hoff 0 (of_decide_eq_true (by kernel_rfl))).trans rfl
        exact wp_move' (.tmp 0) rfl ⟨_, rfl, e0, hGW, hrefl W⟩
      | 1 =>
        injection (show some _ = some o from ho) with ho
        subst ho
        refine on_ (wanted_none rfl) ?_
        have e6 : F.eval (.tmp 6) = .pointer (some ⟨b, 0, none⟩) := (hat 0 6 (of_decide_eq_true (by kernel_rfl)) rfl).trans (hp ⟨0, .data⟩ (by simp) rfl : U 0 = .pointer (some ⟨b, 0, none⟩))
        have t6 := act_tmp e6
        clear hat hoff hp
        exact wp_value' (.pointer (some ⟨b, 0, none⟩)) W (by unfold execOp; go_simp) ⟨_, rfl, rfl, hGW, hrefl W⟩
      | 2 =>
        injection (show some _ = some o from ho) with ho
        subst ho
        refine on_ (wanted_none rfl) ?_
        have e7 : F.eval (.tmp 7) = .pointer (some ⟨b, 0, none⟩) := (hat 1 7 (of_decide_eq_true (by kernel_rfl)) rfl).trans (hp ⟨1, .data⟩ (by simp) rfl : U 1 = .pointer (some ⟨b, 0, none⟩))
        have t7 := act_tmp e7
        clear hat hoff hp
        exact wp_value' (.pointer (some ⟨b, 0, none⟩)) W (by unfold execOp; go_simp) ⟨_, rfl, rfl, hGW, hrefl W⟩
      | 3 =>
        injection (show some _ = some o from ho) with ho
        subst ho
        refine on_ (wanted_none rfl) ?_
        have e8 : F.eval (.tmp 8) = .pointer (some ⟨b, 0, none⟩) := (hat 2 8 (of_decide_eq_true (by kernel_rfl)) rfl).trans (hp ⟨2, .data⟩ (by simp) rfl : U 2 = .pointer (some ⟨b, 0, none⟩))
        have t8 := act_tmp e8
        clear hat hoff hp
        exact wp_value' (.pointer (some ⟨b, 2, none⟩)) W (by unfold execOp; go_simp) ⟨_, rfl, rfl, hGW, hrefl W⟩
      | 4 =>
        injection (show some _ = some o from ho) with ho
        subst ho
        refine on_ (wanted_none rfl) ?_
        have e9 : F.eval (.tmp 9) = .pointer (some ⟨b, 2, none⟩) := (hat 3 9 (of_decide_eq_true (by kernel_rfl)) rfl).trans (hp ⟨3, .data⟩ (by simp) rfl : U 3 = .pointer (some ⟨b, 2, none⟩))
        have t9 := act_tmp e9
        clear hat hoff hp
        exact wp_value' (.pointer (some ⟨b, 2, none⟩)) W (by unfold execOp; go_simp) ⟨_, rfl, rfl, hGW, hrefl W⟩
      | 5 =>
        injection (show some _ = some o from ho) with ho
        subst ho
        refine on_ (wanted_none rfl) ?_
        have e10 : F.eval (.tmp 10) = .pointer (some ⟨b, 2, none⟩) := (hat 4 10 (of_decide_eq_true (by kernel_rfl)) rfl).trans (hp ⟨4, .data⟩ (by simp) rfl : U 4 = .pointer (some ⟨b, 2, none⟩))
        have t10 := act_tmp e10
        clear hat hoff hp
        have g1 := HB.out.below hGW.1 HB.out.lt
        have c0 := g1.cell 2
        have c1 := g1.cell 3
        simp at c0 c1
        exact wp_value' (.agg #[.int .i64 l.wN, .int .i64 l.wE]) W (by unfold execOp; go_simp) ⟨_, rfl, rfl, hGW, hrefl W⟩
      | 6 =>
        injection (show some _ = some o from ho) with ho
        subst ho
        refine on_ (wanted_none rfl) ?_
        have e0 : F.eval (.tmp 0) = .pointer (some ⟨b, 0, none⟩) := (hoff 0 (of_decide_eq_true (by kernel_rfl))).trans rfl
        exact wp_move' (.tmp 0) rfl ⟨_, rfl, e0, hGW, hrefl W⟩
      | 7 =>
        injection (show some _ = some o from ho) with ho
        subst ho
        refine on_ (wanted_none rfl) ?_
        have e12 : F.eval (.tmp 12) = .pointer (some ⟨b, 0, none⟩) := (hat 6 12 (of_decide_eq_true (by kernel_rfl)) rfl).trans (hp ⟨6, .data⟩ (by simp) rfl : U 6 = .pointer (some ⟨b, 0, none⟩))
        have t12 := act_tmp e12
        clear hat hoff hp
        exact wp_value' (.pointer (some ⟨b, 0, none⟩)) W (by unfold execOp; go_simp) ⟨_, rfl, rfl, hGW, hrefl W⟩
      | 8 =>
        injection (show some _ = some o from ho) with ho
        subst ho
        refine on_ (wanted_none rfl) ?_
        have e13 : F.eval (.tmp 13) = .pointer (some ⟨b, 0, none⟩) := (hat 7 13 (of_decide_eq_true (by kernel_rfl)) rfl).trans (hp ⟨7, .data⟩ (by simp) rfl : U 7 = .pointer (some ⟨b, 0, none⟩))
        have t13 := act_tmp e13
        clear hat hoff hp
        exact wp_value' (.pointer (some ⟨b, 0, none⟩)) W (by unfold execOp; go_simp) ⟨_, rfl, rfl, hGW, hrefl W⟩
      | 9 =>
        injection (show some _ = some o from ho) with ho
        subst ho
        refine on_ (wanted_none rfl) ?_
        have e14 : F.eval (.tmp 14) = .pointer (some ⟨b, 0, none⟩) := (hat 8 14 (of_decide_eq_true (by kernel_rfl)) rfl).trans (hp ⟨8, .data⟩ (by simp) rfl : U 8 = .pointer (some ⟨b, 0, none⟩))
        have t14 := act_tmp e14
        clear hat hoff hp
        exact wp_value' (.pointer (some ⟨b, 2, none⟩)) W (by unfold execOp; go_simp) ⟨_, rfl, rfl, hGW, hrefl W⟩
      | 10 =>
        injection (show some _ = some o from ho) with ho
        subst ho
        refine on_ (wanted_none rfl) ?_
        have e15 : F.eval (.tmp 15) = .pointer (some ⟨b, 2, none⟩) := (hat 9 15 (of_decide_eq_true (by kernel_rfl)) rfl).trans (hp ⟨9, .data⟩ (by simp) rfl : U 9 = .pointer (some ⟨b, 2, none⟩))
        have t15 := act_tmp e15
        clear hat hoff hp
        exact wp_value' (.pointer (some ⟨b, 4, none⟩)) W (by unfold execOp; go_simp) ⟨_, rfl, rfl, hGW, hrefl W⟩
      | 11 =>
        injection (show some _ = some o from ho) with ho
        subst ho
        refine on_ (wanted_none rfl) ?_
        have e16 : F.eval (.tmp 16) = .pointer (some ⟨b, 4, none⟩) := (hat 10 16 (of_decide_eq_true (by kernel_rfl)) rfl).trans (hp ⟨10, .data⟩ (by simp) rfl : U 10 = .pointer (some ⟨b, 4, none⟩))
        have t16 := act_tmp e16
        clear hat hoff hp
        have g1 := HB.out.below hGW.1 HB.out.lt
        have c4 := g1.cell 4
        simp at c4
        exact wp_value' (.slice oA on oc) W (by unfold execOp; go_simp) ⟨_, rfl, rfl, hGW, hrefl W⟩
      | 12 =>
        injection (show some _ = some o from ho) with ho
        subst ho
        refine on_ (wanted_none rfl) ?_
        have e17 : F.eval (.tmp 17) = .slice oA on oc := (hat 11 17 (of_decide_eq_true (by kernel_rfl)) rfl).trans (hp ⟨11, .data⟩ (by simp) rfl : U 11 = .slice oA on oc)
        have t17 := act_tmp e17
        clear hat hoff hp
        refine wp_enter' 61 #[.slice oA on oc] (by unfold execOp; go_simp) ?_
        refine (cloneInts_any W (HI.out.below hGW.1) HN.out).mono ?_
        rintro e W' ⟨A, c, rfl, hi, hb⟩
        have hs := hGW.2.1
        exact ⟨_, rfl, _, rfl, ⟨A, c, rfl, hi.mono fun b _ h => (show w.heap.size + 1 ≤ b from Nat.le_trans hs h)⟩, ⟨hGW.1.trans (hb.mono hGW.1.size), Nat.le_trans hs hb.size, hGW.2.2.below hb⟩, Save.of hb, hb.size, fun h => h.below hb⟩
      | 13 =>
        injection (show some _ = some o from ho) with ho
        subst ho
        refine on_ (wanted_none rfl) ?_
        have e11 : F.eval (.tmp 11) = .agg #[.int .i64 l.wN, .int .i64 l.wE] := (hat 5 11 (of_decide_eq_true (by kernel_rfl)) rfl).trans (hp ⟨5, .data⟩ (by simp) rfl : U 5 = .agg #[.int .i64 l.wN, .int .i64 l.wE])
        have t11 := act_tmp e11
        have e18 := hat 12 18 (of_decide_eq_true (by kernel_rfl)) rfl
        have v18 := hp ⟨12, .data⟩ (by simp) rfl
        clear hat hoff hp
        obtain ⟨A, c, h18, hi⟩ := v18
        rw [h18] at e18
        have t18 := act_tmp e18
        exact wp_value' (.agg #[.int .i64 l.wN, .int .i64 l.wE, .slice A on c]) W (by unfold execOp; go_simp) ⟨_, rfl, ⟨A, c, rfl, hi⟩, hGW, hrefl W⟩
      | 14 =>
        injection (show some _ = some o from ho) with ho
        subst ho
        refine on_ (wanted_none rfl) ?_
        have e2 : F.eval (.tmp 2) = .pointer (some ⟨w.heap.size, 0, none⟩) := (hoff 2 (of_decide_eq_true (by kernel_rfl))).trans rfl
        have t2 := act_tmp e2
        have e19 := hat 13 19 (of_decide_eq_true (by kernel_rfl)) rfl
        have v19 := hp ⟨13, .data⟩ (by simp) rfl
        clear hat hoff hp
        obtain ⟨A, c, h19, hi⟩ := v19
        rw [h19] at e19
        obtain ⟨cs0, hk0, hs0⟩ := hGW.2.2
        have hn := hk0.setCells_ [.int .i64 l.wN, .int .i64 l.wE, .slice A on c] hs0
        have hsv := save_setCells W w.heap.size 0 [.int .i64 l.wN, .int .i64 l.wE, .slice A on c]
        have hsz := size_setCells W w.heap.size 0 [.int .i64 l.wN, .int .i64 l.wE, .slice A on c]
        have hi' := hi.kept (w' := W.setCells w.heap.size 0 [.int .i64 l.wN, .int .i64 l.wE, .slice A on c]) ⟨by rw [hsz]; exact Nat.le_refl _, fun b h1 h2 => hsv b h2 (by have : w.heap.size + 1 ≤ b := h1; omega)⟩
        refine wp_store_mid 32 (.tmp 2) (.tmp 19) rfl w.heap.size 0 #[.int .i64 l.wN, .int .i64 l.wE, .slice A on c] e2 e19 (hk0.there_ 0 _ (by rw [hs0]; exact Nat.le_refl _)) Try.sizeReach reachC_one ?_
        exact ⟨_, rfl, ⟨A, on, c, hn, hi'⟩, ⟨below_setCells (Nat.le_refl _) hGW.1 _ _, by rw [hsz]; exact hGW.2.1, ⟨_, hn, rfl⟩⟩, hsv, by rw [hsz]; exact Nat.le_refl _, fun _ => ⟨A, on, c, hn, hi'⟩⟩
      | i + 15 => exact absurd ho (by simp)
  case hend =>
    intro U W hGW hV
    obtain ⟨A, n, c, hk, hi⟩ : ReachIs W (From (w.heap.size + 1)) w.heap.size l.wN l.wE l.holes := hV 14 (of_decide_eq_true (by kernel_rfl))
    have HK2 := Lib.hid hk
    have HI2 := Lib.hid hi
    have HG := Lib.hid hGW.1
    clear hV hGW hk hi
    simp [putU, dstAt, Act.put]
    go_wp2_with fail
    refine bodyPost_ret (results_cell rfl rfl HK2.out.range Try.underlying32 rfl Try.sizeReach) rfl ?_
    exact ⟨A, n, c, rfl, HI2.out.mono fun b _ h => (show w.heap.size ≤ b from by have : w.heap.size + 1 ≤ b := h; omega), HG.out⟩

theorem copyL_any (b : Nat) (l : LaneC) {S : Nat → Prop} (w : World) (h : LaneIs w S b l) :
    Calls Try.prog 39 #[.pointer (some ⟨b, 0, none⟩)] w fun x w' => x = .returned (.pointer (some ⟨w.heap.size, 0, none⟩)) ∧ LaneIs w' S w.heap.size l ∧ Below w.heap.size w w' := by
  obtain ⟨oA, on, oc, h1, h2⟩ := h
  have c0 := h1.cell 0
  have c1 := h1.cell 1
  have c2 := h1.cell 2
  have c3 := h1.cell 3
  have c4 := h1.cell 4
  have c5 := h1.cell 5
  have c6 := h1.cell 6
  have c7 := h1.cell 7
  simp at c0 c1 c2 c3 c4 c5 c6 c7
  have HI := Lib.hid h2
  clear h1 h2
  go_enter Try.func39, Try.ntmps39
  go_wp2
  go_ret
  have hb : Below w.heap.size w (w.alloc (.cells (laneC l.mN l.mE l.wN l.wE oA on oc l.epoch l.site l.next) 127)) := (Below.refl _ _).alloc (Nat.le_refl _) _
  exact ⟨rfl, ⟨oA, on, oc, Blk.new w _ _, HI.out.below hb⟩, hb⟩
end Go.Proofs.Ytaipgdhdfpemcaa
