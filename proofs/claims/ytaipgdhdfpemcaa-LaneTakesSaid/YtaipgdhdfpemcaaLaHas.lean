/-
  THE WALKS OF THE LANE: whether operations have a place.
-/
import Derived.Test.YtaipgdhdfpemcaaLaCheck10
import Derived.Test.YtaipgdhdfpemcaaDraw3
import Derived.IntWalk
namespace Go.Proofs.Ytaipgdhdfpemcaa
open Go.RowKit

/-- have operations a place? -/
def hasB (cs : List OpC) (N E : Int) : Bool := (decide (N = 0) && decide (E = 0)) || (decide (1 ≤ N) && (decide (N ≤ cs.length) && match cs[(N - 1).toNat]? with | some c => decide (c.n = N) && decide (c.epoch = E) | none => false))

set_option maxRecDepth 100000 in
set_option maxHeartbeats 4000000 in
theorem has_zero {A : Option Addr} {n cap g c1 : Nat} {N E : Int} (w : World) (hg : Blk w g 26 #[.int .i64 N, .int .i64 E]) (hN : N = 0) (hE : E = 0) :
    Calls Try.prog 54 #[.slice A n cap, .slice (some ⟨g, 0, none⟩) 1 c1] w fun x w' => x = .returned (.bool true) ∧ Below w.heap.size w w' := by
  have hc0 := hg.cell 0
  have hc1 := hg.cell 1
  simp at hc0 hc1
  clear hg
  subst hN hE
  go_enter Try.func54, Try.ntmps54
  go_wp2_with fail
  go_loopw [9] (fun i wr => (i = .int .i64 0 ∧ w = wr) ∨ (i = .int .i64 1 ∧ Below w.heap.size w wr)) (fun i _ => 1 - (intOf i).toNat)
  case atStart => exact .inl ⟨rfl, rfl⟩
  case round =>
    rcases hrel with ⟨rfl, rfl⟩ | ⟨rfl, hb⟩
    · go_wp2_with fail
      go_quiet (fail)
      go_wp2
      go_roundw
      case rel => exact .inr ⟨by go_num, below_drewN ((Below.refl _ _).alloc (Nat.le_refl _) _) _⟩
      case measure => simp [intOf]
    · go_wp2
      go_ret
      exact ⟨rfl, hb⟩

set_option maxRecDepth 100000 in
set_option maxHeartbeats 4000000 in
theorem has_low {A : Option Addr} {n cap g c1 : Nat} {N E : Int} (w : World) (hg : Blk w g 26 #[.int .i64 N, .int .i64 E]) (hN : N < 1) (hNE : ¬ (N = 0 ∧ E = 0)) :
    Calls Try.prog 54 #[.slice A n cap, .slice (some ⟨g, 0, none⟩) 1 c1] w fun x w' => x = .returned (.bool false) ∧ Below w.heap.size w w' := by
  have hc0 := hg.cell 0
  have hc1 := hg.cell 1
  simp at hc0 hc1
  have hba : Below w.heap.size w (w.alloc (.cells #[.int .i64 N, .int .i64 E] 26)) := (Below.refl _ _).alloc (Nat.le_refl _) _
  have HBA := Lib.hid hba
  have HBK := Lib.hid (Blk.new w 26 #[.int .i64 N, .int .i64 E])
  clear hg hba
  go_enter Try.func54, Try.ntmps54
  go_wp2_with fail
  go_loopw [9] (fun i wr => i = .int .i64 0 ∧ w = wr) (fun _ _ => 0)
  case atStart => exact ⟨rfl, rfl⟩
  case round =>
    obtain ⟨rfl, rfl⟩ := hrel
    go_wp2_with fail
    refine wp_region_all (by kernel_rfl) (fun i v W => match i with | 0 => v = .agg #[.int .i64 N, .int .i64 E] | 1 => v = .agg #[.int .i64 0, .int .i64 0] | 2 => v = .bool true | 3 => v = .bool true | 4 => v = .pointer (some ⟨w.heap.size, 0, none⟩) | 5 => v = .int .i64 N | 6 => v = .bool true | 7 => v = .bool true | 8 => v = undef | 9 => v = undef | 10 => v = undef | 11 => v = undef | 12 => v = undef | 13 => v = .bool true | 14 => v = .bool true | 15 => v = undef | 16 => v = undef | 17 => v = undef | 18 => v = undef | 19 => v = undef | 20 => v = undef | 21 => v = undef | 22 => v = undef | 23 => v = undef | 24 => v = .bool true | 25 => v = .bool true | _ => True) (fun W => Below w.heap.size w W ∧ Blk W w.heap.size 26 #[.int .i64 N, .int .i64 E]) (fun W W' => Below W.heap.size W W') (by kernel_rfl) ?hG ?hmono ?hstep ?hend
    case hG => exact ⟨HBA.out.drew, HBK.out.drew⟩
    case hmono =>
      intro i v W W' _ hv
      match i with
      | 0 | 1 | 2 | 3 | 4 | 5 | 6 | 7 | 8 | 9 | 10 | 11 | 12 | 13 | 14 | 15 | 16 | 17 | 18 | 19 | 20 | 21 | 22 | 23 | 24 | 25 => exact hv
      | i + 26 => exact hv
    case hstep =>
      intro i o F U W ho hGW hat hoff hp
      have hrefl := fun W : World => Below.refl W.heap.size W
      match i with
        | 0 =>
          injection (show some _ = some o from ho) with ho
          subst ho
          refine on_ (wanted_none rfl) ?_
          have e6 : F.eval (.tmp 6) = .pointer (some ⟨w.heap.size, 0, none⟩) := (hoff 6 (of_decide_eq_true (by kernel_rfl))).trans rfl
          have t6 := act_tmp e6
          clear hat hoff hp
          have c0 := hGW.2.cell 0
          have c1 := hGW.2.cell 1
          simp at c0 c1
          exact wp_value' (.agg #[.int .i64 N, .int .i64 E]) W (by unfold execOp; go_simp) ⟨_, rfl, rfl, hGW, hrefl W⟩
        | 1 =>
          injection (show some _ = some o from ho) with ho
          subst ho
          refine on_ (wanted_none rfl) ?_
          clear hat hoff hp
          exact wp_value' (.agg #[.int .i64 0, .int .i64 0]) W (by unfold execOp; go_simp; all_goals first | omega | exact IntWalk.i64_in _ (by omega)) ⟨_, rfl, rfl, hGW, hrefl W⟩
        | 2 =>
          injection (show some _ = some o from ho) with ho
          subst ho
          refine on_ (wanted_none rfl) ?_
          have e13 : F.eval (.tmp 13) = .agg #[.int .i64 N, .int .i64 E] := (hat 0 13 (of_decide_eq_true (by kernel_rfl)) rfl).trans (hp ⟨0, .data⟩ (by simp) rfl : U 0 = .agg #[.int .i64 N, .int .i64 E])
          have t13 := act_tmp e13
          have e14 : F.eval (.tmp 14) = .agg #[.int .i64 0, .int .i64 0] := (hat 1 14 (of_decide_eq_true (by kernel_rfl)) rfl).trans (hp ⟨1, .data⟩ (by simp) rfl : U 1 = .agg #[.int .i64 0, .int .i64 0])
          have t14 := act_tmp e14
          clear hat hoff hp
          exact wp_value' (.bool true) W (by unfold execOp; go_simp; (by_cases q1 : N = 0 <;> by_cases q2 : E = 0 <;> first | omega | simp_all)) ⟨_, rfl, rfl, hGW, hrefl W⟩
        | 3 =>
          injection (show some _ = some o from ho) with ho
          subst ho
          refine on_ (wanted_none rfl) ?_
          have e15 : F.eval (.tmp 15) = .bool true := (hat 2 15 (of_decide_eq_true (by kernel_rfl)) rfl).trans (hp ⟨2, .data⟩ (by simp) rfl : U 2 = .bool true)
          exact wp_move' (.tmp 15) rfl ⟨_, rfl, e15, hGW, hrefl W⟩
        | 4 =>
          injection (show some _ = some o from ho) with ho
          subst ho
          have eg : F.eval (.tmp 16) = .bool true := (hat 3 16 (of_decide_eq_true (by kernel_rfl)) rfl).trans (hp ⟨3, .guard⟩ (by simp) rfl : U 3 = .bool true)
          refine on_ ((wanted_by rfl rfl eg).trans rfl) ?_
          have e6 : F.eval (.tmp 6) = .pointer (some ⟨w.heap.size, 0, none⟩) := (hoff 6 (of_decide_eq_true (by kernel_rfl))).trans rfl
          have t6 := act_tmp e6
          clear hat hoff hp
          exact wp_value' (.pointer (some ⟨w.heap.size, 0, none⟩)) W (by unfold execOp; go_simp; all_goals first | omega | exact IntWalk.i64_in _ (by omega)) ⟨_, rfl, rfl, hGW, hrefl W⟩
        | 5 =>
          injection (show some _ = some o from ho) with ho
          subst ho
          have eg : F.eval (.tmp 16) = .bool true := (hat 3 16 (of_decide_eq_true (by kernel_rfl)) rfl).trans (hp ⟨3, .guard⟩ (by simp) rfl : U 3 = .bool true)
          refine on_ ((wanted_by rfl rfl eg).trans rfl) ?_
          have e17 : F.eval (.tmp 17) = .pointer (some ⟨w.heap.size, 0, none⟩) := (hat 4 17 (of_decide_eq_true (by kernel_rfl)) rfl).trans (hp ⟨4, .data⟩ (by simp) rfl : U 4 = .pointer (some ⟨w.heap.size, 0, none⟩))
          have t17 := act_tmp e17
          clear hat hoff hp
          have c0 := hGW.2.cell 0
          simp at c0
          exact wp_value' (.int .i64 N) W (by unfold execOp; go_simp) ⟨_, rfl, rfl, hGW, hrefl W⟩
        | 6 =>
          injection (show some _ = some o from ho) with ho
          subst ho
          have eg : F.eval (.tmp 16) = .bool true := (hat 3 16 (of_decide_eq_true (by kernel_rfl)) rfl).trans (hp ⟨3, .guard⟩ (by simp) rfl : U 3 = .bool true)
          refine on_ ((wanted_by rfl rfl eg).trans rfl) ?_
          have e18 : F.eval (.tmp 18) = .int .i64 N := (hat 5 18 (of_decide_eq_true (by kernel_rfl)) rfl).trans (hp ⟨5, .data⟩ (by simp) rfl : U 5 = .int .i64 N)
          have t18 := act_tmp e18
          clear hat hoff hp
          exact wp_value' (.bool true) W (by unfold execOp; go_simp; all_goals first | omega | exact IntWalk.i64_in _ (by omega)) ⟨_, rfl, rfl, hGW, hrefl W⟩
        | 7 =>
          injection (show some _ = some o from ho) with ho
          subst ho
          have eg : F.eval (.tmp 16) = .bool true := (hat 3 16 (of_decide_eq_true (by kernel_rfl)) rfl).trans (hp ⟨3, .guard⟩ (by simp) rfl : U 3 = .bool true)
          refine on_ ((wanted_by rfl rfl eg).trans rfl) ?_
          have e19 : F.eval (.tmp 19) = .bool true := (hat 6 19 (of_decide_eq_true (by kernel_rfl)) rfl).trans (hp ⟨6, .data⟩ (by simp) rfl : U 6 = .bool true)
          exact wp_move' (.tmp 19) rfl ⟨_, rfl, e19, hGW, hrefl W⟩
        | 8 =>
          injection (show some _ = some o from ho) with ho
          subst ho
          have eg : F.eval (.tmp 20) = .bool true := (hat 7 20 (of_decide_eq_true (by kernel_rfl)) rfl).trans (hp ⟨7, .guard⟩ (by simp) rfl : U 7 = .bool true)
          exact off_ (W := W) ((wanted_by rfl rfl eg).trans rfl) rfl
        | 9 =>
          injection (show some _ = some o from ho) with ho
          subst ho
          have eg : F.eval (.tmp 20) = .bool true := (hat 7 20 (of_decide_eq_true (by kernel_rfl)) rfl).trans (hp ⟨7, .guard⟩ (by simp) rfl : U 7 = .bool true)
          exact off_ (W := W) ((wanted_by rfl rfl eg).trans rfl) rfl
        | 10 =>
          injection (show some _ = some o from ho) with ho
          subst ho
          have eg : F.eval (.tmp 20) = .bool true := (hat 7 20 (of_decide_eq_true (by kernel_rfl)) rfl).trans (hp ⟨7, .guard⟩ (by simp) rfl : U 7 = .bool true)
          exact off_ (W := W) ((wanted_by rfl rfl eg).trans rfl) rfl
        | 11 =>
          injection (show some _ = some o from ho) with ho
          subst ho
          have eg : F.eval (.tmp 20) = .bool true := (hat 7 20 (of_decide_eq_true (by kernel_rfl)) rfl).trans (hp ⟨7, .guard⟩ (by simp) rfl : U 7 = .bool true)
          exact off_ (W := W) ((wanted_by rfl rfl eg).trans rfl) rfl
        | 12 =>
          injection (show some _ = some o from ho) with ho
          subst ho
          have eg : F.eval (.tmp 20) = .bool true := (hat 7 20 (of_decide_eq_true (by kernel_rfl)) rfl).trans (hp ⟨7, .guard⟩ (by simp) rfl : U 7 = .bool true)
          exact off_ (W := W) ((wanted_by rfl rfl eg).trans rfl) rfl
        | 13 =>
          injection (show some _ = some o from ho) with ho
          subst ho
          have eg : F.eval (.tmp 16) = .bool true := (hat 3 16 (of_decide_eq_true (by kernel_rfl)) rfl).trans (hp ⟨3, .guard⟩ (by simp) rfl : U 3 = .bool true)
          refine on_ ((wanted_by rfl rfl eg).trans rfl) ?_
          have e20 : F.eval (.tmp 20) = .bool true := (hat 7 20 (of_decide_eq_true (by kernel_rfl)) rfl).trans (hp ⟨7, .data⟩ (by simp) rfl : U 7 = .bool true)
          have t20 := act_tmp e20
          clear hat hoff hp
          exact wp_value' (.bool true) W (by unfold execOp; go_simp; all_goals first | omega | exact IntWalk.i64_in _ (by omega)) ⟨_, rfl, rfl, hGW, hrefl W⟩
        | 14 =>
          injection (show some _ = some o from ho) with ho
          subst ho
          have eg : F.eval (.tmp 16) = .bool true := (hat 3 16 (of_decide_eq_true (by kernel_rfl)) rfl).trans (hp ⟨3, .guard⟩ (by simp) rfl : U 3 = .bool true)
          refine on_ ((wanted_by rfl rfl eg).trans rfl) ?_
          have e26 : F.eval (.tmp 26) = .bool true := (hat 13 26 (of_decide_eq_true (by kernel_rfl)) rfl).trans (hp ⟨13, .data⟩ (by simp) rfl : U 13 = .bool true)
          exact wp_move' (.tmp 26) rfl ⟨_, rfl, e26, hGW, hrefl W⟩
        | 15 =>
          injection (show some _ = some o from ho) with ho
          subst ho
          have eg : F.eval (.tmp 27) = .bool true := (hat 14 27 (of_decide_eq_true (by kernel_rfl)) rfl).trans (hp ⟨14, .guard⟩ (by simp) rfl : U 14 = .bool true)
          exact off_ (W := W) ((wanted_by rfl rfl eg).trans rfl) rfl
        | 16 =>
          injection (show some _ = some o from ho) with ho
          subst ho
          have eg : F.eval (.tmp 27) = .bool true := (hat 14 27 (of_decide_eq_true (by kernel_rfl)) rfl).trans (hp ⟨14, .guard⟩ (by simp) rfl : U 14 = .bool true)
          exact off_ (W := W) ((wanted_by rfl rfl eg).trans rfl) rfl
        | 17 =>
          injection (show some _ = some o from ho) with ho
          subst ho
          have eg : F.eval (.tmp 27) = .bool true := (hat 14 27 (of_decide_eq_true (by kernel_rfl)) rfl).trans (hp ⟨14, .guard⟩ (by simp) rfl : U 14 = .bool true)
          exact off_ (W := W) ((wanted_by rfl rfl eg).trans rfl) rfl
        | 18 =>
          injection (show some _ = some o from ho) with ho
          subst ho
          have eg : F.eval (.tmp 27) = .bool true := (hat 14 27 (of_decide_eq_true (by kernel_rfl)) rfl).trans (hp ⟨14, .guard⟩ (by simp) rfl : U 14 = .bool true)
          exact off_ (W := W) ((wanted_by rfl rfl eg).trans rfl) rfl
        | 19 =>
          injection (show some _ = some o from ho) with ho
          subst ho
          have eg : F.eval (.tmp 27) = .bool true := (hat 14 27 (of_decide_eq_true (by kernel_rfl)) rfl).trans (hp ⟨14, .guard⟩ (by simp) rfl : U 14 = .bool true)
          exact off_ (W := W) ((wanted_by rfl rfl eg).trans rfl) rfl
        | 20 =>
          injection (show some _ = some o from ho) with ho
          subst ho
          have eg : F.eval (.tmp 27) = .bool true := (hat 14 27 (of_decide_eq_true (by kernel_rfl)) rfl).trans (hp ⟨14, .guard⟩ (by simp) rfl : U 14 = .bool true)
          exact off_ (W := W) ((wanted_by rfl rfl eg).trans rfl) rfl
        | 21 =>
          injection (show some _ = some o from ho) with ho
          subst ho
          have eg : F.eval (.tmp 27) = .bool true := (hat 14 27 (of_decide_eq_true (by kernel_rfl)) rfl).trans (hp ⟨14, .guard⟩ (by simp) rfl : U 14 = .bool true)
          exact off_ (W := W) ((wanted_by rfl rfl eg).trans rfl) rfl
        | 22 =>
          injection (show some _ = some o from ho) with ho
          subst ho
          have eg : F.eval (.tmp 27) = .bool true := (hat 14 27 (of_decide_eq_true (by kernel_rfl)) rfl).trans (hp ⟨14, .guard⟩ (by simp) rfl : U 14 = .bool true)
          exact off_ (W := W) ((wanted_by rfl rfl eg).trans rfl) rfl
        | 23 =>
          injection (show some _ = some o from ho) with ho
          subst ho
          have eg : F.eval (.tmp 27) = .bool true := (hat 14 27 (of_decide_eq_true (by kernel_rfl)) rfl).trans (hp ⟨14, .guard⟩ (by simp) rfl : U 14 = .bool true)
          exact off_ (W := W) ((wanted_by rfl rfl eg).trans rfl) rfl
        | 24 =>
          injection (show some _ = some o from ho) with ho
          subst ho
          have eg : F.eval (.tmp 16) = .bool true := (hat 3 16 (of_decide_eq_true (by kernel_rfl)) rfl).trans (hp ⟨3, .guard⟩ (by simp) rfl : U 3 = .bool true)
          refine on_ ((wanted_by rfl rfl eg).trans rfl) ?_
          have e27 : F.eval (.tmp 27) = .bool true := (hat 14 27 (of_decide_eq_true (by kernel_rfl)) rfl).trans (hp ⟨14, .data⟩ (by simp) rfl : U 14 = .bool true)
          have t27 := act_tmp e27
          clear hat hoff hp
          exact wp_value' (.bool true) W (by unfold execOp; go_simp; all_goals first | omega | exact IntWalk.i64_in _ (by omega)) ⟨_, rfl, rfl, hGW, hrefl W⟩
        | 25 =>
          injection (show some _ = some o from ho) with ho
          subst ho
          refine on_ (wanted_none rfl) ?_
          have e16 : F.eval (.tmp 16) = .bool true := (hat 3 16 (of_decide_eq_true (by kernel_rfl)) rfl).trans (hp ⟨3, .data⟩ (by simp) rfl : U 3 = .bool true)
          have t16 := act_tmp e16
          have e37 : F.eval (.tmp 37) = .bool true := (hat 24 37 (of_decide_eq_true (by kernel_rfl)) rfl).trans (hp ⟨24, .data⟩ (by simp) rfl : U 24 = .bool true)
          have t37 := act_tmp e37
          clear hat hoff hp
          exact wp_value' (.bool true) W (by unfold execOp; go_simp; all_goals first | omega | exact IntWalk.i64_in _ (by omega)) ⟨_, rfl, rfl, hGW, hrefl W⟩
        | i + 26 => exact absurd ho (by simp)
    case hend =>
      intro U W hGW hV
      have h25 : U 25 = .bool true := hV 25 (of_decide_eq_true (by kernel_rfl))
      have HG := Lib.hid hGW.1
      have HU := Lib.hid h25
      clear hV hGW h25
      simp [putU, dstAt, Act.put, HU.out]
      go_wp2
      go_ret
      exact ⟨rfl, HG.out⟩

set_option maxRecDepth 100000 in
set_option maxHeartbeats 4000000 in
theorem has_high {A : Option Addr} {n cap g c1 : Nat} {N E : Int} (w : World) (hg : Blk w g 26 #[.int .i64 N, .int .i64 E]) (hN : 1 ≤ N) (hNn : (n : Int) < N) :
    Calls Try.prog 54 #[.slice A n cap, .slice (some ⟨g, 0, none⟩) 1 c1] w fun x w' => x = .returned (.bool false) ∧ Below w.heap.size w w' := by
  have hc0 := hg.cell 0
  have hc1 := hg.cell 1
  simp at hc0 hc1
  have hba : Below w.heap.size w (w.alloc (.cells #[.int .i64 N, .int .i64 E] 26)) := (Below.refl _ _).alloc (Nat.le_refl _) _
  have HBA := Lib.hid hba
  have HBK := Lib.hid (Blk.new w 26 #[.int .i64 N, .int .i64 E])
  clear hg hba
  go_enter Try.func54, Try.ntmps54
  go_wp2_with fail
  go_loopw [9] (fun i wr => i = .int .i64 0 ∧ w = wr) (fun _ _ => 0)
  case atStart => exact ⟨rfl, rfl⟩
  case round =>
    obtain ⟨rfl, rfl⟩ := hrel
    go_wp2_with fail
    refine wp_region_all (by kernel_rfl) (fun i v W => match i with | 0 => v = .agg #[.int .i64 N, .int .i64 E] | 1 => v = .agg #[.int .i64 0, .int .i64 0] | 2 => v = .bool true | 3 => v = .bool true | 4 => v = .pointer (some ⟨w.heap.size, 0, none⟩) | 5 => v = .int .i64 N | 6 => v = .bool false | 7 => v = .bool false | 8 => v = .pointer (some ⟨w.heap.size, 0, none⟩) | 9 => v = .int .i64 N | 10 => v = .slice A n cap | 11 => v = .int .i64 (n : Nat) | 12 => v = .bool true | 13 => v = .bool true | 14 => v = .bool true | 15 => v = undef | 16 => v = undef | 17 => v = undef | 18 => v = undef | 19 => v = undef | 20 => v = undef | 21 => v = undef | 22 => v = undef | 23 => v = undef | 24 => v = .bool true | 25 => v = .bool true | _ => True) (fun W => Below w.heap.size w W ∧ Blk W w.heap.size 26 #[.int .i64 N, .int .i64 E]) (fun W W' => Below W.heap.size W W') (by kernel_rfl) ?hG ?hmono ?hstep ?hend
    case hG => exact ⟨HBA.out.drew, HBK.out.drew⟩
    case hmono =>
      intro i v W W' _ hv
      match i with
      | 0 | 1 | 2 | 3 | 4 | 5 | 6 | 7 | 8 | 9 | 10 | 11 | 12 | 13 | 14 | 15 | 16 | 17 | 18 | 19 | 20 | 21 | 22 | 23 | 24 | 25 => exact hv
      | i + 26 => exact hv
    case hstep =>
      intro i o F U W ho hGW hat hoff hp
      have hrefl := fun W : World => Below.refl W.heap.size W
      match i with
        | 0 =>
          injection (show some _ = some o from ho) with ho
          subst ho
          refine on_ (wanted_none rfl) ?_
          have e6 : F.eval (.tmp 6) = .pointer (some ⟨w.heap.size, 0, none⟩) := (hoff 6 (of_decide_eq_true (by kernel_rfl))).trans rfl
          have t6 := act_tmp e6
          clear hat hoff hp
          have c0 := hGW.2.cell 0
          have c1 := hGW.2.cell 1
          simp at c0 c1
          exact wp_value' (.agg #[.int .i64 N, .int .i64 E]) W (by unfold execOp; go_simp) ⟨_, rfl, rfl, hGW, hrefl W⟩
        | 1 =>
          injection (show some _ = some o from ho) with ho
          subst ho
          refine on_ (wanted_none rfl) ?_
          clear hat hoff hp
          exact wp_value' (.agg #[.int .i64 0, .int .i64 0]) W (by unfold execOp; go_simp; all_goals first | omega | exact IntWalk.i64_in _ (by omega)) ⟨_, rfl, rfl, hGW, hrefl W⟩
        | 2 =>
          injection (show some _ = some o from ho) with ho
          subst ho
          refine on_ (wanted_none rfl) ?_
          have e13 : F.eval (.tmp 13) = .agg #[.int .i64 N, .int .i64 E] := (hat 0 13 (of_decide_eq_true (by kernel_rfl)) rfl).trans (hp ⟨0, .data⟩ (by simp) rfl : U 0 = .agg #[.int .i64 N, .int .i64 E])
          have t13 := act_tmp e13
          have e14 : F.eval (.tmp 14) = .agg #[.int .i64 0, .int .i64 0] := (hat 1 14 (of_decide_eq_true (by kernel_rfl)) rfl).trans (hp ⟨1, .data⟩ (by simp) rfl : U 1 = .agg #[.int .i64 0, .int .i64 0])
          have t14 := act_tmp e14
          clear hat hoff hp
          exact wp_value' (.bool true) W (by unfold execOp; go_simp; (by_cases q1 : N = 0 <;> by_cases q2 : E = 0 <;> first | omega | simp_all)) ⟨_, rfl, rfl, hGW, hrefl W⟩
        | 3 =>
          injection (show some _ = some o from ho) with ho
          subst ho
          refine on_ (wanted_none rfl) ?_
          have e15 : F.eval (.tmp 15) = .bool true := (hat 2 15 (of_decide_eq_true (by kernel_rfl)) rfl).trans (hp ⟨2, .data⟩ (by simp) rfl : U 2 = .bool true)
          exact wp_move' (.tmp 15) rfl ⟨_, rfl, e15, hGW, hrefl W⟩
        | 4 =>
          injection (show some _ = some o from ho) with ho
          subst ho
          have eg : F.eval (.tmp 16) = .bool true := (hat 3 16 (of_decide_eq_true (by kernel_rfl)) rfl).trans (hp ⟨3, .guard⟩ (by simp) rfl : U 3 = .bool true)
          refine on_ ((wanted_by rfl rfl eg).trans rfl) ?_
          have e6 : F.eval (.tmp 6) = .pointer (some ⟨w.heap.size, 0, none⟩) := (hoff 6 (of_decide_eq_true (by kernel_rfl))).trans rfl
          have t6 := act_tmp e6
          clear hat hoff hp
          exact wp_value' (.pointer (some ⟨w.heap.size, 0, none⟩)) W (by unfold execOp; go_simp; all_goals first | omega | exact IntWalk.i64_in _ (by omega)) ⟨_, rfl, rfl, hGW, hrefl W⟩
        | 5 =>
          injection (show some _ = some o from ho) with ho
          subst ho
          have eg : F.eval (.tmp 16) = .bool true := (hat 3 16 (of_decide_eq_true (by kernel_rfl)) rfl).trans (hp ⟨3, .guard⟩ (by simp) rfl : U 3 = .bool true)
          refine on_ ((wanted_by rfl rfl eg).trans rfl) ?_
          have e17 : F.eval (.tmp 17) = .pointer (some ⟨w.heap.size, 0, none⟩) := (hat 4 17 (of_decide_eq_true (by kernel_rfl)) rfl).trans (hp ⟨4, .data⟩ (by simp) rfl : U 4 = .pointer (some ⟨w.heap.size, 0, none⟩))
          have t17 := act_tmp e17
          clear hat hoff hp
          have c0 := hGW.2.cell 0
          simp at c0
          exact wp_value' (.int .i64 N) W (by unfold execOp; go_simp) ⟨_, rfl, rfl, hGW, hrefl W⟩
        | 6 =>
          injection (show some _ = some o from ho) with ho
          subst ho
          have eg : F.eval (.tmp 16) = .bool true := (hat 3 16 (of_decide_eq_true (by kernel_rfl)) rfl).trans (hp ⟨3, .guard⟩ (by simp) rfl : U 3 = .bool true)
          refine on_ ((wanted_by rfl rfl eg).trans rfl) ?_
          have e18 : F.eval (.tmp 18) = .int .i64 N := (hat 5 18 (of_decide_eq_true (by kernel_rfl)) rfl).trans (hp ⟨5, .data⟩ (by simp) rfl : U 5 = .int .i64 N)
          have t18 := act_tmp e18
          clear hat hoff hp
          exact wp_value' (.bool false) W (by unfold execOp; go_simp; all_goals first | omega | exact IntWalk.i64_in _ (by omega)) ⟨_, rfl, rfl, hGW, hrefl W⟩
        | 7 =>
          injection (show some _ = some o from ho) with ho
          subst ho
          have eg : F.eval (.tmp 16) = .bool true := (hat 3 16 (of_decide_eq_true (by kernel_rfl)) rfl).trans (hp ⟨3, .guard⟩ (by simp) rfl : U 3 = .bool true)
          refine on_ ((wanted_by rfl rfl eg).trans rfl) ?_
          have e19 : F.eval (.tmp 19) = .bool false := (hat 6 19 (of_decide_eq_true (by kernel_rfl)) rfl).trans (hp ⟨6, .data⟩ (by simp) rfl : U 6 = .bool false)
          exact wp_move' (.tmp 19) rfl ⟨_, rfl, e19, hGW, hrefl W⟩
        | 8 =>
          injection (show some _ = some o from ho) with ho
          subst ho
          have eg : F.eval (.tmp 20) = .bool false := (hat 7 20 (of_decide_eq_true (by kernel_rfl)) rfl).trans (hp ⟨7, .guard⟩ (by simp) rfl : U 7 = .bool false)
          refine on_ ((wanted_by rfl rfl eg).trans rfl) ?_
          have e6 : F.eval (.tmp 6) = .pointer (some ⟨w.heap.size, 0, none⟩) := (hoff 6 (of_decide_eq_true (by kernel_rfl))).trans rfl
          have t6 := act_tmp e6
          clear hat hoff hp
          exact wp_value' (.pointer (some ⟨w.heap.size, 0, none⟩)) W (by unfold execOp; go_simp; all_goals first | omega | exact IntWalk.i64_in _ (by omega)) ⟨_, rfl, rfl, hGW, hrefl W⟩
        | 9 =>
          injection (show some _ = some o from ho) with ho
          subst ho
          have eg : F.eval (.tmp 20) = .bool false := (hat 7 20 (of_decide_eq_true (by kernel_rfl)) rfl).trans (hp ⟨7, .guard⟩ (by simp) rfl : U 7 = .bool false)
          refine on_ ((wanted_by rfl rfl eg).trans rfl) ?_
          have e21 : F.eval (.tmp 21) = .pointer (some ⟨w.heap.size, 0, none⟩) := (hat 8 21 (of_decide_eq_true (by kernel_rfl)) rfl).trans (hp ⟨8, .data⟩ (by simp) rfl : U 8 = .pointer (some ⟨w.heap.size, 0, none⟩))
          have t21 := act_tmp e21
          clear hat hoff hp
          have c0 := hGW.2.cell 0
          simp at c0
          exact wp_value' (.int .i64 N) W (by unfold execOp; go_simp) ⟨_, rfl, rfl, hGW, hrefl W⟩
        | 10 =>
          injection (show some _ = some o from ho) with ho
          subst ho
          have eg : F.eval (.tmp 20) = .bool false := (hat 7 20 (of_decide_eq_true (by kernel_rfl)) rfl).trans (hp ⟨7, .guard⟩ (by simp) rfl : U 7 = .bool false)
          refine on_ ((wanted_by rfl rfl eg).trans rfl) ?_
          have e0 : F.eval (.tmp 0) = .slice A n cap := (hoff 0 (of_decide_eq_true (by kernel_rfl))).trans rfl
          exact wp_move' (.tmp 0) rfl ⟨_, rfl, e0, hGW, hrefl W⟩
        | 11 =>
          injection (show some _ = some o from ho) with ho
          subst ho
          have eg : F.eval (.tmp 20) = .bool false := (hat 7 20 (of_decide_eq_true (by kernel_rfl)) rfl).trans (hp ⟨7, .guard⟩ (by simp) rfl : U 7 = .bool false)
          refine on_ ((wanted_by rfl rfl eg).trans rfl) ?_
          have e23 : F.eval (.tmp 23) = .slice A n cap := (hat 10 23 (of_decide_eq_true (by kernel_rfl)) rfl).trans (hp ⟨10, .data⟩ (by simp) rfl : U 10 = .slice A n cap)
          have t23 := act_tmp e23
          clear hat hoff hp
          exact wp_value' (.int .i64 (n : Nat)) W (by unfold execOp; go_simp; all_goals first | omega | exact IntWalk.i64_in _ (by omega)) ⟨_, rfl, rfl, hGW, hrefl W⟩
        | 12 =>
          injection (show some _ = some o from ho) with ho
          subst ho
          have eg : F.eval (.tmp 20) = .bool false := (hat 7 20 (of_decide_eq_true (by kernel_rfl)) rfl).trans (hp ⟨7, .guard⟩ (by simp) rfl : U 7 = .bool false)
          refine on_ ((wanted_by rfl rfl eg).trans rfl) ?_
          have e22 : F.eval (.tmp 22) = .int .i64 N := (hat 9 22 (of_decide_eq_true (by kernel_rfl)) rfl).trans (hp ⟨9, .data⟩ (by simp) rfl : U 9 = .int .i64 N)
          have t22 := act_tmp e22
          have e24 : F.eval (.tmp 24) = .int .i64 (n : Nat) := (hat 11 24 (of_decide_eq_true (by kernel_rfl)) rfl).trans (hp ⟨11, .data⟩ (by simp) rfl : U 11 = .int .i64 (n : Nat))
          have t24 := act_tmp e24
          clear hat hoff hp
          exact wp_value' (.bool true) W (by unfold execOp; go_simp; all_goals first | omega | exact IntWalk.i64_in _ (by omega)) ⟨_, rfl, rfl, hGW, hrefl W⟩
        | 13 =>
          injection (show some _ = some o from ho) with ho
          subst ho
          have eg : F.eval (.tmp 16) = .bool true := (hat 3 16 (of_decide_eq_true (by kernel_rfl)) rfl).trans (hp ⟨3, .guard⟩ (by simp) rfl : U 3 = .bool true)
          refine on_ ((wanted_by rfl rfl eg).trans rfl) ?_
          have e20 : F.eval (.tmp 20) = .bool false := (hat 7 20 (of_decide_eq_true (by kernel_rfl)) rfl).trans (hp ⟨7, .data⟩ (by simp) rfl : U 7 = .bool false)
          have t20 := act_tmp e20
          have e25 : F.eval (.tmp 25) = .bool true := (hat 12 25 (of_decide_eq_true (by kernel_rfl)) rfl).trans (hp ⟨12, .data⟩ (by simp) rfl : U 12 = .bool true)
          have t25 := act_tmp e25
          clear hat hoff hp
          exact wp_value' (.bool true) W (by unfold execOp; go_simp; all_goals first | omega | exact IntWalk.i64_in _ (by omega)) ⟨_, rfl, rfl, hGW, hrefl W⟩
        | 14 =>
          injection (show some _ = some o from ho) with ho
          subst ho
          have eg : F.eval (.tmp 16) = .bool true := (hat 3 16 (of_decide_eq_true (by kernel_rfl)) rfl).trans (hp ⟨3, .guard⟩ (by simp) rfl : U 3 = .bool true)
          refine on_ ((wanted_by rfl rfl eg).trans rfl) ?_
          have e26 : F.eval (.tmp 26) = .bool true := (hat 13 26 (of_decide_eq_true (by kernel_rfl)) rfl).trans (hp ⟨13, .data⟩ (by simp) rfl : U 13 = .bool true)
          exact wp_move' (.tmp 26) rfl ⟨_, rfl, e26, hGW, hrefl W⟩
        | 15 =>
          injection (show some _ = some o from ho) with ho
          subst ho
          have eg : F.eval (.tmp 27) = .bool true := (hat 14 27 (of_decide_eq_true (by kernel_rfl)) rfl).trans (hp ⟨14, .guard⟩ (by simp) rfl : U 14 = .bool true)
          exact off_ (W := W) ((wanted_by rfl rfl eg).trans rfl) rfl
        | 16 =>
          injection (show some _ = some o from ho) with ho
          subst ho
          have eg : F.eval (.tmp 27) = .bool true := (hat 14 27 (of_decide_eq_true (by kernel_rfl)) rfl).trans (hp ⟨14, .guard⟩ (by simp) rfl : U 14 = .bool true)
          exact off_ (W := W) ((wanted_by rfl rfl eg).trans rfl) rfl
        | 17 =>
          injection (show some _ = some o from ho) with ho
          subst ho
          have eg : F.eval (.tmp 27) = .bool true := (hat 14 27 (of_decide_eq_true (by kernel_rfl)) rfl).trans (hp ⟨14, .guard⟩ (by simp) rfl : U 14 = .bool true)
          exact off_ (W := W) ((wanted_by rfl rfl eg).trans rfl) rfl
        | 18 =>
          injection (show some _ = some o from ho) with ho
          subst ho
          have eg : F.eval (.tmp 27) = .bool true := (hat 14 27 (of_decide_eq_true (by kernel_rfl)) rfl).trans (hp ⟨14, .guard⟩ (by simp) rfl : U 14 = .bool true)
          exact off_ (W := W) ((wanted_by rfl rfl eg).trans rfl) rfl
        | 19 =>
          injection (show some _ = some o from ho) with ho
          subst ho
          have eg : F.eval (.tmp 27) = .bool true := (hat 14 27 (of_decide_eq_true (by kernel_rfl)) rfl).trans (hp ⟨14, .guard⟩ (by simp) rfl : U 14 = .bool true)
          exact off_ (W := W) ((wanted_by rfl rfl eg).trans rfl) rfl
        | 20 =>
          injection (show some _ = some o from ho) with ho
          subst ho
          have eg : F.eval (.tmp 27) = .bool true := (hat 14 27 (of_decide_eq_true (by kernel_rfl)) rfl).trans (hp ⟨14, .guard⟩ (by simp) rfl : U 14 = .bool true)
          exact off_ (W := W) ((wanted_by rfl rfl eg).trans rfl) rfl
        | 21 =>
          injection (show some _ = some o from ho) with ho
          subst ho
          have eg : F.eval (.tmp 27) = .bool true := (hat 14 27 (of_decide_eq_true (by kernel_rfl)) rfl).trans (hp ⟨14, .guard⟩ (by simp) rfl : U 14 = .bool true)
          exact off_ (W := W) ((wanted_by rfl rfl eg).trans rfl) rfl
        | 22 =>
          injection (show some _ = some o from ho) with ho
          subst ho
          have eg : F.eval (.tmp 27) = .bool true := (hat 14 27 (of_decide_eq_true (by kernel_rfl)) rfl).trans (hp ⟨14, .guard⟩ (by simp) rfl : U 14 = .bool true)
          exact off_ (W := W) ((wanted_by rfl rfl eg).trans rfl) rfl
        | 23 =>
          injection (show some _ = some o from ho) with ho
          subst ho
          have eg : F.eval (.tmp 27) = .bool true := (hat 14 27 (of_decide_eq_true (by kernel_rfl)) rfl).trans (hp ⟨14, .guard⟩ (by simp) rfl : U 14 = .bool true)
          exact off_ (W := W) ((wanted_by rfl rfl eg).trans rfl) rfl
        | 24 =>
          injection (show some _ = some o from ho) with ho
          subst ho
          have eg : F.eval (.tmp 16) = .bool true := (hat 3 16 (of_decide_eq_true (by kernel_rfl)) rfl).trans (hp ⟨3, .guard⟩ (by simp) rfl : U 3 = .bool true)
          refine on_ ((wanted_by rfl rfl eg).trans rfl) ?_
          have e27 : F.eval (.tmp 27) = .bool true := (hat 14 27 (of_decide_eq_true (by kernel_rfl)) rfl).trans (hp ⟨14, .data⟩ (by simp) rfl : U 14 = .bool true)
          have t27 := act_tmp e27
          clear hat hoff hp
          exact wp_value' (.bool true) W (by unfold execOp; go_simp; all_goals first | omega | exact IntWalk.i64_in _ (by omega)) ⟨_, rfl, rfl, hGW, hrefl W⟩
        | 25 =>
          injection (show some _ = some o from ho) with ho
          subst ho
          refine on_ (wanted_none rfl) ?_
          have e16 : F.eval (.tmp 16) = .bool true := (hat 3 16 (of_decide_eq_true (by kernel_rfl)) rfl).trans (hp ⟨3, .data⟩ (by simp) rfl : U 3 = .bool true)
          have t16 := act_tmp e16
          have e37 : F.eval (.tmp 37) = .bool true := (hat 24 37 (of_decide_eq_true (by kernel_rfl)) rfl).trans (hp ⟨24, .data⟩ (by simp) rfl : U 24 = .bool true)
          have t37 := act_tmp e37
          clear hat hoff hp
          exact wp_value' (.bool true) W (by unfold execOp; go_simp; all_goals first | omega | exact IntWalk.i64_in _ (by omega)) ⟨_, rfl, rfl, hGW, hrefl W⟩
        | i + 26 => exact absurd ho (by simp)
    case hend =>
      intro U W hGW hV
      have h25 : U 25 = .bool true := hV 25 (of_decide_eq_true (by kernel_rfl))
      have HG := Lib.hid hGW.1
      have HU := Lib.hid h25
      clear hV hGW h25
      simp [putU, dstAt, Act.put, HU.out]
      go_wp2
      go_ret
      exact ⟨rfl, HG.out⟩

set_option maxRecDepth 100000 in
set_option maxHeartbeats 4000000 in
theorem has_not {ad : Addr} {n cap g c1 k : Nat} {E : Int} {hA : Option Addr} {hn hc : Nat} (c : OpC) (w : World) (hg : Blk w g 26 #[.int .i64 ((k : Int) + 1), .int .i64 E]) (hk : k < n) (hz : n ≤ 4294967296) (hab : (ad.add (k * 9)).block < w.heap.size) (hop : OpAt w (ad.add (k * 9)) (c.at_ hA hn hc)) (hne : ¬ (c.n = (k : Int) + 1 ∧ c.epoch = E)) :
    Calls Try.prog 54 #[.slice (some ad) n cap, .slice (some ⟨g, 0, none⟩) 1 c1] w fun x w' => x = .returned (.bool false) ∧ Below w.heap.size w w' := by
  have hc0 := hg.cell 0
  have hc1 := hg.cell 1
  simp at hc0 hc1
  have hba : Below w.heap.size w (w.alloc (.cells #[.int .i64 ((k : Int) + 1), .int .i64 E] 26)) := (Below.refl _ _).alloc (Nat.le_refl _) _
  have HBA := Lib.hid hba
  have HBK := Lib.hid (Blk.new w 26 #[.int .i64 ((k : Int) + 1), .int .i64 E])
  clear hg hba
  obtain ⟨x1, x2, x3, x4, x5, x6, x7, x8, x9⟩ := c
  simp only [OpC.at_] at hop hne
  have HP := Lib.hid hop
  have HAB := Lib.hid hab
  clear hop hab
  have b1 : (0 : Int) ≤ (k : Int) := by omega
  have b2 : (k : Int) < (n : Int) := by omega
  go_enter Try.func54, Try.ntmps54
  go_wp2_with fail
  go_loopw [9] (fun i wr => i = .int .i64 0 ∧ w = wr) (fun _ _ => 0)
  case atStart => exact ⟨rfl, rfl⟩
  case round =>
    obtain ⟨rfl, rfl⟩ := hrel
    go_wp2_with fail
    refine wp_region_all (by kernel_rfl) (fun i v W => match i with | 0 => v = .agg #[.int .i64 ((k : Int) + 1), .int .i64 E] | 1 => v = .agg #[.int .i64 0, .int .i64 0] | 2 => v = .bool true | 3 => v = .bool true | 4 => v = .pointer (some ⟨w.heap.size, 0, none⟩) | 5 => v = .int .i64 ((k : Int) + 1) | 6 => v = .bool false | 7 => v = .bool false | 8 => v = .pointer (some ⟨w.heap.size, 0, none⟩) | 9 => v = .int .i64 ((k : Int) + 1) | 10 => v = .slice (some ad) n cap | 11 => v = .int .i64 (n : Nat) | 12 => v = .bool false | 13 => v = .bool false | 14 => v = .bool false | 15 => v = .slice (some ad) n cap | 16 => v = .pointer (some ⟨w.heap.size, 0, none⟩) | 17 => v = .int .i64 ((k : Int) + 1) | 18 => v = .int .i64 (k : Nat) | 19 => v = .pointer (some (ad.add (k * 9))) | 20 => v = .agg #[.int .i64 x1, .int .i64 x2, .int .i64 x3, .int .i64 x4, .int .i64 x5, .int .i64 x6, .string x7, .int .i64 x8, .slice hA hn hc] | 21 => v = .agg #[.int .i64 x1, .int .i64 x2] | 22 => v = .agg #[.int .i64 ((k : Int) + 1), .int .i64 E] | 23 => v = .bool true | 24 => v = .bool true | 25 => v = .bool true | _ => True) (fun W => Below w.heap.size w W ∧ Blk W w.heap.size 26 #[.int .i64 ((k : Int) + 1), .int .i64 E]) (fun W W' => Below W.heap.size W W') (by kernel_rfl) ?hG ?hmono ?hstep ?hend
    case hG => exact ⟨HBA.out.drew, HBK.out.drew⟩
    case hmono =>
      intro i v W W' _ hv
      match i with
      | 0 | 1 | 2 | 3 | 4 | 5 | 6 | 7 | 8 | 9 | 10 | 11 | 12 | 13 | 14 | 15 | 16 | 17 | 18 | 19 | 20 | 21 | 22 | 23 | 24 | 25 => exact hv
      | i + 26 => exact hv
    case hstep =>
      intro i o F U W ho hGW hat hoff hp
      have hrefl := fun W : World => Below.refl W.heap.size W
      match i with
        | 0 =>
          injection (show some _ = some o from ho) with ho
          subst ho
          refine on_ (wanted_none rfl) ?_
          have e6 : F.eval (.tmp 6) = .pointer (some ⟨w.heap.size, 0, none⟩) := (hoff 6 (of_decide_eq_true (by kernel_rfl))).trans rfl
          have t6 := act_tmp e6
          clear hat hoff hp
          have c0 := hGW.2.cell 0
          have c1 := hGW.2.cell 1
          simp at c0 c1
          exact wp_value' (.agg #[.int .i64 ((k : Int) + 1), .int .i64 E]) W (by unfold execOp; go_simp) ⟨_, rfl, rfl, hGW, hrefl W⟩
        | 1 =>
          injection (show some _ = some o from ho) with ho
          subst ho
          refine on_ (wanted_none rfl) ?_
          clear hat hoff hp
          exact wp_value' (.agg #[.int .i64 0, .int .i64 0]) W (by unfold execOp; go_simp; all_goals first | omega | exact IntWalk.i64_in _ (by omega)) ⟨_, rfl, rfl, hGW, hrefl W⟩
        | 2 =>
          injection (show some _ = some o from ho) with ho
          subst ho
          refine on_ (wanted_none rfl) ?_
          have e13 : F.eval (.tmp 13) = .agg #[.int .i64 ((k : Int) + 1), .int .i64 E] := (hat 0 13 (of_decide_eq_true (by kernel_rfl)) rfl).trans (hp ⟨0, .data⟩ (by simp) rfl : U 0 = .agg #[.int .i64 ((k : Int) + 1), .int .i64 E])
          have t13 := act_tmp e13
          have e14 : F.eval (.tmp 14) = .agg #[.int .i64 0, .int .i64 0] := (hat 1 14 (of_decide_eq_true (by kernel_rfl)) rfl).trans (hp ⟨1, .data⟩ (by simp) rfl : U 1 = .agg #[.int .i64 0, .int .i64 0])
          have t14 := act_tmp e14
          clear hat hoff hp
          exact wp_value' (.bool true) W (by unfold execOp; go_simp; (by_cases q1 : ((k : Int) + 1) = 0 <;> by_cases q2 : E = 0 <;> first | omega | simp_all)) ⟨_, rfl, rfl, hGW, hrefl W⟩
        | 3 =>
          injection (show some _ = some o from ho) with ho
          subst ho
          refine on_ (wanted_none rfl) ?_
          have e15 : F.eval (.tmp 15) = .bool true := (hat 2 15 (of_decide_eq_true (by kernel_rfl)) rfl).trans (hp ⟨2, .data⟩ (by simp) rfl : U 2 = .bool true)
          exact wp_move' (.tmp 15) rfl ⟨_, rfl, e15, hGW, hrefl W⟩
        | 4 =>
          injection (show some _ = some o from ho) with ho
          subst ho
          have eg : F.eval (.tmp 16) = .bool true := (hat 3 16 (of_decide_eq_true (by kernel_rfl)) rfl).trans (hp ⟨3, .guard⟩ (by simp) rfl : U 3 = .bool true)
          refine on_ ((wanted_by rfl rfl eg).trans rfl) ?_
          have e6 : F.eval (.tmp 6) = .pointer (some ⟨w.heap.size, 0, none⟩) := (hoff 6 (of_decide_eq_true (by kernel_rfl))).trans rfl
          have t6 := act_tmp e6
          clear hat hoff hp
          exact wp_value' (.pointer (some ⟨w.heap.size, 0, none⟩)) W (by unfold execOp; go_simp; all_goals first | omega | exact IntWalk.i64_in _ (by omega)) ⟨_, rfl, rfl, hGW, hrefl W⟩
        | 5 =>
          injection (show some _ = some o from ho) with ho
          subst ho
          have eg : F.eval (.tmp 16) = .bool true := (hat 3 16 (of_decide_eq_true (by kernel_rfl)) rfl).trans (hp ⟨3, .guard⟩ (by simp) rfl : U 3 = .bool true)
          refine on_ ((wanted_by rfl rfl eg).trans rfl) ?_
          have e17 : F.eval (.tmp 17) = .pointer (some ⟨w.heap.size, 0, none⟩) := (hat 4 17 (of_decide_eq_true (by kernel_rfl)) rfl).trans (hp ⟨4, .data⟩ (by simp) rfl : U 4 = .pointer (some ⟨w.heap.size, 0, none⟩))
          have t17 := act_tmp e17
          clear hat hoff hp
          have c0 := hGW.2.cell 0
          simp at c0
          exact wp_value' (.int .i64 ((k : Int) + 1)) W (by unfold execOp; go_simp) ⟨_, rfl, rfl, hGW, hrefl W⟩
        | 6 =>
          injection (show some _ = some o from ho) with ho
          subst ho
          have eg : F.eval (.tmp 16) = .bool true := (hat 3 16 (of_decide_eq_true (by kernel_rfl)) rfl).trans (hp ⟨3, .guard⟩ (by simp) rfl : U 3 = .bool true)
          refine on_ ((wanted_by rfl rfl eg).trans rfl) ?_
          have e18 : F.eval (.tmp 18) = .int .i64 ((k : Int) + 1) := (hat 5 18 (of_decide_eq_true (by kernel_rfl)) rfl).trans (hp ⟨5, .data⟩ (by simp) rfl : U 5 = .int .i64 ((k : Int) + 1))
          have t18 := act_tmp e18
          clear hat hoff hp
          exact wp_value' (.bool false) W (by unfold execOp; go_simp; all_goals first | omega | exact IntWalk.i64_in _ (by omega)) ⟨_, rfl, rfl, hGW, hrefl W⟩
        | 7 =>
          injection (show some _ = some o from ho) with ho
          subst ho
          have eg : F.eval (.tmp 16) = .bool true := (hat 3 16 (of_decide_eq_true (by kernel_rfl)) rfl).trans (hp ⟨3, .guard⟩ (by simp) rfl : U 3 = .bool true)
          refine on_ ((wanted_by rfl rfl eg).trans rfl) ?_
          have e19 : F.eval (.tmp 19) = .bool false := (hat 6 19 (of_decide_eq_true (by kernel_rfl)) rfl).trans (hp ⟨6, .data⟩ (by simp) rfl : U 6 = .bool false)
          exact wp_move' (.tmp 19) rfl ⟨_, rfl, e19, hGW, hrefl W⟩
        | 8 =>
          injection (show some _ = some o from ho) with ho
          subst ho
          have eg : F.eval (.tmp 20) = .bool false := (hat 7 20 (of_decide_eq_true (by kernel_rfl)) rfl).trans (hp ⟨7, .guard⟩ (by simp) rfl : U 7 = .bool false)
          refine on_ ((wanted_by rfl rfl eg).trans rfl) ?_
          have e6 : F.eval (.tmp 6) = .pointer (some ⟨w.heap.size, 0, none⟩) := (hoff 6 (of_decide_eq_true (by kernel_rfl))).trans rfl
          have t6 := act_tmp e6
          clear hat hoff hp
          exact wp_value' (.pointer (some ⟨w.heap.size, 0, none⟩)) W (by unfold execOp; go_simp; all_goals first | omega | exact IntWalk.i64_in _ (by omega)) ⟨_, rfl, rfl, hGW, hrefl W⟩
        | 9 =>
          injection (show some _ = some o from ho) with ho
          subst ho
          have eg : F.eval (.tmp 20) = .bool false := (hat 7 20 (of_decide_eq_true (by kernel_rfl)) rfl).trans (hp ⟨7, .guard⟩ (by simp) rfl : U 7 = .bool false)
          refine on_ ((wanted_by rfl rfl eg).trans rfl) ?_
          have e21 : F.eval (.tmp 21) = .pointer (some ⟨w.heap.size, 0, none⟩) := (hat 8 21 (of_decide_eq_true (by kernel_rfl)) rfl).trans (hp ⟨8, .data⟩ (by simp) rfl : U 8 = .pointer (some ⟨w.heap.size, 0, none⟩))
          have t21 := act_tmp e21
          clear hat hoff hp
          have c0 := hGW.2.cell 0
          simp at c0
          exact wp_value' (.int .i64 ((k : Int) + 1)) W (by unfold execOp; go_simp) ⟨_, rfl, rfl, hGW, hrefl W⟩
        | 10 =>
          injection (show some _ = some o from ho) with ho
          subst ho
          have eg : F.eval (.tmp 20) = .bool false := (hat 7 20 (of_decide_eq_true (by kernel_rfl)) rfl).trans (hp ⟨7, .guard⟩ (by simp) rfl : U 7 = .bool false)
          refine on_ ((wanted_by rfl rfl eg).trans rfl) ?_
          have e0 : F.eval (.tmp 0) = .slice (some ad) n cap := (hoff 0 (of_decide_eq_true (by kernel_rfl))).trans rfl
          exact wp_move' (.tmp 0) rfl ⟨_, rfl, e0, hGW, hrefl W⟩
        | 11 =>
          injection (show some _ = some o from ho) with ho
          subst ho
          have eg : F.eval (.tmp 20) = .bool false := (hat 7 20 (of_decide_eq_true (by kernel_rfl)) rfl).trans (hp ⟨7, .guard⟩ (by simp) rfl : U 7 = .bool false)
          refine on_ ((wanted_by rfl rfl eg).trans rfl) ?_
          have e23 : F.eval (.tmp 23) = .slice (some ad) n cap := (hat 10 23 (of_decide_eq_true (by kernel_rfl)) rfl).trans (hp ⟨10, .data⟩ (by simp) rfl : U 10 = .slice (some ad) n cap)
          have t23 := act_tmp e23
          clear hat hoff hp
          exact wp_value' (.int .i64 (n : Nat)) W (by unfold execOp; go_simp; all_goals first | omega | exact IntWalk.i64_in _ (by omega)) ⟨_, rfl, rfl, hGW, hrefl W⟩
        | 12 =>
          injection (show some _ = some o from ho) with ho
          subst ho
          have eg : F.eval (.tmp 20) = .bool false := (hat 7 20 (of_decide_eq_true (by kernel_rfl)) rfl).trans (hp ⟨7, .guard⟩ (by simp) rfl : U 7 = .bool false)
          refine on_ ((wanted_by rfl rfl eg).trans rfl) ?_
          have e22 : F.eval (.tmp 22) = .int .i64 ((k : Int) + 1) := (hat 9 22 (of_decide_eq_true (by kernel_rfl)) rfl).trans (hp ⟨9, .data⟩ (by simp) rfl : U 9 = .int .i64 ((k : Int) + 1))
          have t22 := act_tmp e22
          have e24 : F.eval (.tmp 24) = .int .i64 (n : Nat) := (hat 11 24 (of_decide_eq_true (by kernel_rfl)) rfl).trans (hp ⟨11, .data⟩ (by simp) rfl : U 11 = .int .i64 (n : Nat))
          have t24 := act_tmp e24
          clear hat hoff hp
          exact wp_value' (.bool false) W (by unfold execOp; go_simp; all_goals first | omega | exact IntWalk.i64_in _ (by omega)) ⟨_, rfl, rfl, hGW, hrefl W⟩
        | 13 =>
          injection (show some _ = some o from ho) with ho
          subst ho
          have eg : F.eval (.tmp 16) = .bool true := (hat 3 16 (of_decide_eq_true (by kernel_rfl)) rfl).trans (hp ⟨3, .guard⟩ (by simp) rfl : U 3 = .bool true)
          refine on_ ((wanted_by rfl rfl eg).trans rfl) ?_
          have e20 : F.eval (.tmp 20) = .bool false := (hat 7 20 (of_decide_eq_true (by kernel_rfl)) rfl).trans (hp ⟨7, .data⟩ (by simp) rfl : U 7 = .bool false)
          have t20 := act_tmp e20
          have e25 : F.eval (.tmp 25) = .bool false := (hat 12 25 (of_decide_eq_true (by kernel_rfl)) rfl).trans (hp ⟨12, .data⟩ (by simp) rfl : U 12 = .bool false)
          have t25 := act_tmp e25
          clear hat hoff hp
          exact wp_value' (.bool false) W (by unfold execOp; go_simp; all_goals first | omega | exact IntWalk.i64_in _ (by omega)) ⟨_, rfl, rfl, hGW, hrefl W⟩
        | 14 =>
          injection (show some _ = some o from ho) with ho
          subst ho
          have eg : F.eval (.tmp 16) = .bool true := (hat 3 16 (of_decide_eq_true (by kernel_rfl)) rfl).trans (hp ⟨3, .guard⟩ (by simp) rfl : U 3 = .bool true)
          refine on_ ((wanted_by rfl rfl eg).trans rfl) ?_
          have e26 : F.eval (.tmp 26) = .bool false := (hat 13 26 (of_decide_eq_true (by kernel_rfl)) rfl).trans (hp ⟨13, .data⟩ (by simp) rfl : U 13 = .bool false)
          exact wp_move' (.tmp 26) rfl ⟨_, rfl, e26, hGW, hrefl W⟩
        | 15 =>
          injection (show some _ = some o from ho) with ho
          subst ho
          have eg : F.eval (.tmp 27) = .bool false := (hat 14 27 (of_decide_eq_true (by kernel_rfl)) rfl).trans (hp ⟨14, .guard⟩ (by simp) rfl : U 14 = .bool false)
          refine on_ ((wanted_by rfl rfl eg).trans rfl) ?_
          have e0 : F.eval (.tmp 0) = .slice (some ad) n cap := (hoff 0 (of_decide_eq_true (by kernel_rfl))).trans rfl
          exact wp_move' (.tmp 0) rfl ⟨_, rfl, e0, hGW, hrefl W⟩
        | 16 =>
          injection (show some _ = some o from ho) with ho
          subst ho
          have eg : F.eval (.tmp 27) = .bool false := (hat 14 27 (of_decide_eq_true (by kernel_rfl)) rfl).trans (hp ⟨14, .guard⟩ (by simp) rfl : U 14 = .bool false)
          refine on_ ((wanted_by rfl rfl eg).trans rfl) ?_
          have e6 : F.eval (.tmp 6) = .pointer (some ⟨w.heap.size, 0, none⟩) := (hoff 6 (of_decide_eq_true (by kernel_rfl))).trans rfl
          have t6 := act_tmp e6
          clear hat hoff hp
          exact wp_value' (.pointer (some ⟨w.heap.size, 0, none⟩)) W (by unfold execOp; go_simp; all_goals first | omega | exact IntWalk.i64_in _ (by omega)) ⟨_, rfl, rfl, hGW, hrefl W⟩
        | 17 =>
          injection (show some _ = some o from ho) with ho
          subst ho
          have eg : F.eval (.tmp 27) = .bool false := (hat 14 27 (of_decide_eq_true (by kernel_rfl)) rfl).trans (hp ⟨14, .guard⟩ (by simp) rfl : U 14 = .bool false)
          refine on_ ((wanted_by rfl rfl eg).trans rfl) ?_
          have e29 : F.eval (.tmp 29) = .pointer (some ⟨w.heap.size, 0, none⟩) := (hat 16 29 (of_decide_eq_true (by kernel_rfl)) rfl).trans (hp ⟨16, .data⟩ (by simp) rfl : U 16 = .pointer (some ⟨w.heap.size, 0, none⟩))
          have t29 := act_tmp e29
          clear hat hoff hp
          have c0 := hGW.2.cell 0
          simp at c0
          exact wp_value' (.int .i64 ((k : Int) + 1)) W (by unfold execOp; go_simp) ⟨_, rfl, rfl, hGW, hrefl W⟩
        | 18 =>
          injection (show some _ = some o from ho) with ho
          subst ho
          have eg : F.eval (.tmp 27) = .bool false := (hat 14 27 (of_decide_eq_true (by kernel_rfl)) rfl).trans (hp ⟨14, .guard⟩ (by simp) rfl : U 14 = .bool false)
          refine on_ ((wanted_by rfl rfl eg).trans rfl) ?_
          have e30 : F.eval (.tmp 30) = .int .i64 ((k : Int) + 1) := (hat 17 30 (of_decide_eq_true (by kernel_rfl)) rfl).trans (hp ⟨17, .data⟩ (by simp) rfl : U 17 = .int .i64 ((k : Int) + 1))
          have t30 := act_tmp e30
          clear hat hoff hp
          exact wp_value' (.int .i64 (k : Nat)) W (by unfold execOp; go_simp; all_goals first | omega | exact IntWalk.i64_in _ (by omega)) ⟨_, rfl, rfl, hGW, hrefl W⟩
        | 19 =>
          injection (show some _ = some o from ho) with ho
          subst ho
          have eg : F.eval (.tmp 27) = .bool false := (hat 14 27 (of_decide_eq_true (by kernel_rfl)) rfl).trans (hp ⟨14, .guard⟩ (by simp) rfl : U 14 = .bool false)
          refine on_ ((wanted_by rfl rfl eg).trans rfl) ?_
          have e28 : F.eval (.tmp 28) = .slice (some ad) n cap := (hat 15 28 (of_decide_eq_true (by kernel_rfl)) rfl).trans (hp ⟨15, .data⟩ (by simp) rfl : U 15 = .slice (some ad) n cap)
          have t28 := act_tmp e28
          have e31 : F.eval (.tmp 31) = .int .i64 (k : Nat) := (hat 18 31 (of_decide_eq_true (by kernel_rfl)) rfl).trans (hp ⟨18, .data⟩ (by simp) rfl : U 18 = .int .i64 (k : Nat))
          have t31 := act_tmp e31
          clear hat hoff hp
          exact wp_value' (.pointer (some (ad.add (k * 9)))) W (by unfold execOp; go_simp; all_goals first | omega | exact IntWalk.i64_in _ (by omega)) ⟨_, rfl, rfl, hGW, hrefl W⟩
        | 20 =>
          injection (show some _ = some o from ho) with ho
          subst ho
          have eg : F.eval (.tmp 27) = .bool false := (hat 14 27 (of_decide_eq_true (by kernel_rfl)) rfl).trans (hp ⟨14, .guard⟩ (by simp) rfl : U 14 = .bool false)
          refine on_ ((wanted_by rfl rfl eg).trans rfl) ?_
          have e32 : F.eval (.tmp 32) = .pointer (some (ad.add (k * 9))) := (hat 19 32 (of_decide_eq_true (by kernel_rfl)) rfl).trans (hp ⟨19, .data⟩ (by simp) rfl : U 19 = .pointer (some (ad.add (k * 9))))
          have t32 := act_tmp e32
          clear hat hoff hp
          obtain ⟨k0, k1, k2, k3, k4, k5, k6, k7, k8⟩ := HP.out.below hGW.1 HAB.out
          exact wp_value' (.agg #[.int .i64 x1, .int .i64 x2, .int .i64 x3, .int .i64 x4, .int .i64 x5, .int .i64 x6, .string x7, .int .i64 x8, .slice hA hn hc]) W (by unfold execOp; go_simp) ⟨_, rfl, rfl, hGW, hrefl W⟩
        | 21 =>
          injection (show some _ = some o from ho) with ho
          subst ho
          have eg : F.eval (.tmp 27) = .bool false := (hat 14 27 (of_decide_eq_true (by kernel_rfl)) rfl).trans (hp ⟨14, .guard⟩ (by simp) rfl : U 14 = .bool false)
          refine on_ ((wanted_by rfl rfl eg).trans rfl) ?_
          have e33 : F.eval (.tmp 33) = .agg #[.int .i64 x1, .int .i64 x2, .int .i64 x3, .int .i64 x4, .int .i64 x5, .int .i64 x6, .string x7, .int .i64 x8, .slice hA hn hc] := (hat 20 33 (of_decide_eq_true (by kernel_rfl)) rfl).trans (hp ⟨20, .data⟩ (by simp) rfl : U 20 = .agg #[.int .i64 x1, .int .i64 x2, .int .i64 x3, .int .i64 x4, .int .i64 x5, .int .i64 x6, .string x7, .int .i64 x8, .slice hA hn hc])
          have t33 := act_tmp e33
          clear hat hoff hp
          refine wp_enter' 59 #[.agg #[.int .i64 x1, .int .i64 x2, .int .i64 x3, .int .i64 x4, .int .i64 x5, .int .i64 x6, .string x7, .int .i64 x8, .slice hA hn hc]] (by unfold execOp; go_simp) ?_
          refine (spot_any x1 x2 x3 x4 x5 x6 x7 x8 (.slice hA hn hc) W).mono ?_
          rintro e W' ⟨rfl, hb⟩
          exact ⟨_, rfl, _, rfl, rfl, ⟨hGW.1.trans (hb.mono hGW.1.size), hGW.2.below hb hGW.2.lt⟩, hb⟩
        | 22 =>
          injection (show some _ = some o from ho) with ho
          subst ho
          have eg : F.eval (.tmp 27) = .bool false := (hat 14 27 (of_decide_eq_true (by kernel_rfl)) rfl).trans (hp ⟨14, .guard⟩ (by simp) rfl : U 14 = .bool false)
          refine on_ ((wanted_by rfl rfl eg).trans rfl) ?_
          have e6 : F.eval (.tmp 6) = .pointer (some ⟨w.heap.size, 0, none⟩) := (hoff 6 (of_decide_eq_true (by kernel_rfl))).trans rfl
          have t6 := act_tmp e6
          clear hat hoff hp
          have c0 := hGW.2.cell 0
          have c1 := hGW.2.cell 1
          simp at c0 c1
          exact wp_value' (.agg #[.int .i64 ((k : Int) + 1), .int .i64 E]) W (by unfold execOp; go_simp) ⟨_, rfl, rfl, hGW, hrefl W⟩
        | 23 =>
          injection (show some _ = some o from ho) with ho
          subst ho
          have eg : F.eval (.tmp 27) = .bool false := (hat 14 27 (of_decide_eq_true (by kernel_rfl)) rfl).trans (hp ⟨14, .guard⟩ (by simp) rfl : U 14 = .bool false)
          refine on_ ((wanted_by rfl rfl eg).trans rfl) ?_
          have e34 : F.eval (.tmp 34) = .agg #[.int .i64 x1, .int .i64 x2] := (hat 21 34 (of_decide_eq_true (by kernel_rfl)) rfl).trans (hp ⟨21, .data⟩ (by simp) rfl : U 21 = .agg #[.int .i64 x1, .int .i64 x2])
          have t34 := act_tmp e34
          have e35 : F.eval (.tmp 35) = .agg #[.int .i64 ((k : Int) + 1), .int .i64 E] := (hat 22 35 (of_decide_eq_true (by kernel_rfl)) rfl).trans (hp ⟨22, .data⟩ (by simp) rfl : U 22 = .agg #[.int .i64 ((k : Int) + 1), .int .i64 E])
          have t35 := act_tmp e35
          clear hat hoff hp
          exact wp_value' (.bool true) W (by unfold execOp; go_simp; all_goals (by_cases q1 : x1 = (k : Int) + 1 <;> by_cases q2 : x2 = E <;> first | omega | simp_all)) ⟨_, rfl, rfl, hGW, hrefl W⟩
        | 24 =>
          injection (show some _ = some o from ho) with ho
          subst ho
          have eg : F.eval (.tmp 16) = .bool true := (hat 3 16 (of_decide_eq_true (by kernel_rfl)) rfl).trans (hp ⟨3, .guard⟩ (by simp) rfl : U 3 = .bool true)
          refine on_ ((wanted_by rfl rfl eg).trans rfl) ?_
          have e27 : F.eval (.tmp 27) = .bool false := (hat 14 27 (of_decide_eq_true (by kernel_rfl)) rfl).trans (hp ⟨14, .data⟩ (by simp) rfl : U 14 = .bool false)
          have t27 := act_tmp e27
          have e36 : F.eval (.tmp 36) = .bool true := (hat 23 36 (of_decide_eq_true (by kernel_rfl)) rfl).trans (hp ⟨23, .data⟩ (by simp) rfl : U 23 = .bool true)
          have t36 := act_tmp e36
          clear hat hoff hp
          exact wp_value' (.bool true) W (by unfold execOp; go_simp; all_goals first | omega | exact IntWalk.i64_in _ (by omega)) ⟨_, rfl, rfl, hGW, hrefl W⟩
        | 25 =>
          injection (show some _ = some o from ho) with ho
          subst ho
          refine on_ (wanted_none rfl) ?_
          have e16 : F.eval (.tmp 16) = .bool true := (hat 3 16 (of_decide_eq_true (by kernel_rfl)) rfl).trans (hp ⟨3, .data⟩ (by simp) rfl : U 3 = .bool true)
          have t16 := act_tmp e16
          have e37 : F.eval (.tmp 37) = .bool true := (hat 24 37 (of_decide_eq_true (by kernel_rfl)) rfl).trans (hp ⟨24, .data⟩ (by simp) rfl : U 24 = .bool true)
          have t37 := act_tmp e37
          clear hat hoff hp
          exact wp_value' (.bool true) W (by unfold execOp; go_simp; all_goals first | omega | exact IntWalk.i64_in _ (by omega)) ⟨_, rfl, rfl, hGW, hrefl W⟩
        | i + 26 => exact absurd ho (by simp)
    case hend =>
      intro U W hGW hV
      have h25 : U 25 = .bool true := hV 25 (of_decide_eq_true (by kernel_rfl))
      have HG := Lib.hid hGW.1
      have HU := Lib.hid h25
      clear hV hGW h25
      simp [putU, dstAt, Act.put, HU.out]
      go_wp2
      go_ret
      exact ⟨rfl, HG.out⟩

set_option maxRecDepth 100000 in
set_option maxHeartbeats 4000000 in
theorem has_yes {ad : Addr} {n cap g c1 k : Nat} {E : Int} {hA : Option Addr} {hn hc : Nat} (c : OpC) (w : World) (hg : Blk w g 26 #[.int .i64 ((k : Int) + 1), .int .i64 E]) (hk : k < n) (hz : n ≤ 4294967296) (hab : (ad.add (k * 9)).block < w.heap.size) (hop : OpAt w (ad.add (k * 9)) (c.at_ hA hn hc)) (hne : c.n = (k : Int) + 1 ∧ c.epoch = E) :
    Calls Try.prog 54 #[.slice (some ad) n cap, .slice (some ⟨g, 0, none⟩) 1 c1] w fun x w' => x = .returned (.bool true) ∧ Below w.heap.size w w' := by
  have hc0 := hg.cell 0
  have hc1 := hg.cell 1
  simp at hc0 hc1
  have hba : Below w.heap.size w (w.alloc (.cells #[.int .i64 ((k : Int) + 1), .int .i64 E] 26)) := (Below.refl _ _).alloc (Nat.le_refl _) _
  have HBA := Lib.hid hba
  have HBK := Lib.hid (Blk.new w 26 #[.int .i64 ((k : Int) + 1), .int .i64 E])
  clear hg hba
  obtain ⟨x1, x2, x3, x4, x5, x6, x7, x8, x9⟩ := c
  simp only [OpC.at_] at hop hne
  have HP := Lib.hid hop
  have HAB := Lib.hid hab
  clear hop hab
  have b1 : (0 : Int) ≤ (k : Int) := by omega
  have b2 : (k : Int) < (n : Int) := by omega
  obtain ⟨m1, m2⟩ := hne
  go_enter Try.func54, Try.ntmps54
  go_wp2_with fail
  go_loopw [9] (fun i wr => (i = .int .i64 0 ∧ w = wr) ∨ (i = .int .i64 1 ∧ Below w.heap.size w wr)) (fun i _ => 1 - (intOf i).toNat)
  case atStart => exact .inl ⟨rfl, rfl⟩
  case round =>
    rcases hrel with ⟨rfl, rfl⟩ | ⟨rfl, hb⟩
    · go_wp2_with fail
      refine wp_region_all (by kernel_rfl) (fun i v W => match i with | 0 => v = .agg #[.int .i64 ((k : Int) + 1), .int .i64 E] | 1 => v = .agg #[.int .i64 0, .int .i64 0] | 2 => v = .bool true | 3 => v = .bool true | 4 => v = .pointer (some ⟨w.heap.size, 0, none⟩) | 5 => v = .int .i64 ((k : Int) + 1) | 6 => v = .bool false | 7 => v = .bool false | 8 => v = .pointer (some ⟨w.heap.size, 0, none⟩) | 9 => v = .int .i64 ((k : Int) + 1) | 10 => v = .slice (some ad) n cap | 11 => v = .int .i64 (n : Nat) | 12 => v = .bool false | 13 => v = .bool false | 14 => v = .bool false | 15 => v = .slice (some ad) n cap | 16 => v = .pointer (some ⟨w.heap.size, 0, none⟩) | 17 => v = .int .i64 ((k : Int) + 1) | 18 => v = .int .i64 (k : Nat) | 19 => v = .pointer (some (ad.add (k * 9))) | 20 => v = .agg #[.int .i64 x1, .int .i64 x2, .int .i64 x3, .int .i64 x4, .int .i64 x5, .int .i64 x6, .string x7, .int .i64 x8, .slice hA hn hc] | 21 => v = .agg #[.int .i64 x1, .int .i64 x2] | 22 => v = .agg #[.int .i64 ((k : Int) + 1), .int .i64 E] | 23 => v = .bool false | 24 => v = .bool false | 25 => v = .bool false | _ => True) (fun W => Below w.heap.size w W ∧ Blk W w.heap.size 26 #[.int .i64 ((k : Int) + 1), .int .i64 E]) (fun W W' => Below W.heap.size W W') (by kernel_rfl) ?hG ?hmono ?hstep ?hend
      case hG => exact ⟨HBA.out.drew, HBK.out.drew⟩
      case hmono =>
        intro i v W W' _ hv
        match i with
        | 0 | 1 | 2 | 3 | 4 | 5 | 6 | 7 | 8 | 9 | 10 | 11 | 12 | 13 | 14 | 15 | 16 | 17 | 18 | 19 | 20 | 21 | 22 | 23 | 24 | 25 => exact hv
        | i + 26 => exact hv
      case hstep =>
        intro i o F U W ho hGW hat hoff hp
        have hrefl := fun W : World => Below.refl W.heap.size W
        match i with
          | 0 =>
            injection (show some _ = some o from ho) with ho
            subst ho
            refine on_ (wanted_none rfl) ?_
            have e6 : F.eval (.tmp 6) = .pointer (some ⟨w.heap.size, 0, none⟩) := (hoff 6 (of_decide_eq_true (by kernel_rfl))).trans rfl
            have t6 := act_tmp e6
            clear hat hoff hp
            have c0 := hGW.2.cell 0
            have c1 := hGW.2.cell 1
            simp at c0 c1
            exact wp_value' (.agg #[.int .i64 ((k : Int) + 1), .int .i64 E]) W (by unfold execOp; go_simp) ⟨_, rfl, rfl, hGW, hrefl W⟩
          | 1 =>
            injection (show some _ = some o from ho) with ho
            subst ho
            refine on_ (wanted_none rfl) ?_
            clear hat hoff hp
            exact wp_value' (.agg #[.int .i64 0, .int .i64 0]) W (by unfold execOp; go_simp; all_goals first | omega | exact IntWalk.i64_in _ (by omega)) ⟨_, rfl, rfl, hGW, hrefl W⟩
          | 2 =>
            injection (show some _ = some o from ho) with ho
            subst ho
            refine on_ (wanted_none rfl) ?_
            have e13 : F.eval (.tmp 13) = .agg #[.int .i64 ((k : Int) + 1), .int .i64 E] := (hat 0 13 (of_decide_eq_true (by kernel_rfl)) rfl).trans (hp ⟨0, .data⟩ (by simp) rfl : U 0 = .agg #[.int .i64 ((k : Int) + 1), .int .i64 E])
            have t13 := act_tmp e13
            have e14 : F.eval (.tmp 14) = .agg #[.int .i64 0, .int .i64 0] := (hat 1 14 (of_decide_eq_true (by kernel_rfl)) rfl).trans (hp ⟨1, .data⟩ (by simp) rfl : U 1 = .agg #[.int .i64 0, .int .i64 0])
            have t14 := act_tmp e14
            clear hat hoff hp
            exact wp_value' (.bool true) W (by unfold execOp; go_simp; (by_cases q1 : ((k : Int) + 1) = 0 <;> by_cases q2 : E = 0 <;> first | omega | simp_all)) ⟨_, rfl, rfl, hGW, hrefl W⟩
          | 3 =>
            injection (show some _ = some o from ho) with ho
            subst ho
            refine on_ (wanted_none rfl) ?_
            have e15 : F.eval (.tmp 15) = .bool true := (hat 2 15 (of_decide_eq_true (by kernel_rfl)) rfl).trans (hp ⟨2, .data⟩ (by simp) rfl : U 2 = .bool true)
            exact wp_move' (.tmp 15) rfl ⟨_, rfl, e15, hGW, hrefl W⟩
          | 4 =>
            injection (show some _ = some o from ho) with ho
            subst ho
            have eg : F.eval (.tmp 16) = .bool true := (hat 3 16 (of_decide_eq_true (by kernel_rfl)) rfl).trans (hp ⟨3, .guard⟩ (by simp) rfl : U 3 = .bool true)
            refine on_ ((wanted_by rfl rfl eg).trans rfl) ?_
            have e6 : F.eval (.tmp 6) = .pointer (some ⟨w.heap.size, 0, none⟩) := (hoff 6 (of_decide_eq_true (by kernel_rfl))).trans rfl
            have t6 := act_tmp e6
            clear hat hoff hp
            exact wp_value' (.pointer (some ⟨w.heap.size, 0, none⟩)) W (by unfold execOp; go_simp; all_goals first | omega | exact IntWalk.i64_in _ (by omega)) ⟨_, rfl, rfl, hGW, hrefl W⟩
          | 5 =>
            injection (show some _ = some o from ho) with ho
            subst ho
            have eg : F.eval (.tmp 16) = .bool true := (hat 3 16 (of_decide_eq_true (by kernel_rfl)) rfl).trans (hp ⟨3, .guard⟩ (by simp) rfl : U 3 = .bool true)
            refine on_ ((wanted_by rfl rfl eg).trans rfl) ?_
            have e17 : F.eval (.tmp 17) = .pointer (some ⟨w.heap.size, 0, none⟩) := (hat 4 17 (of_decide_eq_true (by kernel_rfl)) rfl).trans (hp ⟨4, .data⟩ (by simp) rfl : U 4 = .pointer (some ⟨w.heap.size, 0, none⟩))
            have t17 := act_tmp e17
            clear hat hoff hp
            have c0 := hGW.2.cell 0
            simp at c0
            exact wp_value' (.int .i64 ((k : Int) + 1)) W (by unfold execOp; go_simp) ⟨_, rfl, rfl, hGW, hrefl W⟩
          | 6 =>
            injection (show some _ = some o from ho) with ho
            subst ho
            have eg : F.eval (.tmp 16) = .bool true := (hat 3 16 (of_decide_eq_true (by kernel_rfl)) rfl).trans (hp ⟨3, .guard⟩ (by simp) rfl : U 3 = .bool true)
            refine on_ ((wanted_by rfl rfl eg).trans rfl) ?_
            have e18 : F.eval (.tmp 18) = .int .i64 ((k : Int) + 1) := (hat 5 18 (of_decide_eq_true (by kernel_rfl)) rfl).trans (hp ⟨5, .data⟩ (by simp) rfl : U 5 = .int .i64 ((k : Int) + 1))
            have t18 := act_tmp e18
            clear hat hoff hp
            exact wp_value' (.bool false) W (by unfold execOp; go_simp; all_goals first | omega | exact IntWalk.i64_in _ (by omega)) ⟨_, rfl, rfl, hGW, hrefl W⟩
          | 7 =>
            injection (show some _ = some o from ho) with ho
            subst ho
            have eg : F.eval (.tmp 16) = .bool true := (hat 3 16 (of_decide_eq_true (by kernel_rfl)) rfl).trans (hp ⟨3, .guard⟩ (by simp) rfl : U 3 = .bool true)
            refine on_ ((wanted_by rfl rfl eg).trans rfl) ?_
            have e19 : F.eval (.tmp 19) = .bool false := (hat 6 19 (of_decide_eq_true (by kernel_rfl)) rfl).trans (hp ⟨6, .data⟩ (by simp) rfl : U 6 = .bool false)
            exact wp_move' (.tmp 19) rfl ⟨_, rfl, e19, hGW, hrefl W⟩
          | 8 =>
            injection (show some _ = some o from ho) with ho
            subst ho
            have eg : F.eval (.tmp 20) = .bool false := (hat 7 20 (of_decide_eq_true (by kernel_rfl)) rfl).trans (hp ⟨7, .guard⟩ (by simp) rfl : U 7 = .bool false)
            refine on_ ((wanted_by rfl rfl eg).trans rfl) ?_
            have e6 : F.eval (.tmp 6) = .pointer (some ⟨w.heap.size, 0, none⟩) := (hoff 6 (of_decide_eq_true (by kernel_rfl))).trans rfl
            have t6 := act_tmp e6
            clear hat hoff hp
            exact wp_value' (.pointer (some ⟨w.heap.size, 0, none⟩)) W (by unfold execOp; go_simp; all_goals first | omega | exact IntWalk.i64_in _ (by omega)) ⟨_, rfl, rfl, hGW, hrefl W⟩
          | 9 =>
            injection (show some _ = some o from ho) with ho
            subst ho
            have eg : F.eval (.tmp 20) = .bool false := (hat 7 20 (of_decide_eq_true (by kernel_rfl)) rfl).trans (hp ⟨7, .guard⟩ (by simp) rfl : U 7 = .bool false)
            refine on_ ((wanted_by rfl rfl eg).trans rfl) ?_
            have e21 : F.eval (.tmp 21) = .pointer (some ⟨w.heap.size, 0, none⟩) := (hat 8 21 (of_decide_eq_true (by kernel_rfl)) rfl).trans (hp ⟨8, .data⟩ (by simp) rfl : U 8 = .pointer (some ⟨w.heap.size, 0, none⟩))
            have t21 := act_tmp e21
            clear hat hoff hp
            have c0 := hGW.2.cell 0
            simp at c0
            exact wp_value' (.int .i64 ((k : Int) + 1)) W (by unfold execOp; go_simp) ⟨_, rfl, rfl, hGW, hrefl W⟩
          | 10 =>
            injection (show some _ = some o from ho) with ho
            subst ho
            have eg : F.eval (.tmp 20) = .bool false := (hat 7 20 (of_decide_eq_true (by kernel_rfl)) rfl).trans (hp ⟨7, .guard⟩ (by simp) rfl : U 7 = .bool false)
            refine on_ ((wanted_by rfl rfl eg).trans rfl) ?_
            have e0 : F.eval (.tmp 0) = .slice (some ad) n cap := (hoff 0 (of_decide_eq_true (by kernel_rfl))).trans rfl
            exact wp_move' (.tmp 0) rfl ⟨_, rfl, e0, hGW, hrefl W⟩
          | 11 =>
            injection (show some _ = some o from ho) with ho
            subst ho
            have eg : F.eval (.tmp 20) = .bool false := (hat 7 20 (of_decide_eq_true (by kernel_rfl)) rfl).trans (hp ⟨7, .guard⟩ (by simp) rfl : U 7 = .bool false)
            refine on_ ((wanted_by rfl rfl eg).trans rfl) ?_
            have e23 : F.eval (.tmp 23) = .slice (some ad) n cap := (hat 10 23 (of_decide_eq_true (by kernel_rfl)) rfl).trans (hp ⟨10, .data⟩ (by simp) rfl : U 10 = .slice (some ad) n cap)
            have t23 := act_tmp e23
            clear hat hoff hp
            exact wp_value' (.int .i64 (n : Nat)) W (by unfold execOp; go_simp; all_goals first | omega | exact IntWalk.i64_in _ (by omega)) ⟨_, rfl, rfl, hGW, hrefl W⟩
          | 12 =>
            injection (show some _ = some o from ho) with ho
            subst ho
            have eg : F.eval (.tmp 20) = .bool false := (hat 7 20 (of_decide_eq_true (by kernel_rfl)) rfl).trans (hp ⟨7, .guard⟩ (by simp) rfl : U 7 = .bool false)
            refine on_ ((wanted_by rfl rfl eg).trans rfl) ?_
            have e22 : F.eval (.tmp 22) = .int .i64 ((k : Int) + 1) := (hat 9 22 (of_decide_eq_true (by kernel_rfl)) rfl).trans (hp ⟨9, .data⟩ (by simp) rfl : U 9 = .int .i64 ((k : Int) + 1))
            have t22 := act_tmp e22
            have e24 : F.eval (.tmp 24) = .int .i64 (n : Nat) := (hat 11 24 (of_decide_eq_true (by kernel_rfl)) rfl).trans (hp ⟨11, .data⟩ (by simp) rfl : U 11 = .int .i64 (n : Nat))
            have t24 := act_tmp e24
            clear hat hoff hp
            exact wp_value' (.bool false) W (by unfold execOp; go_simp; all_goals first | omega | exact IntWalk.i64_in _ (by omega)) ⟨_, rfl, rfl, hGW, hrefl W⟩
          | 13 =>
            injection (show some _ = some o from ho) with ho
            subst ho
            have eg : F.eval (.tmp 16) = .bool true := (hat 3 16 (of_decide_eq_true (by kernel_rfl)) rfl).trans (hp ⟨3, .guard⟩ (by simp) rfl : U 3 = .bool true)
            refine on_ ((wanted_by rfl rfl eg).trans rfl) ?_
            have e20 : F.eval (.tmp 20) = .bool false := (hat 7 20 (of_decide_eq_true (by kernel_rfl)) rfl).trans (hp ⟨7, .data⟩ (by simp) rfl : U 7 = .bool false)
            have t20 := act_tmp e20
            have e25 : F.eval (.tmp 25) = .bool false := (hat 12 25 (of_decide_eq_true (by kernel_rfl)) rfl).trans (hp ⟨12, .data⟩ (by simp) rfl : U 12 = .bool false)
            have t25 := act_tmp e25
            clear hat hoff hp
            exact wp_value' (.bool false) W (by unfold execOp; go_simp; all_goals first | omega | exact IntWalk.i64_in _ (by omega)) ⟨_, rfl, rfl, hGW, hrefl W⟩
          | 14 =>
            injection (show some _ = some o from ho) with ho
            subst ho
            have eg : F.eval (.tmp 16) = .bool true := (hat 3 16 (of_decide_eq_true (by kernel_rfl)) rfl).trans (hp ⟨3, .guard⟩ (by simp) rfl : U 3 = .bool true)
            refine on_ ((wanted_by rfl rfl eg).trans rfl) ?_
            have e26 : F.eval (.tmp 26) = .bool false := (hat 13 26 (of_decide_eq_true (by kernel_rfl)) rfl).trans (hp ⟨13, .data⟩ (by simp) rfl : U 13 = .bool false)
            exact wp_move' (.tmp 26) rfl ⟨_, rfl, e26, hGW, hrefl W⟩
          | 15 =>
            injection (show some _ = some o from ho) with ho
            subst ho
            have eg : F.eval (.tmp 27) = .bool false := (hat 14 27 (of_decide_eq_true (by kernel_rfl)) rfl).trans (hp ⟨14, .guard⟩ (by simp) rfl : U 14 = .bool false)
            refine on_ ((wanted_by rfl rfl eg).trans rfl) ?_
            have e0 : F.eval (.tmp 0) = .slice (some ad) n cap := (hoff 0 (of_decide_eq_true (by kernel_rfl))).trans rfl
            exact wp_move' (.tmp 0) rfl ⟨_, rfl, e0, hGW, hrefl W⟩
          | 16 =>
            injection (show some _ = some o from ho) with ho
            subst ho
            have eg : F.eval (.tmp 27) = .bool false := (hat 14 27 (of_decide_eq_true (by kernel_rfl)) rfl).trans (hp ⟨14, .guard⟩ (by simp) rfl : U 14 = .bool false)
            refine on_ ((wanted_by rfl rfl eg).trans rfl) ?_
            have e6 : F.eval (.tmp 6) = .pointer (some ⟨w.heap.size, 0, none⟩) := (hoff 6 (of_decide_eq_true (by kernel_rfl))).trans rfl
            have t6 := act_tmp e6
            clear hat hoff hp
            exact wp_value' (.pointer (some ⟨w.heap.size, 0, none⟩)) W (by unfold execOp; go_simp; all_goals first | omega | exact IntWalk.i64_in _ (by omega)) ⟨_, rfl, rfl, hGW, hrefl W⟩
          | 17 =>
            injection (show some _ = some o from ho) with ho
            subst ho
            have eg : F.eval (.tmp 27) = .bool false := (hat 14 27 (of_decide_eq_true (by kernel_rfl)) rfl).trans (hp ⟨14, .guard⟩ (by simp) rfl : U 14 = .bool false)
            refine on_ ((wanted_by rfl rfl eg).trans rfl) ?_
            have e29 : F.eval (.tmp 29) = .pointer (some ⟨w.heap.size, 0, none⟩) := (hat 16 29 (of_decide_eq_true (by kernel_rfl)) rfl).trans (hp ⟨16, .data⟩ (by simp) rfl : U 16 = .pointer (some ⟨w.heap.size, 0, none⟩))
            have t29 := act_tmp e29
            clear hat hoff hp
            have c0 := hGW.2.cell 0
            simp at c0
            exact wp_value' (.int .i64 ((k : Int) + 1)) W (by unfold execOp; go_simp) ⟨_, rfl, rfl, hGW, hrefl W⟩
          | 18 =>
            injection (show some _ = some o from ho) with ho
            subst ho
            have eg : F.eval (.tmp 27) = .bool false := (hat 14 27 (of_decide_eq_true (by kernel_rfl)) rfl).trans (hp ⟨14, .guard⟩ (by simp) rfl : U 14 = .bool false)
            refine on_ ((wanted_by rfl rfl eg).trans rfl) ?_
            have e30 : F.eval (.tmp 30) = .int .i64 ((k : Int) + 1) := (hat 17 30 (of_decide_eq_true (by kernel_rfl)) rfl).trans (hp ⟨17, .data⟩ (by simp) rfl : U 17 = .int .i64 ((k : Int) + 1))
            have t30 := act_tmp e30
            clear hat hoff hp
            exact wp_value' (.int .i64 (k : Nat)) W (by unfold execOp; go_simp; all_goals first | omega | exact IntWalk.i64_in _ (by omega)) ⟨_, rfl, rfl, hGW, hrefl W⟩
          | 19 =>
            injection (show some _ = some o from ho) with ho
            subst ho
            have eg : F.eval (.tmp 27) = .bool false := (hat 14 27 (of_decide_eq_true (by kernel_rfl)) rfl).trans (hp ⟨14, .guard⟩ (by simp) rfl : U 14 = .bool false)
            refine on_ ((wanted_by rfl rfl eg).trans rfl) ?_
            have e28 : F.eval (.tmp 28) = .slice (some ad) n cap := (hat 15 28 (of_decide_eq_true (by kernel_rfl)) rfl).trans (hp ⟨15, .data⟩ (by simp) rfl : U 15 = .slice (some ad) n cap)
            have t28 := act_tmp e28
            have e31 : F.eval (.tmp 31) = .int .i64 (k : Nat) := (hat 18 31 (of_decide_eq_true (by kernel_rfl)) rfl).trans (hp ⟨18, .data⟩ (by simp) rfl : U 18 = .int .i64 (k : Nat))
            have t31 := act_tmp e31
            clear hat hoff hp
            exact wp_value' (.pointer (some (ad.add (k * 9)))) W (by unfold execOp; go_simp; all_goals first | omega | exact IntWalk.i64_in _ (by omega)) ⟨_, rfl, rfl, hGW, hrefl W⟩
          | 20 =>
            injection (show some _ = some o from ho) with ho
            subst ho
            have eg : F.eval (.tmp 27) = .bool false := (hat 14 27 (of_decide_eq_true (by kernel_rfl)) rfl).trans (hp ⟨14, .guard⟩ (by simp) rfl : U 14 = .bool false)
            refine on_ ((wanted_by rfl rfl eg).trans rfl) ?_
            have e32 : F.eval (.tmp 32) = .pointer (some (ad.add (k * 9))) := (hat 19 32 (of_decide_eq_true (by kernel_rfl)) rfl).trans (hp ⟨19, .data⟩ (by simp) rfl : U 19 = .pointer (some (ad.add (k * 9))))
            have t32 := act_tmp e32
            clear hat hoff hp
            obtain ⟨k0, k1, k2, k3, k4, k5, k6, k7, k8⟩ := HP.out.below hGW.1 HAB.out
            exact wp_value' (.agg #[.int .i64 x1, .int .i64 x2, .int .i64 x3, .int .i64 x4, .int .i64 x5, .int .i64 x6, .string x7, .int .i64 x8, .slice hA hn hc]) W (by unfold execOp; go_simp) ⟨_, rfl, rfl, hGW, hrefl W⟩
          | 21 =>
            injection (show some _ = some o from ho) with ho
            subst ho
            have eg : F.eval (.tmp 27) = .bool false := (hat 14 27 (of_decide_eq_true (by kernel_rfl)) rfl).trans (hp ⟨14, .guard⟩ (by simp) rfl : U 14 = .bool false)
            refine on_ ((wanted_by rfl rfl eg).trans rfl) ?_
            have e33 : F.eval (.tmp 33) = .agg #[.int .i64 x1, .int .i64 x2, .int .i64 x3, .int .i64 x4, .int .i64 x5, .int .i64 x6, .string x7, .int .i64 x8, .slice hA hn hc] := (hat 20 33 (of_decide_eq_true (by kernel_rfl)) rfl).trans (hp ⟨20, .data⟩ (by simp) rfl : U 20 = .agg #[.int .i64 x1, .int .i64 x2, .int .i64 x3, .int .i64 x4, .int .i64 x5, .int .i64 x6, .string x7, .int .i64 x8, .slice hA hn hc])
            have t33 := act_tmp e33
            clear hat hoff hp
            refine wp_enter' 59 #[.agg #[.int .i64 x1, .int .i64 x2, .int .i64 x3, .int .i64 x4, .int .i64 x5, .int .i64 x6, .string x7, .int .i64 x8, .slice hA hn hc]] (by unfold execOp; go_simp) ?_
            refine (spot_any x1 x2 x3 x4 x5 x6 x7 x8 (.slice hA hn hc) W).mono ?_
            rintro e W' ⟨rfl, hb⟩
            exact ⟨_, rfl, _, rfl, rfl, ⟨hGW.1.trans (hb.mono hGW.1.size), hGW.2.below hb hGW.2.lt⟩, hb⟩
          | 22 =>
            injection (show some _ = some o from ho) with ho
            subst ho
            have eg : F.eval (.tmp 27) = .bool false := (hat 14 27 (of_decide_eq_true (by kernel_rfl)) rfl).trans (hp ⟨14, .guard⟩ (by simp) rfl : U 14 = .bool false)
            refine on_ ((wanted_by rfl rfl eg).trans rfl) ?_
            have e6 : F.eval (.tmp 6) = .pointer (some ⟨w.heap.size, 0, none⟩) := (hoff 6 (of_decide_eq_true (by kernel_rfl))).trans rfl
            have t6 := act_tmp e6
            clear hat hoff hp
            have c0 := hGW.2.cell 0
            have c1 := hGW.2.cell 1
            simp at c0 c1
            exact wp_value' (.agg #[.int .i64 ((k : Int) + 1), .int .i64 E]) W (by unfold execOp; go_simp) ⟨_, rfl, rfl, hGW, hrefl W⟩
          | 23 =>
            injection (show some _ = some o from ho) with ho
            subst ho
            have eg : F.eval (.tmp 27) = .bool false := (hat 14 27 (of_decide_eq_true (by kernel_rfl)) rfl).trans (hp ⟨14, .guard⟩ (by simp) rfl : U 14 = .bool false)
            refine on_ ((wanted_by rfl rfl eg).trans rfl) ?_
            have e34 : F.eval (.tmp 34) = .agg #[.int .i64 x1, .int .i64 x2] := (hat 21 34 (of_decide_eq_true (by kernel_rfl)) rfl).trans (hp ⟨21, .data⟩ (by simp) rfl : U 21 = .agg #[.int .i64 x1, .int .i64 x2])
            have t34 := act_tmp e34
            have e35 : F.eval (.tmp 35) = .agg #[.int .i64 ((k : Int) + 1), .int .i64 E] := (hat 22 35 (of_decide_eq_true (by kernel_rfl)) rfl).trans (hp ⟨22, .data⟩ (by simp) rfl : U 22 = .agg #[.int .i64 ((k : Int) + 1), .int .i64 E])
            have t35 := act_tmp e35
            clear hat hoff hp
            exact wp_value' (.bool false) W (by unfold execOp; go_simp; all_goals (by_cases q1 : x1 = (k : Int) + 1 <;> by_cases q2 : x2 = E <;> first | omega | simp_all)) ⟨_, rfl, rfl, hGW, hrefl W⟩
          | 24 =>
            injection (show some _ = some o from ho) with ho
            subst ho
            have eg : F.eval (.tmp 16) = .bool true := (hat 3 16 (of_decide_eq_true (by kernel_rfl)) rfl).trans (hp ⟨3, .guard⟩ (by simp) rfl : U 3 = .bool true)
            refine on_ ((wanted_by rfl rfl eg).trans rfl) ?_
            have e27 : F.eval (.tmp 27) = .bool false := (hat 14 27 (of_decide_eq_true (by kernel_rfl)) rfl).trans (hp ⟨14, .data⟩ (by simp) rfl : U 14 = .bool false)
            have t27 := act_tmp e27
            have e36 : F.eval (.tmp 36) = .bool false := (hat 23 36 (of_decide_eq_true (by kernel_rfl)) rfl).trans (hp ⟨23, .data⟩ (by simp) rfl : U 23 = .bool false)
            have t36 := act_tmp e36
            clear hat hoff hp
            exact wp_value' (.bool false) W (by unfold execOp; go_simp; all_goals first | omega | exact IntWalk.i64_in _ (by omega)) ⟨_, rfl, rfl, hGW, hrefl W⟩
          | 25 =>
            injection (show some _ = some o from ho) with ho
            subst ho
            refine on_ (wanted_none rfl) ?_
            have e16 : F.eval (.tmp 16) = .bool true := (hat 3 16 (of_decide_eq_true (by kernel_rfl)) rfl).trans (hp ⟨3, .data⟩ (by simp) rfl : U 3 = .bool true)
            have t16 := act_tmp e16
            have e37 : F.eval (.tmp 37) = .bool false := (hat 24 37 (of_decide_eq_true (by kernel_rfl)) rfl).trans (hp ⟨24, .data⟩ (by simp) rfl : U 24 = .bool false)
            have t37 := act_tmp e37
            clear hat hoff hp
            exact wp_value' (.bool false) W (by unfold execOp; go_simp; all_goals first | omega | exact IntWalk.i64_in _ (by omega)) ⟨_, rfl, rfl, hGW, hrefl W⟩
          | i + 26 => exact absurd ho (by simp)
      case hend =>
        intro U W hGW hV
        have h25 : U 25 = .bool false := hV 25 (of_decide_eq_true (by kernel_rfl))
        have HG := Lib.hid hGW.1
        have HU := Lib.hid h25
        clear hV hGW h25
        simp [putU, dstAt, Act.put, HU.out]
        go_wp2
        go_roundw
        case rel => exact .inr ⟨by go_num, HG.out⟩
        case measure => simp [intOf]
    · go_wp2
      go_ret
      exact ⟨rfl, hb⟩
end Go.Proofs.Ytaipgdhdfpemcaa
