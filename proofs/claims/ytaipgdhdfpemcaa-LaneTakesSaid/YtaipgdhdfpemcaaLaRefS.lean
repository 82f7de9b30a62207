/-
  THE WALKS OF THE LANE: the reference's small functions. (wip/gen/refs.py prints this text.)
-/
import Derived.Test.YtaipgdhdfpemcaaLaHasA
import Derived.Test.YtaipgdhdfpemcaaDraw6
import Derived.Test.YtaipgdhdfpemcaaFr2
import Derived.IntWalk
namespace Go.Proofs.Ytaipgdhdfpemcaa
open Go.RowKit

/-- the reference's lane, its cells -/
@[reducible] def rlaneC (mN mE wN wE : Int) (oA : Option Addr) (on oc : Nat) (epoch site next : Int) : Array Value :=
  #[.int .i64 epoch, .int .i64 site, .int .i64 next, .int .i64 mN, .int .i64 mE, .int .i64 wN, .int .i64 wE, .slice oA on oc]
/-- a lane of the reference lies there -/
def RefIs (w : World) (S : Nat → Prop) (b : Nat) (l : LaneC) : Prop :=
  ∃ oA on oc, Blk w b 87 (rlaneC l.mN l.mE l.wN l.wE oA on oc l.epoch l.site l.next) ∧ IntIs w S oA on oc l.holes
section
variable {w w' : World} {S S' : Nat → Prop} {b : Nat} {l : LaneC}
theorem RefIs.below (h : RefIs w S b l) (hb : Below w.heap.size w w') : RefIs w' S b l := by
  obtain ⟨oA, on, oc, h1, h2⟩ := h
  exact ⟨oA, on, oc, h1.below hb h1.lt, h2.below hb⟩
theorem RefIs.lt (h : RefIs w S b l) : b < w.heap.size := by
  obtain ⟨oA, on, oc, h1, h2⟩ := h
  exact h1.lt
theorem RefIs.kept (h : RefIs w S b l) (hk : Kept S w w') (hb : w'.heap[b]? = w.heap[b]?) : RefIs w' S b l := by
  obtain ⟨oA, on, oc, h1, h2⟩ := h
  exact ⟨oA, on, oc, hb.trans h1, h2.kept hk⟩
end
theorem newR_ok (e s n : Int) (w : World) (he : 1 ≤ e ∧ e ≤ 16) (hs : 0 ≤ s ∧ s < 2) (hn : 0 ≤ n ∧ n ≤ 80) :
    Calls Try.prog 36 #[.int .i64 e, .int .i64 s, .int .i64 n] w fun x w' => x = .returned (.tuple #[.pointer (some ⟨w.heap.size, 0, none⟩), .int .i64 0]) ∧ w' = w.alloc (.cells (rlaneC 0 0 0 0 none 0 0 e s n) 87) := by
  have t1 : decide (e < 1) = false := decide_eq_false (by omega)
  have t2 : decide (16 < e) = false := decide_eq_false (by omega)
  have t3 : decide (s < 0) = false := decide_eq_false (by omega)
  have t4 : decide (1 < s) = false := decide_eq_false (by omega)
  have t5 : decide (n < 0) = false := decide_eq_false (by omega)
  have t6 : decide (80 < n) = false := decide_eq_false (by omega)
  clear he hs hn
  go_enter Try.func36, Try.ntmps36
  go_wp2
  go_ret2
  exact ⟨rfl, rfl⟩
theorem newR_no (e s n : Int) (w : World) (h : newB e s n = false) :
    Calls Try.prog 36 #[.int .i64 e, .int .i64 s, .int .i64 n] w fun x w' => x = .returned (.tuple #[.pointer none, .int .i64 1]) ∧ w' = w := by
  have h0 := of_decide_eq_false h
  by_cases h1 : e < 1
  · have t1 : decide (e < 1) = true := decide_eq_true h1
    clear h h0 h1
    go_enter Try.func36, Try.ntmps36
    go_wp2
    go_ret2
    exact ⟨rfl, rfl⟩
  have t1 : decide (e < 1) = false := decide_eq_false h1
  by_cases h2 : 16 < e
  · have t2 : decide (16 < e) = true := decide_eq_true h2
    clear h h0 h1 h2
    go_enter Try.func36, Try.ntmps36
    go_wp2
    go_ret2
    exact ⟨rfl, rfl⟩
  have t2 : decide (16 < e) = false := decide_eq_false h2
  by_cases h3 : s < 0
  · have t3 : decide (s < 0) = true := decide_eq_true h3
    clear h h0 h1 h2 h3
    go_enter Try.func36, Try.ntmps36
    go_wp2
    go_ret2
    exact ⟨rfl, rfl⟩
  have t3 : decide (s < 0) = false := decide_eq_false h3
  by_cases h4 : 1 < s
  · have t4 : decide (1 < s) = true := decide_eq_true h4
    clear h h0 h1 h2 h3 h4
    go_enter Try.func36, Try.ntmps36
    go_wp2
    go_ret2
    exact ⟨rfl, rfl⟩
  have t4 : decide (1 < s) = false := decide_eq_false h4
  by_cases h5 : n < 0
  · have t5 : decide (n < 0) = true := decide_eq_true h5
    clear h h0 h1 h2 h3 h4 h5
    go_enter Try.func36, Try.ntmps36
    go_wp2
    go_ret2
    exact ⟨rfl, rfl⟩
  have t5 : decide (n < 0) = false := decide_eq_false h5
  have t6 : decide (80 < n) = true := decide_eq_true (by omega)
  clear h h0 h1 h2 h3 h4 h5
  go_enter Try.func36, Try.ntmps36
  go_wp2
  go_ret2
  exact ⟨rfl, rfl⟩

theorem at_any (a1 a2 a3 a4 a5 a6 : Int) (s : ByteArray) (a7 : Int) (v : Value) (w : World) :
    Calls Try.prog 68 #[.agg #[.int .i64 a1, .int .i64 a2, .int .i64 a3, .int .i64 a4, .int .i64 a5, .int .i64 a6, .string s, .int .i64 a7, v]] w fun x w' => x = .returned (.agg #[.int .i64 a1, .int .i64 a2]) ∧ Below w.heap.size w w' := by
  go_enter Try.func68, Try.ntmps68
  go_wp2
  refine bodyPost_ret (v := .agg #[.int .i64 a1, .int .i64 a2]) (by simp [results, Try.results68, go_sem]) rfl ?_
  exact ⟨rfl, ((Below.refl _ _).alloc (Nat.le_refl _) _).alloc (by simp) _⟩

set_option maxRecDepth 100000 in
set_option maxHeartbeats 4000000 in
theorem rhas_zero {A : Option Addr} {n cap : Nat} {N E : Int} (w : World) (hN : N = 0) (hE : E = 0) :
    Calls Try.prog 65 #[.slice A n cap, .agg #[.int .i64 N, .int .i64 E]] w fun x w' => x = .returned (.bool true) ∧ Below w.heap.size w w' := by
  subst hN hE
  have hba : Below w.heap.size w (w.alloc (.cells #[.int .i64 0, .int .i64 0] 26)) := (Below.refl _ _).alloc (Nat.le_refl _) _
  have HBA := Lib.hid hba
  have HBK := Lib.hid (Blk.new w 26 #[.int .i64 0, .int .i64 0])
  clear hba
  go_enter Try.func65, Try.ntmps65
  go_wp2_with fail
  refine wp_region_all (by kernel_rfl) (fun i v W => match i with | 0 => v = .agg #[.int .i64 0, .int .i64 0] | 1 => v = .agg #[.int .i64 0, .int .i64 0] | 2 => v = .bool true | 3 => v = .bool true | 4 => v = undef | 5 => v = undef | 6 => v = undef | 7 => v = undef | 8 => v = undef | 9 => v = undef | 10 => v = undef | 11 => v = undef | 12 => v = undef | 13 => v = undef | 14 => v = undef | 15 => v = undef | 16 => v = undef | 17 => v = undef | 18 => v = undef | 19 => v = undef | 20 => v = undef | 21 => v = undef | 22 => v = undef | 23 => v = undef | 24 => v = undef | 25 => v = .bool true | 26 => v = .bool true | _ => True) (fun W => Below w.heap.size w W ∧ Blk W w.heap.size 26 #[.int .i64 0, .int .i64 0]) (fun W W' => Below W.heap.size W W') (by kernel_rfl) ?hG ?hmono ?hstep ?hend
  case hG => exact ⟨HBA.out.drew, HBK.out.drew⟩
  case hmono =>
    intro i v W W' hx hv
    match i with
    | 0 | 1 | 2 | 3 | 4 | 5 | 6 | 7 | 8 | 9 | 10 | 11 | 12 | 13 | 14 | 15 | 16 | 17 | 18 | 19 | 20 | 21 | 22 | 23 | 24 | 25 | 26 => exact hv
    | i + 27 => exact hv
  case hstep =>
    intro i o F U W ho hGW hat hoff hp
    have hrefl := fun W : World => Below.refl W.heap.size W
    match i with
      | 0 =>
        injection (show some _ = some o from ho) with ho
        subst ho
        refine on_ (wanted_none rfl) ?_
        have e3 : F.eval (.tmp 3) = .pointer (some ⟨w.heap.size, 0, none⟩) := (hoff 3 (of_decide_eq_true (by kernel_rfl))).trans rfl
        have t3 := act_tmp e3
        clear hat hoff hp
        have d0 := hGW.2.cell 0
        have d1 := hGW.2.cell 1
        simp at d0 d1
        exact wp_value' (.agg #[.int .i64 0, .int .i64 0]) W (by unfold execOp; go_simp; all_goals first | omega | exact IntWalk.i64_in _ (by omega)) ⟨_, rfl, rfl, hGW, hrefl W⟩
      | 1 =>
        injection (show some _ = some o from ho) with ho
        subst ho
        refine on_ (wanted_none rfl) ?_
        clear hat hoff hp
        exact wp_value' (.agg #[.int .i64 0, .int .i64 0]) W (by unfold execOp; go_simp; all_goals first | omega | exact IntWalk.i64_in _ (by omega)) ⟨_, rfl, rfl, hGW, hrefl W⟩
      | 2 =>
        injection (show some _ = some o from ho) with ho
        subst ho
        refine on_ (wanted_none rfl) ?_
        have e5 : F.eval (.tmp 5) = .agg #[.int .i64 0, .int .i64 0] := (hat 0 5 (of_decide_eq_true (by kernel_rfl)) rfl).trans (hp ⟨0, .data⟩ (by simp) rfl : U 0 = .agg #[.int .i64 0, .int .i64 0])
        have t5 := act_tmp e5
        have e6 : F.eval (.tmp 6) = .agg #[.int .i64 0, .int .i64 0] := (hat 1 6 (of_decide_eq_true (by kernel_rfl)) rfl).trans (hp ⟨1, .data⟩ (by simp) rfl : U 1 = .agg #[.int .i64 0, .int .i64 0])
        have t6 := act_tmp e6
        clear hat hoff hp
        exact wp_value' (.bool true) W (by unfold execOp; go_simp; all_goals (by_cases q1 : N = 0 <;> by_cases q2 : E = 0 <;> first | omega | simp_all)) ⟨_, rfl, rfl, hGW, hrefl W⟩
      | 3 =>
        injection (show some _ = some o from ho) with ho
        subst ho
        refine on_ (wanted_none rfl) ?_
        have e7 : F.eval (.tmp 7) = .bool true := (hat 2 7 (of_decide_eq_true (by kernel_rfl)) rfl).trans (hp ⟨2, .data⟩ (by simp) rfl : U 2 = .bool true)
        exact wp_move' (.tmp 7) rfl ⟨_, rfl, e7, hGW, hrefl W⟩
      | 4 =>
        injection (show some _ = some o from ho) with ho
        subst ho
        have eg : F.eval (.tmp 8) = .bool true := (hat 3 8 (of_decide_eq_true (by kernel_rfl)) rfl).trans (hp ⟨3, .guard⟩ (by simp) rfl : U 3 = .bool true)
        exact off_ (W := W) ((wanted_by rfl rfl eg).trans rfl) rfl
      | 5 =>
        injection (show some _ = some o from ho) with ho
        subst ho
        have eg : F.eval (.tmp 8) = .bool true := (hat 3 8 (of_decide_eq_true (by kernel_rfl)) rfl).trans (hp ⟨3, .guard⟩ (by simp) rfl : U 3 = .bool true)
        exact off_ (W := W) ((wanted_by rfl rfl eg).trans rfl) rfl
      | 6 =>
        injection (show some _ = some o from ho) with ho
        subst ho
        have eg : F.eval (.tmp 8) = .bool true := (hat 3 8 (of_decide_eq_true (by kernel_rfl)) rfl).trans (hp ⟨3, .guard⟩ (by simp) rfl : U 3 = .bool true)
        exact off_ (W := W) ((wanted_by rfl rfl eg).trans rfl) rfl
      | 7 =>
        injection (show some _ = some o from ho) with ho
        subst ho
        have eg : F.eval (.tmp 8) = .bool true := (hat 3 8 (of_decide_eq_true (by kernel_rfl)) rfl).trans (hp ⟨3, .guard⟩ (by simp) rfl : U 3 = .bool true)
        exact off_ (W := W) ((wanted_by rfl rfl eg).trans rfl) rfl
      | 8 =>
        injection (show some _ = some o from ho) with ho
        subst ho
        have eg : F.eval (.tmp 12) = undef := (hat 7 12 (of_decide_eq_true (by kernel_rfl)) rfl).trans (hp ⟨7, .guard⟩ (by simp) rfl : U 7 = undef)
        exact off_ (W := W) (wanted_undef rfl rfl eg) rfl
      | 9 =>
        injection (show some _ = some o from ho) with ho
        subst ho
        have eg : F.eval (.tmp 12) = undef := (hat 7 12 (of_decide_eq_true (by kernel_rfl)) rfl).trans (hp ⟨7, .guard⟩ (by simp) rfl : U 7 = undef)
        exact off_ (W := W) (wanted_undef rfl rfl eg) rfl
      | 10 =>
        injection (show some _ = some o from ho) with ho
        subst ho
        have eg : F.eval (.tmp 12) = undef := (hat 7 12 (of_decide_eq_true (by kernel_rfl)) rfl).trans (hp ⟨7, .guard⟩ (by simp) rfl : U 7 = undef)
        exact off_ (W := W) (wanted_undef rfl rfl eg) rfl
      | 11 =>
        injection (show some _ = some o from ho) with ho
        subst ho
        have eg : F.eval (.tmp 12) = undef := (hat 7 12 (of_decide_eq_true (by kernel_rfl)) rfl).trans (hp ⟨7, .guard⟩ (by simp) rfl : U 7 = undef)
        exact off_ (W := W) (wanted_undef rfl rfl eg) rfl
      | 12 =>
        injection (show some _ = some o from ho) with ho
        subst ho
        have eg : F.eval (.tmp 12) = undef := (hat 7 12 (of_decide_eq_true (by kernel_rfl)) rfl).trans (hp ⟨7, .guard⟩ (by simp) rfl : U 7 = undef)
        exact off_ (W := W) (wanted_undef rfl rfl eg) rfl
      | 13 =>
        injection (show some _ = some o from ho) with ho
        subst ho
        have eg : F.eval (.tmp 8) = .bool true := (hat 3 8 (of_decide_eq_true (by kernel_rfl)) rfl).trans (hp ⟨3, .guard⟩ (by simp) rfl : U 3 = .bool true)
        exact off_ (W := W) ((wanted_by rfl rfl eg).trans rfl) rfl
      | 14 =>
        injection (show some _ = some o from ho) with ho
        subst ho
        have eg : F.eval (.tmp 8) = .bool true := (hat 3 8 (of_decide_eq_true (by kernel_rfl)) rfl).trans (hp ⟨3, .guard⟩ (by simp) rfl : U 3 = .bool true)
        exact off_ (W := W) ((wanted_by rfl rfl eg).trans rfl) rfl
      | 15 =>
        injection (show some _ = some o from ho) with ho
        subst ho
        have eg : F.eval (.tmp 19) = undef := (hat 14 19 (of_decide_eq_true (by kernel_rfl)) rfl).trans (hp ⟨14, .guard⟩ (by simp) rfl : U 14 = undef)
        exact off_ (W := W) (wanted_undef rfl rfl eg) rfl
      | 16 =>
        injection (show some _ = some o from ho) with ho
        subst ho
        have eg : F.eval (.tmp 19) = undef := (hat 14 19 (of_decide_eq_true (by kernel_rfl)) rfl).trans (hp ⟨14, .guard⟩ (by simp) rfl : U 14 = undef)
        exact off_ (W := W) (wanted_undef rfl rfl eg) rfl
      | 17 =>
        injection (show some _ = some o from ho) with ho
        subst ho
        have eg : F.eval (.tmp 19) = undef := (hat 14 19 (of_decide_eq_true (by kernel_rfl)) rfl).trans (hp ⟨14, .guard⟩ (by simp) rfl : U 14 = undef)
        exact off_ (W := W) (wanted_undef rfl rfl eg) rfl
      | 18 =>
        injection (show some _ = some o from ho) with ho
        subst ho
        have eg : F.eval (.tmp 19) = undef := (hat 14 19 (of_decide_eq_true (by kernel_rfl)) rfl).trans (hp ⟨14, .guard⟩ (by simp) rfl : U 14 = undef)
        exact off_ (W := W) (wanted_undef rfl rfl eg) rfl
      | 19 =>
        injection (show some _ = some o from ho) with ho
        subst ho
        have eg : F.eval (.tmp 19) = undef := (hat 14 19 (of_decide_eq_true (by kernel_rfl)) rfl).trans (hp ⟨14, .guard⟩ (by simp) rfl : U 14 = undef)
        exact off_ (W := W) (wanted_undef rfl rfl eg) rfl
      | 20 =>
        injection (show some _ = some o from ho) with ho
        subst ho
        have eg : F.eval (.tmp 19) = undef := (hat 14 19 (of_decide_eq_true (by kernel_rfl)) rfl).trans (hp ⟨14, .guard⟩ (by simp) rfl : U 14 = undef)
        exact off_ (W := W) (wanted_undef rfl rfl eg) rfl
      | 21 =>
        injection (show some _ = some o from ho) with ho
        subst ho
        have eg : F.eval (.tmp 19) = undef := (hat 14 19 (of_decide_eq_true (by kernel_rfl)) rfl).trans (hp ⟨14, .guard⟩ (by simp) rfl : U 14 = undef)
        exact off_ (W := W) (wanted_undef rfl rfl eg) rfl
      | 22 =>
        injection (show some _ = some o from ho) with ho
        subst ho
        have eg : F.eval (.tmp 19) = undef := (hat 14 19 (of_decide_eq_true (by kernel_rfl)) rfl).trans (hp ⟨14, .guard⟩ (by simp) rfl : U 14 = undef)
        exact off_ (W := W) (wanted_undef rfl rfl eg) rfl
      | 23 =>
        injection (show some _ = some o from ho) with ho
        subst ho
        have eg : F.eval (.tmp 19) = undef := (hat 14 19 (of_decide_eq_true (by kernel_rfl)) rfl).trans (hp ⟨14, .guard⟩ (by simp) rfl : U 14 = undef)
        exact off_ (W := W) (wanted_undef rfl rfl eg) rfl
      | 24 =>
        injection (show some _ = some o from ho) with ho
        subst ho
        have eg : F.eval (.tmp 8) = .bool true := (hat 3 8 (of_decide_eq_true (by kernel_rfl)) rfl).trans (hp ⟨3, .guard⟩ (by simp) rfl : U 3 = .bool true)
        exact off_ (W := W) ((wanted_by rfl rfl eg).trans rfl) rfl
      | 25 =>
        injection (show some _ = some o from ho) with ho
        subst ho
        refine on_ (wanted_none rfl) ?_
        have e8 : F.eval (.tmp 8) = .bool true := (hat 3 8 (of_decide_eq_true (by kernel_rfl)) rfl).trans (hp ⟨3, .data⟩ (by simp) rfl : U 3 = .bool true)
        have t8 := act_tmp e8
        have e29 : F.eval (.tmp 29) = undef := (hat 24 29 (of_decide_eq_true (by kernel_rfl)) rfl).trans (hp ⟨24, .data⟩ (by simp) rfl : U 24 = undef)
        have t29 := act_tmp e29
        clear hat hoff hp
        exact wp_value' (.bool true) W (by unfold execOp; go_simp; all_goals first | omega | exact IntWalk.i64_in _ (by omega)) ⟨_, rfl, rfl, hGW, hrefl W⟩
      | 26 =>
        injection (show some _ = some o from ho) with ho
        subst ho
        refine on_ (wanted_none rfl) ?_
        have e30 : F.eval (.tmp 30) = .bool true := (hat 25 30 (of_decide_eq_true (by kernel_rfl)) rfl).trans (hp ⟨25, .data⟩ (by simp) rfl : U 25 = .bool true)
        exact wp_assign' (.tmp 30) rfl ⟨_, rfl, e30, hGW, hrefl W⟩
      | i + 27 => exact absurd ho (by simp)
  case hend =>
    intro U W hGW hV
    have hx : U 26 = .bool true := hV 26 (of_decide_eq_true (by kernel_rfl))
    have HG := Lib.hid hGW.1
    have HX := Lib.hid hx
    clear hV hGW hx
    simp [putU, dstAt, Act.put, HX.out]
    go_wp2
    go_ret
    exact ⟨rfl, HG.out⟩

set_option maxRecDepth 100000 in
set_option maxHeartbeats 4000000 in
theorem rhas_low {A : Option Addr} {n cap : Nat} {N E : Int} (w : World) (hN : N < 1) (hNE : ¬ (N = 0 ∧ E = 0)) :
    Calls Try.prog 65 #[.slice A n cap, .agg #[.int .i64 N, .int .i64 E]] w fun x w' => x = .returned (.bool false) ∧ Below w.heap.size w w' := by
  have hba : Below w.heap.size w (w.alloc (.cells #[.int .i64 N, .int .i64 E] 26)) := (Below.refl _ _).alloc (Nat.le_refl _) _
  have HBA := Lib.hid hba
  have HBK := Lib.hid (Blk.new w 26 #[.int .i64 N, .int .i64 E])
  clear hba
  go_enter Try.func65, Try.ntmps65
  go_wp2_with fail
  refine wp_region_all (by kernel_rfl) (fun i v W => match i with | 0 => v = .agg #[.int .i64 N, .int .i64 E] | 1 => v = .agg #[.int .i64 0, .int .i64 0] | 2 => v = .bool false | 3 => v = .bool false | 4 => v = .pointer (some ⟨w.heap.size, 0, none⟩) | 5 => v = .int .i64 N | 6 => v = .bool false | 7 => v = .bool false | 8 => v = undef | 9 => v = undef | 10 => v = undef | 11 => v = undef | 12 => v = undef | 13 => v = .bool false | 14 => v = .bool false | 15 => v = undef | 16 => v = undef | 17 => v = undef | 18 => v = undef | 19 => v = undef | 20 => v = undef | 21 => v = undef | 22 => v = undef | 23 => v = undef | 24 => v = .bool false | 25 => v = .bool false | 26 => v = .bool false | _ => True) (fun W => Below w.heap.size w W ∧ Blk W w.heap.size 26 #[.int .i64 N, .int .i64 E]) (fun W W' => Below W.heap.size W W') (by kernel_rfl) ?hG ?hmono ?hstep ?hend
  case hG => exact ⟨HBA.out.drew, HBK.out.drew⟩
  case hmono =>
    intro i v W W' hx hv
    match i with
    | 0 | 1 | 2 | 3 | 4 | 5 | 6 | 7 | 8 | 9 | 10 | 11 | 12 | 13 | 14 | 15 | 16 | 17 | 18 | 19 | 20 | 21 | 22 | 23 | 24 | 25 | 26 => exact hv
    | i + 27 => exact hv
  case hstep =>
    intro i o F U W ho hGW hat hoff hp
    have hrefl := fun W : World => Below.refl W.heap.size W
    match i with
      | 0 =>
        injection (show some _ = some o from ho) with ho
        subst ho
        refine on_ (wanted_none rfl) ?_
        have e3 : F.eval (.tmp 3) = .pointer (some ⟨w.heap.size, 0, none⟩) := (hoff 3 (of_decide_eq_true (by kernel_rfl))).trans rfl
        have t3 := act_tmp e3
        clear hat hoff hp
        have d0 := hGW.2.cell 0
        have d1 := hGW.2.cell 1
        simp at d0 d1
        exact wp_value' (.agg #[.int .i64 N, .int .i64 E]) W (by unfold execOp; go_simp; all_goals first | omega | exact IntWalk.i64_in _ (by omega)) ⟨_, rfl, rfl, hGW, hrefl W⟩
      | 1 =>
        injection (show some _ = some o from ho) with ho
        subst ho
        refine on_ (wanted_none rfl) ?_
        clear hat hoff hp
        exact wp_value' (.agg #[.int .i64 0, .int .i64 0]) W (by unfold execOp; go_simp; all_goals first | omega | exact IntWalk.i64_in _ (by omega)) ⟨_, rfl, rfl, hGW, hrefl W⟩
      | 2 =>
        injection (show some _ = some o from ho) with ho
        subst ho
        refine on_ (wanted_none rfl) ?_
        have e5 : F.eval (.tmp 5) = .agg #[.int .i64 N, .int .i64 E] := (hat 0 5 (of_decide_eq_true (by kernel_rfl)) rfl).trans (hp ⟨0, .data⟩ (by simp) rfl : U 0 = .agg #[.int .i64 N, .int .i64 E])
        have t5 := act_tmp e5
        have e6 : F.eval (.tmp 6) = .agg #[.int .i64 0, .int .i64 0] := (hat 1 6 (of_decide_eq_true (by kernel_rfl)) rfl).trans (hp ⟨1, .data⟩ (by simp) rfl : U 1 = .agg #[.int .i64 0, .int .i64 0])
        have t6 := act_tmp e6
        clear hat hoff hp
        exact wp_value' (.bool false) W (by unfold execOp; go_simp; all_goals (by_cases q1 : N = 0 <;> by_cases q2 : E = 0 <;> first | omega | simp_all)) ⟨_, rfl, rfl, hGW, hrefl W⟩
      | 3 =>
        injection (show some _ = some o from ho) with ho
        subst ho
        refine on_ (wanted_none rfl) ?_
        have e7 : F.eval (.tmp 7) = .bool false := (hat 2 7 (of_decide_eq_true (by kernel_rfl)) rfl).trans (hp ⟨2, .data⟩ (by simp) rfl : U 2 = .bool false)
        exact wp_move' (.tmp 7) rfl ⟨_, rfl, e7, hGW, hrefl W⟩
      | 4 =>
        injection (show some _ = some o from ho) with ho
        subst ho
        have eg : F.eval (.tmp 8) = .bool false := (hat 3 8 (of_decide_eq_true (by kernel_rfl)) rfl).trans (hp ⟨3, .guard⟩ (by simp) rfl : U 3 = .bool false)
        refine on_ ((wanted_by rfl rfl eg).trans rfl) ?_
        have e3 : F.eval (.tmp 3) = .pointer (some ⟨w.heap.size, 0, none⟩) := (hoff 3 (of_decide_eq_true (by kernel_rfl))).trans rfl
        have t3 := act_tmp e3
        clear hat hoff hp
        exact wp_value' (.pointer (some ⟨w.heap.size, 0, none⟩)) W (by unfold execOp; go_simp; all_goals first | omega | exact IntWalk.i64_in _ (by omega)) ⟨_, rfl, rfl, hGW, hrefl W⟩
      | 5 =>
        injection (show some _ = some o from ho) with ho
        subst ho
        have eg : F.eval (.tmp 8) = .bool false := (hat 3 8 (of_decide_eq_true (by kernel_rfl)) rfl).trans (hp ⟨3, .guard⟩ (by simp) rfl : U 3 = .bool false)
        refine on_ ((wanted_by rfl rfl eg).trans rfl) ?_
        have e9 : F.eval (.tmp 9) = .pointer (some ⟨w.heap.size, 0, none⟩) := (hat 4 9 (of_decide_eq_true (by kernel_rfl)) rfl).trans (hp ⟨4, .data⟩ (by simp) rfl : U 4 = .pointer (some ⟨w.heap.size, 0, none⟩))
        have t9 := act_tmp e9
        clear hat hoff hp
        have d0 := hGW.2.cell 0
        simp at d0
        exact wp_value' (.int .i64 N) W (by unfold execOp; go_simp; all_goals first | omega | exact IntWalk.i64_in _ (by omega)) ⟨_, rfl, rfl, hGW, hrefl W⟩
      | 6 =>
        injection (show some _ = some o from ho) with ho
        subst ho
        have eg : F.eval (.tmp 8) = .bool false := (hat 3 8 (of_decide_eq_true (by kernel_rfl)) rfl).trans (hp ⟨3, .guard⟩ (by simp) rfl : U 3 = .bool false)
        refine on_ ((wanted_by rfl rfl eg).trans rfl) ?_
        have e10 : F.eval (.tmp 10) = .int .i64 N := (hat 5 10 (of_decide_eq_true (by kernel_rfl)) rfl).trans (hp ⟨5, .data⟩ (by simp) rfl : U 5 = .int .i64 N)
        have t10 := act_tmp e10
        clear hat hoff hp
        exact wp_value' (.bool false) W (by unfold execOp; go_simp; all_goals first | omega | exact IntWalk.i64_in _ (by omega)) ⟨_, rfl, rfl, hGW, hrefl W⟩
      | 7 =>
        injection (show some _ = some o from ho) with ho
        subst ho
        have eg : F.eval (.tmp 8) = .bool false := (hat 3 8 (of_decide_eq_true (by kernel_rfl)) rfl).trans (hp ⟨3, .guard⟩ (by simp) rfl : U 3 = .bool false)
        refine on_ ((wanted_by rfl rfl eg).trans rfl) ?_
        have e11 : F.eval (.tmp 11) = .bool false := (hat 6 11 (of_decide_eq_true (by kernel_rfl)) rfl).trans (hp ⟨6, .data⟩ (by simp) rfl : U 6 = .bool false)
        exact wp_move' (.tmp 11) rfl ⟨_, rfl, e11, hGW, hrefl W⟩
      | 8 =>
        injection (show some _ = some o from ho) with ho
        subst ho
        have eg : F.eval (.tmp 12) = .bool false := (hat 7 12 (of_decide_eq_true (by kernel_rfl)) rfl).trans (hp ⟨7, .guard⟩ (by simp) rfl : U 7 = .bool false)
        exact off_ (W := W) ((wanted_by rfl rfl eg).trans rfl) rfl
      | 9 =>
        injection (show some _ = some o from ho) with ho
        subst ho
        have eg : F.eval (.tmp 12) = .bool false := (hat 7 12 (of_decide_eq_true (by kernel_rfl)) rfl).trans (hp ⟨7, .guard⟩ (by simp) rfl : U 7 = .bool false)
        exact off_ (W := W) ((wanted_by rfl rfl eg).trans rfl) rfl
      | 10 =>
        injection (show some _ = some o from ho) with ho
        subst ho
        have eg : F.eval (.tmp 12) = .bool false := (hat 7 12 (of_decide_eq_true (by kernel_rfl)) rfl).trans (hp ⟨7, .guard⟩ (by simp) rfl : U 7 = .bool false)
        exact off_ (W := W) ((wanted_by rfl rfl eg).trans rfl) rfl
      | 11 =>
        injection (show some _ = some o from ho) with ho
        subst ho
        have eg : F.eval (.tmp 12) = .bool false := (hat 7 12 (of_decide_eq_true (by kernel_rfl)) rfl).trans (hp ⟨7, .guard⟩ (by simp) rfl : U 7 = .bool false)
        exact off_ (W := W) ((wanted_by rfl rfl eg).trans rfl) rfl
      | 12 =>
        injection (show some _ = some o from ho) with ho
        subst ho
        have eg : F.eval (.tmp 12) = .bool false := (hat 7 12 (of_decide_eq_true (by kernel_rfl)) rfl).trans (hp ⟨7, .guard⟩ (by simp) rfl : U 7 = .bool false)
        exact off_ (W := W) ((wanted_by rfl rfl eg).trans rfl) rfl
      | 13 =>
        injection (show some _ = some o from ho) with ho
        subst ho
        have eg : F.eval (.tmp 8) = .bool false := (hat 3 8 (of_decide_eq_true (by kernel_rfl)) rfl).trans (hp ⟨3, .guard⟩ (by simp) rfl : U 3 = .bool false)
        refine on_ ((wanted_by rfl rfl eg).trans rfl) ?_
        have e12 : F.eval (.tmp 12) = .bool false := (hat 7 12 (of_decide_eq_true (by kernel_rfl)) rfl).trans (hp ⟨7, .data⟩ (by simp) rfl : U 7 = .bool false)
        have t12 := act_tmp e12
        clear hat hoff hp
        exact wp_value' (.bool false) W (by unfold execOp; go_simp; all_goals first | omega | exact IntWalk.i64_in _ (by omega)) ⟨_, rfl, rfl, hGW, hrefl W⟩
      | 14 =>
        injection (show some _ = some o from ho) with ho
        subst ho
        have eg : F.eval (.tmp 8) = .bool false := (hat 3 8 (of_decide_eq_true (by kernel_rfl)) rfl).trans (hp ⟨3, .guard⟩ (by simp) rfl : U 3 = .bool false)
        refine on_ ((wanted_by rfl rfl eg).trans rfl) ?_
        have e18 : F.eval (.tmp 18) = .bool false := (hat 13 18 (of_decide_eq_true (by kernel_rfl)) rfl).trans (hp ⟨13, .data⟩ (by simp) rfl : U 13 = .bool false)
        exact wp_move' (.tmp 18) rfl ⟨_, rfl, e18, hGW, hrefl W⟩
      | 15 =>
        injection (show some _ = some o from ho) with ho
        subst ho
        have eg : F.eval (.tmp 19) = .bool false := (hat 14 19 (of_decide_eq_true (by kernel_rfl)) rfl).trans (hp ⟨14, .guard⟩ (by simp) rfl : U 14 = .bool false)
        exact off_ (W := W) ((wanted_by rfl rfl eg).trans rfl) rfl
      | 16 =>
        injection (show some _ = some o from ho) with ho
        subst ho
        have eg : F.eval (.tmp 19) = .bool false := (hat 14 19 (of_decide_eq_true (by kernel_rfl)) rfl).trans (hp ⟨14, .guard⟩ (by simp) rfl : U 14 = .bool false)
        exact off_ (W := W) ((wanted_by rfl rfl eg).trans rfl) rfl
      | 17 =>
        injection (show some _ = some o from ho) with ho
        subst ho
        have eg : F.eval (.tmp 19) = .bool false := (hat 14 19 (of_decide_eq_true (by kernel_rfl)) rfl).trans (hp ⟨14, .guard⟩ (by simp) rfl : U 14 = .bool false)
        exact off_ (W := W) ((wanted_by rfl rfl eg).trans rfl) rfl
      | 18 =>
        injection (show some _ = some o from ho) with ho
        subst ho
        have eg : F.eval (.tmp 19) = .bool false := (hat 14 19 (of_decide_eq_true (by kernel_rfl)) rfl).trans (hp ⟨14, .guard⟩ (by simp) rfl : U 14 = .bool false)
        exact off_ (W := W) ((wanted_by rfl rfl eg).trans rfl) rfl
      | 19 =>
        injection (show some _ = some o from ho) with ho
        subst ho
        have eg : F.eval (.tmp 19) = .bool false := (hat 14 19 (of_decide_eq_true (by kernel_rfl)) rfl).trans (hp ⟨14, .guard⟩ (by simp) rfl : U 14 = .bool false)
        exact off_ (W := W) ((wanted_by rfl rfl eg).trans rfl) rfl
      | 20 =>
        injection (show some _ = some o from ho) with ho
        subst ho
        have eg : F.eval (.tmp 19) = .bool false := (hat 14 19 (of_decide_eq_true (by kernel_rfl)) rfl).trans (hp ⟨14, .guard⟩ (by simp) rfl : U 14 = .bool false)
        exact off_ (W := W) ((wanted_by rfl rfl eg).trans rfl) rfl
      | 21 =>
        injection (show some _ = some o from ho) with ho
        subst ho
        have eg : F.eval (.tmp 19) = .bool false := (hat 14 19 (of_decide_eq_true (by kernel_rfl)) rfl).trans (hp ⟨14, .guard⟩ (by simp) rfl : U 14 = .bool false)
        exact off_ (W := W) ((wanted_by rfl rfl eg).trans rfl) rfl
      | 22 =>
        injection (show some _ = some o from ho) with ho
        subst ho
        have eg : F.eval (.tmp 19) = .bool false := (hat 14 19 (of_decide_eq_true (by kernel_rfl)) rfl).trans (hp ⟨14, .guard⟩ (by simp) rfl : U 14 = .bool false)
        exact off_ (W := W) ((wanted_by rfl rfl eg).trans rfl) rfl
      | 23 =>
        injection (show some _ = some o from ho) with ho
        subst ho
        have eg : F.eval (.tmp 19) = .bool false := (hat 14 19 (of_decide_eq_true (by kernel_rfl)) rfl).trans (hp ⟨14, .guard⟩ (by simp) rfl : U 14 = .bool false)
        exact off_ (W := W) ((wanted_by rfl rfl eg).trans rfl) rfl
      | 24 =>
        injection (show some _ = some o from ho) with ho
        subst ho
        have eg : F.eval (.tmp 8) = .bool false := (hat 3 8 (of_decide_eq_true (by kernel_rfl)) rfl).trans (hp ⟨3, .guard⟩ (by simp) rfl : U 3 = .bool false)
        refine on_ ((wanted_by rfl rfl eg).trans rfl) ?_
        have e19 : F.eval (.tmp 19) = .bool false := (hat 14 19 (of_decide_eq_true (by kernel_rfl)) rfl).trans (hp ⟨14, .data⟩ (by simp) rfl : U 14 = .bool false)
        have t19 := act_tmp e19
        have e28 : F.eval (.tmp 28) = undef := (hat 23 28 (of_decide_eq_true (by kernel_rfl)) rfl).trans (hp ⟨23, .data⟩ (by simp) rfl : U 23 = undef)
        have t28 := act_tmp e28
        clear hat hoff hp
        exact wp_value' (.bool false) W (by unfold execOp; go_simp; all_goals first | omega | exact IntWalk.i64_in _ (by omega)) ⟨_, rfl, rfl, hGW, hrefl W⟩
      | 25 =>
        injection (show some _ = some o from ho) with ho
        subst ho
        refine on_ (wanted_none rfl) ?_
        have e8 : F.eval (.tmp 8) = .bool false := (hat 3 8 (of_decide_eq_true (by kernel_rfl)) rfl).trans (hp ⟨3, .data⟩ (by simp) rfl : U 3 = .bool false)
        have t8 := act_tmp e8
        have e29 : F.eval (.tmp 29) = .bool false := (hat 24 29 (of_decide_eq_true (by kernel_rfl)) rfl).trans (hp ⟨24, .data⟩ (by simp) rfl : U 24 = .bool false)
        have t29 := act_tmp e29
        clear hat hoff hp
        exact wp_value' (.bool false) W (by unfold execOp; go_simp; all_goals first | omega | exact IntWalk.i64_in _ (by omega)) ⟨_, rfl, rfl, hGW, hrefl W⟩
      | 26 =>
        injection (show some _ = some o from ho) with ho
        subst ho
        refine on_ (wanted_none rfl) ?_
        have e30 : F.eval (.tmp 30) = .bool false := (hat 25 30 (of_decide_eq_true (by kernel_rfl)) rfl).trans (hp ⟨25, .data⟩ (by simp) rfl : U 25 = .bool false)
        exact wp_assign' (.tmp 30) rfl ⟨_, rfl, e30, hGW, hrefl W⟩
      | i + 27 => exact absurd ho (by simp)
  case hend =>
    intro U W hGW hV
    have hx : U 26 = .bool false := hV 26 (of_decide_eq_true (by kernel_rfl))
    have HG := Lib.hid hGW.1
    have HX := Lib.hid hx
    clear hV hGW hx
    simp [putU, dstAt, Act.put, HX.out]
    go_wp2
    go_ret
    exact ⟨rfl, HG.out⟩

set_option maxRecDepth 100000 in
set_option maxHeartbeats 4000000 in
theorem rhas_high {A : Option Addr} {n cap : Nat} {N E : Int} (w : World) (hN : 1 ≤ N) (hNn : (n : Int) < N) :
    Calls Try.prog 65 #[.slice A n cap, .agg #[.int .i64 N, .int .i64 E]] w fun x w' => x = .returned (.bool false) ∧ Below w.heap.size w w' := by
  have hba : Below w.heap.size w (w.alloc (.cells #[.int .i64 N, .int .i64 E] 26)) := (Below.refl _ _).alloc (Nat.le_refl _) _
  have HBA := Lib.hid hba
  have HBK := Lib.hid (Blk.new w 26 #[.int .i64 N, .int .i64 E])
  clear hba
  go_enter Try.func65, Try.ntmps65
  go_wp2_with fail
  refine wp_region_all (by kernel_rfl) (fun i v W => match i with | 0 => v = .agg #[.int .i64 N, .int .i64 E] | 1 => v = .agg #[.int .i64 0, .int .i64 0] | 2 => v = .bool false | 3 => v = .bool false | 4 => v = .pointer (some ⟨w.heap.size, 0, none⟩) | 5 => v = .int .i64 N | 6 => v = .bool true | 7 => v = .bool true | 8 => v = .pointer (some ⟨w.heap.size, 0, none⟩) | 9 => v = .int .i64 N | 10 => v = .slice A n cap | 11 => v = .int .i64 (n : Nat) | 12 => v = .bool false | 13 => v = .bool false | 14 => v = .bool false | 15 => v = undef | 16 => v = undef | 17 => v = undef | 18 => v = undef | 19 => v = undef | 20 => v = undef | 21 => v = undef | 22 => v = undef | 23 => v = undef | 24 => v = .bool false | 25 => v = .bool false | 26 => v = .bool false | _ => True) (fun W => Below w.heap.size w W ∧ Blk W w.heap.size 26 #[.int .i64 N, .int .i64 E]) (fun W W' => Below W.heap.size W W') (by kernel_rfl) ?hG ?hmono ?hstep ?hend
  case hG => exact ⟨HBA.out.drew, HBK.out.drew⟩
  case hmono =>
    intro i v W W' hx hv
    match i with
    | 0 | 1 | 2 | 3 | 4 | 5 | 6 | 7 | 8 | 9 | 10 | 11 | 12 | 13 | 14 | 15 | 16 | 17 | 18 | 19 | 20 | 21 | 22 | 23 | 24 | 25 | 26 => exact hv
    | i + 27 => exact hv
  case hstep =>
    intro i o F U W ho hGW hat hoff hp
    have hrefl := fun W : World => Below.refl W.heap.size W
    match i with
      | 0 =>
        injection (show some _ = some o from ho) with ho
        subst ho
        refine on_ (wanted_none rfl) ?_
        have e3 : F.eval (.tmp 3) = .pointer (some ⟨w.heap.size, 0, none⟩) := (hoff 3 (of_decide_eq_true (by kernel_rfl))).trans rfl
        have t3 := act_tmp e3
        clear hat hoff hp
        have d0 := hGW.2.cell 0
        have d1 := hGW.2.cell 1
        simp at d0 d1
        exact wp_value' (.agg #[.int .i64 N, .int .i64 E]) W (by unfold execOp; go_simp; all_goals first | omega | exact IntWalk.i64_in _ (by omega)) ⟨_, rfl, rfl, hGW, hrefl W⟩
      | 1 =>
        injection (show some _ = some o from ho) with ho
        subst ho
        refine on_ (wanted_none rfl) ?_
        clear hat hoff hp
        exact wp_value' (.agg #[.int .i64 0, .int .i64 0]) W (by unfold execOp; go_simp; all_goals first | omega | exact IntWalk.i64_in _ (by omega)) ⟨_, rfl, rfl, hGW, hrefl W⟩
      | 2 =>
        injection (show some _ = some o from ho) with ho
        subst ho
        refine on_ (wanted_none rfl) ?_
        have e5 : F.eval (.tmp 5) = .agg #[.int .i64 N, .int .i64 E] := (hat 0 5 (of_decide_eq_true (by kernel_rfl)) rfl).trans (hp ⟨0, .data⟩ (by simp) rfl : U 0 = .agg #[.int .i64 N, .int .i64 E])
        have t5 := act_tmp e5
        have e6 : F.eval (.tmp 6) = .agg #[.int .i64 0, .int .i64 0] := (hat 1 6 (of_decide_eq_true (by kernel_rfl)) rfl).trans (hp ⟨1, .data⟩ (by simp) rfl : U 1 = .agg #[.int .i64 0, .int .i64 0])
        have t6 := act_tmp e6
        clear hat hoff hp
        exact wp_value' (.bool false) W (by unfold execOp; go_simp; all_goals (by_cases q1 : N = 0 <;> by_cases q2 : E = 0 <;> first | omega | simp_all)) ⟨_, rfl, rfl, hGW, hrefl W⟩
      | 3 =>
        injection (show some _ = some o from ho) with ho
        subst ho
        refine on_ (wanted_none rfl) ?_
        have e7 : F.eval (.tmp 7) = .bool false := (hat 2 7 (of_decide_eq_true (by kernel_rfl)) rfl).trans (hp ⟨2, .data⟩ (by simp) rfl : U 2 = .bool false)
        exact wp_move' (.tmp 7) rfl ⟨_, rfl, e7, hGW, hrefl W⟩
      | 4 =>
        injection (show some _ = some o from ho) with ho
        subst ho
        have eg : F.eval (.tmp 8) = .bool false := (hat 3 8 (of_decide_eq_true (by kernel_rfl)) rfl).trans (hp ⟨3, .guard⟩ (by simp) rfl : U 3 = .bool false)
        refine on_ ((wanted_by rfl rfl eg).trans rfl) ?_
        have e3 : F.eval (.tmp 3) = .pointer (some ⟨w.heap.size, 0, none⟩) := (hoff 3 (of_decide_eq_true (by kernel_rfl))).trans rfl
        have t3 := act_tmp e3
        clear hat hoff hp
        exact wp_value' (.pointer (some ⟨w.heap.size, 0, none⟩)) W (by unfold execOp; go_simp; all_goals first | omega | exact IntWalk.i64_in _ (by omega)) ⟨_, rfl, rfl, hGW, hrefl W⟩
      | 5 =>
        injection (show some _ = some o from ho) with ho
        subst ho
        have eg : F.eval (.tmp 8) = .bool false := (hat 3 8 (of_decide_eq_true (by kernel_rfl)) rfl).trans (hp ⟨3, .guard⟩ (by simp) rfl : U 3 = .bool false)
        refine on_ ((wanted_by rfl rfl eg).trans rfl) ?_
        have e9 : F.eval (.tmp 9) = .pointer (some ⟨w.heap.size, 0, none⟩) := (hat 4 9 (of_decide_eq_true (by kernel_rfl)) rfl).trans (hp ⟨4, .data⟩ (by simp) rfl : U 4 = .pointer (some ⟨w.heap.size, 0, none⟩))
        have t9 := act_tmp e9
        clear hat hoff hp
        have d0 := hGW.2.cell 0
        simp at d0
        exact wp_value' (.int .i64 N) W (by unfold execOp; go_simp; all_goals first | omega | exact IntWalk.i64_in _ (by omega)) ⟨_, rfl, rfl, hGW, hrefl W⟩
      | 6 =>
        injection (show some _ = some o from ho) with ho
        subst ho
        have eg : F.eval (.tmp 8) = .bool false := (hat 3 8 (of_decide_eq_true (by kernel_rfl)) rfl).trans (hp ⟨3, .guard⟩ (by simp) rfl : U 3 = .bool false)
        refine on_ ((wanted_by rfl rfl eg).trans rfl) ?_
        have e10 : F.eval (.tmp 10) = .int .i64 N := (hat 5 10 (of_decide_eq_true (by kernel_rfl)) rfl).trans (hp ⟨5, .data⟩ (by simp) rfl : U 5 = .int .i64 N)
        have t10 := act_tmp e10
        clear hat hoff hp
        exact wp_value' (.bool true) W (by unfold execOp; go_simp; all_goals first | omega | exact IntWalk.i64_in _ (by omega)) ⟨_, rfl, rfl, hGW, hrefl W⟩
      | 7 =>
        injection (show some _ = some o from ho) with ho
        subst ho
        have eg : F.eval (.tmp 8) = .bool false := (hat 3 8 (of_decide_eq_true (by kernel_rfl)) rfl).trans (hp ⟨3, .guard⟩ (by simp) rfl : U 3 = .bool false)
        refine on_ ((wanted_by rfl rfl eg).trans rfl) ?_
        have e11 : F.eval (.tmp 11) = .bool true := (hat 6 11 (of_decide_eq_true (by kernel_rfl)) rfl).trans (hp ⟨6, .data⟩ (by simp) rfl : U 6 = .bool true)
        exact wp_move' (.tmp 11) rfl ⟨_, rfl, e11, hGW, hrefl W⟩
      | 8 =>
        injection (show some _ = some o from ho) with ho
        subst ho
        have eg : F.eval (.tmp 12) = .bool true := (hat 7 12 (of_decide_eq_true (by kernel_rfl)) rfl).trans (hp ⟨7, .guard⟩ (by simp) rfl : U 7 = .bool true)
        refine on_ ((wanted_by rfl rfl eg).trans rfl) ?_
        have e3 : F.eval (.tmp 3) = .pointer (some ⟨w.heap.size, 0, none⟩) := (hoff 3 (of_decide_eq_true (by kernel_rfl))).trans rfl
        have t3 := act_tmp e3
        clear hat hoff hp
        exact wp_value' (.pointer (some ⟨w.heap.size, 0, none⟩)) W (by unfold execOp; go_simp; all_goals first | omega | exact IntWalk.i64_in _ (by omega)) ⟨_, rfl, rfl, hGW, hrefl W⟩
      | 9 =>
        injection (show some _ = some o from ho) with ho
        subst ho
        have eg : F.eval (.tmp 12) = .bool true := (hat 7 12 (of_decide_eq_true (by kernel_rfl)) rfl).trans (hp ⟨7, .guard⟩ (by simp) rfl : U 7 = .bool true)
        refine on_ ((wanted_by rfl rfl eg).trans rfl) ?_
        have e13 : F.eval (.tmp 13) = .pointer (some ⟨w.heap.size, 0, none⟩) := (hat 8 13 (of_decide_eq_true (by kernel_rfl)) rfl).trans (hp ⟨8, .data⟩ (by simp) rfl : U 8 = .pointer (some ⟨w.heap.size, 0, none⟩))
        have t13 := act_tmp e13
        clear hat hoff hp
        have d0 := hGW.2.cell 0
        simp at d0
        exact wp_value' (.int .i64 N) W (by unfold execOp; go_simp; all_goals first | omega | exact IntWalk.i64_in _ (by omega)) ⟨_, rfl, rfl, hGW, hrefl W⟩
      | 10 =>
        injection (show some _ = some o from ho) with ho
        subst ho
        have eg : F.eval (.tmp 12) = .bool true := (hat 7 12 (of_decide_eq_true (by kernel_rfl)) rfl).trans (hp ⟨7, .guard⟩ (by simp) rfl : U 7 = .bool true)
        refine on_ ((wanted_by rfl rfl eg).trans rfl) ?_
        have e0 : F.eval (.tmp 0) = .slice A n cap := (hoff 0 (of_decide_eq_true (by kernel_rfl))).trans rfl
        exact wp_move' (.tmp 0) rfl ⟨_, rfl, e0, hGW, hrefl W⟩
      | 11 =>
        injection (show some _ = some o from ho) with ho
        subst ho
        have eg : F.eval (.tmp 12) = .bool true := (hat 7 12 (of_decide_eq_true (by kernel_rfl)) rfl).trans (hp ⟨7, .guard⟩ (by simp) rfl : U 7 = .bool true)
        refine on_ ((wanted_by rfl rfl eg).trans rfl) ?_
        have e15 : F.eval (.tmp 15) = .slice A n cap := (hat 10 15 (of_decide_eq_true (by kernel_rfl)) rfl).trans (hp ⟨10, .data⟩ (by simp) rfl : U 10 = .slice A n cap)
        have t15 := act_tmp e15
        clear hat hoff hp
        exact wp_value' (.int .i64 (n : Nat)) W (by unfold execOp; go_simp; all_goals first | omega | exact IntWalk.i64_in _ (by omega)) ⟨_, rfl, rfl, hGW, hrefl W⟩
      | 12 =>
        injection (show some _ = some o from ho) with ho
        subst ho
        have eg : F.eval (.tmp 12) = .bool true := (hat 7 12 (of_decide_eq_true (by kernel_rfl)) rfl).trans (hp ⟨7, .guard⟩ (by simp) rfl : U 7 = .bool true)
        refine on_ ((wanted_by rfl rfl eg).trans rfl) ?_
        have e14 : F.eval (.tmp 14) = .int .i64 N := (hat 9 14 (of_decide_eq_true (by kernel_rfl)) rfl).trans (hp ⟨9, .data⟩ (by simp) rfl : U 9 = .int .i64 N)
        have t14 := act_tmp e14
        have e16 : F.eval (.tmp 16) = .int .i64 (n : Nat) := (hat 11 16 (of_decide_eq_true (by kernel_rfl)) rfl).trans (hp ⟨11, .data⟩ (by simp) rfl : U 11 = .int .i64 (n : Nat))
        have t16 := act_tmp e16
        clear hat hoff hp
        exact wp_value' (.bool false) W (by unfold execOp; go_simp; all_goals first | omega | exact IntWalk.i64_in _ (by omega)) ⟨_, rfl, rfl, hGW, hrefl W⟩
      | 13 =>
        injection (show some _ = some o from ho) with ho
        subst ho
        have eg : F.eval (.tmp 8) = .bool false := (hat 3 8 (of_decide_eq_true (by kernel_rfl)) rfl).trans (hp ⟨3, .guard⟩ (by simp) rfl : U 3 = .bool false)
        refine on_ ((wanted_by rfl rfl eg).trans rfl) ?_
        have e12 : F.eval (.tmp 12) = .bool true := (hat 7 12 (of_decide_eq_true (by kernel_rfl)) rfl).trans (hp ⟨7, .data⟩ (by simp) rfl : U 7 = .bool true)
        have t12 := act_tmp e12
        have e17 : F.eval (.tmp 17) = .bool false := (hat 12 17 (of_decide_eq_true (by kernel_rfl)) rfl).trans (hp ⟨12, .data⟩ (by simp) rfl : U 12 = .bool false)
        have t17 := act_tmp e17
        clear hat hoff hp
        exact wp_value' (.bool false) W (by unfold execOp; go_simp; all_goals first | omega | exact IntWalk.i64_in _ (by omega)) ⟨_, rfl, rfl, hGW, hrefl W⟩
      | 14 =>
        injection (show some _ = some o from ho) with ho
        subst ho
        have eg : F.eval (.tmp 8) = .bool false := (hat 3 8 (of_decide_eq_true (by kernel_rfl)) rfl).trans (hp ⟨3, .guard⟩ (by simp) rfl : U 3 = .bool false)
        refine on_ ((wanted_by rfl rfl eg).trans rfl) ?_
        have e18 : F.eval (.tmp 18) = .bool false := (hat 13 18 (of_decide_eq_true (by kernel_rfl)) rfl).trans (hp ⟨13, .data⟩ (by simp) rfl : U 13 = .bool false)
        exact wp_move' (.tmp 18) rfl ⟨_, rfl, e18, hGW, hrefl W⟩
      | 15 =>
        injection (show some _ = some o from ho) with ho
        subst ho
        have eg : F.eval (.tmp 19) = .bool false := (hat 14 19 (of_decide_eq_true (by kernel_rfl)) rfl).trans (hp ⟨14, .guard⟩ (by simp) rfl : U 14 = .bool false)
        exact off_ (W := W) ((wanted_by rfl rfl eg).trans rfl) rfl
      | 16 =>
        injection (show some _ = some o from ho) with ho
        subst ho
        have eg : F.eval (.tmp 19) = .bool false := (hat 14 19 (of_decide_eq_true (by kernel_rfl)) rfl).trans (hp ⟨14, .guard⟩ (by simp) rfl : U 14 = .bool false)
        exact off_ (W := W) ((wanted_by rfl rfl eg).trans rfl) rfl
      | 17 =>
        injection (show some _ = some o from ho) with ho
        subst ho
        have eg : F.eval (.tmp 19) = .bool false := (hat 14 19 (of_decide_eq_true (by kernel_rfl)) rfl).trans (hp ⟨14, .guard⟩ (by simp) rfl : U 14 = .bool false)
        exact off_ (W := W) ((wanted_by rfl rfl eg).trans rfl) rfl
      | 18 =>
        injection (show some _ = some o from ho) with ho
        subst ho
        have eg : F.eval (.tmp 19) = .bool false := (hat 14 19 (of_decide_eq_true (by kernel_rfl)) rfl).trans (hp ⟨14, .guard⟩ (by simp) rfl : U 14 = .bool false)
        exact off_ (W := W) ((wanted_by rfl rfl eg).trans rfl) rfl
      | 19 =>
        injection (show some _ = some o from ho) with ho
        subst ho
        have eg : F.eval (.tmp 19) = .bool false := (hat 14 19 (of_decide_eq_true (by kernel_rfl)) rfl).trans (hp ⟨14, .guard⟩ (by simp) rfl : U 14 = .bool false)
        exact off_ (W := W) ((wanted_by rfl rfl eg).trans rfl) rfl
      | 20 =>
        injection (show some _ = some o from ho) with ho
        subst ho
        have eg : F.eval (.tmp 19) = .bool false := (hat 14 19 (of_decide_eq_true (by kernel_rfl)) rfl).trans (hp ⟨14, .guard⟩ (by simp) rfl : U 14 = .bool false)
        exact off_ (W := W) ((wanted_by rfl rfl eg).trans rfl) rfl
      | 21 =>
        injection (show some _ = some o from ho) with ho
        subst ho
        have eg : F.eval (.tmp 19) = .bool false := (hat 14 19 (of_decide_eq_true (by kernel_rfl)) rfl).trans (hp ⟨14, .guard⟩ (by simp) rfl : U 14 = .bool false)
        exact off_ (W := W) ((wanted_by rfl rfl eg).trans rfl) rfl
      | 22 =>
        injection (show some _ = some o from ho) with ho
        subst ho
        have eg : F.eval (.tmp 19) = .bool false := (hat 14 19 (of_decide_eq_true (by kernel_rfl)) rfl).trans (hp ⟨14, .guard⟩ (by simp) rfl : U 14 = .bool false)
        exact off_ (W := W) ((wanted_by rfl rfl eg).trans rfl) rfl
      | 23 =>
        injection (show some _ = some o from ho) with ho
        subst ho
        have eg : F.eval (.tmp 19) = .bool false := (hat 14 19 (of_decide_eq_true (by kernel_rfl)) rfl).trans (hp ⟨14, .guard⟩ (by simp) rfl : U 14 = .bool false)
        exact off_ (W := W) ((wanted_by rfl rfl eg).trans rfl) rfl
      | 24 =>
        injection (show some _ = some o from ho) with ho
        subst ho
        have eg : F.eval (.tmp 8) = .bool false := (hat 3 8 (of_decide_eq_true (by kernel_rfl)) rfl).trans (hp ⟨3, .guard⟩ (by simp) rfl : U 3 = .bool false)
        refine on_ ((wanted_by rfl rfl eg).trans rfl) ?_
        have e19 : F.eval (.tmp 19) = .bool false := (hat 14 19 (of_decide_eq_true (by kernel_rfl)) rfl).trans (hp ⟨14, .data⟩ (by simp) rfl : U 14 = .bool false)
        have t19 := act_tmp e19
        have e28 : F.eval (.tmp 28) = undef := (hat 23 28 (of_decide_eq_true (by kernel_rfl)) rfl).trans (hp ⟨23, .data⟩ (by simp) rfl : U 23 = undef)
        have t28 := act_tmp e28
        clear hat hoff hp
        exact wp_value' (.bool false) W (by unfold execOp; go_simp; all_goals first | omega | exact IntWalk.i64_in _ (by omega)) ⟨_, rfl, rfl, hGW, hrefl W⟩
      | 25 =>
        injection (show some _ = some o from ho) with ho
        subst ho
        refine on_ (wanted_none rfl) ?_
        have e8 : F.eval (.tmp 8) = .bool false := (hat 3 8 (of_decide_eq_true (by kernel_rfl)) rfl).trans (hp ⟨3, .data⟩ (by simp) rfl : U 3 = .bool false)
        have t8 := act_tmp e8
        have e29 : F.eval (.tmp 29) = .bool false := (hat 24 29 (of_decide_eq_true (by kernel_rfl)) rfl).trans (hp ⟨24, .data⟩ (by simp) rfl : U 24 = .bool false)
        have t29 := act_tmp e29
        clear hat hoff hp
        exact wp_value' (.bool false) W (by unfold execOp; go_simp; all_goals first | omega | exact IntWalk.i64_in _ (by omega)) ⟨_, rfl, rfl, hGW, hrefl W⟩
      | 26 =>
        injection (show some _ = some o from ho) with ho
        subst ho
        refine on_ (wanted_none rfl) ?_
        have e30 : F.eval (.tmp 30) = .bool false := (hat 25 30 (of_decide_eq_true (by kernel_rfl)) rfl).trans (hp ⟨25, .data⟩ (by simp) rfl : U 25 = .bool false)
        exact wp_assign' (.tmp 30) rfl ⟨_, rfl, e30, hGW, hrefl W⟩
      | i + 27 => exact absurd ho (by simp)
  case hend =>
    intro U W hGW hV
    have hx : U 26 = .bool false := hV 26 (of_decide_eq_true (by kernel_rfl))
    have HG := Lib.hid hGW.1
    have HX := Lib.hid hx
    clear hV hGW hx
    simp [putU, dstAt, Act.put, HX.out]
    go_wp2
    go_ret
    exact ⟨rfl, HG.out⟩

set_option maxRecDepth 100000 in
set_option maxHeartbeats 4000000 in
theorem rhas_no {ad : Addr} {n cap k : Nat} {E : Int} {hA : Option Addr} {hn hc : Nat} (c : OpC) (w : World) (hk : k < n) (hz : n ≤ 4294967296) (hab : (ad.add (k * 9)).block < w.heap.size) (hop : OpAt w (ad.add (k * 9)) (c.at_ hA hn hc)) (hne : ¬ (c.n = (k : Int) + 1 ∧ c.epoch = E)) :
    Calls Try.prog 65 #[.slice (some ad) n cap, .agg #[.int .i64 ((k : Int) + 1), .int .i64 E]] w fun x w' => x = .returned (.bool false) ∧ Below w.heap.size w w' := by
  have hba : Below w.heap.size w (w.alloc (.cells #[.int .i64 ((k : Int) + 1), .int .i64 E] 26)) := (Below.refl _ _).alloc (Nat.le_refl _) _
  have HBA := Lib.hid hba
  have HBK := Lib.hid (Blk.new w 26 #[.int .i64 ((k : Int) + 1), .int .i64 E])
  clear hba
  obtain ⟨x1, x2, x3, x4, x5, x6, x7, x8, x9⟩ := c
  simp only [OpC.at_] at hop hne
  have HP := Lib.hid hop
  have HAB := Lib.hid hab
  clear hop hab
  have b1 : (0 : Int) ≤ (k : Int) := by omega
  have b2 : (k : Int) < (n : Int) := by omega
  go_enter Try.func65, Try.ntmps65
  go_wp2_with fail
  refine wp_region_all (by kernel_rfl) (fun i v W => match i with | 0 => v = .agg #[.int .i64 ((k : Int) + 1), .int .i64 E] | 1 => v = .agg #[.int .i64 0, .int .i64 0] | 2 => v = .bool false | 3 => v = .bool false | 4 => v = .pointer (some ⟨w.heap.size, 0, none⟩) | 5 => v = .int .i64 ((k : Int) + 1) | 6 => v = .bool true | 7 => v = .bool true | 8 => v = .pointer (some ⟨w.heap.size, 0, none⟩) | 9 => v = .int .i64 ((k : Int) + 1) | 10 => v = .slice (some ad) n cap | 11 => v = .int .i64 (n : Nat) | 12 => v = .bool true | 13 => v = .bool true | 14 => v = .bool true | 15 => v = .slice (some ad) n cap | 16 => v = .pointer (some ⟨w.heap.size, 0, none⟩) | 17 => v = .int .i64 ((k : Int) + 1) | 18 => v = .int .i64 (k : Nat) | 19 => v = .pointer (some (ad.add (k * 9))) | 20 => v = .agg #[.int .i64 x1, .int .i64 x2, .int .i64 x3, .int .i64 x4, .int .i64 x5, .int .i64 x6, .string x7, .int .i64 x8, .slice hA hn hc] | 21 => v = .agg #[.int .i64 x1, .int .i64 x2] | 22 => v = .agg #[.int .i64 ((k : Int) + 1), .int .i64 E] | 23 => v = .bool false | 24 => v = .bool false | 25 => v = .bool false | 26 => v = .bool false | _ => True) (fun W => Below w.heap.size w W ∧ Blk W w.heap.size 26 #[.int .i64 ((k : Int) + 1), .int .i64 E]) (fun W W' => Below W.heap.size W W') (by kernel_rfl) ?hG ?hmono ?hstep ?hend
  case hG => exact ⟨HBA.out.drew, HBK.out.drew⟩
  case hmono =>
    intro i v W W' hx hv
    match i with
    | 0 | 1 | 2 | 3 | 4 | 5 | 6 | 7 | 8 | 9 | 10 | 11 | 12 | 13 | 14 | 15 | 16 | 17 | 18 | 19 | 20 | 21 | 22 | 23 | 24 | 25 | 26 => exact hv
    | i + 27 => exact hv
  case hstep =>
    intro i o F U W ho hGW hat hoff hp
    have hrefl := fun W : World => Below.refl W.heap.size W
    match i with
      | 0 =>
        injection (show some _ = some o from ho) with ho
        subst ho
        refine on_ (wanted_none rfl) ?_
        have e3 : F.eval (.tmp 3) = .pointer (some ⟨w.heap.size, 0, none⟩) := (hoff 3 (of_decide_eq_true (by kernel_rfl))).trans rfl
        have t3 := act_tmp e3
        clear hat hoff hp
        have d0 := hGW.2.cell 0
        have d1 := hGW.2.cell 1
        simp at d0 d1
        exact wp_value' (.agg #[.int .i64 ((k : Int) + 1), .int .i64 E]) W (by unfold execOp; go_simp; all_goals first | omega | exact IntWalk.i64_in _ (by omega)) ⟨_, rfl, rfl, hGW, hrefl W⟩
      | 1 =>
        injection (show some _ = some o from ho) with ho
        subst ho
        refine on_ (wanted_none rfl) ?_
        clear hat hoff hp
        exact wp_value' (.agg #[.int .i64 0, .int .i64 0]) W (by unfold execOp; go_simp; all_goals first | omega | exact IntWalk.i64_in _ (by omega)) ⟨_, rfl, rfl, hGW, hrefl W⟩
      | 2 =>
        injection (show some _ = some o from ho) with ho
        subst ho
        refine on_ (wanted_none rfl) ?_
        have e5 : F.eval (.tmp 5) = .agg #[.int .i64 ((k : Int) + 1), .int .i64 E] := (hat 0 5 (of_decide_eq_true (by kernel_rfl)) rfl).trans (hp ⟨0, .data⟩ (by simp) rfl : U 0 = .agg #[.int .i64 ((k : Int) + 1), .int .i64 E])
        have t5 := act_tmp e5
        have e6 : F.eval (.tmp 6) = .agg #[.int .i64 0, .int .i64 0] := (hat 1 6 (of_decide_eq_true (by kernel_rfl)) rfl).trans (hp ⟨1, .data⟩ (by simp) rfl : U 1 = .agg #[.int .i64 0, .int .i64 0])
        have t6 := act_tmp e6
        clear hat hoff hp
        exact wp_value' (.bool false) W (by unfold execOp; go_simp; all_goals (by_cases q1 : ((k : Int) + 1) = 0 <;> by_cases q2 : E = 0 <;> first | omega | simp_all)) ⟨_, rfl, rfl, hGW, hrefl W⟩
      | 3 =>
        injection (show some _ = some o from ho) with ho
        subst ho
        refine on_ (wanted_none rfl) ?_
        have e7 : F.eval (.tmp 7) = .bool false := (hat 2 7 (of_decide_eq_true (by kernel_rfl)) rfl).trans (hp ⟨2, .data⟩ (by simp) rfl : U 2 = .bool false)
        exact wp_move' (.tmp 7) rfl ⟨_, rfl, e7, hGW, hrefl W⟩
      | 4 =>
        injection (show some _ = some o from ho) with ho
        subst ho
        have eg : F.eval (.tmp 8) = .bool false := (hat 3 8 (of_decide_eq_true (by kernel_rfl)) rfl).trans (hp ⟨3, .guard⟩ (by simp) rfl : U 3 = .bool false)
        refine on_ ((wanted_by rfl rfl eg).trans rfl) ?_
        have e3 : F.eval (.tmp 3) = .pointer (some ⟨w.heap.size, 0, none⟩) := (hoff 3 (of_decide_eq_true (by kernel_rfl))).trans rfl
        have t3 := act_tmp e3
        clear hat hoff hp
        exact wp_value' (.pointer (some ⟨w.heap.size, 0, none⟩)) W (by unfold execOp; go_simp; all_goals first | omega | exact IntWalk.i64_in _ (by omega)) ⟨_, rfl, rfl, hGW, hrefl W⟩
      | 5 =>
        injection (show some _ = some o from ho) with ho
        subst ho
        have eg : F.eval (.tmp 8) = .bool false := (hat 3 8 (of_decide_eq_true (by kernel_rfl)) rfl).trans (hp ⟨3, .guard⟩ (by simp) rfl : U 3 = .bool false)
        refine on_ ((wanted_by rfl rfl eg).trans rfl) ?_
        have e9 : F.eval (.tmp 9) = .pointer (some ⟨w.heap.size, 0, none⟩) := (hat 4 9 (of_decide_eq_true (by kernel_rfl)) rfl).trans (hp ⟨4, .data⟩ (by simp) rfl : U 4 = .pointer (some ⟨w.heap.size, 0, none⟩))
        have t9 := act_tmp e9
        clear hat hoff hp
        have d0 := hGW.2.cell 0
        simp at d0
        exact wp_value' (.int .i64 ((k : Int) + 1)) W (by unfold execOp; go_simp; all_goals first | omega | exact IntWalk.i64_in _ (by omega)) ⟨_, rfl, rfl, hGW, hrefl W⟩
      | 6 =>
        injection (show some _ = some o from ho) with ho
        subst ho
        have eg : F.eval (.tmp 8) = .bool false := (hat 3 8 (of_decide_eq_true (by kernel_rfl)) rfl).trans (hp ⟨3, .guard⟩ (by simp) rfl : U 3 = .bool false)
        refine on_ ((wanted_by rfl rfl eg).trans rfl) ?_
        have e10 : F.eval (.tmp 10) = .int .i64 ((k : Int) + 1) := (hat 5 10 (of_decide_eq_true (by kernel_rfl)) rfl).trans (hp ⟨5, .data⟩ (by simp) rfl : U 5 = .int .i64 ((k : Int) + 1))
        have t10 := act_tmp e10
        clear hat hoff hp
        exact wp_value' (.bool true) W (by unfold execOp; go_simp; all_goals first | omega | exact IntWalk.i64_in _ (by omega)) ⟨_, rfl, rfl, hGW, hrefl W⟩
      | 7 =>
        injection (show some _ = some o from ho) with ho
        subst ho
        have eg : F.eval (.tmp 8) = .bool false := (hat 3 8 (of_decide_eq_true (by kernel_rfl)) rfl).trans (hp ⟨3, .guard⟩ (by simp) rfl : U 3 = .bool false)
        refine on_ ((wanted_by rfl rfl eg).trans rfl) ?_
        have e11 : F.eval (.tmp 11) = .bool true := (hat 6 11 (of_decide_eq_true (by kernel_rfl)) rfl).trans (hp ⟨6, .data⟩ (by simp) rfl : U 6 = .bool true)
        exact wp_move' (.tmp 11) rfl ⟨_, rfl, e11, hGW, hrefl W⟩
      | 8 =>
        injection (show some _ = some o from ho) with ho
        subst ho
        have eg : F.eval (.tmp 12) = .bool true := (hat 7 12 (of_decide_eq_true (by kernel_rfl)) rfl).trans (hp ⟨7, .guard⟩ (by simp) rfl : U 7 = .bool true)
        refine on_ ((wanted_by rfl rfl eg).trans rfl) ?_
        have e3 : F.eval (.tmp 3) = .pointer (some ⟨w.heap.size, 0, none⟩) := (hoff 3 (of_decide_eq_true (by kernel_rfl))).trans rfl
        have t3 := act_tmp e3
        clear hat hoff hp
        exact wp_value' (.pointer (some ⟨w.heap.size, 0, none⟩)) W (by unfold execOp; go_simp; all_goals first | omega | exact IntWalk.i64_in _ (by omega)) ⟨_, rfl, rfl, hGW, hrefl W⟩
      | 9 =>
        injection (show some _ = some o from ho) with ho
        subst ho
        have eg : F.eval (.tmp 12) = .bool true := (hat 7 12 (of_decide_eq_true (by kernel_rfl)) rfl).trans (hp ⟨7, .guard⟩ (by simp) rfl : U 7 = .bool true)
        refine on_ ((wanted_by rfl rfl eg).trans rfl) ?_
        have e13 : F.eval (.tmp 13) = .pointer (some ⟨w.heap.size, 0, none⟩) := (hat 8 13 (of_decide_eq_true (by kernel_rfl)) rfl).trans (hp ⟨8, .data⟩ (by simp) rfl : U 8 = .pointer (some ⟨w.heap.size, 0, none⟩))
        have t13 := act_tmp e13
        clear hat hoff hp
        have d0 := hGW.2.cell 0
        simp at d0
        exact wp_value' (.int .i64 ((k : Int) + 1)) W (by unfold execOp; go_simp; all_goals first | omega | exact IntWalk.i64_in _ (by omega)) ⟨_, rfl, rfl, hGW, hrefl W⟩
      | 10 =>
        injection (show some _ = some o from ho) with ho
        subst ho
        have eg : F.eval (.tmp 12) = .bool true := (hat 7 12 (of_decide_eq_true (by kernel_rfl)) rfl).trans (hp ⟨7, .guard⟩ (by simp) rfl : U 7 = .bool true)
        refine on_ ((wanted_by rfl rfl eg).trans rfl) ?_
        have e0 : F.eval (.tmp 0) = .slice (some ad) n cap := (hoff 0 (of_decide_eq_true (by kernel_rfl))).trans rfl
        exact wp_move' (.tmp 0) rfl ⟨_, rfl, e0, hGW, hrefl W⟩
      | 11 =>
        injection (show some _ = some o from ho) with ho
        subst ho
        have eg : F.eval (.tmp 12) = .bool true := (hat 7 12 (of_decide_eq_true (by kernel_rfl)) rfl).trans (hp ⟨7, .guard⟩ (by simp) rfl : U 7 = .bool true)
        refine on_ ((wanted_by rfl rfl eg).trans rfl) ?_
        have e15 : F.eval (.tmp 15) = .slice (some ad) n cap := (hat 10 15 (of_decide_eq_true (by kernel_rfl)) rfl).trans (hp ⟨10, .data⟩ (by simp) rfl : U 10 = .slice (some ad) n cap)
        have t15 := act_tmp e15
        clear hat hoff hp
        exact wp_value' (.int .i64 (n : Nat)) W (by unfold execOp; go_simp; all_goals first | omega | exact IntWalk.i64_in _ (by omega)) ⟨_, rfl, rfl, hGW, hrefl W⟩
      | 12 =>
        injection (show some _ = some o from ho) with ho
        subst ho
        have eg : F.eval (.tmp 12) = .bool true := (hat 7 12 (of_decide_eq_true (by kernel_rfl)) rfl).trans (hp ⟨7, .guard⟩ (by simp) rfl : U 7 = .bool true)
        refine on_ ((wanted_by rfl rfl eg).trans rfl) ?_
        have e14 : F.eval (.tmp 14) = .int .i64 ((k : Int) + 1) := (hat 9 14 (of_decide_eq_true (by kernel_rfl)) rfl).trans (hp ⟨9, .data⟩ (by simp) rfl : U 9 = .int .i64 ((k : Int) + 1))
        have t14 := act_tmp e14
        have e16 : F.eval (.tmp 16) = .int .i64 (n : Nat) := (hat 11 16 (of_decide_eq_true (by kernel_rfl)) rfl).trans (hp ⟨11, .data⟩ (by simp) rfl : U 11 = .int .i64 (n : Nat))
        have t16 := act_tmp e16
        clear hat hoff hp
        exact wp_value' (.bool true) W (by unfold execOp; go_simp; all_goals first | omega | exact IntWalk.i64_in _ (by omega)) ⟨_, rfl, rfl, hGW, hrefl W⟩
      | 13 =>
        injection (show some _ = some o from ho) with ho
        subst ho
        have eg : F.eval (.tmp 8) = .bool false := (hat 3 8 (of_decide_eq_true (by kernel_rfl)) rfl).trans (hp ⟨3, .guard⟩ (by simp) rfl : U 3 = .bool false)
        refine on_ ((wanted_by rfl rfl eg).trans rfl) ?_
        have e12 : F.eval (.tmp 12) = .bool true := (hat 7 12 (of_decide_eq_true (by kernel_rfl)) rfl).trans (hp ⟨7, .data⟩ (by simp) rfl : U 7 = .bool true)
        have t12 := act_tmp e12
        have e17 : F.eval (.tmp 17) = .bool true := (hat 12 17 (of_decide_eq_true (by kernel_rfl)) rfl).trans (hp ⟨12, .data⟩ (by simp) rfl : U 12 = .bool true)
        have t17 := act_tmp e17
        clear hat hoff hp
        exact wp_value' (.bool true) W (by unfold execOp; go_simp; all_goals first | omega | exact IntWalk.i64_in _ (by omega)) ⟨_, rfl, rfl, hGW, hrefl W⟩
      | 14 =>
        injection (show some _ = some o from ho) with ho
        subst ho
        have eg : F.eval (.tmp 8) = .bool false := (hat 3 8 (of_decide_eq_true (by kernel_rfl)) rfl).trans (hp ⟨3, .guard⟩ (by simp) rfl : U 3 = .bool false)
        refine on_ ((wanted_by rfl rfl eg).trans rfl) ?_
        have e18 : F.eval (.tmp 18) = .bool true := (hat 13 18 (of_decide_eq_true (by kernel_rfl)) rfl).trans (hp ⟨13, .data⟩ (by simp) rfl : U 13 = .bool true)
        exact wp_move' (.tmp 18) rfl ⟨_, rfl, e18, hGW, hrefl W⟩
      | 15 =>
        injection (show some _ = some o from ho) with ho
        subst ho
        have eg : F.eval (.tmp 19) = .bool true := (hat 14 19 (of_decide_eq_true (by kernel_rfl)) rfl).trans (hp ⟨14, .guard⟩ (by simp) rfl : U 14 = .bool true)
        refine on_ ((wanted_by rfl rfl eg).trans rfl) ?_
        have e0 : F.eval (.tmp 0) = .slice (some ad) n cap := (hoff 0 (of_decide_eq_true (by kernel_rfl))).trans rfl
        exact wp_move' (.tmp 0) rfl ⟨_, rfl, e0, hGW, hrefl W⟩
      | 16 =>
        injection (show some _ = some o from ho) with ho
        subst ho
        have eg : F.eval (.tmp 19) = .bool true := (hat 14 19 (of_decide_eq_true (by kernel_rfl)) rfl).trans (hp ⟨14, .guard⟩ (by simp) rfl : U 14 = .bool true)
        refine on_ ((wanted_by rfl rfl eg).trans rfl) ?_
        have e3 : F.eval (.tmp 3) = .pointer (some ⟨w.heap.size, 0, none⟩) := (hoff 3 (of_decide_eq_true (by kernel_rfl))).trans rfl
        have t3 := act_tmp e3
        clear hat hoff hp
        exact wp_value' (.pointer (some ⟨w.heap.size, 0, none⟩)) W (by unfold execOp; go_simp; all_goals first | omega | exact IntWalk.i64_in _ (by omega)) ⟨_, rfl, rfl, hGW, hrefl W⟩
      | 17 =>
        injection (show some _ = some o from ho) with ho
        subst ho
        have eg : F.eval (.tmp 19) = .bool true := (hat 14 19 (of_decide_eq_true (by kernel_rfl)) rfl).trans (hp ⟨14, .guard⟩ (by simp) rfl : U 14 = .bool true)
        refine on_ ((wanted_by rfl rfl eg).trans rfl) ?_
        have e21 : F.eval (.tmp 21) = .pointer (some ⟨w.heap.size, 0, none⟩) := (hat 16 21 (of_decide_eq_true (by kernel_rfl)) rfl).trans (hp ⟨16, .data⟩ (by simp) rfl : U 16 = .pointer (some ⟨w.heap.size, 0, none⟩))
        have t21 := act_tmp e21
        clear hat hoff hp
        have d0 := hGW.2.cell 0
        simp at d0
        exact wp_value' (.int .i64 ((k : Int) + 1)) W (by unfold execOp; go_simp; all_goals first | omega | exact IntWalk.i64_in _ (by omega)) ⟨_, rfl, rfl, hGW, hrefl W⟩
      | 18 =>
        injection (show some _ = some o from ho) with ho
        subst ho
        have eg : F.eval (.tmp 19) = .bool true := (hat 14 19 (of_decide_eq_true (by kernel_rfl)) rfl).trans (hp ⟨14, .guard⟩ (by simp) rfl : U 14 = .bool true)
        refine on_ ((wanted_by rfl rfl eg).trans rfl) ?_
        have e22 : F.eval (.tmp 22) = .int .i64 ((k : Int) + 1) := (hat 17 22 (of_decide_eq_true (by kernel_rfl)) rfl).trans (hp ⟨17, .data⟩ (by simp) rfl : U 17 = .int .i64 ((k : Int) + 1))
        have t22 := act_tmp e22
        clear hat hoff hp
        exact wp_value' (.int .i64 (k : Nat)) W (by unfold execOp; go_simp; all_goals first | omega | exact IntWalk.i64_in _ (by omega)) ⟨_, rfl, rfl, hGW, hrefl W⟩
      | 19 =>
        injection (show some _ = some o from ho) with ho
        subst ho
        have eg : F.eval (.tmp 19) = .bool true := (hat 14 19 (of_decide_eq_true (by kernel_rfl)) rfl).trans (hp ⟨14, .guard⟩ (by simp) rfl : U 14 = .bool true)
        refine on_ ((wanted_by rfl rfl eg).trans rfl) ?_
        have e20 : F.eval (.tmp 20) = .slice (some ad) n cap := (hat 15 20 (of_decide_eq_true (by kernel_rfl)) rfl).trans (hp ⟨15, .data⟩ (by simp) rfl : U 15 = .slice (some ad) n cap)
        have t20 := act_tmp e20
        have e23 : F.eval (.tmp 23) = .int .i64 (k : Nat) := (hat 18 23 (of_decide_eq_true (by kernel_rfl)) rfl).trans (hp ⟨18, .data⟩ (by simp) rfl : U 18 = .int .i64 (k : Nat))
        have t23 := act_tmp e23
        clear hat hoff hp
        exact wp_value' (.pointer (some (ad.add (k * 9)))) W (by unfold execOp; go_simp; all_goals first | omega | exact IntWalk.i64_in _ (by omega)) ⟨_, rfl, rfl, hGW, hrefl W⟩
      | 20 =>
        injection (show some _ = some o from ho) with ho
        subst ho
        have eg : F.eval (.tmp 19) = .bool true := (hat 14 19 (of_decide_eq_true (by kernel_rfl)) rfl).trans (hp ⟨14, .guard⟩ (by simp) rfl : U 14 = .bool true)
        refine on_ ((wanted_by rfl rfl eg).trans rfl) ?_
        have e24 : F.eval (.tmp 24) = .pointer (some (ad.add (k * 9))) := (hat 19 24 (of_decide_eq_true (by kernel_rfl)) rfl).trans (hp ⟨19, .data⟩ (by simp) rfl : U 19 = .pointer (some (ad.add (k * 9))))
        have t24 := act_tmp e24
        clear hat hoff hp
        obtain ⟨k0, k1, k2, k3, k4, k5, k6, k7, k8⟩ := HP.out.below hGW.1 HAB.out
        exact wp_value' (.agg #[.int .i64 x1, .int .i64 x2, .int .i64 x3, .int .i64 x4, .int .i64 x5, .int .i64 x6, .string x7, .int .i64 x8, .slice hA hn hc]) W (by unfold execOp; go_simp) ⟨_, rfl, rfl, hGW, hrefl W⟩
      | 21 =>
        injection (show some _ = some o from ho) with ho
        subst ho
        have eg : F.eval (.tmp 19) = .bool true := (hat 14 19 (of_decide_eq_true (by kernel_rfl)) rfl).trans (hp ⟨14, .guard⟩ (by simp) rfl : U 14 = .bool true)
        refine on_ ((wanted_by rfl rfl eg).trans rfl) ?_
        have e25 : F.eval (.tmp 25) = .agg #[.int .i64 x1, .int .i64 x2, .int .i64 x3, .int .i64 x4, .int .i64 x5, .int .i64 x6, .string x7, .int .i64 x8, .slice hA hn hc] := (hat 20 25 (of_decide_eq_true (by kernel_rfl)) rfl).trans (hp ⟨20, .data⟩ (by simp) rfl : U 20 = .agg #[.int .i64 x1, .int .i64 x2, .int .i64 x3, .int .i64 x4, .int .i64 x5, .int .i64 x6, .string x7, .int .i64 x8, .slice hA hn hc])
        have t25 := act_tmp e25
        clear hat hoff hp
        refine wp_enter' 68 #[.agg #[.int .i64 x1, .int .i64 x2, .int .i64 x3, .int .i64 x4, .int .i64 x5, .int .i64 x6, .string x7, .int .i64 x8, .slice hA hn hc]] (by unfold execOp; go_simp) ?_
        refine (at_any x1 x2 x3 x4 x5 x6 x7 x8 (.slice hA hn hc) W).mono ?_
        rintro e W' ⟨rfl, hb⟩
        exact ⟨_, rfl, _, rfl, rfl, ⟨hGW.1.trans (hb.mono hGW.1.size), hGW.2.below hb hGW.2.lt⟩, hb⟩
      | 22 =>
        injection (show some _ = some o from ho) with ho
        subst ho
        have eg : F.eval (.tmp 19) = .bool true := (hat 14 19 (of_decide_eq_true (by kernel_rfl)) rfl).trans (hp ⟨14, .guard⟩ (by simp) rfl : U 14 = .bool true)
        refine on_ ((wanted_by rfl rfl eg).trans rfl) ?_
        have e3 : F.eval (.tmp 3) = .pointer (some ⟨w.heap.size, 0, none⟩) := (hoff 3 (of_decide_eq_true (by kernel_rfl))).trans rfl
        have t3 := act_tmp e3
        clear hat hoff hp
        have d0 := hGW.2.cell 0
        have d1 := hGW.2.cell 1
        simp at d0 d1
        exact wp_value' (.agg #[.int .i64 ((k : Int) + 1), .int .i64 E]) W (by unfold execOp; go_simp; all_goals first | omega | exact IntWalk.i64_in _ (by omega)) ⟨_, rfl, rfl, hGW, hrefl W⟩
      | 23 =>
        injection (show some _ = some o from ho) with ho
        subst ho
        have eg : F.eval (.tmp 19) = .bool true := (hat 14 19 (of_decide_eq_true (by kernel_rfl)) rfl).trans (hp ⟨14, .guard⟩ (by simp) rfl : U 14 = .bool true)
        refine on_ ((wanted_by rfl rfl eg).trans rfl) ?_
        have e26 : F.eval (.tmp 26) = .agg #[.int .i64 x1, .int .i64 x2] := (hat 21 26 (of_decide_eq_true (by kernel_rfl)) rfl).trans (hp ⟨21, .data⟩ (by simp) rfl : U 21 = .agg #[.int .i64 x1, .int .i64 x2])
        have t26 := act_tmp e26
        have e27 : F.eval (.tmp 27) = .agg #[.int .i64 ((k : Int) + 1), .int .i64 E] := (hat 22 27 (of_decide_eq_true (by kernel_rfl)) rfl).trans (hp ⟨22, .data⟩ (by simp) rfl : U 22 = .agg #[.int .i64 ((k : Int) + 1), .int .i64 E])
        have t27 := act_tmp e27
        clear hat hoff hp
        exact wp_value' (.bool false) W (by unfold execOp; go_simp; all_goals (by_cases q1 : x1 = (k : Int) + 1 <;> by_cases q2 : x2 = E <;> first | omega | simp_all)) ⟨_, rfl, rfl, hGW, hrefl W⟩
      | 24 =>
        injection (show some _ = some o from ho) with ho
        subst ho
        have eg : F.eval (.tmp 8) = .bool false := (hat 3 8 (of_decide_eq_true (by kernel_rfl)) rfl).trans (hp ⟨3, .guard⟩ (by simp) rfl : U 3 = .bool false)
        refine on_ ((wanted_by rfl rfl eg).trans rfl) ?_
        have e19 : F.eval (.tmp 19) = .bool true := (hat 14 19 (of_decide_eq_true (by kernel_rfl)) rfl).trans (hp ⟨14, .data⟩ (by simp) rfl : U 14 = .bool true)
        have t19 := act_tmp e19
        have e28 : F.eval (.tmp 28) = .bool false := (hat 23 28 (of_decide_eq_true (by kernel_rfl)) rfl).trans (hp ⟨23, .data⟩ (by simp) rfl : U 23 = .bool false)
        have t28 := act_tmp e28
        clear hat hoff hp
        exact wp_value' (.bool false) W (by unfold execOp; go_simp; all_goals first | omega | exact IntWalk.i64_in _ (by omega)) ⟨_, rfl, rfl, hGW, hrefl W⟩
      | 25 =>
        injection (show some _ = some o from ho) with ho
        subst ho
        refine on_ (wanted_none rfl) ?_
        have e8 : F.eval (.tmp 8) = .bool false := (hat 3 8 (of_decide_eq_true (by kernel_rfl)) rfl).trans (hp ⟨3, .data⟩ (by simp) rfl : U 3 = .bool false)
        have t8 := act_tmp e8
        have e29 : F.eval (.tmp 29) = .bool false := (hat 24 29 (of_decide_eq_true (by kernel_rfl)) rfl).trans (hp ⟨24, .data⟩ (by simp) rfl : U 24 = .bool false)
        have t29 := act_tmp e29
        clear hat hoff hp
        exact wp_value' (.bool false) W (by unfold execOp; go_simp; all_goals first | omega | exact IntWalk.i64_in _ (by omega)) ⟨_, rfl, rfl, hGW, hrefl W⟩
      | 26 =>
        injection (show some _ = some o from ho) with ho
        subst ho
        refine on_ (wanted_none rfl) ?_
        have e30 : F.eval (.tmp 30) = .bool false := (hat 25 30 (of_decide_eq_true (by kernel_rfl)) rfl).trans (hp ⟨25, .data⟩ (by simp) rfl : U 25 = .bool false)
        exact wp_assign' (.tmp 30) rfl ⟨_, rfl, e30, hGW, hrefl W⟩
      | i + 27 => exact absurd ho (by simp)
  case hend =>
    intro U W hGW hV
    have hx : U 26 = .bool false := hV 26 (of_decide_eq_true (by kernel_rfl))
    have HG := Lib.hid hGW.1
    have HX := Lib.hid hx
    clear hV hGW hx
    simp [putU, dstAt, Act.put, HX.out]
    go_wp2
    go_ret
    exact ⟨rfl, HG.out⟩

set_option maxRecDepth 100000 in
set_option maxHeartbeats 4000000 in
theorem rhas_yes {ad : Addr} {n cap k : Nat} {E : Int} {hA : Option Addr} {hn hc : Nat} (c : OpC) (w : World) (hk : k < n) (hz : n ≤ 4294967296) (hab : (ad.add (k * 9)).block < w.heap.size) (hop : OpAt w (ad.add (k * 9)) (c.at_ hA hn hc)) (hne : c.n = (k : Int) + 1 ∧ c.epoch = E) :
    Calls Try.prog 65 #[.slice (some ad) n cap, .agg #[.int .i64 ((k : Int) + 1), .int .i64 E]] w fun x w' => x = .returned (.bool true) ∧ Below w.heap.size w w' := by
  have hba : Below w.heap.size w (w.alloc (.cells #[.int .i64 ((k : Int) + 1), .int .i64 E] 26)) := (Below.refl _ _).alloc (Nat.le_refl _) _
  have HBA := Lib.hid hba
  have HBK := Lib.hid (Blk.new w 26 #[.int .i64 ((k : Int) + 1), .int .i64 E])
  clear hba
  obtain ⟨x1, x2, x3, x4, x5, x6, x7, x8, x9⟩ := c
  simp only [OpC.at_] at hop hne
  have HP := Lib.hid hop
  have HAB := Lib.hid hab
  clear hop hab
  have b1 : (0 : Int) ≤ (k : Int) := by omega
  have b2 : (k : Int) < (n : Int) := by omega
  obtain ⟨m1, m2⟩ := hne
  go_enter Try.func65, Try.ntmps65
  go_wp2_with fail
  refine wp_region_all (by kernel_rfl) (fun i v W => match i with | 0 => v = .agg #[.int .i64 ((k : Int) + 1), .int .i64 E] | 1 => v = .agg #[.int .i64 0, .int .i64 0] | 2 => v = .bool false | 3 => v = .bool false | 4 => v = .pointer (some ⟨w.heap.size, 0, none⟩) | 5 => v = .int .i64 ((k : Int) + 1) | 6 => v = .bool true | 7 => v = .bool true | 8 => v = .pointer (some ⟨w.heap.size, 0, none⟩) | 9 => v = .int .i64 ((k : Int) + 1) | 10 => v = .slice (some ad) n cap | 11 => v = .int .i64 (n : Nat) | 12 => v = .bool true | 13 => v = .bool true | 14 => v = .bool true | 15 => v = .slice (some ad) n cap | 16 => v = .pointer (some ⟨w.heap.size, 0, none⟩) | 17 => v = .int .i64 ((k : Int) + 1) | 18 => v = .int .i64 (k : Nat) | 19 => v = .pointer (some (ad.add (k * 9))) | 20 => v = .agg #[.int .i64 x1, .int .i64 x2, .int .i64 x3, .int .i64 x4, .int .i64 x5, .int .i64 x6, .string x7, .int .i64 x8, .slice hA hn hc] | 21 => v = .agg #[.int .i64 x1, .int .i64 x2] | 22 => v = .agg #[.int .i64 ((k : Int) + 1), .int .i64 E] | 23 => v = .bool true | 24 => v = .bool true | 25 => v = .bool true | 26 => v = .bool true | _ => True) (fun W => Below w.heap.size w W ∧ Blk W w.heap.size 26 #[.int .i64 ((k : Int) + 1), .int .i64 E]) (fun W W' => Below W.heap.size W W') (by kernel_rfl) ?hG ?hmono ?hstep ?hend
  case hG => exact ⟨HBA.out.drew, HBK.out.drew⟩
  case hmono =>
    intro i v W W' hx hv
    match i with
    | 0 | 1 | 2 | 3 | 4 | 5 | 6 | 7 | 8 | 9 | 10 | 11 | 12 | 13 | 14 | 15 | 16 | 17 | 18 | 19 | 20 | 21 | 22 | 23 | 24 | 25 | 26 => exact hv
    | i + 27 => exact hv
  case hstep =>
    intro i o F U W ho hGW hat hoff hp
    have hrefl := fun W : World => Below.refl W.heap.size W
    match i with
      | 0 =>
        injection (show some _ = some o from ho) with ho
        subst ho
        refine on_ (wanted_none rfl) ?_
        have e3 : F.eval (.tmp 3) = .pointer (some ⟨w.heap.size, 0, none⟩) := (hoff 3 (of_decide_eq_true (by kernel_rfl))).trans rfl
        have t3 := act_tmp e3
        clear hat hoff hp
        have d0 := hGW.2.cell 0
        have d1 := hGW.2.cell 1
        simp at d0 d1
        exact wp_value' (.agg #[.int .i64 ((k : Int) + 1), .int .i64 E]) W (by unfold execOp; go_simp; all_goals first | omega | exact IntWalk.i64_in _ (by omega)) ⟨_, rfl, rfl, hGW, hrefl W⟩
      | 1 =>
        injection (show some _ = some o from ho) with ho
        subst ho
        refine on_ (wanted_none rfl) ?_
        clear hat hoff hp
        exact wp_value' (.agg #[.int .i64 0, .int .i64 0]) W (by unfold execOp; go_simp; all_goals first | omega | exact IntWalk.i64_in _ (by omega)) ⟨_, rfl, rfl, hGW, hrefl W⟩
      | 2 =>
        injection (show some _ = some o from ho) with ho
        subst ho
        refine on_ (wanted_none rfl) ?_
        have e5 : F.eval (.tmp 5) = .agg #[.int .i64 ((k : Int) + 1), .int .i64 E] := (hat 0 5 (of_decide_eq_true (by kernel_rfl)) rfl).trans (hp ⟨0, .data⟩ (by simp) rfl : U 0 = .agg #[.int .i64 ((k : Int) + 1), .int .i64 E])
        have t5 := act_tmp e5
        have e6 : F.eval (.tmp 6) = .agg #[.int .i64 0, .int .i64 0] := (hat 1 6 (of_decide_eq_true (by kernel_rfl)) rfl).trans (hp ⟨1, .data⟩ (by simp) rfl : U 1 = .agg #[.int .i64 0, .int .i64 0])
        have t6 := act_tmp e6
        clear hat hoff hp
        exact wp_value' (.bool false) W (by unfold execOp; go_simp; all_goals (by_cases q1 : ((k : Int) + 1) = 0 <;> by_cases q2 : E = 0 <;> first | omega | simp_all)) ⟨_, rfl, rfl, hGW, hrefl W⟩
      | 3 =>
        injection (show some _ = some o from ho) with ho
        subst ho
        refine on_ (wanted_none rfl) ?_
        have e7 : F.eval (.tmp 7) = .bool false := (hat 2 7 (of_decide_eq_true (by kernel_rfl)) rfl).trans (hp ⟨2, .data⟩ (by simp) rfl : U 2 = .bool false)
        exact wp_move' (.tmp 7) rfl ⟨_, rfl, e7, hGW, hrefl W⟩
      | 4 =>
        injection (show some _ = some o from ho) with ho
        subst ho
        have eg : F.eval (.tmp 8) = .bool false := (hat 3 8 (of_decide_eq_true (by kernel_rfl)) rfl).trans (hp ⟨3, .guard⟩ (by simp) rfl : U 3 = .bool false)
        refine on_ ((wanted_by rfl rfl eg).trans rfl) ?_
        have e3 : F.eval (.tmp 3) = .pointer (some ⟨w.heap.size, 0, none⟩) := (hoff 3 (of_decide_eq_true (by kernel_rfl))).trans rfl
        have t3 := act_tmp e3
        clear hat hoff hp
        exact wp_value' (.pointer (some ⟨w.heap.size, 0, none⟩)) W (by unfold execOp; go_simp; all_goals first | omega | exact IntWalk.i64_in _ (by omega)) ⟨_, rfl, rfl, hGW, hrefl W⟩
      | 5 =>
        injection (show some _ = some o from ho) with ho
        subst ho
        have eg : F.eval (.tmp 8) = .bool false := (hat 3 8 (of_decide_eq_true (by kernel_rfl)) rfl).trans (hp ⟨3, .guard⟩ (by simp) rfl : U 3 = .bool false)
        refine on_ ((wanted_by rfl rfl eg).trans rfl) ?_
        have e9 : F.eval (.tmp 9) = .pointer (some ⟨w.heap.size, 0, none⟩) := (hat 4 9 (of_decide_eq_true (by kernel_rfl)) rfl).trans (hp ⟨4, .data⟩ (by simp) rfl : U 4 = .pointer (some ⟨w.heap.size, 0, none⟩))
        have t9 := act_tmp e9
        clear hat hoff hp
        have d0 := hGW.2.cell 0
        simp at d0
        exact wp_value' (.int .i64 ((k : Int) + 1)) W (by unfold execOp; go_simp; all_goals first | omega | exact IntWalk.i64_in _ (by omega)) ⟨_, rfl, rfl, hGW, hrefl W⟩
      | 6 =>
        injection (show some _ = some o from ho) with ho
        subst ho
        have eg : F.eval (.tmp 8) = .bool false := (hat 3 8 (of_decide_eq_true (by kernel_rfl)) rfl).trans (hp ⟨3, .guard⟩ (by simp) rfl : U 3 = .bool false)
        refine on_ ((wanted_by rfl rfl eg).trans rfl) ?_
        have e10 : F.eval (.tmp 10) = .int .i64 ((k : Int) + 1) := (hat 5 10 (of_decide_eq_true (by kernel_rfl)) rfl).trans (hp ⟨5, .data⟩ (by simp) rfl : U 5 = .int .i64 ((k : Int) + 1))
        have t10 := act_tmp e10
        clear hat hoff hp
        exact wp_value' (.bool true) W (by unfold execOp; go_simp; all_goals first | omega | exact IntWalk.i64_in _ (by omega)) ⟨_, rfl, rfl, hGW, hrefl W⟩
      | 7 =>
        injection (show some _ = some o from ho) with ho
        subst ho
        have eg : F.eval (.tmp 8) = .bool false := (hat 3 8 (of_decide_eq_true (by kernel_rfl)) rfl).trans (hp ⟨3, .guard⟩ (by simp) rfl : U 3 = .bool false)
        refine on_ ((wanted_by rfl rfl eg).trans rfl) ?_
        have e11 : F.eval (.tmp 11) = .bool true := (hat 6 11 (of_decide_eq_true (by kernel_rfl)) rfl).trans (hp ⟨6, .data⟩ (by simp) rfl : U 6 = .bool true)
        exact wp_move' (.tmp 11) rfl ⟨_, rfl, e11, hGW, hrefl W⟩
      | 8 =>
        injection (show some _ = some o from ho) with ho
        subst ho
        have eg : F.eval (.tmp 12) = .bool true := (hat 7 12 (of_decide_eq_true (by kernel_rfl)) rfl).trans (hp ⟨7, .guard⟩ (by simp) rfl : U 7 = .bool true)
        refine on_ ((wanted_by rfl rfl eg).trans rfl) ?_
        have e3 : F.eval (.tmp 3) = .pointer (some ⟨w.heap.size, 0, none⟩) := (hoff 3 (of_decide_eq_true (by kernel_rfl))).trans rfl
        have t3 := act_tmp e3
        clear hat hoff hp
        exact wp_value' (.pointer (some ⟨w.heap.size, 0, none⟩)) W (by unfold execOp; go_simp; all_goals first | omega | exact IntWalk.i64_in _ (by omega)) ⟨_, rfl, rfl, hGW, hrefl W⟩
      | 9 =>
        injection (show some _ = some o from ho) with ho
        subst ho
        have eg : F.eval (.tmp 12) = .bool true := (hat 7 12 (of_decide_eq_true (by kernel_rfl)) rfl).trans (hp ⟨7, .guard⟩ (by simp) rfl : U 7 = .bool true)
        refine on_ ((wanted_by rfl rfl eg).trans rfl) ?_
        have e13 : F.eval (.tmp 13) = .pointer (some ⟨w.heap.size, 0, none⟩) := (hat 8 13 (of_decide_eq_true (by kernel_rfl)) rfl).trans (hp ⟨8, .data⟩ (by simp) rfl : U 8 = .pointer (some ⟨w.heap.size, 0, none⟩))
        have t13 := act_tmp e13
        clear hat hoff hp
        have d0 := hGW.2.cell 0
        simp at d0
        exact wp_value' (.int .i64 ((k : Int) + 1)) W (by unfold execOp; go_simp; all_goals first | omega | exact IntWalk.i64_in _ (by omega)) ⟨_, rfl, rfl, hGW, hrefl W⟩
      | 10 =>
        injection (show some _ = some o from ho) with ho
        subst ho
        have eg : F.eval (.tmp 12) = .bool true := (hat 7 12 (of_decide_eq_true (by kernel_rfl)) rfl).trans (hp ⟨7, .guard⟩ (by simp) rfl : U 7 = .bool true)
        refine on_ ((wanted_by rfl rfl eg).trans rfl) ?_
        have e0 : F.eval (.tmp 0) = .slice (some ad) n cap := (hoff 0 (of_decide_eq_true (by kernel_rfl))).trans rfl
        exact wp_move' (.tmp 0) rfl ⟨_, rfl, e0, hGW, hrefl W⟩
      | 11 =>
        injection (show some _ = some o from ho) with ho
        subst ho
        have eg : F.eval (.tmp 12) = .bool true := (hat 7 12 (of_decide_eq_true (by kernel_rfl)) rfl).trans (hp ⟨7, .guard⟩ (by simp) rfl : U 7 = .bool true)
        refine on_ ((wanted_by rfl rfl eg).trans rfl) ?_
        have e15 : F.eval (.tmp 15) = .slice (some ad) n cap := (hat 10 15 (of_decide_eq_true (by kernel_rfl)) rfl).trans (hp ⟨10, .data⟩ (by simp) rfl : U 10 = .slice (some ad) n cap)
        have t15 := act_tmp e15
        clear hat hoff hp
        exact wp_value' (.int .i64 (n : Nat)) W (by unfold execOp; go_simp; all_goals first | omega | exact IntWalk.i64_in _ (by omega)) ⟨_, rfl, rfl, hGW, hrefl W⟩
      | 12 =>
        injection (show some _ = some o from ho) with ho
        subst ho
        have eg : F.eval (.tmp 12) = .bool true := (hat 7 12 (of_decide_eq_true (by kernel_rfl)) rfl).trans (hp ⟨7, .guard⟩ (by simp) rfl : U 7 = .bool true)
        refine on_ ((wanted_by rfl rfl eg).trans rfl) ?_
        have e14 : F.eval (.tmp 14) = .int .i64 ((k : Int) + 1) := (hat 9 14 (of_decide_eq_true (by kernel_rfl)) rfl).trans (hp ⟨9, .data⟩ (by simp) rfl : U 9 = .int .i64 ((k : Int) + 1))
        have t14 := act_tmp e14
        have e16 : F.eval (.tmp 16) = .int .i64 (n : Nat) := (hat 11 16 (of_decide_eq_true (by kernel_rfl)) rfl).trans (hp ⟨11, .data⟩ (by simp) rfl : U 11 = .int .i64 (n : Nat))
        have t16 := act_tmp e16
        clear hat hoff hp
        exact wp_value' (.bool true) W (by unfold execOp; go_simp; all_goals first | omega | exact IntWalk.i64_in _ (by omega)) ⟨_, rfl, rfl, hGW, hrefl W⟩
      | 13 =>
        injection (show some _ = some o from ho) with ho
        subst ho
        have eg : F.eval (.tmp 8) = .bool false := (hat 3 8 (of_decide_eq_true (by kernel_rfl)) rfl).trans (hp ⟨3, .guard⟩ (by simp) rfl : U 3 = .bool false)
        refine on_ ((wanted_by rfl rfl eg).trans rfl) ?_
        have e12 : F.eval (.tmp 12) = .bool true := (hat 7 12 (of_decide_eq_true (by kernel_rfl)) rfl).trans (hp ⟨7, .data⟩ (by simp) rfl : U 7 = .bool true)
        have t12 := act_tmp e12
        have e17 : F.eval (.tmp 17) = .bool true := (hat 12 17 (of_decide_eq_true (by kernel_rfl)) rfl).trans (hp ⟨12, .data⟩ (by simp) rfl : U 12 = .bool true)
        have t17 := act_tmp e17
        clear hat hoff hp
        exact wp_value' (.bool true) W (by unfold execOp; go_simp; all_goals first | omega | exact IntWalk.i64_in _ (by omega)) ⟨_, rfl, rfl, hGW, hrefl W⟩
      | 14 =>
        injection (show some _ = some o from ho) with ho
        subst ho
        have eg : F.eval (.tmp 8) = .bool false := (hat 3 8 (of_decide_eq_true (by kernel_rfl)) rfl).trans (hp ⟨3, .guard⟩ (by simp) rfl : U 3 = .bool false)
        refine on_ ((wanted_by rfl rfl eg).trans rfl) ?_
        have e18 : F.eval (.tmp 18) = .bool true := (hat 13 18 (of_decide_eq_true (by kernel_rfl)) rfl).trans (hp ⟨13, .data⟩ (by simp) rfl : U 13 = .bool true)
        exact wp_move' (.tmp 18) rfl ⟨_, rfl, e18, hGW, hrefl W⟩
      | 15 =>
        injection (show some _ = some o from ho) with ho
        subst ho
        have eg : F.eval (.tmp 19) = .bool true := (hat 14 19 (of_decide_eq_true (by kernel_rfl)) rfl).trans (hp ⟨14, .guard⟩ (by simp) rfl : U 14 = .bool true)
        refine on_ ((wanted_by rfl rfl eg).trans rfl) ?_
        have e0 : F.eval (.tmp 0) = .slice (some ad) n cap := (hoff 0 (of_decide_eq_true (by kernel_rfl))).trans rfl
        exact wp_move' (.tmp 0) rfl ⟨_, rfl, e0, hGW, hrefl W⟩
      | 16 =>
        injection (show some _ = some o from ho) with ho
        subst ho
        have eg : F.eval (.tmp 19) = .bool true := (hat 14 19 (of_decide_eq_true (by kernel_rfl)) rfl).trans (hp ⟨14, .guard⟩ (by simp) rfl : U 14 = .bool true)
        refine on_ ((wanted_by rfl rfl eg).trans rfl) ?_
        have e3 : F.eval (.tmp 3) = .pointer (some ⟨w.heap.size, 0, none⟩) := (hoff 3 (of_decide_eq_true (by kernel_rfl))).trans rfl
        have t3 := act_tmp e3
        clear hat hoff hp
        exact wp_value' (.pointer (some ⟨w.heap.size, 0, none⟩)) W (by unfold execOp; go_simp; all_goals first | omega | exact IntWalk.i64_in _ (by omega)) ⟨_, rfl, rfl, hGW, hrefl W⟩
      | 17 =>
        injection (show some _ = some o from ho) with ho
        subst ho
        have eg : F.eval (.tmp 19) = .bool true := (hat 14 19 (of_decide_eq_true (by kernel_rfl)) rfl).trans (hp ⟨14, .guard⟩ (by simp) rfl : U 14 = .bool true)
        refine on_ ((wanted_by rfl rfl eg).trans rfl) ?_
        have e21 : F.eval (.tmp 21) = .pointer (some ⟨w.heap.size, 0, none⟩) := (hat 16 21 (of_decide_eq_true (by kernel_rfl)) rfl).trans (hp ⟨16, .data⟩ (by simp) rfl : U 16 = .pointer (some ⟨w.heap.size, 0, none⟩))
        have t21 := act_tmp e21
        clear hat hoff hp
        have d0 := hGW.2.cell 0
        simp at d0
        exact wp_value' (.int .i64 ((k : Int) + 1)) W (by unfold execOp; go_simp; all_goals first | omega | exact IntWalk.i64_in _ (by omega)) ⟨_, rfl, rfl, hGW, hrefl W⟩
      | 18 =>
        injection (show some _ = some o from ho) with ho
        subst ho
        have eg : F.eval (.tmp 19) = .bool true := (hat 14 19 (of_decide_eq_true (by kernel_rfl)) rfl).trans (hp ⟨14, .guard⟩ (by simp) rfl : U 14 = .bool true)
        refine on_ ((wanted_by rfl rfl eg).trans rfl) ?_
        have e22 : F.eval (.tmp 22) = .int .i64 ((k : Int) + 1) := (hat 17 22 (of_decide_eq_true (by kernel_rfl)) rfl).trans (hp ⟨17, .data⟩ (by simp) rfl : U 17 = .int .i64 ((k : Int) + 1))
        have t22 := act_tmp e22
        clear hat hoff hp
        exact wp_value' (.int .i64 (k : Nat)) W (by unfold execOp; go_simp; all_goals first | omega | exact IntWalk.i64_in _ (by omega)) ⟨_, rfl, rfl, hGW, hrefl W⟩
      | 19 =>
        injection (show some _ = some o from ho) with ho
        subst ho
        have eg : F.eval (.tmp 19) = .bool true := (hat 14 19 (of_decide_eq_true (by kernel_rfl)) rfl).trans (hp ⟨14, .guard⟩ (by simp) rfl : U 14 = .bool true)
        refine on_ ((wanted_by rfl rfl eg).trans rfl) ?_
        have e20 : F.eval (.tmp 20) = .slice (some ad) n cap := (hat 15 20 (of_decide_eq_true (by kernel_rfl)) rfl).trans (hp ⟨15, .data⟩ (by simp) rfl : U 15 = .slice (some ad) n cap)
        have t20 := act_tmp e20
        have e23 : F.eval (.tmp 23) = .int .i64 (k : Nat) := (hat 18 23 (of_decide_eq_true (by kernel_rfl)) rfl).trans (hp ⟨18, .data⟩ (by simp) rfl : U 18 = .int .i64 (k : Nat))
        have t23 := act_tmp e23
        clear hat hoff hp
        exact wp_value' (.pointer (some (ad.add (k * 9)))) W (by unfold execOp; go_simp; all_goals first | omega | exact IntWalk.i64_in _ (by omega)) ⟨_, rfl, rfl, hGW, hrefl W⟩
      | 20 =>
        injection (show some _ = some o from ho) with ho
        subst ho
        have eg : F.eval (.tmp 19) = .bool true := (hat 14 19 (of_decide_eq_true (by kernel_rfl)) rfl).trans (hp ⟨14, .guard⟩ (by simp) rfl : U 14 = .bool true)
        refine on_ ((wanted_by rfl rfl eg).trans rfl) ?_
        have e24 : F.eval (.tmp 24) = .pointer (some (ad.add (k * 9))) := (hat 19 24 (of_decide_eq_true (by kernel_rfl)) rfl).trans (hp ⟨19, .data⟩ (by simp) rfl : U 19 = .pointer (some (ad.add (k * 9))))
        have t24 := act_tmp e24
        clear hat hoff hp
        obtain ⟨k0, k1, k2, k3, k4, k5, k6, k7, k8⟩ := HP.out.below hGW.1 HAB.out
        exact wp_value' (.agg #[.int .i64 x1, .int .i64 x2, .int .i64 x3, .int .i64 x4, .int .i64 x5, .int .i64 x6, .string x7, .int .i64 x8, .slice hA hn hc]) W (by unfold execOp; go_simp) ⟨_, rfl, rfl, hGW, hrefl W⟩
      | 21 =>
        injection (show some _ = some o from ho) with ho
        subst ho
        have eg : F.eval (.tmp 19) = .bool true := (hat 14 19 (of_decide_eq_true (by kernel_rfl)) rfl).trans (hp ⟨14, .guard⟩ (by simp) rfl : U 14 = .bool true)
        refine on_ ((wanted_by rfl rfl eg).trans rfl) ?_
        have e25 : F.eval (.tmp 25) = .agg #[.int .i64 x1, .int .i64 x2, .int .i64 x3, .int .i64 x4, .int .i64 x5, .int .i64 x6, .string x7, .int .i64 x8, .slice hA hn hc] := (hat 20 25 (of_decide_eq_true (by kernel_rfl)) rfl).trans (hp ⟨20, .data⟩ (by simp) rfl : U 20 = .agg #[.int .i64 x1, .int .i64 x2, .int .i64 x3, .int .i64 x4, .int .i64 x5, .int .i64 x6, .string x7, .int .i64 x8, .slice hA hn hc])
        have t25 := act_tmp e25
        clear hat hoff hp
        refine wp_enter' 68 #[.agg #[.int .i64 x1, .int .i64 x2, .int .i64 x3, .int .i64 x4, .int .i64 x5, .int .i64 x6, .string x7, .int .i64 x8, .slice hA hn hc]] (by unfold execOp; go_simp) ?_
        refine (at_any x1 x2 x3 x4 x5 x6 x7 x8 (.slice hA hn hc) W).mono ?_
        rintro e W' ⟨rfl, hb⟩
        exact ⟨_, rfl, _, rfl, rfl, ⟨hGW.1.trans (hb.mono hGW.1.size), hGW.2.below hb hGW.2.lt⟩, hb⟩
      | 22 =>
        injection (show some _ = some o from ho) with ho
        subst ho
        have eg : F.eval (.tmp 19) = .bool true := (hat 14 19 (of_decide_eq_true (by kernel_rfl)) rfl).trans (hp ⟨14, .guard⟩ (by simp) rfl : U 14 = .bool true)
        refine on_ ((wanted_by rfl rfl eg).trans rfl) ?_
        have e3 : F.eval (.tmp 3) = .pointer (some ⟨w.heap.size, 0, none⟩) := (hoff 3 (of_decide_eq_true (by kernel_rfl))).trans rfl
        have t3 := act_tmp e3
        clear hat hoff hp
        have d0 := hGW.2.cell 0
        have d1 := hGW.2.cell 1
        simp at d0 d1
        exact wp_value' (.agg #[.int .i64 ((k : Int) + 1), .int .i64 E]) W (by unfold execOp; go_simp; all_goals first | omega | exact IntWalk.i64_in _ (by omega)) ⟨_, rfl, rfl, hGW, hrefl W⟩
      | 23 =>
        injection (show some _ = some o from ho) with ho
        subst ho
        have eg : F.eval (.tmp 19) = .bool true := (hat 14 19 (of_decide_eq_true (by kernel_rfl)) rfl).trans (hp ⟨14, .guard⟩ (by simp) rfl : U 14 = .bool true)
        refine on_ ((wanted_by rfl rfl eg).trans rfl) ?_
        have e26 : F.eval (.tmp 26) = .agg #[.int .i64 x1, .int .i64 x2] := (hat 21 26 (of_decide_eq_true (by kernel_rfl)) rfl).trans (hp ⟨21, .data⟩ (by simp) rfl : U 21 = .agg #[.int .i64 x1, .int .i64 x2])
        have t26 := act_tmp e26
        have e27 : F.eval (.tmp 27) = .agg #[.int .i64 ((k : Int) + 1), .int .i64 E] := (hat 22 27 (of_decide_eq_true (by kernel_rfl)) rfl).trans (hp ⟨22, .data⟩ (by simp) rfl : U 22 = .agg #[.int .i64 ((k : Int) + 1), .int .i64 E])
        have t27 := act_tmp e27
        clear hat hoff hp
        exact wp_value' (.bool true) W (by unfold execOp; go_simp; all_goals (by_cases q1 : x1 = (k : Int) + 1 <;> by_cases q2 : x2 = E <;> first | omega | simp_all)) ⟨_, rfl, rfl, hGW, hrefl W⟩
      | 24 =>
        injection (show some _ = some o from ho) with ho
        subst ho
        have eg : F.eval (.tmp 8) = .bool false := (hat 3 8 (of_decide_eq_true (by kernel_rfl)) rfl).trans (hp ⟨3, .guard⟩ (by simp) rfl : U 3 = .bool false)
        refine on_ ((wanted_by rfl rfl eg).trans rfl) ?_
        have e19 : F.eval (.tmp 19) = .bool true := (hat 14 19 (of_decide_eq_true (by kernel_rfl)) rfl).trans (hp ⟨14, .data⟩ (by simp) rfl : U 14 = .bool true)
        have t19 := act_tmp e19
        have e28 : F.eval (.tmp 28) = .bool true := (hat 23 28 (of_decide_eq_true (by kernel_rfl)) rfl).trans (hp ⟨23, .data⟩ (by simp) rfl : U 23 = .bool true)
        have t28 := act_tmp e28
        clear hat hoff hp
        exact wp_value' (.bool true) W (by unfold execOp; go_simp; all_goals first | omega | exact IntWalk.i64_in _ (by omega)) ⟨_, rfl, rfl, hGW, hrefl W⟩
      | 25 =>
        injection (show some _ = some o from ho) with ho
        subst ho
        refine on_ (wanted_none rfl) ?_
        have e8 : F.eval (.tmp 8) = .bool false := (hat 3 8 (of_decide_eq_true (by kernel_rfl)) rfl).trans (hp ⟨3, .data⟩ (by simp) rfl : U 3 = .bool false)
        have t8 := act_tmp e8
        have e29 : F.eval (.tmp 29) = .bool true := (hat 24 29 (of_decide_eq_true (by kernel_rfl)) rfl).trans (hp ⟨24, .data⟩ (by simp) rfl : U 24 = .bool true)
        have t29 := act_tmp e29
        clear hat hoff hp
        exact wp_value' (.bool true) W (by unfold execOp; go_simp; all_goals first | omega | exact IntWalk.i64_in _ (by omega)) ⟨_, rfl, rfl, hGW, hrefl W⟩
      | 26 =>
        injection (show some _ = some o from ho) with ho
        subst ho
        refine on_ (wanted_none rfl) ?_
        have e30 : F.eval (.tmp 30) = .bool true := (hat 25 30 (of_decide_eq_true (by kernel_rfl)) rfl).trans (hp ⟨25, .data⟩ (by simp) rfl : U 25 = .bool true)
        exact wp_assign' (.tmp 30) rfl ⟨_, rfl, e30, hGW, hrefl W⟩
      | i + 27 => exact absurd ho (by simp)
  case hend =>
    intro U W hGW hV
    have hx : U 26 = .bool true := hV 26 (of_decide_eq_true (by kernel_rfl))
    have HG := Lib.hid hGW.1
    have HX := Lib.hid hx
    clear hV hGW hx
    simp [putU, dstAt, Act.put, HX.out]
    go_wp2
    go_ret
    exact ⟨rfl, HG.out⟩

theorem rhas_any {A : Option Addr} {n cap : Nat} {N E : Int} {S : Nat → Prop} (cs : List OpC) (w : World) (h : OpsIs w S A n cap cs) (hz : n ≤ 4294967296) :
    Calls Try.prog 65 #[.slice A n cap, .agg #[.int .i64 N, .int .i64 E]] w fun x w' => x = .returned (.bool (hasB cs N E)) ∧ Below w.heap.size w w' := by
  have hl := h.len
  by_cases h0 : N = 0 ∧ E = 0
  · have e : hasB cs N E = true := by simp [hasB, h0.1, h0.2]
    rw [e]
    exact rhas_zero w h0.1 h0.2
  have e0 : (decide (N = 0) && decide (E = 0)) = false := by
    rw [Bool.and_eq_false_imp]
    intro h1
    exact decide_eq_false fun h2 => h0 ⟨of_decide_eq_true h1, h2⟩
  by_cases h1 : N < 1
  · have e : hasB cs N E = false := by
      have : decide (1 ≤ N) = false := decide_eq_false (by omega)
      simp only [hasB, e0, this, Bool.false_and, Bool.or_false]
    rw [e]
    exact rhas_low w h1 h0
  by_cases h2 : (n : Int) < N
  · have e : hasB cs N E = false := by
      have : decide (N ≤ (cs.length : Int)) = false := decide_eq_false (by omega)
      simp only [hasB, e0, this, Bool.false_and, Bool.and_false, Bool.or_false]
    rw [e]
    exact rhas_high w (by omega) h2
  obtain ⟨k, hk⟩ : ∃ k : Nat, N = (k : Int) + 1 := ⟨(N - 1).toNat, by omega⟩
  subst hk
  obtain ⟨ad, c, hA, hn, hc, rfl, hb, ho, hop, hs⟩ := h.at_ (k := k) (by omega)
  have e1 : decide (1 ≤ (k : Int) + 1) = true := decide_eq_true (by omega)
  have e2 : decide ((k : Int) + 1 ≤ (cs.length : Int)) = true := decide_eq_true (by omega)
  have e3 : ((k : Int) + 1 - 1).toNat = k := by omega
  by_cases hne : c.n = (k : Int) + 1 ∧ c.epoch = E
  · have e : hasB cs ((k : Int) + 1) E = true := by
      simp only [hasB, e0, e1, e2, e3, ho, hne.1, hne.2, decide_true, Bool.and_self, Bool.or_true]
    rw [e]
    exact rhas_yes c w (by omega) hz hb hop hne
  · have e : hasB cs ((k : Int) + 1) E = false := by
      simp only [hasB, e0, e1, e2, e3, ho, Bool.true_and, Bool.false_or]
      rw [Bool.and_eq_false_imp]
      intro h1
      exact decide_eq_false fun h2 => hne ⟨of_decide_eq_true h1, h2⟩
    rw [e]
    exact rhas_no c w (by omega) hz hb hop hne

end Go.Proofs.Ytaipgdhdfpemcaa
