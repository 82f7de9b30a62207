/-
  THE WALKS OF THE LANE: the reference's Take, region by region. (wip/gen/reft.py prints this text.)
-/
import Derived.Test.YtaipgdhdfpemcaaLaTk3
import Derived.Test.YtaipgdhdfpemcaaLaRefE
namespace Go.Proofs.Ytaipgdhdfpemcaa
open Go.RowKit

theorem eta117 (t : Array Value) (h : t.size = 117) : t = #[at_ t 0, at_ t 1, at_ t 2, at_ t 3, at_ t 4, at_ t 5, at_ t 6, at_ t 7, at_ t 8, at_ t 9, at_ t 10, at_ t 11, at_ t 12, at_ t 13, at_ t 14, at_ t 15, at_ t 16, at_ t 17, at_ t 18, at_ t 19, at_ t 20, at_ t 21, at_ t 22, at_ t 23, at_ t 24, at_ t 25, at_ t 26, at_ t 27, at_ t 28, at_ t 29, at_ t 30, at_ t 31, at_ t 32, at_ t 33, at_ t 34, at_ t 35, at_ t 36, at_ t 37, at_ t 38, at_ t 39, at_ t 40, at_ t 41, at_ t 42, at_ t 43, at_ t 44, at_ t 45, at_ t 46, at_ t 47, at_ t 48, at_ t 49, at_ t 50, at_ t 51, at_ t 52, at_ t 53, at_ t 54, at_ t 55, at_ t 56, at_ t 57, at_ t 58, at_ t 59, at_ t 60, at_ t 61, at_ t 62, at_ t 63, at_ t 64, at_ t 65, at_ t 66, at_ t 67, at_ t 68, at_ t 69, at_ t 70, at_ t 71, at_ t 72, at_ t 73, at_ t 74, at_ t 75, at_ t 76, at_ t 77, at_ t 78, at_ t 79, at_ t 80, at_ t 81, at_ t 82, at_ t 83, at_ t 84, at_ t 85, at_ t 86, at_ t 87, at_ t 88, at_ t 89, at_ t 90, at_ t 91, at_ t 92, at_ t 93, at_ t 94, at_ t 95, at_ t 96, at_ t 97, at_ t 98, at_ t 99, at_ t 100, at_ t 101, at_ t 102, at_ t 103, at_ t 104, at_ t 105, at_ t 106, at_ t 107, at_ t 108, at_ t 109, at_ t 110, at_ t 111, at_ t 112, at_ t 113, at_ t 114, at_ t 115, at_ t 116] := (eta_ t h).trans (by kernel_rfl)

@[reducible] noncomputable def rtakeF : Func := Try.f38
/-- where the reference's Take stands -/
structure Rk (w0 w : World) (S : Nat → Prop) (rb bx : Nat) (l : LaneC) (m : MailC) (A : Option Addr) (n cap : Nat) (os : List OpC) : Prop where
  lane : RefIs w S rb l
  box : BoxIs w S bx m
  bxS : S bx
  ops : OpsIs w S A n cap os
  turn : Turn rb w0 w
section
variable {w0 w w' : World} {S : Nat → Prop} {rb bx : Nat} {l l' : LaneC} {m : MailC} {A : Option Addr} {n cap : Nat} {os : List OpC}
theorem Rk.below (h : Rk w0 w S rb bx l m A n cap os) (hb : Below w.heap.size w w') : Rk w0 w' S rb bx l m A n cap os :=
  ⟨h.lane.below hb, h.box.below hb, h.bxS, h.ops.below hb, h.turn.next (Nat.le_of_lt h.lane.lt) hb⟩
theorem Rk.drew (h : Rk w0 w S rb bx l m A n cap os) : Rk w0 w.drew S rb bx l m A n cap os := h.below ⟨rfl, rfl, rfl, Nat.le_refl _, fun _ _ => rfl⟩
theorem Rk.drewN (h : Rk w0 w S rb bx l m A n cap os) (k : Nat) : Rk w0 (w.drewN k) S rb bx l m A n cap os := h.below ⟨rfl, rfl, rfl, Nat.le_refl _, fun _ _ => rfl⟩
/-- the lane turned -/
theorem Rk.turned (h : Rk w0 w S rb bx l m A n cap os) (hL : ¬ S rb) (ht : Turn rb w w') (hl : RefIs w' S rb l') : Rk w0 w' S rb bx l' m A n cap os := by
  have hk : Kept S w w' := ⟨ht.size, fun b h1 h2 => ht.1 b h2 (by rintro rfl; exact hL h1)⟩
  exact ⟨hl, h.box.kept hk h.bxS, h.bxS, h.ops.kept hk, h.turn.trans ht⟩
end
/-- where the reference's Take stands, the lane turned or not yet -/
structure Rk2 (w0 w : World) (S : Nat → Prop) (rb bx : Nat) (l l1 : LaneC) (m : MailC) (A : Option Addr) (n cap : Nat) (os : List OpC) : Prop where
  lane : RefIs w S rb l ∨ RefIs w S rb l1
  box : BoxIs w S bx m
  bxS : S bx
  ops : OpsIs w S A n cap os
  turn : Turn rb w0 w
section
variable {w0 w w' : World} {S : Nat → Prop} {rb bx : Nat} {l l1 : LaneC} {m : MailC} {A : Option Addr} {n cap : Nat} {os : List OpC}
theorem Rk2.lt (h : Rk2 w0 w S rb bx l l1 m A n cap os) : rb < w.heap.size := by rcases h.lane with h | h <;> exact h.lt
theorem Rk2.below (h : Rk2 w0 w S rb bx l l1 m A n cap os) (hb : Below w.heap.size w w') : Rk2 w0 w' S rb bx l l1 m A n cap os :=
  ⟨h.lane.imp (·.below hb) (·.below hb), h.box.below hb, h.bxS, h.ops.below hb, h.turn.next (Nat.le_of_lt h.lt) hb⟩
theorem Rk.two (h : Rk w0 w S rb bx l m A n cap os) : Rk2 w0 w S rb bx l l1 m A n cap os := ⟨.inl h.lane, h.box, h.bxS, h.ops, h.turn⟩
theorem Rk2.one (h : Rk2 w0 w S rb bx l l1 m A n cap os) (hl : RefIs w S rb l1) : Rk w0 w S rb bx l1 m A n cap os := ⟨hl, h.box, h.bxS, h.ops, h.turn⟩
theorem Rk2.turned (h : Rk2 w0 w S rb bx l l1 m A n cap os) (hL : ¬ S rb) (ht : Turn rb w w') (hl : RefIs w' S rb l1) : Rk2 w0 w' S rb bx l l1 m A n cap os := by
  have hk : Kept S w w' := ⟨ht.size, fun b h1 h2 => ht.1 b h2 (by rintro rfl; exact hL h1)⟩
  exact ⟨.inr hl, h.box.kept hk h.bxS, h.bxS, h.ops.kept hk, h.turn.trans ht⟩
end

set_option maxRecDepth 100000 in
set_option maxHeartbeats 4000000 in
theorem rt3 {w0 w : World} {S : Nat → Prop} {rb bx : Nat} {l : LaneC} {m : MailC} {A : Option Addr} {n cap : Nat} {os : List OpC} (Q : Exit → Act → World → Prop) (a : Act) (hL : ¬ S rb) (hU : ∀ b, w0.heap.size ≤ b → S b) (hfr : Fr 117 a [(0, .pointer (some ⟨rb, 0, none⟩)), (2, .slice A n cap), (4, .pointer (some ⟨bx, 0, none⟩))]) (h : Rk w0 w S rb bx l m A n cap os) 
    (hQ : ∀ a' w', Fr 117 a' [(0, .pointer (some ⟨rb, 0, none⟩)), (2, .slice A n cap), (4, .pointer (some ⟨bx, 0, none⟩)), (21, .bool (m.epoch != l.epoch))] → Rk w0 w' S rb bx l m A n cap os → Q .normal a' w') :
    (part [1, 1, 0, 0] (codeOf rtakeF)).wp Try.prog Q a w := by
  have HT := Lib.hid h
  have HQ := Lib.hid hQ
  have HL := Lib.hid hL
  have HU := Lib.hid hU
  clear h hQ hL hU
  obtain ⟨t, df⟩ := a
  obtain ⟨hd, hs, h0, h2, h4, -⟩ := hfr
  simp only at hd hs h0 h2 h4
  subst hd
  rw [eta117 t hs, h0, h2, h4]
  clear hs h0 h2 h4
  conv => arg 2; whnf
  cases hd : (m.epoch != l.epoch) with
  | true =>
    have hd' := hd
    have HD := Lib.hid hd
    clear hd
    refine wp_region_all (by kernel_rfl) (fun i v W => match i with | 0 => v = .pointer (some ⟨bx, 9, none⟩) | 1 => v = .int .i64 m.epoch | 2 => v = .pointer (some ⟨rb, 0, none⟩) | 3 => v = .pointer (some ⟨rb, 0, none⟩) | 4 => v = .pointer (some ⟨rb, 0, none⟩) | 5 => v = .int .i64 l.epoch | 6 => v = .bool true | _ => True) (fun W => Rk w0 W S rb bx l m A n cap os ∧ Below w.heap.size w W) (fun W W' => Below W.heap.size W W') (by kernel_rfl) ?hG ?hmono ?hstep ?hend
    case hG => exact ⟨HT.out.drew, (Below.refl _ _).drew⟩
    case hmono =>
      intro i v W W' hx hv
      match i with
      | 0 | 1 | 2 | 3 | 4 | 5 | 6 => exact hv
      | i + 7 => exact hv
    case hstep =>
      intro i o F U W ho hGW hat hoff hp
      have hrefl := fun W : World => Below.refl W.heap.size W
      match i with
        | 0 =>
          injection (show some _ = some o from ho) with ho
          subst ho
          refine on_ (wanted_none rfl) ?_
          have e4 : F.eval (.tmp 4) = .pointer (some ⟨bx, 0, none⟩) := (hoff 4 (of_decide_eq_true (by kernel_rfl))).trans rfl
          have t4 := act_tmp e4
          clear hat hoff hp
          exact wp_value' (.pointer (some ⟨bx, 9, none⟩)) W (by unfold execOp; go_simp) ⟨_, rfl, rfl, hGW, hrefl W⟩
        | 1 =>
          injection (show some _ = some o from ho) with ho
          subst ho
          refine on_ (wanted_none rfl) ?_
          have e15 : F.eval (.tmp 15) = .pointer (some ⟨bx, 9, none⟩) := (hat 0 15 (of_decide_eq_true (by kernel_rfl)) rfl).trans (hp ⟨0, .data⟩ (by simp) rfl : U 0 = .pointer (some ⟨bx, 9, none⟩))
          have t15 := act_tmp e15
          clear hat hoff hp
          obtain ⟨eA, en, ec, hA, hn', hc, oA, on, oc, pA, pn, pc, kb, ko⟩ := hGW.1.box
          have d0 := kb.cell 9
          simp at d0
          exact wp_value' (.int .i64 m.epoch) W (by unfold execOp; go_simp) ⟨_, rfl, rfl, hGW, hrefl W⟩
        | 2 =>
          injection (show some _ = some o from ho) with ho
          subst ho
          refine on_ (wanted_none rfl) ?_
          have e0 : F.eval (.tmp 0) = .pointer (some ⟨rb, 0, none⟩) := (hoff 0 (of_decide_eq_true (by kernel_rfl))).trans rfl
          exact wp_move' (.tmp 0) rfl ⟨_, rfl, e0, hGW, hrefl W⟩
        | 3 =>
          injection (show some _ = some o from ho) with ho
          subst ho
          refine on_ (wanted_none rfl) ?_
          have e17 : F.eval (.tmp 17) = .pointer (some ⟨rb, 0, none⟩) := (hat 2 17 (of_decide_eq_true (by kernel_rfl)) rfl).trans (hp ⟨2, .data⟩ (by simp) rfl : U 2 = .pointer (some ⟨rb, 0, none⟩))
          have t17 := act_tmp e17
          clear hat hoff hp
          exact wp_value' (.pointer (some ⟨rb, 0, none⟩)) W (by unfold execOp; go_simp) ⟨_, rfl, rfl, hGW, hrefl W⟩
        | 4 =>
          injection (show some _ = some o from ho) with ho
          subst ho
          refine on_ (wanted_none rfl) ?_
          have e18 : F.eval (.tmp 18) = .pointer (some ⟨rb, 0, none⟩) := (hat 3 18 (of_decide_eq_true (by kernel_rfl)) rfl).trans (hp ⟨3, .data⟩ (by simp) rfl : U 3 = .pointer (some ⟨rb, 0, none⟩))
          have t18 := act_tmp e18
          clear hat hoff hp
          exact wp_value' (.pointer (some ⟨rb, 0, none⟩)) W (by unfold execOp; go_simp) ⟨_, rfl, rfl, hGW, hrefl W⟩
        | 5 =>
          injection (show some _ = some o from ho) with ho
          subst ho
          refine on_ (wanted_none rfl) ?_
          have e19 : F.eval (.tmp 19) = .pointer (some ⟨rb, 0, none⟩) := (hat 4 19 (of_decide_eq_true (by kernel_rfl)) rfl).trans (hp ⟨4, .data⟩ (by simp) rfl : U 4 = .pointer (some ⟨rb, 0, none⟩))
          have t19 := act_tmp e19
          clear hat hoff hp
          obtain ⟨oA, on, oc, kl, ki⟩ := hGW.1.lane
          have d0 := kl.cell 0
          simp at d0
          exact wp_value' (.int .i64 l.epoch) W (by unfold execOp; go_simp) ⟨_, rfl, rfl, hGW, hrefl W⟩
        | 6 =>
          injection (show some _ = some o from ho) with ho
          subst ho
          refine on_ (wanted_none rfl) ?_
          have e16 : F.eval (.tmp 16) = .int .i64 m.epoch := (hat 1 16 (of_decide_eq_true (by kernel_rfl)) rfl).trans (hp ⟨1, .data⟩ (by simp) rfl : U 1 = .int .i64 m.epoch)
          have t16 := act_tmp e16
          have e20 : F.eval (.tmp 20) = .int .i64 l.epoch := (hat 5 20 (of_decide_eq_true (by kernel_rfl)) rfl).trans (hp ⟨5, .data⟩ (by simp) rfl : U 5 = .int .i64 l.epoch)
          have t20 := act_tmp e20
          clear hat hoff hp
          exact wp_value' (.bool true) W (by unfold execOp; go_simp) ⟨_, rfl, rfl, hGW, hrefl W⟩
        | i + 7 => exact absurd ho (by simp)
    case hend =>
      intro U W hGW hV
      have hx : U 6 = .bool true := hV 6 (of_decide_eq_true (by kernel_rfl))
      have hk := hGW.1
      clear hV hGW
      simp [putU, dstAt, Act.put, hx]
      exact HQ.out _ _ ⟨rfl, rfl, rfl, rfl, rfl, by rw [HD.out]; rfl, trivial⟩ hk
  | false =>
    have hd' := hd
    have HD := Lib.hid hd
    clear hd
    refine wp_region_all (by kernel_rfl) (fun i v W => match i with | 0 => v = .pointer (some ⟨bx, 9, none⟩) | 1 => v = .int .i64 m.epoch | 2 => v = .pointer (some ⟨rb, 0, none⟩) | 3 => v = .pointer (some ⟨rb, 0, none⟩) | 4 => v = .pointer (some ⟨rb, 0, none⟩) | 5 => v = .int .i64 l.epoch | 6 => v = .bool false | _ => True) (fun W => Rk w0 W S rb bx l m A n cap os ∧ Below w.heap.size w W) (fun W W' => Below W.heap.size W W') (by kernel_rfl) ?hG ?hmono ?hstep ?hend
    case hG => exact ⟨HT.out.drew, (Below.refl _ _).drew⟩
    case hmono =>
      intro i v W W' hx hv
      match i with
      | 0 | 1 | 2 | 3 | 4 | 5 | 6 => exact hv
      | i + 7 => exact hv
    case hstep =>
      intro i o F U W ho hGW hat hoff hp
      have hrefl := fun W : World => Below.refl W.heap.size W
      match i with
        | 0 =>
          injection (show some _ = some o from ho) with ho
          subst ho
          refine on_ (wanted_none rfl) ?_
          have e4 : F.eval (.tmp 4) = .pointer (some ⟨bx, 0, none⟩) := (hoff 4 (of_decide_eq_true (by kernel_rfl))).trans rfl
          have t4 := act_tmp e4
          clear hat hoff hp
          exact wp_value' (.pointer (some ⟨bx, 9, none⟩)) W (by unfold execOp; go_simp) ⟨_, rfl, rfl, hGW, hrefl W⟩
        | 1 =>
          injection (show some _ = some o from ho) with ho
          subst ho
          refine on_ (wanted_none rfl) ?_
          have e15 : F.eval (.tmp 15) = .pointer (some ⟨bx, 9, none⟩) := (hat 0 15 (of_decide_eq_true (by kernel_rfl)) rfl).trans (hp ⟨0, .data⟩ (by simp) rfl : U 0 = .pointer (some ⟨bx, 9, none⟩))
          have t15 := act_tmp e15
          clear hat hoff hp
          obtain ⟨eA, en, ec, hA, hn', hc, oA, on, oc, pA, pn, pc, kb, ko⟩ := hGW.1.box
          have d0 := kb.cell 9
          simp at d0
          exact wp_value' (.int .i64 m.epoch) W (by unfold execOp; go_simp) ⟨_, rfl, rfl, hGW, hrefl W⟩
        | 2 =>
          injection (show some _ = some o from ho) with ho
          subst ho
          refine on_ (wanted_none rfl) ?_
          have e0 : F.eval (.tmp 0) = .pointer (some ⟨rb, 0, none⟩) := (hoff 0 (of_decide_eq_true (by kernel_rfl))).trans rfl
          exact wp_move' (.tmp 0) rfl ⟨_, rfl, e0, hGW, hrefl W⟩
        | 3 =>
          injection (show some _ = some o from ho) with ho
          subst ho
          refine on_ (wanted_none rfl) ?_
          have e17 : F.eval (.tmp 17) = .pointer (some ⟨rb, 0, none⟩) := (hat 2 17 (of_decide_eq_true (by kernel_rfl)) rfl).trans (hp ⟨2, .data⟩ (by simp) rfl : U 2 = .pointer (some ⟨rb, 0, none⟩))
          have t17 := act_tmp e17
          clear hat hoff hp
          exact wp_value' (.pointer (some ⟨rb, 0, none⟩)) W (by unfold execOp; go_simp) ⟨_, rfl, rfl, hGW, hrefl W⟩
        | 4 =>
          injection (show some _ = some o from ho) with ho
          subst ho
          refine on_ (wanted_none rfl) ?_
          have e18 : F.eval (.tmp 18) = .pointer (some ⟨rb, 0, none⟩) := (hat 3 18 (of_decide_eq_true (by kernel_rfl)) rfl).trans (hp ⟨3, .data⟩ (by simp) rfl : U 3 = .pointer (some ⟨rb, 0, none⟩))
          have t18 := act_tmp e18
          clear hat hoff hp
          exact wp_value' (.pointer (some ⟨rb, 0, none⟩)) W (by unfold execOp; go_simp) ⟨_, rfl, rfl, hGW, hrefl W⟩
        | 5 =>
          injection (show some _ = some o from ho) with ho
          subst ho
          refine on_ (wanted_none rfl) ?_
          have e19 : F.eval (.tmp 19) = .pointer (some ⟨rb, 0, none⟩) := (hat 4 19 (of_decide_eq_true (by kernel_rfl)) rfl).trans (hp ⟨4, .data⟩ (by simp) rfl : U 4 = .pointer (some ⟨rb, 0, none⟩))
          have t19 := act_tmp e19
          clear hat hoff hp
          obtain ⟨oA, on, oc, kl, ki⟩ := hGW.1.lane
          have d0 := kl.cell 0
          simp at d0
          exact wp_value' (.int .i64 l.epoch) W (by unfold execOp; go_simp) ⟨_, rfl, rfl, hGW, hrefl W⟩
        | 6 =>
          injection (show some _ = some o from ho) with ho
          subst ho
          refine on_ (wanted_none rfl) ?_
          have e16 : F.eval (.tmp 16) = .int .i64 m.epoch := (hat 1 16 (of_decide_eq_true (by kernel_rfl)) rfl).trans (hp ⟨1, .data⟩ (by simp) rfl : U 1 = .int .i64 m.epoch)
          have t16 := act_tmp e16
          have e20 : F.eval (.tmp 20) = .int .i64 l.epoch := (hat 5 20 (of_decide_eq_true (by kernel_rfl)) rfl).trans (hp ⟨5, .data⟩ (by simp) rfl : U 5 = .int .i64 l.epoch)
          have t20 := act_tmp e20
          clear hat hoff hp
          exact wp_value' (.bool false) W (by unfold execOp; go_simp) ⟨_, rfl, rfl, hGW, hrefl W⟩
        | i + 7 => exact absurd ho (by simp)
    case hend =>
      intro U W hGW hV
      have hx : U 6 = .bool false := hV 6 (of_decide_eq_true (by kernel_rfl))
      have hk := hGW.1
      clear hV hGW
      simp [putU, dstAt, Act.put, hx]
      exact HQ.out _ _ ⟨rfl, rfl, rfl, rfl, rfl, by rw [HD.out]; rfl, trivial⟩ hk

set_option maxRecDepth 100000 in
set_option maxHeartbeats 4000000 in
theorem rt5 {w0 w : World} {S : Nat → Prop} {rb bx : Nat} {l : LaneC} {m : MailC} {A : Option Addr} {n cap : Nat} {os : List OpC} (Q : Exit → Act → World → Prop) (a : Act) (hL : ¬ S rb) (hU : ∀ b, w0.heap.size ≤ b → S b) (hfr : Fr 117 a [(0, .pointer (some ⟨rb, 0, none⟩)), (2, .slice A n cap), (4, .pointer (some ⟨bx, 0, none⟩))]) (h : Rk w0 w S rb bx l m A n cap os) (hn : n ≤ 4294967296)
    (hQ : ∀ a' w', Fr 117 a' [(0, .pointer (some ⟨rb, 0, none⟩)), (2, .slice A n cap), (4, .pointer (some ⟨bx, 0, none⟩)), (37, .bool (m.good && (decide (0 < m.atN) && hasB os m.atN m.atE)))] → Rk w0 w' S rb bx l m A n cap os → Q .normal a' w') :
    (part [1, 1, 1, 0, 0] (codeOf rtakeF)).wp Try.prog Q a w := by
  have HT := Lib.hid h
  have HQ := Lib.hid hQ
  have HL := Lib.hid hL
  have HU := Lib.hid hU
  clear h hQ hL hU
  obtain ⟨t, df⟩ := a
  obtain ⟨hd, hs, h0, h2, h4, -⟩ := hfr
  simp only at hd hs h0 h2 h4
  subst hd
  rw [eta117 t hs, h0, h2, h4]
  clear hs h0 h2 h4
  conv => arg 2; whnf
  obtain ⟨eA, en, ec, hA, hn', hc, oA, on, oc, pA, pn, pc, kb, ko⟩ := HT.out.box
  have c5 := kb.cell 5
  have c11 := kb.cell 11
  have c12 := kb.cell 12
  simp at c5 c11 c12
  clear kb ko
  cases hg : m.good with
  | false =>
    rw [hg] at c5
    have HG := Lib.hid hg
    clear hg
    go_wp2_with fail
    exact HQ.out _ _ ⟨rfl, rfl, rfl, rfl, rfl, by rw [HG.out]; rfl, trivial⟩ HT.out
  | true =>
    rw [hg] at c5
    have HG := Lib.hid hg
    clear hg
    by_cases h0 : 0 < m.atN
    · have d0 : decide (0 < m.atN) = true := decide_eq_true h0
      have D0 := Lib.hid d0
      clear h0
      go_wp2_with fail
      refine (rhas_any os w HT.out.ops hn).mono ?_
      rintro e w1 ⟨rfl, hb1⟩
      have HB1 := Lib.hid hb1
      clear hb1
      go_wp2_with fail
      exact HQ.out _ _ ⟨rfl, rfl, rfl, rfl, rfl, by rw [HG.out, D0.out]; rfl, trivial⟩ (HT.out.below HB1.out)
    · have d0 : decide (0 < m.atN) = false := decide_eq_false h0
      have D0 := Lib.hid d0
      clear h0
      go_wp2_with fail
      exact HQ.out _ _ ⟨rfl, rfl, rfl, rfl, rfl, by rw [HG.out, D0.out]; rfl, trivial⟩ HT.out

set_option maxRecDepth 100000 in
set_option maxHeartbeats 4000000 in
theorem rt6 {w0 w : World} {S : Nat → Prop} {rb bx : Nat} {l : LaneC} {m : MailC} {A : Option Addr} {n cap : Nat} {os : List OpC} (Q : Exit → Act → World → Prop) (a : Act) (hL : ¬ S rb) (hU : ∀ b, w0.heap.size ≤ b → S b) (hfr : Fr 117 a [(0, .pointer (some ⟨rb, 0, none⟩)), (2, .slice A n cap), (4, .pointer (some ⟨bx, 0, none⟩))]) (h : Rk w0 w S rb bx l m A n cap os) 
    (hQ : ∀ a' w', Fr 117 a' [(0, .pointer (some ⟨rb, 0, none⟩)), (2, .slice A n cap), (4, .pointer (some ⟨bx, 0, none⟩)), (46, .bool (decide (l.mN < m.atN)))] → Rk w0 w' S rb bx l m A n cap os → Q .normal a' w') :
    (part [1, 1, 1, 0, 1, 0, 0, 0] (codeOf rtakeF)).wp Try.prog Q a w := by
  have HT := Lib.hid h
  have HQ := Lib.hid hQ
  have HL := Lib.hid hL
  have HU := Lib.hid hU
  clear h hQ hL hU
  obtain ⟨t, df⟩ := a
  obtain ⟨hd, hs, h0, h2, h4, -⟩ := hfr
  simp only at hd hs h0 h2 h4
  subst hd
  rw [eta117 t hs, h0, h2, h4]
  clear hs h0 h2 h4
  conv => arg 2; whnf
  refine wp_region_all (by kernel_rfl) (fun i v W => match i with | 0 => v = .pointer (some ⟨bx, 11, none⟩) | 1 => v = .pointer (some ⟨bx, 11, none⟩) | 2 => v = .int .i64 m.atN | 3 => v = .pointer (some ⟨rb, 0, none⟩) | 4 => v = .pointer (some ⟨rb, 0, none⟩) | 5 => v = .pointer (some ⟨rb, 3, none⟩) | 6 => v = .pointer (some ⟨rb, 3, none⟩) | 7 => v = .int .i64 l.mN | 8 => v = .bool (decide (l.mN < m.atN)) | _ => True) (fun W => Rk w0 W S rb bx l m A n cap os ∧ Below w.heap.size w W) (fun W W' => Below W.heap.size W W') (by kernel_rfl) ?hG ?hmono ?hstep ?hend
  case hG => exact ⟨HT.out.drew, (Below.refl _ _).drew⟩
  case hmono =>
    intro i v W W' hx hv
    match i with
    | 0 | 1 | 2 | 3 | 4 | 5 | 6 | 7 | 8 => exact hv
    | i + 9 => exact hv
  case hstep =>
    intro i o F U W ho hGW hat hoff hp
    have hrefl := fun W : World => Below.refl W.heap.size W
    match i with
      | 0 =>
        injection (show some _ = some o from ho) with ho
        subst ho
        refine on_ (wanted_none rfl) ?_
        have e4 : F.eval (.tmp 4) = .pointer (some ⟨bx, 0, none⟩) := (hoff 4 (of_decide_eq_true (by kernel_rfl))).trans rfl
        have t4 := act_tmp e4
        clear hat hoff hp
        exact wp_value' (.pointer (some ⟨bx, 11, none⟩)) W (by unfold execOp; go_simp) ⟨_, rfl, rfl, hGW, hrefl W⟩
      | 1 =>
        injection (show some _ = some o from ho) with ho
        subst ho
        refine on_ (wanted_none rfl) ?_
        have e38 : F.eval (.tmp 38) = .pointer (some ⟨bx, 11, none⟩) := (hat 0 38 (of_decide_eq_true (by kernel_rfl)) rfl).trans (hp ⟨0, .data⟩ (by simp) rfl : U 0 = .pointer (some ⟨bx, 11, none⟩))
        have t38 := act_tmp e38
        clear hat hoff hp
        exact wp_value' (.pointer (some ⟨bx, 11, none⟩)) W (by unfold execOp; go_simp) ⟨_, rfl, rfl, hGW, hrefl W⟩
      | 2 =>
        injection (show some _ = some o from ho) with ho
        subst ho
        refine on_ (wanted_none rfl) ?_
        have e39 : F.eval (.tmp 39) = .pointer (some ⟨bx, 11, none⟩) := (hat 1 39 (of_decide_eq_true (by kernel_rfl)) rfl).trans (hp ⟨1, .data⟩ (by simp) rfl : U 1 = .pointer (some ⟨bx, 11, none⟩))
        have t39 := act_tmp e39
        clear hat hoff hp
        obtain ⟨eA, en, ec, hA, hn', hc, oA, on, oc, pA, pn, pc, kb, ko⟩ := hGW.1.box
        have d0 := kb.cell 11
        simp at d0
        exact wp_value' (.int .i64 m.atN) W (by unfold execOp; go_simp) ⟨_, rfl, rfl, hGW, hrefl W⟩
      | 3 =>
        injection (show some _ = some o from ho) with ho
        subst ho
        refine on_ (wanted_none rfl) ?_
        have e0 : F.eval (.tmp 0) = .pointer (some ⟨rb, 0, none⟩) := (hoff 0 (of_decide_eq_true (by kernel_rfl))).trans rfl
        exact wp_move' (.tmp 0) rfl ⟨_, rfl, e0, hGW, hrefl W⟩
      | 4 =>
        injection (show some _ = some o from ho) with ho
        subst ho
        refine on_ (wanted_none rfl) ?_
        have e41 : F.eval (.tmp 41) = .pointer (some ⟨rb, 0, none⟩) := (hat 3 41 (of_decide_eq_true (by kernel_rfl)) rfl).trans (hp ⟨3, .data⟩ (by simp) rfl : U 3 = .pointer (some ⟨rb, 0, none⟩))
        have t41 := act_tmp e41
        clear hat hoff hp
        exact wp_value' (.pointer (some ⟨rb, 0, none⟩)) W (by unfold execOp; go_simp) ⟨_, rfl, rfl, hGW, hrefl W⟩
      | 5 =>
        injection (show some _ = some o from ho) with ho
        subst ho
        refine on_ (wanted_none rfl) ?_
        have e42 : F.eval (.tmp 42) = .pointer (some ⟨rb, 0, none⟩) := (hat 4 42 (of_decide_eq_true (by kernel_rfl)) rfl).trans (hp ⟨4, .data⟩ (by simp) rfl : U 4 = .pointer (some ⟨rb, 0, none⟩))
        have t42 := act_tmp e42
        clear hat hoff hp
        exact wp_value' (.pointer (some ⟨rb, 3, none⟩)) W (by unfold execOp; go_simp) ⟨_, rfl, rfl, hGW, hrefl W⟩
      | 6 =>
        injection (show some _ = some o from ho) with ho
        subst ho
        refine on_ (wanted_none rfl) ?_
        have e43 : F.eval (.tmp 43) = .pointer (some ⟨rb, 3, none⟩) := (hat 5 43 (of_decide_eq_true (by kernel_rfl)) rfl).trans (hp ⟨5, .data⟩ (by simp) rfl : U 5 = .pointer (some ⟨rb, 3, none⟩))
        have t43 := act_tmp e43
        clear hat hoff hp
        exact wp_value' (.pointer (some ⟨rb, 3, none⟩)) W (by unfold execOp; go_simp) ⟨_, rfl, rfl, hGW, hrefl W⟩
      | 7 =>
        injection (show some _ = some o from ho) with ho
        subst ho
        refine on_ (wanted_none rfl) ?_
        have e44 : F.eval (.tmp 44) = .pointer (some ⟨rb, 3, none⟩) := (hat 6 44 (of_decide_eq_true (by kernel_rfl)) rfl).trans (hp ⟨6, .data⟩ (by simp) rfl : U 6 = .pointer (some ⟨rb, 3, none⟩))
        have t44 := act_tmp e44
        clear hat hoff hp
        obtain ⟨oA, on, oc, kl, ki⟩ := hGW.1.lane
        have d0 := kl.cell 3
        simp at d0
        exact wp_value' (.int .i64 l.mN) W (by unfold execOp; go_simp) ⟨_, rfl, rfl, hGW, hrefl W⟩
      | 8 =>
        injection (show some _ = some o from ho) with ho
        subst ho
        refine on_ (wanted_none rfl) ?_
        have e40 : F.eval (.tmp 40) = .int .i64 m.atN := (hat 2 40 (of_decide_eq_true (by kernel_rfl)) rfl).trans (hp ⟨2, .data⟩ (by simp) rfl : U 2 = .int .i64 m.atN)
        have t40 := act_tmp e40
        have e45 : F.eval (.tmp 45) = .int .i64 l.mN := (hat 7 45 (of_decide_eq_true (by kernel_rfl)) rfl).trans (hp ⟨7, .data⟩ (by simp) rfl : U 7 = .int .i64 l.mN)
        have t45 := act_tmp e45
        clear hat hoff hp
        exact wp_value' (.bool (decide (l.mN < m.atN))) W (by unfold execOp; go_simp) ⟨_, rfl, rfl, hGW, hrefl W⟩
      | i + 9 => exact absurd ho (by simp)
  case hend =>
    intro U W hGW hV
    have hx : U 8 = .bool (decide (l.mN < m.atN)) := hV 8 (of_decide_eq_true (by kernel_rfl))
    have hk := hGW.1
    clear hV hGW
    simp [putU, dstAt, Act.put, hx]
    exact HQ.out _ _ ⟨rfl, rfl, rfl, rfl, rfl, rfl, trivial⟩ hk

set_option maxRecDepth 100000 in
set_option maxHeartbeats 4000000 in
theorem rt7 {w0 w : World} {S : Nat → Prop} {rb bx : Nat} {l : LaneC} {m : MailC} {A : Option Addr} {n cap : Nat} {os : List OpC} (Q : Exit → Act → World → Prop) (a : Act) (hL : ¬ S rb) (hU : ∀ b, w0.heap.size ≤ b → S b) (hfr : Fr 117 a [(0, .pointer (some ⟨rb, 0, none⟩)), (2, .slice A n cap), (4, .pointer (some ⟨bx, 0, none⟩))]) (h : Rk w0 w S rb bx l m A n cap os) 
    (hQ : ∀ a' w', Fr 117 a' [(0, .pointer (some ⟨rb, 0, none⟩)), (2, .slice A n cap), (4, .pointer (some ⟨bx, 0, none⟩))] → Rk w0 w' S rb bx { l with mN := m.atN, mE := m.atE } m A n cap os → Q .normal a' w') :
    (part [1, 1, 1, 0, 1, 0, 0, 1, 0] (codeOf rtakeF)).wp Try.prog Q a w := by
  have HT := Lib.hid h
  have HQ := Lib.hid hQ
  have HL := Lib.hid hL
  have HU := Lib.hid hU
  clear h hQ hL hU
  obtain ⟨t, df⟩ := a
  obtain ⟨hd, hs, h0, h2, h4, -⟩ := hfr
  simp only at hd hs h0 h2 h4
  subst hd
  rw [eta117 t hs, h0, h2, h4]
  clear hs h0 h2 h4
  conv => arg 2; whnf
  obtain ⟨eA, en, ec, hA, hn', hc, oA, on, oc, pA, pn, pc, kb, ko⟩ := HT.out.box
  have c11 := kb.cell 11
  have c12 := kb.cell 12
  simp at c11 c12
  obtain ⟨qA, qn, qc, kl, ki⟩ := HT.out.lane
  have c3 := kl.cell 3
  have c4 := kl.cell 4
  have f3 := kl.frozen 3
  have f4 := kl.frozen 4
  simp at c3 c4
  have KL := Lib.hid kl
  have KI := Lib.hid ki
  clear kb ko kl ki
  go_wp2_with fail
  have ht : Turn rb w ((w.setCell ⟨rb, 3, none⟩ (.int .i64 m.atN)).setCell ⟨rb, 4, none⟩ (.int .i64 m.atE)) := (setCell_turn rb 3 _ w).trans (setCell_turn rb 4 _ _)
  exact HQ.out _ _ ⟨rfl, rfl, rfl, rfl, rfl, trivial⟩ (HT.out.turned HL.out ht ⟨qA, qn, qc, (KL.out.set_ 3 _).set_ 4 _, KI.out.kept (ht.kept HL.out)⟩)

set_option maxRecDepth 100000 in
set_option maxHeartbeats 4000000 in
theorem rt8 {w0 w : World} {S : Nat → Prop} {rb bx : Nat} {l : LaneC} {m : MailC} {A : Option Addr} {n cap : Nat} {os : List OpC} (Q : Exit → Act → World → Prop) (a : Act) (hL : ¬ S rb) (hU : ∀ b, w0.heap.size ≤ b → S b) (hfr : Fr 117 a [(0, .pointer (some ⟨rb, 0, none⟩)), (2, .slice A n cap), (4, .pointer (some ⟨bx, 0, none⟩))]) (h : Rk w0 w S rb bx l m A n cap os) 
    (hQ : ∀ a' w', Fr 117 a' [(0, .pointer (some ⟨rb, 0, none⟩)), (2, .slice A n cap), (4, .pointer (some ⟨bx, 0, none⟩))] → Rk w0 w' S rb bx { l with next := max l.next m.atN } m A n cap os → Q .normal a' w') :
    (part [1, 1, 1, 0, 1, 0, 1] (codeOf rtakeF)).wp Try.prog Q a w := by
  have HT := Lib.hid h
  have HQ := Lib.hid hQ
  have HL := Lib.hid hL
  have HU := Lib.hid hU
  clear h hQ hL hU
  obtain ⟨t, df⟩ := a
  obtain ⟨hd, hs, h0, h2, h4, -⟩ := hfr
  simp only at hd hs h0 h2 h4
  subst hd
  rw [eta117 t hs, h0, h2, h4]
  clear hs h0 h2 h4
  conv => arg 2; whnf
  obtain ⟨l1, hl1⟩ : ∃ l1, l1 = ({ l with next := max l.next m.atN } : LaneC) := ⟨_, rfl⟩
  have HE := Lib.hid hl1
  clear hl1
  refine wp_region_all (by kernel_rfl) (fun i v W => match i with | 0 => v = .pointer (some ⟨rb, 0, none⟩) | 1 => v = .pointer (some ⟨rb, 0, none⟩) | 2 => v = .pointer (some ⟨rb, 0, none⟩) | 3 => v = .pointer (some ⟨rb, 2, none⟩) | 4 => v = .int .i64 l.next ∨ v = .int .i64 l1.next | 5 => v = .pointer (some ⟨bx, 11, none⟩) | 6 => v = .pointer (some ⟨bx, 11, none⟩) | 7 => v = .int .i64 m.atN | 8 => v = .int .i64 l1.next | 9 => v = .pointer (some ⟨rb, 0, none⟩) | 10 => v = .pointer (some ⟨rb, 2, none⟩) | 11 => RefIs W S rb l1 | _ => True) (fun W => Rk2 w0 W S rb bx l l1 m A n cap os) (fun W W' => Turn rb W W' ∧ (RefIs W S rb l1 → RefIs W' S rb l1)) (by kernel_rfl) ?hG ?hmono ?hstep ?hend
  case hG => exact HT.out.drew.two
  case hmono =>
    intro i v W W' hx hv
    match i with
    | 11 =>
      exact hx.2 hv
    | 0 | 1 | 2 | 3 | 4 | 5 | 6 | 7 | 8 | 9 | 10 => exact hv
    | i + 12 => exact hv
  case hstep =>
    intro i o F U W ho hGW hat hoff hp
    have hrefl := fun W : World => (⟨Turn.refl _ _, fun h => h⟩ : Turn rb W W ∧ (RefIs W S rb l1 → RefIs W S rb l1))
    match i with
      | 0 =>
        injection (show some _ = some o from ho) with ho
        subst ho
        refine on_ (wanted_none rfl) ?_
        have e0 : F.eval (.tmp 0) = .pointer (some ⟨rb, 0, none⟩) := (hoff 0 (of_decide_eq_true (by kernel_rfl))).trans rfl
        exact wp_move' (.tmp 0) rfl ⟨_, rfl, e0, hGW, hrefl W⟩
      | 1 =>
        injection (show some _ = some o from ho) with ho
        subst ho
        refine on_ (wanted_none rfl) ?_
        have e0 : F.eval (.tmp 0) = .pointer (some ⟨rb, 0, none⟩) := (hoff 0 (of_decide_eq_true (by kernel_rfl))).trans rfl
        exact wp_move' (.tmp 0) rfl ⟨_, rfl, e0, hGW, hrefl W⟩
      | 2 =>
        injection (show some _ = some o from ho) with ho
        subst ho
        refine on_ (wanted_none rfl) ?_
        have e53 : F.eval (.tmp 53) = .pointer (some ⟨rb, 0, none⟩) := (hat 1 53 (of_decide_eq_true (by kernel_rfl)) rfl).trans (hp ⟨1, .data⟩ (by simp) rfl : U 1 = .pointer (some ⟨rb, 0, none⟩))
        have t53 := act_tmp e53
        clear hat hoff hp
        exact wp_value' (.pointer (some ⟨rb, 0, none⟩)) W (by unfold execOp; go_simp) ⟨_, rfl, rfl, hGW, hrefl W⟩
      | 3 =>
        injection (show some _ = some o from ho) with ho
        subst ho
        refine on_ (wanted_none rfl) ?_
        have e54 : F.eval (.tmp 54) = .pointer (some ⟨rb, 0, none⟩) := (hat 2 54 (of_decide_eq_true (by kernel_rfl)) rfl).trans (hp ⟨2, .data⟩ (by simp) rfl : U 2 = .pointer (some ⟨rb, 0, none⟩))
        have t54 := act_tmp e54
        clear hat hoff hp
        exact wp_value' (.pointer (some ⟨rb, 2, none⟩)) W (by unfold execOp; go_simp) ⟨_, rfl, rfl, hGW, hrefl W⟩
      | 4 =>
        injection (show some _ = some o from ho) with ho
        subst ho
        refine on_ (wanted_none rfl) ?_
        have e55 : F.eval (.tmp 55) = .pointer (some ⟨rb, 2, none⟩) := (hat 3 55 (of_decide_eq_true (by kernel_rfl)) rfl).trans (hp ⟨3, .data⟩ (by simp) rfl : U 3 = .pointer (some ⟨rb, 2, none⟩))
        have t55 := act_tmp e55
        clear hat hoff hp
        rcases hGW.lane with ⟨oA, on, oc, kl, ki⟩ | ⟨oA, on, oc, kl, ki⟩
        · have c7 := kl.cell 2
          simp at c7
          exact wp_value' (.int .i64 l.next) W (by unfold execOp; go_simp) ⟨_, rfl, .inl rfl, hGW, hrefl W⟩
        · have c7 := kl.cell 2
          simp at c7
          exact wp_value' (.int .i64 l1.next) W (by unfold execOp; go_simp) ⟨_, rfl, .inr rfl, hGW, hrefl W⟩
      | 5 =>
        injection (show some _ = some o from ho) with ho
        subst ho
        refine on_ (wanted_none rfl) ?_
        have e4 : F.eval (.tmp 4) = .pointer (some ⟨bx, 0, none⟩) := (hoff 4 (of_decide_eq_true (by kernel_rfl))).trans rfl
        have t4 := act_tmp e4
        clear hat hoff hp
        exact wp_value' (.pointer (some ⟨bx, 11, none⟩)) W (by unfold execOp; go_simp) ⟨_, rfl, rfl, hGW, hrefl W⟩
      | 6 =>
        injection (show some _ = some o from ho) with ho
        subst ho
        refine on_ (wanted_none rfl) ?_
        have e57 : F.eval (.tmp 57) = .pointer (some ⟨bx, 11, none⟩) := (hat 5 57 (of_decide_eq_true (by kernel_rfl)) rfl).trans (hp ⟨5, .data⟩ (by simp) rfl : U 5 = .pointer (some ⟨bx, 11, none⟩))
        have t57 := act_tmp e57
        clear hat hoff hp
        exact wp_value' (.pointer (some ⟨bx, 11, none⟩)) W (by unfold execOp; go_simp) ⟨_, rfl, rfl, hGW, hrefl W⟩
      | 7 =>
        injection (show some _ = some o from ho) with ho
        subst ho
        refine on_ (wanted_none rfl) ?_
        have e58 : F.eval (.tmp 58) = .pointer (some ⟨bx, 11, none⟩) := (hat 6 58 (of_decide_eq_true (by kernel_rfl)) rfl).trans (hp ⟨6, .data⟩ (by simp) rfl : U 6 = .pointer (some ⟨bx, 11, none⟩))
        have t58 := act_tmp e58
        clear hat hoff hp
        obtain ⟨eA, en, ec, hA, hn', hc, oA, on, oc, pA, pn, pc, kb, ko⟩ := hGW.box
        have d0 := kb.cell 11
        simp at d0
        exact wp_value' (.int .i64 m.atN) W (by unfold execOp; go_simp) ⟨_, rfl, rfl, hGW, hrefl W⟩
      | 8 =>
        injection (show some _ = some o from ho) with ho
        subst ho
        refine on_ (wanted_none rfl) ?_
        have e56 := hat 4 56 (of_decide_eq_true (by kernel_rfl)) rfl
        have v56 := hp ⟨4, .data⟩ (by simp) rfl
        have e59 : F.eval (.tmp 59) = .int .i64 m.atN := (hat 7 59 (of_decide_eq_true (by kernel_rfl)) rfl).trans (hp ⟨7, .data⟩ (by simp) rfl : U 7 = .int .i64 m.atN)
        have t59 := act_tmp e59
        clear hat hoff hp
        rcases v56 with h56 | h56
        · rw [h56] at e56
          have t56 := act_tmp e56
          have q : (if m.atN > l.next then m.atN else l.next) = l1.next := by rw [HE.out]; show _ = max l.next m.atN; split <;> omega
          exact wp_value' (.int .i64 (if m.atN > l.next then m.atN else l.next)) W (by unfold execOp; go_simp) ⟨_, rfl, congrArg (Value.int .i64) q, hGW, hrefl W⟩
        · rw [h56] at e56
          have t56 := act_tmp e56
          have q : (if m.atN > l1.next then m.atN else l1.next) = l1.next := by rw [HE.out]; show (if m.atN > max l.next m.atN then m.atN else max l.next m.atN) = max l.next m.atN; split <;> omega
          exact wp_value' (.int .i64 (if m.atN > l1.next then m.atN else l1.next)) W (by unfold execOp; go_simp) ⟨_, rfl, congrArg (Value.int .i64) q, hGW, hrefl W⟩
      | 9 =>
        injection (show some _ = some o from ho) with ho
        subst ho
        refine on_ (wanted_none rfl) ?_
        have e52 : F.eval (.tmp 52) = .pointer (some ⟨rb, 0, none⟩) := (hat 0 52 (of_decide_eq_true (by kernel_rfl)) rfl).trans (hp ⟨0, .data⟩ (by simp) rfl : U 0 = .pointer (some ⟨rb, 0, none⟩))
        have t52 := act_tmp e52
        clear hat hoff hp
        exact wp_value' (.pointer (some ⟨rb, 0, none⟩)) W (by unfold execOp; go_simp) ⟨_, rfl, rfl, hGW, hrefl W⟩
      | 10 =>
        injection (show some _ = some o from ho) with ho
        subst ho
        refine on_ (wanted_none rfl) ?_
        have e61 : F.eval (.tmp 61) = .pointer (some ⟨rb, 0, none⟩) := (hat 9 61 (of_decide_eq_true (by kernel_rfl)) rfl).trans (hp ⟨9, .data⟩ (by simp) rfl : U 9 = .pointer (some ⟨rb, 0, none⟩))
        have t61 := act_tmp e61
        clear hat hoff hp
        exact wp_value' (.pointer (some ⟨rb, 2, none⟩)) W (by unfold execOp; go_simp) ⟨_, rfl, rfl, hGW, hrefl W⟩
      | 11 =>
        injection (show some _ = some o from ho) with ho
        subst ho
        refine on_ (wanted_none rfl) ?_
        have e62 : F.eval (.tmp 62) = .pointer (some ⟨rb, 2, none⟩) := (hat 10 62 (of_decide_eq_true (by kernel_rfl)) rfl).trans (hp ⟨10, .data⟩ (by simp) rfl : U 10 = .pointer (some ⟨rb, 2, none⟩))
        have t62 := act_tmp e62
        have e60 : F.eval (.tmp 60) = .int .i64 l1.next := (hat 8 60 (of_decide_eq_true (by kernel_rfl)) rfl).trans (hp ⟨8, .data⟩ (by simp) rfl : U 8 = .int .i64 l1.next)
        have t60 := act_tmp e60
        clear hat hoff hp
        have hnew : ∀ l0 : LaneC, l1 = { l0 with next := l1.next } → RefIs W S rb l0 → RefIs (W.setCell ⟨rb, 2, none⟩ (.int .i64 l1.next)) S rb l1 := by
          rintro l0 e0 ⟨oA, on, oc, kl, ki⟩
          have ht := setCell_turn rb 2 (.int .i64 l1.next) W
          rw [e0]
          exact ⟨oA, on, oc, kl.set_ 2 _, ki.kept (ht.kept HL.out)⟩
        have hl : RefIs (W.setCell ⟨rb, 2, none⟩ (.int .i64 l1.next)) S rb l1 := by
          rcases hGW.lane with h | h
          · exact hnew l (by rw [HE.out]) h
          · exact hnew l1 rfl h
        have hc : ∃ x, W.cell? ⟨rb, 2, none⟩ = some (.int .i64 x) ∧ W.frozen? ⟨rb, 2, none⟩ = false := by
          rcases hGW.lane with ⟨oA, on, oc, kl, ki⟩ | ⟨oA, on, oc, kl, ki⟩ <;> exact ⟨_, kl.cell 2, kl.frozen 2⟩
        obtain ⟨x, c7, f7⟩ := hc
        refine wp_skip' (W.setCell ⟨rb, 2, none⟩ (.int .i64 l1.next)) (by unfold execOp; go_simp) ?_
        exact ⟨_, rfl, hl, hGW.turned HL.out (setCell_turn _ _ _ _) hl, setCell_turn _ _ _ _, fun _ => hl⟩
      | i + 12 => exact absurd ho (by simp)
  case hend =>
    intro U W hGW hV
    have hl1 : RefIs W S rb l1 := hV 11 (of_decide_eq_true (by kernel_rfl))
    have hk := hGW.one hl1
    rw [HE.out] at hk
    clear hV hGW hl1
    simp [putU, dstAt, Act.put]
    exact HQ.out _ _ ⟨rfl, rfl, rfl, rfl, rfl, trivial⟩ hk

set_option maxRecDepth 100000 in
set_option maxHeartbeats 4000000 in
theorem rt9 {w0 w : World} {S : Nat → Prop} {rb bx : Nat} {l : LaneC} {m : MailC} {A : Option Addr} {n cap : Nat} {os : List OpC} (Q : Exit → Act → World → Prop) (a : Act) (hL : ¬ S rb) (hU : ∀ b, w0.heap.size ≤ b → S b) (hfr : Fr 117 a [(0, .pointer (some ⟨rb, 0, none⟩)), (2, .slice A n cap), (4, .pointer (some ⟨bx, 0, none⟩))]) (h : Rk w0 w S rb bx l m A n cap os) (hn : n ≤ 4294967296)
    (hQ : ∀ a' w', Fr 117 a' [(0, .pointer (some ⟨rb, 0, none⟩)), (2, .slice A n cap), (4, .pointer (some ⟨bx, 0, none⟩)), (82, .bool (m.good && (hasB os m.whN m.whE && decide (l.wN ≤ m.whN))))] → Rk w0 w' S rb bx l m A n cap os → Q .normal a' w') :
    (part [1, 1, 1, 1, 0, 0] (codeOf rtakeF)).wp Try.prog Q a w := by
  have HT := Lib.hid h
  have HQ := Lib.hid hQ
  have HL := Lib.hid hL
  have HU := Lib.hid hU
  clear h hQ hL hU
  obtain ⟨t, df⟩ := a
  obtain ⟨hd, hs, h0, h2, h4, -⟩ := hfr
  simp only at hd hs h0 h2 h4
  subst hd
  rw [eta117 t hs, h0, h2, h4]
  clear hs h0 h2 h4
  conv => arg 2; whnf
  cases hg : m.good with
  | false =>
    have HG := Lib.hid hg
    clear hg
    refine wp_region_all (by kernel_rfl) (fun i v W => match i with | 0 => v = .pointer (some ⟨bx, 5, none⟩) | 1 => v = .bool false | 2 => v = .bool false | 3 => v = undef | 4 => v = undef | 5 => v = undef | 6 => v = undef | 7 => v = .bool false | 8 => v = .bool false | 9 => v = undef | 10 => v = undef | 11 => v = undef | 12 => v = undef | 13 => v = undef | 14 => v = undef | 15 => v = undef | 16 => v = undef | 17 => v = undef | 18 => v = undef | 19 => v = .bool false | _ => True) (fun W => Rk w0 W S rb bx l m A n cap os ∧ Below w.heap.size w W) (fun W W' => Below W.heap.size W W') (by kernel_rfl) ?hG ?hmono ?hstep ?hend
    case hG => exact ⟨HT.out.drew, (Below.refl _ _).drew⟩
    case hmono =>
      intro i v W W' hx hv
      match i with
      | 0 | 1 | 2 | 3 | 4 | 5 | 6 | 7 | 8 | 9 | 10 | 11 | 12 | 13 | 14 | 15 | 16 | 17 | 18 | 19 => exact hv
      | i + 20 => exact hv
    case hstep =>
      intro i o F U W ho hGW hat hoff hp
      have hrefl := fun W : World => Below.refl W.heap.size W
      match i with
        | 0 =>
          injection (show some _ = some o from ho) with ho
          subst ho
          refine on_ (wanted_none rfl) ?_
          have e4 : F.eval (.tmp 4) = .pointer (some ⟨bx, 0, none⟩) := (hoff 4 (of_decide_eq_true (by kernel_rfl))).trans rfl
          have t4 := act_tmp e4
          clear hat hoff hp
          exact wp_value' (.pointer (some ⟨bx, 5, none⟩)) W (by unfold execOp; go_simp) ⟨_, rfl, rfl, hGW, hrefl W⟩
        | 1 =>
          injection (show some _ = some o from ho) with ho
          subst ho
          refine on_ (wanted_none rfl) ?_
          have e63 : F.eval (.tmp 63) = .pointer (some ⟨bx, 5, none⟩) := (hat 0 63 (of_decide_eq_true (by kernel_rfl)) rfl).trans (hp ⟨0, .data⟩ (by simp) rfl : U 0 = .pointer (some ⟨bx, 5, none⟩))
          have t63 := act_tmp e63
          clear hat hoff hp
          obtain ⟨eA, en, ec, hA, hn', hc, oA, on, oc, pA, pn, pc, kb, ko⟩ := hGW.1.box
          have d0 := kb.cell 5
          rw [show (mailC m.kind m.term m.index m.prev m.commit m.good eA en ec m.data hA hn' hc m.epoch m.site m.atN m.atE m.whN m.whE oA on oc pA pn pc)[5]? = some (.bool m.good) from rfl, HG.out] at d0
          exact wp_value' (.bool false) W (by unfold execOp; go_simp) ⟨_, rfl, rfl, hGW, hrefl W⟩
        | 2 =>
          injection (show some _ = some o from ho) with ho
          subst ho
          refine on_ (wanted_none rfl) ?_
          have e64 : F.eval (.tmp 64) = .bool false := (hat 1 64 (of_decide_eq_true (by kernel_rfl)) rfl).trans (hp ⟨1, .data⟩ (by simp) rfl : U 1 = .bool false)
          exact wp_move' (.tmp 64) rfl ⟨_, rfl, e64, hGW, hrefl W⟩
        | 3 =>
          injection (show some _ = some o from ho) with ho
          subst ho
          have eg : F.eval (.tmp 65) = .bool false := (hat 2 65 (of_decide_eq_true (by kernel_rfl)) rfl).trans (hp ⟨2, .guard⟩ (by simp) rfl : U 2 = .bool false)
          exact off_ (W := W) ((wanted_by rfl rfl eg).trans rfl) rfl
        | 4 =>
          injection (show some _ = some o from ho) with ho
          subst ho
          have eg : F.eval (.tmp 65) = .bool false := (hat 2 65 (of_decide_eq_true (by kernel_rfl)) rfl).trans (hp ⟨2, .guard⟩ (by simp) rfl : U 2 = .bool false)
          exact off_ (W := W) ((wanted_by rfl rfl eg).trans rfl) rfl
        | 5 =>
          injection (show some _ = some o from ho) with ho
          subst ho
          have eg : F.eval (.tmp 65) = .bool false := (hat 2 65 (of_decide_eq_true (by kernel_rfl)) rfl).trans (hp ⟨2, .guard⟩ (by simp) rfl : U 2 = .bool false)
          exact off_ (W := W) ((wanted_by rfl rfl eg).trans rfl) rfl
        | 6 =>
          injection (show some _ = some o from ho) with ho
          subst ho
          have eg : F.eval (.tmp 65) = .bool false := (hat 2 65 (of_decide_eq_true (by kernel_rfl)) rfl).trans (hp ⟨2, .guard⟩ (by simp) rfl : U 2 = .bool false)
          exact off_ (W := W) ((wanted_by rfl rfl eg).trans rfl) rfl
        | 7 =>
          injection (show some _ = some o from ho) with ho
          subst ho
          refine on_ (wanted_none rfl) ?_
          have e65 : F.eval (.tmp 65) = .bool false := (hat 2 65 (of_decide_eq_true (by kernel_rfl)) rfl).trans (hp ⟨2, .data⟩ (by simp) rfl : U 2 = .bool false)
          have t65 := act_tmp e65
          clear hat hoff hp
          exact wp_value' (.bool false) W (by unfold execOp; go_simp) ⟨_, rfl, rfl, hGW, hrefl W⟩
        | 8 =>
          injection (show some _ = some o from ho) with ho
          subst ho
          refine on_ (wanted_none rfl) ?_
          have e70 : F.eval (.tmp 70) = .bool false := (hat 7 70 (of_decide_eq_true (by kernel_rfl)) rfl).trans (hp ⟨7, .data⟩ (by simp) rfl : U 7 = .bool false)
          exact wp_move' (.tmp 70) rfl ⟨_, rfl, e70, hGW, hrefl W⟩
        | 9 =>
          injection (show some _ = some o from ho) with ho
          subst ho
          have eg : F.eval (.tmp 71) = .bool false := (hat 8 71 (of_decide_eq_true (by kernel_rfl)) rfl).trans (hp ⟨8, .guard⟩ (by simp) rfl : U 8 = .bool false)
          exact off_ (W := W) ((wanted_by rfl rfl eg).trans rfl) rfl
        | 10 =>
          injection (show some _ = some o from ho) with ho
          subst ho
          have eg : F.eval (.tmp 71) = .bool false := (hat 8 71 (of_decide_eq_true (by kernel_rfl)) rfl).trans (hp ⟨8, .guard⟩ (by simp) rfl : U 8 = .bool false)
          exact off_ (W := W) ((wanted_by rfl rfl eg).trans rfl) rfl
        | 11 =>
          injection (show some _ = some o from ho) with ho
          subst ho
          have eg : F.eval (.tmp 71) = .bool false := (hat 8 71 (of_decide_eq_true (by kernel_rfl)) rfl).trans (hp ⟨8, .guard⟩ (by simp) rfl : U 8 = .bool false)
          exact off_ (W := W) ((wanted_by rfl rfl eg).trans rfl) rfl
        | 12 =>
          injection (show some _ = some o from ho) with ho
          subst ho
          have eg : F.eval (.tmp 71) = .bool false := (hat 8 71 (of_decide_eq_true (by kernel_rfl)) rfl).trans (hp ⟨8, .guard⟩ (by simp) rfl : U 8 = .bool false)
          exact off_ (W := W) ((wanted_by rfl rfl eg).trans rfl) rfl
        | 13 =>
          injection (show some _ = some o from ho) with ho
          subst ho
          have eg : F.eval (.tmp 71) = .bool false := (hat 8 71 (of_decide_eq_true (by kernel_rfl)) rfl).trans (hp ⟨8, .guard⟩ (by simp) rfl : U 8 = .bool false)
          exact off_ (W := W) ((wanted_by rfl rfl eg).trans rfl) rfl
        | 14 =>
          injection (show some _ = some o from ho) with ho
          subst ho
          have eg : F.eval (.tmp 71) = .bool false := (hat 8 71 (of_decide_eq_true (by kernel_rfl)) rfl).trans (hp ⟨8, .guard⟩ (by simp) rfl : U 8 = .bool false)
          exact off_ (W := W) ((wanted_by rfl rfl eg).trans rfl) rfl
        | 15 =>
          injection (show some _ = some o from ho) with ho
          subst ho
          have eg : F.eval (.tmp 71) = .bool false := (hat 8 71 (of_decide_eq_true (by kernel_rfl)) rfl).trans (hp ⟨8, .guard⟩ (by simp) rfl : U 8 = .bool false)
          exact off_ (W := W) ((wanted_by rfl rfl eg).trans rfl) rfl
        | 16 =>
          injection (show some _ = some o from ho) with ho
          subst ho
          have eg : F.eval (.tmp 71) = .bool false := (hat 8 71 (of_decide_eq_true (by kernel_rfl)) rfl).trans (hp ⟨8, .guard⟩ (by simp) rfl : U 8 = .bool false)
          exact off_ (W := W) ((wanted_by rfl rfl eg).trans rfl) rfl
        | 17 =>
          injection (show some _ = some o from ho) with ho
          subst ho
          have eg : F.eval (.tmp 71) = .bool false := (hat 8 71 (of_decide_eq_true (by kernel_rfl)) rfl).trans (hp ⟨8, .guard⟩ (by simp) rfl : U 8 = .bool false)
          exact off_ (W := W) ((wanted_by rfl rfl eg).trans rfl) rfl
        | 18 =>
          injection (show some _ = some o from ho) with ho
          subst ho
          have eg : F.eval (.tmp 71) = .bool false := (hat 8 71 (of_decide_eq_true (by kernel_rfl)) rfl).trans (hp ⟨8, .guard⟩ (by simp) rfl : U 8 = .bool false)
          exact off_ (W := W) ((wanted_by rfl rfl eg).trans rfl) rfl
        | 19 =>
          injection (show some _ = some o from ho) with ho
          subst ho
          refine on_ (wanted_none rfl) ?_
          have e71 : F.eval (.tmp 71) = .bool false := (hat 8 71 (of_decide_eq_true (by kernel_rfl)) rfl).trans (hp ⟨8, .data⟩ (by simp) rfl : U 8 = .bool false)
          have t71 := act_tmp e71
          clear hat hoff hp
          exact wp_value' (.bool false) W (by unfold execOp; go_simp) ⟨_, rfl, rfl, hGW, hrefl W⟩
        | i + 20 => exact absurd ho (by simp)
    case hend =>
      intro U W hGW hV
      have hx : U 19 = .bool false := hV 19 (of_decide_eq_true (by kernel_rfl))
      have hk := hGW.1
      clear hV hGW
      simp [putU, dstAt, Act.put, hx]
      exact HQ.out _ _ ⟨rfl, rfl, rfl, rfl, rfl, by rw [HG.out]; first | rfl | (simp; rfl) | simp, trivial⟩ hk
  | true =>
    have HG := Lib.hid hg
    clear hg
    cases hh : hasB os m.whN m.whE with
    | false =>
      have HH := Lib.hid hh
      clear hh
      refine wp_region_all (by kernel_rfl) (fun i v W => match i with | 0 => v = .pointer (some ⟨bx, 5, none⟩) | 1 => v = .bool true | 2 => v = .bool true | 3 => v = .slice A n cap | 4 => v = .pointer (some ⟨bx, 13, none⟩) | 5 => v = .agg #[.int .i64 m.whN, .int .i64 m.whE] | 6 => v = .bool false | 7 => v = .bool false | 8 => v = .bool false | 9 => v = undef | 10 => v = undef | 11 => v = undef | 12 => v = undef | 13 => v = undef | 14 => v = undef | 15 => v = undef | 16 => v = undef | 17 => v = undef | 18 => v = undef | 19 => v = .bool false | _ => True) (fun W => Rk w0 W S rb bx l m A n cap os ∧ Below w.heap.size w W) (fun W W' => Below W.heap.size W W') (by kernel_rfl) ?hG ?hmono ?hstep ?hend
      case hG => exact ⟨HT.out.drew, (Below.refl _ _).drew⟩
      case hmono =>
        intro i v W W' hx hv
        match i with
        | 0 | 1 | 2 | 3 | 4 | 5 | 6 | 7 | 8 | 9 | 10 | 11 | 12 | 13 | 14 | 15 | 16 | 17 | 18 | 19 => exact hv
        | i + 20 => exact hv
      case hstep =>
        intro i o F U W ho hGW hat hoff hp
        have hrefl := fun W : World => Below.refl W.heap.size W
        match i with
          | 0 =>
            injection (show some _ = some o from ho) with ho
            subst ho
            refine on_ (wanted_none rfl) ?_
            have e4 : F.eval (.tmp 4) = .pointer (some ⟨bx, 0, none⟩) := (hoff 4 (of_decide_eq_true (by kernel_rfl))).trans rfl
            have t4 := act_tmp e4
            clear hat hoff hp
            exact wp_value' (.pointer (some ⟨bx, 5, none⟩)) W (by unfold execOp; go_simp) ⟨_, rfl, rfl, hGW, hrefl W⟩
          | 1 =>
            injection (show some _ = some o from ho) with ho
            subst ho
            refine on_ (wanted_none rfl) ?_
            have e63 : F.eval (.tmp 63) = .pointer (some ⟨bx, 5, none⟩) := (hat 0 63 (of_decide_eq_true (by kernel_rfl)) rfl).trans (hp ⟨0, .data⟩ (by simp) rfl : U 0 = .pointer (some ⟨bx, 5, none⟩))
            have t63 := act_tmp e63
            clear hat hoff hp
            obtain ⟨eA, en, ec, hA, hn', hc, oA, on, oc, pA, pn, pc, kb, ko⟩ := hGW.1.box
            have d0 := kb.cell 5
            rw [show (mailC m.kind m.term m.index m.prev m.commit m.good eA en ec m.data hA hn' hc m.epoch m.site m.atN m.atE m.whN m.whE oA on oc pA pn pc)[5]? = some (.bool m.good) from rfl, HG.out] at d0
            exact wp_value' (.bool true) W (by unfold execOp; go_simp) ⟨_, rfl, rfl, hGW, hrefl W⟩
          | 2 =>
            injection (show some _ = some o from ho) with ho
            subst ho
            refine on_ (wanted_none rfl) ?_
            have e64 : F.eval (.tmp 64) = .bool true := (hat 1 64 (of_decide_eq_true (by kernel_rfl)) rfl).trans (hp ⟨1, .data⟩ (by simp) rfl : U 1 = .bool true)
            exact wp_move' (.tmp 64) rfl ⟨_, rfl, e64, hGW, hrefl W⟩
          | 3 =>
            injection (show some _ = some o from ho) with ho
            subst ho
            have eg : F.eval (.tmp 65) = .bool true := (hat 2 65 (of_decide_eq_true (by kernel_rfl)) rfl).trans (hp ⟨2, .guard⟩ (by simp) rfl : U 2 = .bool true)
            refine on_ ((wanted_by rfl rfl eg).trans rfl) ?_
            have e2 : F.eval (.tmp 2) = .slice A n cap := (hoff 2 (of_decide_eq_true (by kernel_rfl))).trans rfl
            exact wp_move' (.tmp 2) rfl ⟨_, rfl, e2, hGW, hrefl W⟩
          | 4 =>
            injection (show some _ = some o from ho) with ho
            subst ho
            have eg : F.eval (.tmp 65) = .bool true := (hat 2 65 (of_decide_eq_true (by kernel_rfl)) rfl).trans (hp ⟨2, .guard⟩ (by simp) rfl : U 2 = .bool true)
            refine on_ ((wanted_by rfl rfl eg).trans rfl) ?_
            have e4 : F.eval (.tmp 4) = .pointer (some ⟨bx, 0, none⟩) := (hoff 4 (of_decide_eq_true (by kernel_rfl))).trans rfl
            have t4 := act_tmp e4
            clear hat hoff hp
            exact wp_value' (.pointer (some ⟨bx, 13, none⟩)) W (by unfold execOp; go_simp) ⟨_, rfl, rfl, hGW, hrefl W⟩
          | 5 =>
            injection (show some _ = some o from ho) with ho
            subst ho
            have eg : F.eval (.tmp 65) = .bool true := (hat 2 65 (of_decide_eq_true (by kernel_rfl)) rfl).trans (hp ⟨2, .guard⟩ (by simp) rfl : U 2 = .bool true)
            refine on_ ((wanted_by rfl rfl eg).trans rfl) ?_
            have e67 : F.eval (.tmp 67) = .pointer (some ⟨bx, 13, none⟩) := (hat 4 67 (of_decide_eq_true (by kernel_rfl)) rfl).trans (hp ⟨4, .data⟩ (by simp) rfl : U 4 = .pointer (some ⟨bx, 13, none⟩))
            have t67 := act_tmp e67
            clear hat hoff hp
            obtain ⟨eA, en, ec, hA, hn', hc, oA, on, oc, pA, pn, pc, kb, ko⟩ := hGW.1.box
            have d0 := kb.cell 13
            have d1 := kb.cell 14
            simp at d0 d1
            exact wp_value' (.agg #[.int .i64 m.whN, .int .i64 m.whE]) W (by unfold execOp; go_simp) ⟨_, rfl, rfl, hGW, hrefl W⟩
          | 6 =>
            injection (show some _ = some o from ho) with ho
            subst ho
            have eg : F.eval (.tmp 65) = .bool true := (hat 2 65 (of_decide_eq_true (by kernel_rfl)) rfl).trans (hp ⟨2, .guard⟩ (by simp) rfl : U 2 = .bool true)
            refine on_ ((wanted_by rfl rfl eg).trans rfl) ?_
            have e66 : F.eval (.tmp 66) = .slice A n cap := (hat 3 66 (of_decide_eq_true (by kernel_rfl)) rfl).trans (hp ⟨3, .data⟩ (by simp) rfl : U 3 = .slice A n cap)
            have t66 := act_tmp e66
            have e68 : F.eval (.tmp 68) = .agg #[.int .i64 m.whN, .int .i64 m.whE] := (hat 5 68 (of_decide_eq_true (by kernel_rfl)) rfl).trans (hp ⟨5, .data⟩ (by simp) rfl : U 5 = .agg #[.int .i64 m.whN, .int .i64 m.whE])
            have t68 := act_tmp e68
            clear hat hoff hp
            refine wp_enter' 65 #[.slice A n cap, .agg #[.int .i64 m.whN, .int .i64 m.whE]] (by unfold execOp; go_simp) ?_
            refine (rhas_any os W hGW.1.ops hn).mono ?_
            rintro e W' ⟨rfl, hb⟩
            rw [HH.out]
            exact ⟨_, rfl, _, rfl, rfl, ⟨hGW.1.below hb, hGW.2.trans (hb.mono hGW.2.size)⟩, hb⟩
          | 7 =>
            injection (show some _ = some o from ho) with ho
            subst ho
            refine on_ (wanted_none rfl) ?_
            have e65 : F.eval (.tmp 65) = .bool true := (hat 2 65 (of_decide_eq_true (by kernel_rfl)) rfl).trans (hp ⟨2, .data⟩ (by simp) rfl : U 2 = .bool true)
            have t65 := act_tmp e65
            have e69 : F.eval (.tmp 69) = .bool false := (hat 6 69 (of_decide_eq_true (by kernel_rfl)) rfl).trans (hp ⟨6, .data⟩ (by simp) rfl : U 6 = .bool false)
            have t69 := act_tmp e69
            clear hat hoff hp
            exact wp_value' (.bool false) W (by unfold execOp; go_simp) ⟨_, rfl, rfl, hGW, hrefl W⟩
          | 8 =>
            injection (show some _ = some o from ho) with ho
            subst ho
            refine on_ (wanted_none rfl) ?_
            have e70 : F.eval (.tmp 70) = .bool false := (hat 7 70 (of_decide_eq_true (by kernel_rfl)) rfl).trans (hp ⟨7, .data⟩ (by simp) rfl : U 7 = .bool false)
            exact wp_move' (.tmp 70) rfl ⟨_, rfl, e70, hGW, hrefl W⟩
          | 9 =>
            injection (show some _ = some o from ho) with ho
            subst ho
            have eg : F.eval (.tmp 71) = .bool false := (hat 8 71 (of_decide_eq_true (by kernel_rfl)) rfl).trans (hp ⟨8, .guard⟩ (by simp) rfl : U 8 = .bool false)
            exact off_ (W := W) ((wanted_by rfl rfl eg).trans rfl) rfl
          | 10 =>
            injection (show some _ = some o from ho) with ho
            subst ho
            have eg : F.eval (.tmp 71) = .bool false := (hat 8 71 (of_decide_eq_true (by kernel_rfl)) rfl).trans (hp ⟨8, .guard⟩ (by simp) rfl : U 8 = .bool false)
            exact off_ (W := W) ((wanted_by rfl rfl eg).trans rfl) rfl
          | 11 =>
            injection (show some _ = some o from ho) with ho
            subst ho
            have eg : F.eval (.tmp 71) = .bool false := (hat 8 71 (of_decide_eq_true (by kernel_rfl)) rfl).trans (hp ⟨8, .guard⟩ (by simp) rfl : U 8 = .bool false)
            exact off_ (W := W) ((wanted_by rfl rfl eg).trans rfl) rfl
          | 12 =>
            injection (show some _ = some o from ho) with ho
            subst ho
            have eg : F.eval (.tmp 71) = .bool false := (hat 8 71 (of_decide_eq_true (by kernel_rfl)) rfl).trans (hp ⟨8, .guard⟩ (by simp) rfl : U 8 = .bool false)
            exact off_ (W := W) ((wanted_by rfl rfl eg).trans rfl) rfl
          | 13 =>
            injection (show some _ = some o from ho) with ho
            subst ho
            have eg : F.eval (.tmp 71) = .bool false := (hat 8 71 (of_decide_eq_true (by kernel_rfl)) rfl).trans (hp ⟨8, .guard⟩ (by simp) rfl : U 8 = .bool false)
            exact off_ (W := W) ((wanted_by rfl rfl eg).trans rfl) rfl
          | 14 =>
            injection (show some _ = some o from ho) with ho
            subst ho
            have eg : F.eval (.tmp 71) = .bool false := (hat 8 71 (of_decide_eq_true (by kernel_rfl)) rfl).trans (hp ⟨8, .guard⟩ (by simp) rfl : U 8 = .bool false)
            exact off_ (W := W) ((wanted_by rfl rfl eg).trans rfl) rfl
          | 15 =>
            injection (show some _ = some o from ho) with ho
            subst ho
            have eg : F.eval (.tmp 71) = .bool false := (hat 8 71 (of_decide_eq_true (by kernel_rfl)) rfl).trans (hp ⟨8, .guard⟩ (by simp) rfl : U 8 = .bool false)
            exact off_ (W := W) ((wanted_by rfl rfl eg).trans rfl) rfl
          | 16 =>
            injection (show some _ = some o from ho) with ho
            subst ho
            have eg : F.eval (.tmp 71) = .bool false := (hat 8 71 (of_decide_eq_true (by kernel_rfl)) rfl).trans (hp ⟨8, .guard⟩ (by simp) rfl : U 8 = .bool false)
            exact off_ (W := W) ((wanted_by rfl rfl eg).trans rfl) rfl
          | 17 =>
            injection (show some _ = some o from ho) with ho
            subst ho
            have eg : F.eval (.tmp 71) = .bool false := (hat 8 71 (of_decide_eq_true (by kernel_rfl)) rfl).trans (hp ⟨8, .guard⟩ (by simp) rfl : U 8 = .bool false)
            exact off_ (W := W) ((wanted_by rfl rfl eg).trans rfl) rfl
          | 18 =>
            injection (show some _ = some o from ho) with ho
            subst ho
            have eg : F.eval (.tmp 71) = .bool false := (hat 8 71 (of_decide_eq_true (by kernel_rfl)) rfl).trans (hp ⟨8, .guard⟩ (by simp) rfl : U 8 = .bool false)
            exact off_ (W := W) ((wanted_by rfl rfl eg).trans rfl) rfl
          | 19 =>
            injection (show some _ = some o from ho) with ho
            subst ho
            refine on_ (wanted_none rfl) ?_
            have e71 : F.eval (.tmp 71) = .bool false := (hat 8 71 (of_decide_eq_true (by kernel_rfl)) rfl).trans (hp ⟨8, .data⟩ (by simp) rfl : U 8 = .bool false)
            have t71 := act_tmp e71
            clear hat hoff hp
            exact wp_value' (.bool false) W (by unfold execOp; go_simp) ⟨_, rfl, rfl, hGW, hrefl W⟩
          | i + 20 => exact absurd ho (by simp)
      case hend =>
        intro U W hGW hV
        have hx : U 19 = .bool false := hV 19 (of_decide_eq_true (by kernel_rfl))
        have hk := hGW.1
        clear hV hGW
        simp [putU, dstAt, Act.put, hx]
        exact HQ.out _ _ ⟨rfl, rfl, rfl, rfl, rfl, by rw [HG.out, HH.out]; first | rfl | (simp; rfl) | simp, trivial⟩ hk
    | true =>
      have HH := Lib.hid hh
      clear hh
      refine wp_region_all (by kernel_rfl) (fun i v W => match i with | 0 => v = .pointer (some ⟨bx, 5, none⟩) | 1 => v = .bool true | 2 => v = .bool true | 3 => v = .slice A n cap | 4 => v = .pointer (some ⟨bx, 13, none⟩) | 5 => v = .agg #[.int .i64 m.whN, .int .i64 m.whE] | 6 => v = .bool true | 7 => v = .bool true | 8 => v = .bool true | 9 => v = .pointer (some ⟨bx, 13, none⟩) | 10 => v = .pointer (some ⟨bx, 13, none⟩) | 11 => v = .int .i64 m.whN | 12 => v = .pointer (some ⟨rb, 0, none⟩) | 13 => v = .pointer (some ⟨rb, 0, none⟩) | 14 => v = .pointer (some ⟨rb, 5, none⟩) | 15 => v = .pointer (some ⟨rb, 5, none⟩) | 16 => v = .pointer (some ⟨rb, 5, none⟩) | 17 => v = .int .i64 l.wN | 18 => v = .bool (decide (l.wN ≤ m.whN)) | 19 => v = .bool (decide (l.wN ≤ m.whN)) | _ => True) (fun W => Rk w0 W S rb bx l m A n cap os ∧ Below w.heap.size w W) (fun W W' => Below W.heap.size W W') (by kernel_rfl) ?hG ?hmono ?hstep ?hend
      case hG => exact ⟨HT.out.drew, (Below.refl _ _).drew⟩
      case hmono =>
        intro i v W W' hx hv
        match i with
        | 0 | 1 | 2 | 3 | 4 | 5 | 6 | 7 | 8 | 9 | 10 | 11 | 12 | 13 | 14 | 15 | 16 | 17 | 18 | 19 => exact hv
        | i + 20 => exact hv
      case hstep =>
        intro i o F U W ho hGW hat hoff hp
        have hrefl := fun W : World => Below.refl W.heap.size W
        match i with
          | 0 =>
            injection (show some _ = some o from ho) with ho
            subst ho
            refine on_ (wanted_none rfl) ?_
            have e4 : F.eval (.tmp 4) = .pointer (some ⟨bx, 0, none⟩) := (hoff 4 (of_decide_eq_true (by kernel_rfl))).trans rfl
            have t4 := act_tmp e4
            clear hat hoff hp
            exact wp_value' (.pointer (some ⟨bx, 5, none⟩)) W (by unfold execOp; go_simp) ⟨_, rfl, rfl, hGW, hrefl W⟩
          | 1 =>
            injection (show some _ = some o from ho) with ho
            subst ho
            refine on_ (wanted_none rfl) ?_
            have e63 : F.eval (.tmp 63) = .pointer (some ⟨bx, 5, none⟩) := (hat 0 63 (of_decide_eq_true (by kernel_rfl)) rfl).trans (hp ⟨0, .data⟩ (by simp) rfl : U 0 = .pointer (some ⟨bx, 5, none⟩))
            have t63 := act_tmp e63
            clear hat hoff hp
            obtain ⟨eA, en, ec, hA, hn', hc, oA, on, oc, pA, pn, pc, kb, ko⟩ := hGW.1.box
            have d0 := kb.cell 5
            rw [show (mailC m.kind m.term m.index m.prev m.commit m.good eA en ec m.data hA hn' hc m.epoch m.site m.atN m.atE m.whN m.whE oA on oc pA pn pc)[5]? = some (.bool m.good) from rfl, HG.out] at d0
            exact wp_value' (.bool true) W (by unfold execOp; go_simp) ⟨_, rfl, rfl, hGW, hrefl W⟩
          | 2 =>
            injection (show some _ = some o from ho) with ho
            subst ho
            refine on_ (wanted_none rfl) ?_
            have e64 : F.eval (.tmp 64) = .bool true := (hat 1 64 (of_decide_eq_true (by kernel_rfl)) rfl).trans (hp ⟨1, .data⟩ (by simp) rfl : U 1 = .bool true)
            exact wp_move' (.tmp 64) rfl ⟨_, rfl, e64, hGW, hrefl W⟩
          | 3 =>
            injection (show some _ = some o from ho) with ho
            subst ho
            have eg : F.eval (.tmp 65) = .bool true := (hat 2 65 (of_decide_eq_true (by kernel_rfl)) rfl).trans (hp ⟨2, .guard⟩ (by simp) rfl : U 2 = .bool true)
            refine on_ ((wanted_by rfl rfl eg).trans rfl) ?_
            have e2 : F.eval (.tmp 2) = .slice A n cap := (hoff 2 (of_decide_eq_true (by kernel_rfl))).trans rfl
            exact wp_move' (.tmp 2) rfl ⟨_, rfl, e2, hGW, hrefl W⟩
          | 4 =>
            injection (show some _ = some o from ho) with ho
            subst ho
            have eg : F.eval (.tmp 65) = .bool true := (hat 2 65 (of_decide_eq_true (by kernel_rfl)) rfl).trans (hp ⟨2, .guard⟩ (by simp) rfl : U 2 = .bool true)
            refine on_ ((wanted_by rfl rfl eg).trans rfl) ?_
            have e4 : F.eval (.tmp 4) = .pointer (some ⟨bx, 0, none⟩) := (hoff 4 (of_decide_eq_true (by kernel_rfl))).trans rfl
            have t4 := act_tmp e4
            clear hat hoff hp
            exact wp_value' (.pointer (some ⟨bx, 13, none⟩)) W (by unfold execOp; go_simp) ⟨_, rfl, rfl, hGW, hrefl W⟩
          | 5 =>
            injection (show some _ = some o from ho) with ho
            subst ho
            have eg : F.eval (.tmp 65) = .bool true := (hat 2 65 (of_decide_eq_true (by kernel_rfl)) rfl).trans (hp ⟨2, .guard⟩ (by simp) rfl : U 2 = .bool true)
            refine on_ ((wanted_by rfl rfl eg).trans rfl) ?_
            have e67 : F.eval (.tmp 67) = .pointer (some ⟨bx, 13, none⟩) := (hat 4 67 (of_decide_eq_true (by kernel_rfl)) rfl).trans (hp ⟨4, .data⟩ (by simp) rfl : U 4 = .pointer (some ⟨bx, 13, none⟩))
            have t67 := act_tmp e67
            clear hat hoff hp
            obtain ⟨eA, en, ec, hA, hn', hc, oA, on, oc, pA, pn, pc, kb, ko⟩ := hGW.1.box
            have d0 := kb.cell 13
            have d1 := kb.cell 14
            simp at d0 d1
            exact wp_value' (.agg #[.int .i64 m.whN, .int .i64 m.whE]) W (by unfold execOp; go_simp) ⟨_, rfl, rfl, hGW, hrefl W⟩
          | 6 =>
            injection (show some _ = some o from ho) with ho
            subst ho
            have eg : F.eval (.tmp 65) = .bool true := (hat 2 65 (of_decide_eq_true (by kernel_rfl)) rfl).trans (hp ⟨2, .guard⟩ (by simp) rfl : U 2 = .bool true)
            refine on_ ((wanted_by rfl rfl eg).trans rfl) ?_
            have e66 : F.eval (.tmp 66) = .slice A n cap := (hat 3 66 (of_decide_eq_true (by kernel_rfl)) rfl).trans (hp ⟨3, .data⟩ (by simp) rfl : U 3 = .slice A n cap)
            have t66 := act_tmp e66
            have e68 : F.eval (.tmp 68) = .agg #[.int .i64 m.whN, .int .i64 m.whE] := (hat 5 68 (of_decide_eq_true (by kernel_rfl)) rfl).trans (hp ⟨5, .data⟩ (by simp) rfl : U 5 = .agg #[.int .i64 m.whN, .int .i64 m.whE])
            have t68 := act_tmp e68
            clear hat hoff hp
            refine wp_enter' 65 #[.slice A n cap, .agg #[.int .i64 m.whN, .int .i64 m.whE]] (by unfold execOp; go_simp) ?_
            refine (rhas_any os W hGW.1.ops hn).mono ?_
            rintro e W' ⟨rfl, hb⟩
            rw [HH.out]
            exact ⟨_, rfl, _, rfl, rfl, ⟨hGW.1.below hb, hGW.2.trans (hb.mono hGW.2.size)⟩, hb⟩
          | 7 =>
            injection (show some _ = some o from ho) with ho
            subst ho
            refine on_ (wanted_none rfl) ?_
            have e65 : F.eval (.tmp 65) = .bool true := (hat 2 65 (of_decide_eq_true (by kernel_rfl)) rfl).trans (hp ⟨2, .data⟩ (by simp) rfl : U 2 = .bool true)
            have t65 := act_tmp e65
            have e69 : F.eval (.tmp 69) = .bool true := (hat 6 69 (of_decide_eq_true (by kernel_rfl)) rfl).trans (hp ⟨6, .data⟩ (by simp) rfl : U 6 = .bool true)
            have t69 := act_tmp e69
            clear hat hoff hp
            exact wp_value' (.bool true) W (by unfold execOp; go_simp) ⟨_, rfl, rfl, hGW, hrefl W⟩
          | 8 =>
            injection (show some _ = some o from ho) with ho
            subst ho
            refine on_ (wanted_none rfl) ?_
            have e70 : F.eval (.tmp 70) = .bool true := (hat 7 70 (of_decide_eq_true (by kernel_rfl)) rfl).trans (hp ⟨7, .data⟩ (by simp) rfl : U 7 = .bool true)
            exact wp_move' (.tmp 70) rfl ⟨_, rfl, e70, hGW, hrefl W⟩
          | 9 =>
            injection (show some _ = some o from ho) with ho
            subst ho
            have eg : F.eval (.tmp 71) = .bool true := (hat 8 71 (of_decide_eq_true (by kernel_rfl)) rfl).trans (hp ⟨8, .guard⟩ (by simp) rfl : U 8 = .bool true)
            refine on_ ((wanted_by rfl rfl eg).trans rfl) ?_
            have e4 : F.eval (.tmp 4) = .pointer (some ⟨bx, 0, none⟩) := (hoff 4 (of_decide_eq_true (by kernel_rfl))).trans rfl
            have t4 := act_tmp e4
            clear hat hoff hp
            exact wp_value' (.pointer (some ⟨bx, 13, none⟩)) W (by unfold execOp; go_simp) ⟨_, rfl, rfl, hGW, hrefl W⟩
          | 10 =>
            injection (show some _ = some o from ho) with ho
            subst ho
            have eg : F.eval (.tmp 71) = .bool true := (hat 8 71 (of_decide_eq_true (by kernel_rfl)) rfl).trans (hp ⟨8, .guard⟩ (by simp) rfl : U 8 = .bool true)
            refine on_ ((wanted_by rfl rfl eg).trans rfl) ?_
            have e72 : F.eval (.tmp 72) = .pointer (some ⟨bx, 13, none⟩) := (hat 9 72 (of_decide_eq_true (by kernel_rfl)) rfl).trans (hp ⟨9, .data⟩ (by simp) rfl : U 9 = .pointer (some ⟨bx, 13, none⟩))
            have t72 := act_tmp e72
            clear hat hoff hp
            exact wp_value' (.pointer (some ⟨bx, 13, none⟩)) W (by unfold execOp; go_simp) ⟨_, rfl, rfl, hGW, hrefl W⟩
          | 11 =>
            injection (show some _ = some o from ho) with ho
            subst ho
            have eg : F.eval (.tmp 71) = .bool true := (hat 8 71 (of_decide_eq_true (by kernel_rfl)) rfl).trans (hp ⟨8, .guard⟩ (by simp) rfl : U 8 = .bool true)
            refine on_ ((wanted_by rfl rfl eg).trans rfl) ?_
            have e73 : F.eval (.tmp 73) = .pointer (some ⟨bx, 13, none⟩) := (hat 10 73 (of_decide_eq_true (by kernel_rfl)) rfl).trans (hp ⟨10, .data⟩ (by simp) rfl : U 10 = .pointer (some ⟨bx, 13, none⟩))
            have t73 := act_tmp e73
            clear hat hoff hp
            obtain ⟨eA, en, ec, hA, hn', hc, oA, on, oc, pA, pn, pc, kb, ko⟩ := hGW.1.box
            have d0 := kb.cell 13
            simp at d0
            exact wp_value' (.int .i64 m.whN) W (by unfold execOp; go_simp) ⟨_, rfl, rfl, hGW, hrefl W⟩
          | 12 =>
            injection (show some _ = some o from ho) with ho
            subst ho
            have eg : F.eval (.tmp 71) = .bool true := (hat 8 71 (of_decide_eq_true (by kernel_rfl)) rfl).trans (hp ⟨8, .guard⟩ (by simp) rfl : U 8 = .bool true)
            refine on_ ((wanted_by rfl rfl eg).trans rfl) ?_
            have e0 : F.eval (.tmp 0) = .pointer (some ⟨rb, 0, none⟩) := (hoff 0 (of_decide_eq_true (by kernel_rfl))).trans rfl
            exact wp_move' (.tmp 0) rfl ⟨_, rfl, e0, hGW, hrefl W⟩
          | 13 =>
            injection (show some _ = some o from ho) with ho
            subst ho
            have eg : F.eval (.tmp 71) = .bool true := (hat 8 71 (of_decide_eq_true (by kernel_rfl)) rfl).trans (hp ⟨8, .guard⟩ (by simp) rfl : U 8 = .bool true)
            refine on_ ((wanted_by rfl rfl eg).trans rfl) ?_
            have e75 : F.eval (.tmp 75) = .pointer (some ⟨rb, 0, none⟩) := (hat 12 75 (of_decide_eq_true (by kernel_rfl)) rfl).trans (hp ⟨12, .data⟩ (by simp) rfl : U 12 = .pointer (some ⟨rb, 0, none⟩))
            have t75 := act_tmp e75
            clear hat hoff hp
            exact wp_value' (.pointer (some ⟨rb, 0, none⟩)) W (by unfold execOp; go_simp) ⟨_, rfl, rfl, hGW, hrefl W⟩
          | 14 =>
            injection (show some _ = some o from ho) with ho
            subst ho
            have eg : F.eval (.tmp 71) = .bool true := (hat 8 71 (of_decide_eq_true (by kernel_rfl)) rfl).trans (hp ⟨8, .guard⟩ (by simp) rfl : U 8 = .bool true)
            refine on_ ((wanted_by rfl rfl eg).trans rfl) ?_
            have e76 : F.eval (.tmp 76) = .pointer (some ⟨rb, 0, none⟩) := (hat 13 76 (of_decide_eq_true (by kernel_rfl)) rfl).trans (hp ⟨13, .data⟩ (by simp) rfl : U 13 = .pointer (some ⟨rb, 0, none⟩))
            have t76 := act_tmp e76
            clear hat hoff hp
            exact wp_value' (.pointer (some ⟨rb, 5, none⟩)) W (by unfold execOp; go_simp) ⟨_, rfl, rfl, hGW, hrefl W⟩
          | 15 =>
            injection (show some _ = some o from ho) with ho
            subst ho
            have eg : F.eval (.tmp 71) = .bool true := (hat 8 71 (of_decide_eq_true (by kernel_rfl)) rfl).trans (hp ⟨8, .guard⟩ (by simp) rfl : U 8 = .bool true)
            refine on_ ((wanted_by rfl rfl eg).trans rfl) ?_
            have e77 : F.eval (.tmp 77) = .pointer (some ⟨rb, 5, none⟩) := (hat 14 77 (of_decide_eq_true (by kernel_rfl)) rfl).trans (hp ⟨14, .data⟩ (by simp) rfl : U 14 = .pointer (some ⟨rb, 5, none⟩))
            have t77 := act_tmp e77
            clear hat hoff hp
            exact wp_value' (.pointer (some ⟨rb, 5, none⟩)) W (by unfold execOp; go_simp) ⟨_, rfl, rfl, hGW, hrefl W⟩
          | 16 =>
            injection (show some _ = some o from ho) with ho
            subst ho
            have eg : F.eval (.tmp 71) = .bool true := (hat 8 71 (of_decide_eq_true (by kernel_rfl)) rfl).trans (hp ⟨8, .guard⟩ (by simp) rfl : U 8 = .bool true)
            refine on_ ((wanted_by rfl rfl eg).trans rfl) ?_
            have e78 : F.eval (.tmp 78) = .pointer (some ⟨rb, 5, none⟩) := (hat 15 78 (of_decide_eq_true (by kernel_rfl)) rfl).trans (hp ⟨15, .data⟩ (by simp) rfl : U 15 = .pointer (some ⟨rb, 5, none⟩))
            have t78 := act_tmp e78
            clear hat hoff hp
            exact wp_value' (.pointer (some ⟨rb, 5, none⟩)) W (by unfold execOp; go_simp) ⟨_, rfl, rfl, hGW, hrefl W⟩
          | 17 =>
            injection (show some _ = some o from ho) with ho
            subst ho
            have eg : F.eval (.tmp 71) = .bool true := (hat 8 71 (of_decide_eq_true (by kernel_rfl)) rfl).trans (hp ⟨8, .guard⟩ (by simp) rfl : U 8 = .bool true)
            refine on_ ((wanted_by rfl rfl eg).trans rfl) ?_
            have e79 : F.eval (.tmp 79) = .pointer (some ⟨rb, 5, none⟩) := (hat 16 79 (of_decide_eq_true (by kernel_rfl)) rfl).trans (hp ⟨16, .data⟩ (by simp) rfl : U 16 = .pointer (some ⟨rb, 5, none⟩))
            have t79 := act_tmp e79
            clear hat hoff hp
            obtain ⟨oA, on, oc, kl, ki⟩ := hGW.1.lane
            have d0 := kl.cell 5
            simp at d0
            exact wp_value' (.int .i64 l.wN) W (by unfold execOp; go_simp) ⟨_, rfl, rfl, hGW, hrefl W⟩
          | 18 =>
            injection (show some _ = some o from ho) with ho
            subst ho
            have eg : F.eval (.tmp 71) = .bool true := (hat 8 71 (of_decide_eq_true (by kernel_rfl)) rfl).trans (hp ⟨8, .guard⟩ (by simp) rfl : U 8 = .bool true)
            refine on_ ((wanted_by rfl rfl eg).trans rfl) ?_
            have e74 : F.eval (.tmp 74) = .int .i64 m.whN := (hat 11 74 (of_decide_eq_true (by kernel_rfl)) rfl).trans (hp ⟨11, .data⟩ (by simp) rfl : U 11 = .int .i64 m.whN)
            have t74 := act_tmp e74
            have e80 : F.eval (.tmp 80) = .int .i64 l.wN := (hat 17 80 (of_decide_eq_true (by kernel_rfl)) rfl).trans (hp ⟨17, .data⟩ (by simp) rfl : U 17 = .int .i64 l.wN)
            have t80 := act_tmp e80
            clear hat hoff hp
            exact wp_value' (.bool (decide (l.wN ≤ m.whN))) W (by unfold execOp; go_simp) ⟨_, rfl, rfl, hGW, hrefl W⟩
          | 19 =>
            injection (show some _ = some o from ho) with ho
            subst ho
            refine on_ (wanted_none rfl) ?_
            have e71 : F.eval (.tmp 71) = .bool true := (hat 8 71 (of_decide_eq_true (by kernel_rfl)) rfl).trans (hp ⟨8, .data⟩ (by simp) rfl : U 8 = .bool true)
            have t71 := act_tmp e71
            have e81 : F.eval (.tmp 81) = .bool (decide (l.wN ≤ m.whN)) := (hat 18 81 (of_decide_eq_true (by kernel_rfl)) rfl).trans (hp ⟨18, .data⟩ (by simp) rfl : U 18 = .bool (decide (l.wN ≤ m.whN)))
            have t81 := act_tmp e81
            clear hat hoff hp
            exact wp_value' (.bool (decide (l.wN ≤ m.whN))) W (by unfold execOp; go_simp) ⟨_, rfl, rfl, hGW, hrefl W⟩
          | i + 20 => exact absurd ho (by simp)
      case hend =>
        intro U W hGW hV
        have hx : U 19 = .bool (decide (l.wN ≤ m.whN)) := hV 19 (of_decide_eq_true (by kernel_rfl))
        have hk := hGW.1
        clear hV hGW
        simp [putU, dstAt, Act.put, hx]
        exact HQ.out _ _ ⟨rfl, rfl, rfl, rfl, rfl, by rw [HG.out, HH.out]; first | rfl | (simp; rfl) | simp, trivial⟩ hk

set_option maxRecDepth 100000 in
set_option maxHeartbeats 4000000 in
theorem rt11 {w0 w : World} {S : Nat → Prop} {rb bx : Nat} {l : LaneC} {m : MailC} {A : Option Addr} {n cap : Nat} {os : List OpC} (Q : Exit → Act → World → Prop) (a : Act) (hL : ¬ S rb) (hU : ∀ b, w0.heap.size ≤ b → S b) (hfr : Fr 117 a [(0, .pointer (some ⟨rb, 0, none⟩)), (2, .slice A n cap), (4, .pointer (some ⟨bx, 0, none⟩))]) (h : Rk w0 w S rb bx l m A n cap os) 
    (hQ : ∀ a' w', Fr 117 a' [(0, .pointer (some ⟨rb, 0, none⟩)), (2, .slice A n cap), (4, .pointer (some ⟨bx, 0, none⟩)), (95, .bool (!m.good))] → Rk w0 w' S rb bx l m A n cap os → Q .normal a' w') :
    (part [1, 1, 1, 1, 1, 0, 0] (codeOf rtakeF)).wp Try.prog Q a w := by
  have HT := Lib.hid h
  have HQ := Lib.hid hQ
  have HL := Lib.hid hL
  have HU := Lib.hid hU
  clear h hQ hL hU
  obtain ⟨t, df⟩ := a
  obtain ⟨hd, hs, h0, h2, h4, -⟩ := hfr
  simp only at hd hs h0 h2 h4
  subst hd
  rw [eta117 t hs, h0, h2, h4]
  clear hs h0 h2 h4
  conv => arg 2; whnf
  obtain ⟨eA, en, ec, hA, hn', hc, oA, on, oc, pA, pn, pc, kb, ko⟩ := HT.out.box
  have c5 := kb.cell 5
  simp at c5
  clear kb ko
  go_wp2_with fail
  exact HQ.out _ _ ⟨rfl, rfl, rfl, rfl, rfl, rfl, trivial⟩ HT.out

set_option maxRecDepth 100000 in
set_option maxHeartbeats 4000000 in
theorem rt12 {w0 w : World} {S : Nat → Prop} {rb bx : Nat} {l : LaneC} {m : MailC} {A : Option Addr} {n cap : Nat} {os : List OpC} (Q : Exit → Act → World → Prop) (a : Act) (hL : ¬ S rb) (hU : ∀ b, w0.heap.size ≤ b → S b) (hfr : Fr 117 a [(0, .pointer (some ⟨rb, 0, none⟩)), (2, .slice A n cap), (4, .pointer (some ⟨bx, 0, none⟩))]) (h : Rk w0 w S rb bx l m A n cap os) (hn : n ≤ 4294967296)
    (hQ : ∀ a' w', Fr 117 a' [(0, .pointer (some ⟨rb, 0, none⟩)), (2, .slice A n cap), (4, .pointer (some ⟨bx, 0, none⟩))] → Rk w0 w' S rb bx { l with next := min l.next (max l.mN (Seam.upTo (os.map (·.epoch)) m.atN m.atE : Int)) } m A n cap os → Q .normal a' w') :
    (part [1, 1, 1, 1, 1, 0, 1, 0] (codeOf rtakeF)).wp Try.prog Q a w := by
  have HT := Lib.hid h
  have HQ := Lib.hid hQ
  have HL := Lib.hid hL
  have HU := Lib.hid hU
  clear h hQ hL hU
  obtain ⟨t, df⟩ := a
  obtain ⟨hd, hs, h0, h2, h4, -⟩ := hfr
  simp only at hd hs h0 h2 h4
  subst hd
  rw [eta117 t hs, h0, h2, h4]
  clear hs h0 h2 h4
  conv => arg 2; whnf
  obtain ⟨l1, hl1⟩ : ∃ l1, l1 = ({ l with next := min l.next (max l.mN (Seam.upTo (os.map (·.epoch)) m.atN m.atE : Int)) } : LaneC) := ⟨_, rfl⟩
  have HE := Lib.hid hl1
  clear hl1
  refine wp_region_all (by kernel_rfl) (fun i v W => match i with | 0 => v = .pointer (some ⟨rb, 0, none⟩) | 1 => v = .pointer (some ⟨rb, 0, none⟩) | 2 => v = .pointer (some ⟨rb, 0, none⟩) | 3 => v = .pointer (some ⟨rb, 2, none⟩) | 4 => v = .int .i64 l.next ∨ v = .int .i64 l1.next | 5 => v = .slice A n cap | 6 => ∃ A' c', v = .slice A' n c' ∧ IntIs W S A' n c' (os.map (·.epoch)) | 7 => v = .pointer (some ⟨bx, 11, none⟩) | 8 => v = .agg #[.int .i64 m.atN, .int .i64 m.atE] | 9 => v = .int .i64 (Seam.upTo (os.map (·.epoch)) m.atN m.atE : Int) | 10 => v = .pointer (some ⟨rb, 0, none⟩) | 11 => v = .pointer (some ⟨rb, 0, none⟩) | 12 => v = .pointer (some ⟨rb, 3, none⟩) | 13 => v = .pointer (some ⟨rb, 3, none⟩) | 14 => v = .int .i64 l.mN | 15 => v = .int .i64 (max l.mN (Seam.upTo (os.map (·.epoch)) m.atN m.atE : Int)) | 16 => v = .int .i64 l1.next | 17 => v = .pointer (some ⟨rb, 0, none⟩) | 18 => v = .pointer (some ⟨rb, 2, none⟩) | 19 => RefIs W S rb l1 | _ => True) (fun W => Rk2 w0 W S rb bx l l1 m A n cap os) (fun W W' => Turn rb W W' ∧ (RefIs W S rb l1 → RefIs W' S rb l1)) (by kernel_rfl) ?hG ?hmono ?hstep ?hend
  case hG => exact HT.out.drew.two
  case hmono =>
    intro i v W W' hx hv
    match i with
    | 6 =>
      obtain ⟨A', c', rfl, hi⟩ := hv
      exact ⟨A', c', rfl, hi.kept (hx.1.kept HL.out)⟩
    | 19 =>
      exact hx.2 hv
    | 0 | 1 | 2 | 3 | 4 | 5 | 7 | 8 | 9 | 10 | 11 | 12 | 13 | 14 | 15 | 16 | 17 | 18 => exact hv
    | i + 20 => exact hv
  case hstep =>
    intro i o F U W ho hGW hat hoff hp
    have hrefl := fun W : World => (⟨Turn.refl _ _, fun h => h⟩ : Turn rb W W ∧ (RefIs W S rb l1 → RefIs W S rb l1))
    match i with
      | 0 =>
        injection (show some _ = some o from ho) with ho
        subst ho
        refine on_ (wanted_none rfl) ?_
        have e0 : F.eval (.tmp 0) = .pointer (some ⟨rb, 0, none⟩) := (hoff 0 (of_decide_eq_true (by kernel_rfl))).trans rfl
        exact wp_move' (.tmp 0) rfl ⟨_, rfl, e0, hGW, hrefl W⟩
      | 1 =>
        injection (show some _ = some o from ho) with ho
        subst ho
        refine on_ (wanted_none rfl) ?_
        have e0 : F.eval (.tmp 0) = .pointer (some ⟨rb, 0, none⟩) := (hoff 0 (of_decide_eq_true (by kernel_rfl))).trans rfl
        exact wp_move' (.tmp 0) rfl ⟨_, rfl, e0, hGW, hrefl W⟩
      | 2 =>
        injection (show some _ = some o from ho) with ho
        subst ho
        refine on_ (wanted_none rfl) ?_
        have e97 : F.eval (.tmp 97) = .pointer (some ⟨rb, 0, none⟩) := (hat 1 97 (of_decide_eq_true (by kernel_rfl)) rfl).trans (hp ⟨1, .data⟩ (by simp) rfl : U 1 = .pointer (some ⟨rb, 0, none⟩))
        have t97 := act_tmp e97
        clear hat hoff hp
        exact wp_value' (.pointer (some ⟨rb, 0, none⟩)) W (by unfold execOp; go_simp) ⟨_, rfl, rfl, hGW, hrefl W⟩
      | 3 =>
        injection (show some _ = some o from ho) with ho
        subst ho
        refine on_ (wanted_none rfl) ?_
        have e98 : F.eval (.tmp 98) = .pointer (some ⟨rb, 0, none⟩) := (hat 2 98 (of_decide_eq_true (by kernel_rfl)) rfl).trans (hp ⟨2, .data⟩ (by simp) rfl : U 2 = .pointer (some ⟨rb, 0, none⟩))
        have t98 := act_tmp e98
        clear hat hoff hp
        exact wp_value' (.pointer (some ⟨rb, 2, none⟩)) W (by unfold execOp; go_simp) ⟨_, rfl, rfl, hGW, hrefl W⟩
      | 4 =>
        injection (show some _ = some o from ho) with ho
        subst ho
        refine on_ (wanted_none rfl) ?_
        have e99 : F.eval (.tmp 99) = .pointer (some ⟨rb, 2, none⟩) := (hat 3 99 (of_decide_eq_true (by kernel_rfl)) rfl).trans (hp ⟨3, .data⟩ (by simp) rfl : U 3 = .pointer (some ⟨rb, 2, none⟩))
        have t99 := act_tmp e99
        clear hat hoff hp
        rcases hGW.lane with ⟨oA, on, oc, kl, ki⟩ | ⟨oA, on, oc, kl, ki⟩
        · have c7 := kl.cell 2
          simp at c7
          exact wp_value' (.int .i64 l.next) W (by unfold execOp; go_simp) ⟨_, rfl, .inl rfl, hGW, hrefl W⟩
        · have c7 := kl.cell 2
          simp at c7
          exact wp_value' (.int .i64 l1.next) W (by unfold execOp; go_simp) ⟨_, rfl, .inr rfl, hGW, hrefl W⟩
      | 5 =>
        injection (show some _ = some o from ho) with ho
        subst ho
        refine on_ (wanted_none rfl) ?_
        have e2 : F.eval (.tmp 2) = .slice A n cap := (hoff 2 (of_decide_eq_true (by kernel_rfl))).trans rfl
        exact wp_move' (.tmp 2) rfl ⟨_, rfl, e2, hGW, hrefl W⟩
      | 6 =>
        injection (show some _ = some o from ho) with ho
        subst ho
        refine on_ (wanted_none rfl) ?_
        have e101 : F.eval (.tmp 101) = .slice A n cap := (hat 5 101 (of_decide_eq_true (by kernel_rfl)) rfl).trans (hp ⟨5, .data⟩ (by simp) rfl : U 5 = .slice A n cap)
        have t101 := act_tmp e101
        clear hat hoff hp
        refine wp_enter' 67 #[.slice A n cap] (by unfold execOp; go_simp) ?_
        refine (repochs_any os W hGW.ops hn).mono ?_
        rintro e W' ⟨A', c', rfl, hi, hb⟩
        exact ⟨_, rfl, _, rfl, ⟨A', c', rfl, hi.mono fun b _ h => HU.out b (Nat.le_trans hGW.turn.size h)⟩, hGW.below hb, Turn.of (Nat.le_of_lt hGW.lt) hb, fun h => h.below hb⟩
      | 7 =>
        injection (show some _ = some o from ho) with ho
        subst ho
        refine on_ (wanted_none rfl) ?_
        have e4 : F.eval (.tmp 4) = .pointer (some ⟨bx, 0, none⟩) := (hoff 4 (of_decide_eq_true (by kernel_rfl))).trans rfl
        have t4 := act_tmp e4
        clear hat hoff hp
        exact wp_value' (.pointer (some ⟨bx, 11, none⟩)) W (by unfold execOp; go_simp) ⟨_, rfl, rfl, hGW, hrefl W⟩
      | 8 =>
        injection (show some _ = some o from ho) with ho
        subst ho
        refine on_ (wanted_none rfl) ?_
        have e103 : F.eval (.tmp 103) = .pointer (some ⟨bx, 11, none⟩) := (hat 7 103 (of_decide_eq_true (by kernel_rfl)) rfl).trans (hp ⟨7, .data⟩ (by simp) rfl : U 7 = .pointer (some ⟨bx, 11, none⟩))
        have t103 := act_tmp e103
        clear hat hoff hp
        obtain ⟨eA, en, ec, hA, hn', hc, oA, on, oc, pA, pn, pc, kb, ko⟩ := hGW.box
        have d0 := kb.cell 11
        have d1 := kb.cell 12
        simp at d0 d1
        exact wp_value' (.agg #[.int .i64 m.atN, .int .i64 m.atE]) W (by unfold execOp; go_simp) ⟨_, rfl, rfl, hGW, hrefl W⟩
      | 9 =>
        injection (show some _ = some o from ho) with ho
        subst ho
        refine on_ (wanted_none rfl) ?_
        have e102 := hat 6 102 (of_decide_eq_true (by kernel_rfl)) rfl
        have v102 := hp ⟨6, .data⟩ (by simp) rfl
        have e104 : F.eval (.tmp 104) = .agg #[.int .i64 m.atN, .int .i64 m.atE] := (hat 8 104 (of_decide_eq_true (by kernel_rfl)) rfl).trans (hp ⟨8, .data⟩ (by simp) rfl : U 8 = .agg #[.int .i64 m.atN, .int .i64 m.atE])
        have t104 := act_tmp e104
        clear hat hoff hp
        obtain ⟨A', c', h102, hi⟩ := v102
        rw [h102] at e102
        have t102 := act_tmp e102
        refine wp_enter' 81 #[.slice A' n c', .agg #[.int .i64 m.atN, .int .i64 m.atE]] (by unfold execOp; go_simp) ?_
        refine (refNext_any A' n c' (os.map (·.epoch)) W hi.1.reads hn m.atN m.atE).mono ?_
        rintro e W' ⟨rfl, hb⟩
        exact ⟨_, rfl, _, rfl, rfl, hGW.below hb, Turn.of (Nat.le_of_lt hGW.lt) hb, fun h => h.below hb⟩
      | 10 =>
        injection (show some _ = some o from ho) with ho
        subst ho
        refine on_ (wanted_none rfl) ?_
        have e0 : F.eval (.tmp 0) = .pointer (some ⟨rb, 0, none⟩) := (hoff 0 (of_decide_eq_true (by kernel_rfl))).trans rfl
        exact wp_move' (.tmp 0) rfl ⟨_, rfl, e0, hGW, hrefl W⟩
      | 11 =>
        injection (show some _ = some o from ho) with ho
        subst ho
        refine on_ (wanted_none rfl) ?_
        have e106 : F.eval (.tmp 106) = .pointer (some ⟨rb, 0, none⟩) := (hat 10 106 (of_decide_eq_true (by kernel_rfl)) rfl).trans (hp ⟨10, .data⟩ (by simp) rfl : U 10 = .pointer (some ⟨rb, 0, none⟩))
        have t106 := act_tmp e106
        clear hat hoff hp
        exact wp_value' (.pointer (some ⟨rb, 0, none⟩)) W (by unfold execOp; go_simp) ⟨_, rfl, rfl, hGW, hrefl W⟩
      | 12 =>
        injection (show some _ = some o from ho) with ho
        subst ho
        refine on_ (wanted_none rfl) ?_
        have e107 : F.eval (.tmp 107) = .pointer (some ⟨rb, 0, none⟩) := (hat 11 107 (of_decide_eq_true (by kernel_rfl)) rfl).trans (hp ⟨11, .data⟩ (by simp) rfl : U 11 = .pointer (some ⟨rb, 0, none⟩))
        have t107 := act_tmp e107
        clear hat hoff hp
        exact wp_value' (.pointer (some ⟨rb, 3, none⟩)) W (by unfold execOp; go_simp) ⟨_, rfl, rfl, hGW, hrefl W⟩
      | 13 =>
        injection (show some _ = some o from ho) with ho
        subst ho
        refine on_ (wanted_none rfl) ?_
        have e108 : F.eval (.tmp 108) = .pointer (some ⟨rb, 3, none⟩) := (hat 12 108 (of_decide_eq_true (by kernel_rfl)) rfl).trans (hp ⟨12, .data⟩ (by simp) rfl : U 12 = .pointer (some ⟨rb, 3, none⟩))
        have t108 := act_tmp e108
        clear hat hoff hp
        exact wp_value' (.pointer (some ⟨rb, 3, none⟩)) W (by unfold execOp; go_simp) ⟨_, rfl, rfl, hGW, hrefl W⟩
      | 14 =>
        injection (show some _ = some o from ho) with ho
        subst ho
        refine on_ (wanted_none rfl) ?_
        have e109 : F.eval (.tmp 109) = .pointer (some ⟨rb, 3, none⟩) := (hat 13 109 (of_decide_eq_true (by kernel_rfl)) rfl).trans (hp ⟨13, .data⟩ (by simp) rfl : U 13 = .pointer (some ⟨rb, 3, none⟩))
        have t109 := act_tmp e109
        clear hat hoff hp
        have c0 : W.cell? ⟨rb, 3, none⟩ = some (.int .i64 l.mN) := by
          rcases hGW.lane with ⟨oA, on, oc, kl, ki⟩ | ⟨oA, on, oc, kl, ki⟩
          · exact kl.cell 3
          · rw [HE.out] at kl; exact kl.cell 3
        exact wp_value' (.int .i64 l.mN) W (by unfold execOp; go_simp) ⟨_, rfl, rfl, hGW, hrefl W⟩
      | 15 =>
        injection (show some _ = some o from ho) with ho
        subst ho
        refine on_ (wanted_none rfl) ?_
        have e105 : F.eval (.tmp 105) = .int .i64 (Seam.upTo (os.map (·.epoch)) m.atN m.atE : Int) := (hat 9 105 (of_decide_eq_true (by kernel_rfl)) rfl).trans (hp ⟨9, .data⟩ (by simp) rfl : U 9 = .int .i64 (Seam.upTo (os.map (·.epoch)) m.atN m.atE : Int))
        have t105 := act_tmp e105
        have e110 : F.eval (.tmp 110) = .int .i64 l.mN := (hat 14 110 (of_decide_eq_true (by kernel_rfl)) rfl).trans (hp ⟨14, .data⟩ (by simp) rfl : U 14 = .int .i64 l.mN)
        have t110 := act_tmp e110
        clear hat hoff hp
        have q : (if l.mN > (Seam.upTo (os.map (·.epoch)) m.atN m.atE : Int) then l.mN else (Seam.upTo (os.map (·.epoch)) m.atN m.atE : Int)) = max l.mN (Seam.upTo (os.map (·.epoch)) m.atN m.atE : Int) := by split <;> omega
        exact wp_value' (.int .i64 (if l.mN > (Seam.upTo (os.map (·.epoch)) m.atN m.atE : Int) then l.mN else (Seam.upTo (os.map (·.epoch)) m.atN m.atE : Int))) W (by unfold execOp; go_simp) ⟨_, rfl, congrArg (Value.int .i64) q, hGW, hrefl W⟩
      | 16 =>
        injection (show some _ = some o from ho) with ho
        subst ho
        refine on_ (wanted_none rfl) ?_
        have e100 := hat 4 100 (of_decide_eq_true (by kernel_rfl)) rfl
        have v100 := hp ⟨4, .data⟩ (by simp) rfl
        have e111 : F.eval (.tmp 111) = .int .i64 (max l.mN (Seam.upTo (os.map (·.epoch)) m.atN m.atE : Int)) := (hat 15 111 (of_decide_eq_true (by kernel_rfl)) rfl).trans (hp ⟨15, .data⟩ (by simp) rfl : U 15 = .int .i64 (max l.mN (Seam.upTo (os.map (·.epoch)) m.atN m.atE : Int)))
        have t111 := act_tmp e111
        clear hat hoff hp
        obtain ⟨X, hX⟩ : ∃ X, X = max l.mN (Seam.upTo (os.map (·.epoch)) m.atN m.atE : Int) := ⟨_, rfl⟩
        rw [← hX] at t111
        have hE := HE.out
        rw [← hX] at hE
        clear hX
        rcases v100 with h23 | h23
        · rw [h23] at e100
          have t100 := act_tmp e100
          have q : (if X < l.next then X else l.next) = l1.next := by rw [hE]; show _ = min l.next X; split <;> omega
          exact wp_value' (.int .i64 (if X < l.next then X else l.next)) W (by unfold execOp; go_simp) ⟨_, rfl, congrArg (Value.int .i64) q, hGW, hrefl W⟩
        · rw [h23] at e100
          have t100 := act_tmp e100
          have q : (if X < l1.next then X else l1.next) = l1.next := by rw [hE]; show (if X < min l.next X then X else min l.next X) = min l.next X; split <;> omega
          exact wp_value' (.int .i64 (if X < l1.next then X else l1.next)) W (by unfold execOp; go_simp) ⟨_, rfl, congrArg (Value.int .i64) q, hGW, hrefl W⟩
      | 17 =>
        injection (show some _ = some o from ho) with ho
        subst ho
        refine on_ (wanted_none rfl) ?_
        have e96 : F.eval (.tmp 96) = .pointer (some ⟨rb, 0, none⟩) := (hat 0 96 (of_decide_eq_true (by kernel_rfl)) rfl).trans (hp ⟨0, .data⟩ (by simp) rfl : U 0 = .pointer (some ⟨rb, 0, none⟩))
        have t96 := act_tmp e96
        clear hat hoff hp
        exact wp_value' (.pointer (some ⟨rb, 0, none⟩)) W (by unfold execOp; go_simp) ⟨_, rfl, rfl, hGW, hrefl W⟩
      | 18 =>
        injection (show some _ = some o from ho) with ho
        subst ho
        refine on_ (wanted_none rfl) ?_
        have e113 : F.eval (.tmp 113) = .pointer (some ⟨rb, 0, none⟩) := (hat 17 113 (of_decide_eq_true (by kernel_rfl)) rfl).trans (hp ⟨17, .data⟩ (by simp) rfl : U 17 = .pointer (some ⟨rb, 0, none⟩))
        have t113 := act_tmp e113
        clear hat hoff hp
        exact wp_value' (.pointer (some ⟨rb, 2, none⟩)) W (by unfold execOp; go_simp) ⟨_, rfl, rfl, hGW, hrefl W⟩
      | 19 =>
        injection (show some _ = some o from ho) with ho
        subst ho
        refine on_ (wanted_none rfl) ?_
        have e114 : F.eval (.tmp 114) = .pointer (some ⟨rb, 2, none⟩) := (hat 18 114 (of_decide_eq_true (by kernel_rfl)) rfl).trans (hp ⟨18, .data⟩ (by simp) rfl : U 18 = .pointer (some ⟨rb, 2, none⟩))
        have t114 := act_tmp e114
        have e112 : F.eval (.tmp 112) = .int .i64 l1.next := (hat 16 112 (of_decide_eq_true (by kernel_rfl)) rfl).trans (hp ⟨16, .data⟩ (by simp) rfl : U 16 = .int .i64 l1.next)
        have t112 := act_tmp e112
        clear hat hoff hp
        have hnew : ∀ l0 : LaneC, l1 = { l0 with next := l1.next } → RefIs W S rb l0 → RefIs (W.setCell ⟨rb, 2, none⟩ (.int .i64 l1.next)) S rb l1 := by
          rintro l0 e0 ⟨oA, on, oc, kl, ki⟩
          have ht := setCell_turn rb 2 (.int .i64 l1.next) W
          rw [e0]
          exact ⟨oA, on, oc, kl.set_ 2 _, ki.kept (ht.kept HL.out)⟩
        have hl : RefIs (W.setCell ⟨rb, 2, none⟩ (.int .i64 l1.next)) S rb l1 := by
          rcases hGW.lane with h | h
          · exact hnew l (by rw [HE.out]) h
          · exact hnew l1 rfl h
        have hc : ∃ x, W.cell? ⟨rb, 2, none⟩ = some (.int .i64 x) ∧ W.frozen? ⟨rb, 2, none⟩ = false := by
          rcases hGW.lane with ⟨oA, on, oc, kl, ki⟩ | ⟨oA, on, oc, kl, ki⟩ <;> exact ⟨_, kl.cell 2, kl.frozen 2⟩
        obtain ⟨x, c7, f7⟩ := hc
        refine wp_skip' (W.setCell ⟨rb, 2, none⟩ (.int .i64 l1.next)) (by unfold execOp; go_simp) ?_
        exact ⟨_, rfl, hl, hGW.turned HL.out (setCell_turn _ _ _ _) hl, setCell_turn _ _ _ _, fun _ => hl⟩
      | i + 20 => exact absurd ho (by simp)
  case hend =>
    intro U W hGW hV
    have hl1 : RefIs W S rb l1 := hV 19 (of_decide_eq_true (by kernel_rfl))
    have hk := hGW.one hl1
    rw [HE.out] at hk
    clear hV hGW hl1
    simp [putU, dstAt, Act.put]
    exact HQ.out _ _ ⟨rfl, rfl, rfl, rfl, rfl, trivial⟩ hk
end Go.Proofs.Ytaipgdhdfpemcaa
