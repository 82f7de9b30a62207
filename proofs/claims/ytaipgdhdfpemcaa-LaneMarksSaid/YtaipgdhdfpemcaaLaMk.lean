/-
  LaneMarks: the regions of a round. (wip/gen/mark.py prints this text.)
-/
import Derived.Test.YtaipgdhdfpemcaaLaMk5
import Derived.Test.YtaipgdhdfpemcaaLaTk3
import Derived.Test.YtaipgdhdfpemcaaLaMsgs
import Derived.Test.YtaipgdhdfpemcaaLaAw
namespace Go.Proofs.Ytaipgdhdfpemcaa
open Go.RowKit

/-- all blocks but the lane's and the two sets' -/
def Away (lb g1 g2 : Nat) : Nat → Prop := fun b => b ≠ lb ∧ b ≠ g1 ∧ b ≠ g2
/-- where a round begins -/
structure Mk (W w : World) (lb g1 g2 : Nat) (l : LaneC) (A : Option Addr) (n cap : Nat) (os : List OpC) (c : Nat) (told wholes : List (Int × Int)) : Prop where
  lane : LaneIs w (Away lb g1 g2) lb l
  ops : OpsIs w (Away lb g1 g2) A n cap os
  s1 : SetIs w g1 c told
  s2 : SetIs w g2 c wholes
  low : Below W.heap.size W w
  geL : W.heap.size ≤ lb
  ge1 : W.heap.size ≤ g1
  ge2 : W.heap.size ≤ g2
  ne12 : g1 ≠ g2
  neL1 : lb ≠ g1
  neL2 : lb ≠ g2
/-- what a round lays down -/
structure Bx (w : World) (S : Nat → Prop) (mb kb wb : Nat) (cells : Array Value) (m : MailC) (o : LaneC) (oA : Option Addr) (on oc : Nat) : Prop where
  mail : Blk w mb 30 cells
  said : MailIs w S cells m
  mbS : S mb
  mark : Blk w kb 26 #[.int .i64 o.mN, .int .i64 o.mE]
  kbS : S kb
  whole : Blk w wb 32 #[.int .i64 o.wN, .int .i64 o.wE, .slice oA on oc]
  holes : IntIs w S oA on oc o.holes
  wbS : S wb
section
variable {W w w' : World} {lb g1 g2 mb kb wb : Nat} {l o : LaneC} {m : MailC} {cells : Array Value} {A : Option Addr} {n cap : Nat} {os : List OpC} {c : Nat} {told wholes : List (Int × Int)} {oA : Option Addr} {on oc : Nat} {S : Nat → Prop}
theorem Mk.below (h : Mk W w lb g1 g2 l A n cap os c told wholes) (hb : Below w.heap.size w w') : Mk W w' lb g1 g2 l A n cap os c told wholes :=
  ⟨h.lane.below hb, h.ops.below hb, h.s1.below hb h.s1.lt, h.s2.below hb h.s2.lt, h.low.trans (hb.mono h.low.size), h.geL, h.ge1, h.ge2, h.ne12, h.neL1, h.neL2⟩
theorem Mk.drew (h : Mk W w lb g1 g2 l A n cap os c told wholes) : Mk W w.drew lb g1 g2 l A n cap os c told wholes := h.below ⟨rfl, rfl, rfl, Nat.le_refl _, fun _ _ => rfl⟩
theorem Mk.away (h : Mk W w lb g1 g2 l A n cap os c told wholes) {b : Nat} (hb : w.heap.size ≤ b) : Away lb g1 g2 b := by
  have h1 := h.lane.lt
  have h2 := h.s1.lt
  have h3 := h.s2.lt
  exact ⟨by omega, by omega, by omega⟩
theorem Mk.turned {l' : LaneC} (h : Mk W w lb g1 g2 l A n cap os c told wholes) (ht : Turn lb w w') (hl : LaneIs w' (Away lb g1 g2) lb l') : Mk W w' lb g1 g2 l' A n cap os c told wholes :=
  ⟨hl, h.ops.kept (ht.kept fun h => h.1 rfl), h.s1.keep (ht.1 _ h.s1.lt (Ne.symm h.neL1)), h.s2.keep (ht.1 _ h.s2.lt (Ne.symm h.neL2)), h.low.trans (ht.2.mono h.geL), h.geL, h.ge1, h.ge2, h.ne12, h.neL1, h.neL2⟩
theorem Bx.kept (h : Bx w S mb kb wb cells m o oA on oc) (hk : Kept S w w') : Bx w' S mb kb wb cells m o oA on oc :=
  ⟨(hk.2 _ h.mbS h.mail.lt).trans h.mail, h.said.kept hk, h.mbS, (hk.2 _ h.kbS h.mark.lt).trans h.mark, h.kbS, (hk.2 _ h.wbS h.whole.lt).trans h.whole, h.holes.kept hk, h.wbS⟩
theorem Bx.below (h : Bx w S mb kb wb cells m o oA on oc) (hb : Below w.heap.size w w') : Bx w' S mb kb wb cells m o oA on oc := h.kept (Kept.of S hb)
theorem Bx.drew (h : Bx w S mb kb wb cells m o oA on oc) : Bx w.drew S mb kb wb cells m o oA on oc := h.below ⟨rfl, rfl, rfl, Nat.le_refl _, fun _ _ => rfl⟩
end

set_option maxRecDepth 100000 in
set_option maxHeartbeats 4000000 in
theorem marks23 {W w : World} {lb g1 g2 mb kb wb : Nat} {l o : LaneC} {m : MailC} {cells : Array Value} {A : Option Addr} {n cap : Nat} {os : List OpC} {c : Nat} {told wholes : List (Int × Int)} {ep : Int} {sA : Option Addr} {sn sc k : Nat} {oA : Option Addr} {on oc : Nat} (Q : Exit → Act → World → Prop) (a : Act) (hfr : Fr 169 a [(0, .int .i64 ep), (2, .slice A n cap), (9, .pointer (some ⟨lb, 0, none⟩)), (11, .map (some g1)), (12, .map (some g2)), (14, .pointer (some ⟨mb, 0, none⟩)), (15, .pointer (some ⟨kb, 0, none⟩)), (16, .pointer (some ⟨wb, 0, none⟩)), (17, .int .i64 o.next), (50, .slice sA sn sc), (51, .int .i64 (sn : Nat)), (52, .int .i64 (k : Nat))]) (h : Mk W w lb g1 g2 l A n cap os c told wholes ∧ Bx w (Away lb g1 g2) mb kb wb cells m o oA on oc) (hz : l.holes.length * 8 ≤ 140737488351232) (hne : m.epoch ≠ ep → l = o)
    (hQ : ∀ a' w', Fr 169 a' [(0, .int .i64 ep), (2, .slice A n cap), (9, .pointer (some ⟨lb, 0, none⟩)), (11, .map (some g1)), (12, .map (some g2)), (14, .pointer (some ⟨mb, 0, none⟩)), (15, .pointer (some ⟨kb, 0, none⟩)), (16, .pointer (some ⟨wb, 0, none⟩)), (17, .int .i64 o.next), (50, .slice sA sn sc), (51, .int .i64 (sn : Nat)), (52, .int .i64 (k : Nat)), (167, .bool false)] → Mk W w' lb g1 g2 l A n cap os c told wholes ∧ Bx w' (Away lb g1 g2) mb kb wb cells m o oA on oc → Q .normal a' w') :
    (part [1, 1, 1, 1, 1, 0, 1, 0, 0, 1, 1, 0, 0, 1, 1, 1, 1, 1, 1, 1, 0] (codeOf marksF)).wp Try.prog Q a w := by
  obtain ⟨hn, hhn⟩ : ∃ hn, hn = l.holes.length := ⟨_, rfl⟩
  have HN := Lib.hid hhn.symm
  have HZ := Lib.hid hz
  obtain ⟨W0, hW0⟩ : ∃ W0, W0 = W := ⟨_, rfl⟩
  subst hW0
  clear hhn hz
  by_cases hd : m.epoch = ep
  · have hd' : (m.epoch != ep) = false := by simp [hd]
    clear hd hne
    have HT := Lib.hid h
    have HQ := Lib.hid hQ
    clear h hQ
    obtain ⟨t, df⟩ := a
    obtain ⟨hd, hs, h0, h2, h9, h11, h12, h14, h15, h16, h17, h50, h51, h52, -⟩ := hfr
    simp only at hd hs h0 h2 h9 h11 h12 h14 h15 h16 h17 h50 h51 h52
    subst hd
    rw [eta169 t hs, h0, h2, h9, h11, h12, h14, h15, h16, h17, h50, h51, h52]
    clear hs h0 h2 h9 h11 h12 h14 h15 h16 h17 h50 h51 h52
    conv => arg 2; whnf

    refine wp_region_all (by kernel_rfl) (fun i v W => match i with | 0 => v = .pointer (some ⟨mb, 9, none⟩) | 1 => v = .int .i64 m.epoch | 2 => v = .int .i64 ep | 3 => v = .bool false | 4 => v = .bool false | 5 => v = undef | 6 => v = undef | 7 => v = undef | 8 => v = undef | 9 => v = undef | 10 => v = undef | 11 => v = undef | 12 => v = undef | 13 => v = undef | 14 => v = undef | 15 => v = undef | 16 => v = undef | 17 => v = undef | 18 => v = undef | 19 => v = undef | 20 => v = undef | 21 => v = undef | 22 => v = .bool false | _ => True) (fun W => Mk W0 W lb g1 g2 l A n cap os c told wholes ∧ Bx W (Away lb g1 g2) mb kb wb cells m o oA on oc) (fun W W' => Below W.heap.size W W') (by kernel_rfl) ?hG ?hmono ?hstep ?hend
    case hG => exact ⟨HT.out.1.drew, HT.out.2.drew⟩
    case hmono =>
      intro i v W W' hx hv
      match i with
      | 0 | 1 | 2 | 3 | 4 | 5 | 6 | 7 | 8 | 9 | 10 | 11 | 12 | 13 | 14 | 15 | 16 | 17 | 18 | 19 | 20 | 21 | 22 => exact hv
      | i + 23 => exact hv
    case hstep =>
      intro i o F U W ho hGW hat hoff hp
      have hrefl := fun W : World => Below.refl W.heap.size W
      match i with
        | 0 =>
          injection (show some _ = some o from ho) with ho
          subst ho
          refine on_ (wanted_none rfl) ?_
          have e14 : F.eval (.tmp 14) = .pointer (some ⟨mb, 0, none⟩) := (hoff 14 (of_decide_eq_true (by kernel_rfl))).trans rfl
          have t14 := act_tmp e14
          clear hat hoff hp
          exact wp_value' (.pointer (some ⟨mb, 9, none⟩)) W (by unfold execOp; go_simp) ⟨_, rfl, rfl, hGW, hrefl W⟩
        | 1 =>
          injection (show some _ = some o from ho) with ho
          subst ho
          refine on_ (wanted_none rfl) ?_
          have e145 : F.eval (.tmp 145) = .pointer (some ⟨mb, 9, none⟩) := (hat 0 145 (of_decide_eq_true (by kernel_rfl)) rfl).trans (hp ⟨0, .data⟩ (by simp) rfl : U 0 = .pointer (some ⟨mb, 9, none⟩))
          have t145 := act_tmp e145
          clear hat hoff hp
          obtain ⟨eA, en, ec, hA, hn', hc, oA', on', oc', pA, pn, pc, rfl, -⟩ := hGW.2.said
          have d0 := hGW.2.mail.cell 9
          simp at d0
          exact wp_value' (.int .i64 m.epoch) W (by unfold execOp; go_simp) ⟨_, rfl, rfl, hGW, hrefl W⟩
        | 2 =>
          injection (show some _ = some o from ho) with ho
          subst ho
          refine on_ (wanted_none rfl) ?_
          have e0 : F.eval (.tmp 0) = .int .i64 ep := (hoff 0 (of_decide_eq_true (by kernel_rfl))).trans rfl
          exact wp_move' (.tmp 0) rfl ⟨_, rfl, e0, hGW, hrefl W⟩
        | 3 =>
          injection (show some _ = some o from ho) with ho
          subst ho
          refine on_ (wanted_none rfl) ?_
          have e146 : F.eval (.tmp 146) = .int .i64 m.epoch := (hat 1 146 (of_decide_eq_true (by kernel_rfl)) rfl).trans (hp ⟨1, .data⟩ (by simp) rfl : U 1 = .int .i64 m.epoch)
          have t146 := act_tmp e146
          have e147 : F.eval (.tmp 147) = .int .i64 ep := (hat 2 147 (of_decide_eq_true (by kernel_rfl)) rfl).trans (hp ⟨2, .data⟩ (by simp) rfl : U 2 = .int .i64 ep)
          have t147 := act_tmp e147
          clear hat hoff hp
          exact wp_value' (.bool false) W (by unfold execOp; go_simp) ⟨_, rfl, rfl, hGW, hrefl W⟩
        | 4 =>
          injection (show some _ = some o from ho) with ho
          subst ho
          refine on_ (wanted_none rfl) ?_
          have e148 : F.eval (.tmp 148) = .bool false := (hat 3 148 (of_decide_eq_true (by kernel_rfl)) rfl).trans (hp ⟨3, .data⟩ (by simp) rfl : U 3 = .bool false)
          exact wp_move' (.tmp 148) rfl ⟨_, rfl, e148, hGW, hrefl W⟩
        | 5 =>
          injection (show some _ = some o from ho) with ho
          subst ho
          have eg : F.eval (.tmp 149) = .bool false := (hat 4 149 (of_decide_eq_true (by kernel_rfl)) rfl).trans (hp ⟨4, .guard⟩ (by simp) rfl : U 4 = .bool false)
          exact off_ (W := W) ((wanted_by rfl rfl eg).trans rfl) rfl
        | 6 =>
          injection (show some _ = some o from ho) with ho
          subst ho
          have eg : F.eval (.tmp 149) = .bool false := (hat 4 149 (of_decide_eq_true (by kernel_rfl)) rfl).trans (hp ⟨4, .guard⟩ (by simp) rfl : U 4 = .bool false)
          exact off_ (W := W) ((wanted_by rfl rfl eg).trans rfl) rfl
        | 7 =>
          injection (show some _ = some o from ho) with ho
          subst ho
          have eg : F.eval (.tmp 149) = .bool false := (hat 4 149 (of_decide_eq_true (by kernel_rfl)) rfl).trans (hp ⟨4, .guard⟩ (by simp) rfl : U 4 = .bool false)
          exact off_ (W := W) ((wanted_by rfl rfl eg).trans rfl) rfl
        | 8 =>
          injection (show some _ = some o from ho) with ho
          subst ho
          have eg : F.eval (.tmp 149) = .bool false := (hat 4 149 (of_decide_eq_true (by kernel_rfl)) rfl).trans (hp ⟨4, .guard⟩ (by simp) rfl : U 4 = .bool false)
          exact off_ (W := W) ((wanted_by rfl rfl eg).trans rfl) rfl
        | 9 =>
          injection (show some _ = some o from ho) with ho
          subst ho
          have eg : F.eval (.tmp 149) = .bool false := (hat 4 149 (of_decide_eq_true (by kernel_rfl)) rfl).trans (hp ⟨4, .guard⟩ (by simp) rfl : U 4 = .bool false)
          exact off_ (W := W) ((wanted_by rfl rfl eg).trans rfl) rfl
        | 10 =>
          injection (show some _ = some o from ho) with ho
          subst ho
          have eg : F.eval (.tmp 154) = undef := (hat 9 154 (of_decide_eq_true (by kernel_rfl)) rfl).trans (hp ⟨9, .guard⟩ (by simp) rfl : U 9 = undef)
          exact off_ (W := W) (wanted_undef rfl rfl eg) rfl
        | 11 =>
          injection (show some _ = some o from ho) with ho
          subst ho
          have eg : F.eval (.tmp 154) = undef := (hat 9 154 (of_decide_eq_true (by kernel_rfl)) rfl).trans (hp ⟨9, .guard⟩ (by simp) rfl : U 9 = undef)
          exact off_ (W := W) (wanted_undef rfl rfl eg) rfl
        | 12 =>
          injection (show some _ = some o from ho) with ho
          subst ho
          have eg : F.eval (.tmp 154) = undef := (hat 9 154 (of_decide_eq_true (by kernel_rfl)) rfl).trans (hp ⟨9, .guard⟩ (by simp) rfl : U 9 = undef)
          exact off_ (W := W) (wanted_undef rfl rfl eg) rfl
        | 13 =>
          injection (show some _ = some o from ho) with ho
          subst ho
          have eg : F.eval (.tmp 154) = undef := (hat 9 154 (of_decide_eq_true (by kernel_rfl)) rfl).trans (hp ⟨9, .guard⟩ (by simp) rfl : U 9 = undef)
          exact off_ (W := W) (wanted_undef rfl rfl eg) rfl
        | 14 =>
          injection (show some _ = some o from ho) with ho
          subst ho
          have eg : F.eval (.tmp 154) = undef := (hat 9 154 (of_decide_eq_true (by kernel_rfl)) rfl).trans (hp ⟨9, .guard⟩ (by simp) rfl : U 9 = undef)
          exact off_ (W := W) (wanted_undef rfl rfl eg) rfl
        | 15 =>
          injection (show some _ = some o from ho) with ho
          subst ho
          have eg : F.eval (.tmp 149) = .bool false := (hat 4 149 (of_decide_eq_true (by kernel_rfl)) rfl).trans (hp ⟨4, .guard⟩ (by simp) rfl : U 4 = .bool false)
          exact off_ (W := W) ((wanted_by rfl rfl eg).trans rfl) rfl
        | 16 =>
          injection (show some _ = some o from ho) with ho
          subst ho
          have eg : F.eval (.tmp 149) = .bool false := (hat 4 149 (of_decide_eq_true (by kernel_rfl)) rfl).trans (hp ⟨4, .guard⟩ (by simp) rfl : U 4 = .bool false)
          exact off_ (W := W) ((wanted_by rfl rfl eg).trans rfl) rfl
        | 17 =>
          injection (show some _ = some o from ho) with ho
          subst ho
          have eg : F.eval (.tmp 161) = undef := (hat 16 161 (of_decide_eq_true (by kernel_rfl)) rfl).trans (hp ⟨16, .guard⟩ (by simp) rfl : U 16 = undef)
          exact off_ (W := W) (wanted_undef rfl rfl eg) rfl
        | 18 =>
          injection (show some _ = some o from ho) with ho
          subst ho
          have eg : F.eval (.tmp 161) = undef := (hat 16 161 (of_decide_eq_true (by kernel_rfl)) rfl).trans (hp ⟨16, .guard⟩ (by simp) rfl : U 16 = undef)
          exact off_ (W := W) (wanted_undef rfl rfl eg) rfl
        | 19 =>
          injection (show some _ = some o from ho) with ho
          subst ho
          have eg : F.eval (.tmp 161) = undef := (hat 16 161 (of_decide_eq_true (by kernel_rfl)) rfl).trans (hp ⟨16, .guard⟩ (by simp) rfl : U 16 = undef)
          exact off_ (W := W) (wanted_undef rfl rfl eg) rfl
        | 20 =>
          injection (show some _ = some o from ho) with ho
          subst ho
          have eg : F.eval (.tmp 161) = undef := (hat 16 161 (of_decide_eq_true (by kernel_rfl)) rfl).trans (hp ⟨16, .guard⟩ (by simp) rfl : U 16 = undef)
          exact off_ (W := W) (wanted_undef rfl rfl eg) rfl
        | 21 =>
          injection (show some _ = some o from ho) with ho
          subst ho
          have eg : F.eval (.tmp 149) = .bool false := (hat 4 149 (of_decide_eq_true (by kernel_rfl)) rfl).trans (hp ⟨4, .guard⟩ (by simp) rfl : U 4 = .bool false)
          exact off_ (W := W) ((wanted_by rfl rfl eg).trans rfl) rfl
        | 22 =>
          injection (show some _ = some o from ho) with ho
          subst ho
          refine on_ (wanted_none rfl) ?_
          have e149 : F.eval (.tmp 149) = .bool false := (hat 4 149 (of_decide_eq_true (by kernel_rfl)) rfl).trans (hp ⟨4, .data⟩ (by simp) rfl : U 4 = .bool false)
          have t149 := act_tmp e149
          clear hat hoff hp
          exact wp_value' (.bool false) W (by unfold execOp; go_simp) ⟨_, rfl, rfl, hGW, hrefl W⟩
        | i + 23 => exact absurd ho (by simp)
    case hend =>
      intro U W hGW hV
      have hx : U 22 = .bool false := hV 22 (of_decide_eq_true (by kernel_rfl))
      have hk := hGW
      clear hV hGW
      simp [putU, dstAt, Act.put, hx]
      exact HQ.out _ _ ⟨rfl, rfl, rfl, rfl, rfl, rfl, rfl, rfl, rfl, rfl, rfl, rfl, rfl, rfl, rfl, trivial⟩ hk
  · have hd' : (m.epoch != ep) = true := by simp [hd]
    have hlo := hne hd
    subst hlo
    clear hd hne
    have HT := Lib.hid h
    have HQ := Lib.hid hQ
    clear h hQ
    obtain ⟨t, df⟩ := a
    obtain ⟨hd, hs, h0, h2, h9, h11, h12, h14, h15, h16, h17, h50, h51, h52, -⟩ := hfr
    simp only at hd hs h0 h2 h9 h11 h12 h14 h15 h16 h17 h50 h51 h52
    subst hd
    rw [eta169 t hs, h0, h2, h9, h11, h12, h14, h15, h16, h17, h50, h51, h52]
    clear hs h0 h2 h9 h11 h12 h14 h15 h16 h17 h50 h51 h52
    conv => arg 2; whnf

    refine wp_region_all (by kernel_rfl) (fun i v W => match i with | 0 => v = .pointer (some ⟨mb, 9, none⟩) | 1 => v = .int .i64 m.epoch | 2 => v = .int .i64 ep | 3 => v = .bool true | 4 => v = .bool true | 5 => v = .pointer (some ⟨lb, 0, none⟩) | 6 => v = .agg #[.int .i64 l.mN, .int .i64 l.mE] | 7 => v = .agg #[.int .i64 l.mN, .int .i64 l.mE] | 8 => v = .bool false | 9 => v = .bool false | 10 => v = .pointer (some ⟨lb, 0, none⟩) | 11 => ∃ A' c', v = .agg #[.int .i64 l.wN, .int .i64 l.wE, .slice A' hn c'] ∧ IntIs W Any A' hn c' l.holes | 12 => v = .agg #[.int .i64 l.wN, .int .i64 l.wE, .slice oA on oc] | 13 => v = .bool true | 14 => v = .bool false | 15 => v = .bool false | 16 => v = .bool false | 17 => v = .pointer (some ⟨lb, 0, none⟩) | 18 => v = .int .i64 l.next | 19 => v = .int .i64 l.next | 20 => v = .bool false | 21 => v = .bool false | 22 => v = .bool false | _ => True) (fun W => Mk W0 W lb g1 g2 l A n cap os c told wholes ∧ Bx W (Away lb g1 g2) mb kb wb cells m l oA on oc) (fun W W' => Below W.heap.size W W') (by kernel_rfl) ?hG ?hmono ?hstep ?hend
    case hG => exact ⟨HT.out.1.drew, HT.out.2.drew⟩
    case hmono =>
      intro i v W W' hx hv
      match i with
      | 11 =>
        obtain ⟨A', c', rfl, hi⟩ := hv
        exact ⟨A', c', rfl, hi.below hx⟩
      | 0 | 1 | 2 | 3 | 4 | 5 | 6 | 7 | 8 | 9 | 10 | 12 | 13 | 14 | 15 | 16 | 17 | 18 | 19 | 20 | 21 | 22 => exact hv
      | i + 23 => exact hv
    case hstep =>
      intro i o F U W ho hGW hat hoff hp
      have hrefl := fun W : World => Below.refl W.heap.size W
      match i with
        | 0 =>
          injection (show some _ = some o from ho) with ho
          subst ho
          refine on_ (wanted_none rfl) ?_
          have e14 : F.eval (.tmp 14) = .pointer (some ⟨mb, 0, none⟩) := (hoff 14 (of_decide_eq_true (by kernel_rfl))).trans rfl
          have t14 := act_tmp e14
          clear hat hoff hp
          exact wp_value' (.pointer (some ⟨mb, 9, none⟩)) W (by unfold execOp; go_simp) ⟨_, rfl, rfl, hGW, hrefl W⟩
        | 1 =>
          injection (show some _ = some o from ho) with ho
          subst ho
          refine on_ (wanted_none rfl) ?_
          have e145 : F.eval (.tmp 145) = .pointer (some ⟨mb, 9, none⟩) := (hat 0 145 (of_decide_eq_true (by kernel_rfl)) rfl).trans (hp ⟨0, .data⟩ (by simp) rfl : U 0 = .pointer (some ⟨mb, 9, none⟩))
          have t145 := act_tmp e145
          clear hat hoff hp
          obtain ⟨eA, en, ec, hA, hn', hc, oA', on', oc', pA, pn, pc, rfl, -⟩ := hGW.2.said
          have d0 := hGW.2.mail.cell 9
          simp at d0
          exact wp_value' (.int .i64 m.epoch) W (by unfold execOp; go_simp) ⟨_, rfl, rfl, hGW, hrefl W⟩
        | 2 =>
          injection (show some _ = some o from ho) with ho
          subst ho
          refine on_ (wanted_none rfl) ?_
          have e0 : F.eval (.tmp 0) = .int .i64 ep := (hoff 0 (of_decide_eq_true (by kernel_rfl))).trans rfl
          exact wp_move' (.tmp 0) rfl ⟨_, rfl, e0, hGW, hrefl W⟩
        | 3 =>
          injection (show some _ = some o from ho) with ho
          subst ho
          refine on_ (wanted_none rfl) ?_
          have e146 : F.eval (.tmp 146) = .int .i64 m.epoch := (hat 1 146 (of_decide_eq_true (by kernel_rfl)) rfl).trans (hp ⟨1, .data⟩ (by simp) rfl : U 1 = .int .i64 m.epoch)
          have t146 := act_tmp e146
          have e147 : F.eval (.tmp 147) = .int .i64 ep := (hat 2 147 (of_decide_eq_true (by kernel_rfl)) rfl).trans (hp ⟨2, .data⟩ (by simp) rfl : U 2 = .int .i64 ep)
          have t147 := act_tmp e147
          clear hat hoff hp
          exact wp_value' (.bool true) W (by unfold execOp; go_simp) ⟨_, rfl, rfl, hGW, hrefl W⟩
        | 4 =>
          injection (show some _ = some o from ho) with ho
          subst ho
          refine on_ (wanted_none rfl) ?_
          have e148 : F.eval (.tmp 148) = .bool true := (hat 3 148 (of_decide_eq_true (by kernel_rfl)) rfl).trans (hp ⟨3, .data⟩ (by simp) rfl : U 3 = .bool true)
          exact wp_move' (.tmp 148) rfl ⟨_, rfl, e148, hGW, hrefl W⟩
        | 5 =>
          injection (show some _ = some o from ho) with ho
          subst ho
          have eg : F.eval (.tmp 149) = .bool true := (hat 4 149 (of_decide_eq_true (by kernel_rfl)) rfl).trans (hp ⟨4, .guard⟩ (by simp) rfl : U 4 = .bool true)
          refine on_ ((wanted_by rfl rfl eg).trans rfl) ?_
          have e9 : F.eval (.tmp 9) = .pointer (some ⟨lb, 0, none⟩) := (hoff 9 (of_decide_eq_true (by kernel_rfl))).trans rfl
          exact wp_move' (.tmp 9) rfl ⟨_, rfl, e9, hGW, hrefl W⟩
        | 6 =>
          injection (show some _ = some o from ho) with ho
          subst ho
          have eg : F.eval (.tmp 149) = .bool true := (hat 4 149 (of_decide_eq_true (by kernel_rfl)) rfl).trans (hp ⟨4, .guard⟩ (by simp) rfl : U 4 = .bool true)
          refine on_ ((wanted_by rfl rfl eg).trans rfl) ?_
          have e150 : F.eval (.tmp 150) = .pointer (some ⟨lb, 0, none⟩) := (hat 5 150 (of_decide_eq_true (by kernel_rfl)) rfl).trans (hp ⟨5, .data⟩ (by simp) rfl : U 5 = .pointer (some ⟨lb, 0, none⟩))
          have t150 := act_tmp e150
          clear hat hoff hp
          refine wp_enter' 29 #[.pointer (some ⟨lb, 0, none⟩)] (by unfold execOp; go_simp) ?_
          refine (markL_any lb l W hGW.1.lane).mono ?_
          rintro e W' ⟨rfl, hb⟩
          exact ⟨_, rfl, _, rfl, rfl, ⟨hGW.1.below hb, hGW.2.below hb⟩, hb⟩
        | 7 =>
          injection (show some _ = some o from ho) with ho
          subst ho
          have eg : F.eval (.tmp 149) = .bool true := (hat 4 149 (of_decide_eq_true (by kernel_rfl)) rfl).trans (hp ⟨4, .guard⟩ (by simp) rfl : U 4 = .bool true)
          refine on_ ((wanted_by rfl rfl eg).trans rfl) ?_
          have e15 : F.eval (.tmp 15) = .pointer (some ⟨kb, 0, none⟩) := (hoff 15 (of_decide_eq_true (by kernel_rfl))).trans rfl
          have t15 := act_tmp e15
          clear hat hoff hp
          have d0 := hGW.2.mark.cell 0
          have d1 := hGW.2.mark.cell 1
          simp at d0 d1
          exact wp_value' (.agg #[.int .i64 l.mN, .int .i64 l.mE]) W (by unfold execOp; go_simp) ⟨_, rfl, rfl, hGW, hrefl W⟩
        | 8 =>
          injection (show some _ = some o from ho) with ho
          subst ho
          have eg : F.eval (.tmp 149) = .bool true := (hat 4 149 (of_decide_eq_true (by kernel_rfl)) rfl).trans (hp ⟨4, .guard⟩ (by simp) rfl : U 4 = .bool true)
          refine on_ ((wanted_by rfl rfl eg).trans rfl) ?_
          have e151 : F.eval (.tmp 151) = .agg #[.int .i64 l.mN, .int .i64 l.mE] := (hat 6 151 (of_decide_eq_true (by kernel_rfl)) rfl).trans (hp ⟨6, .data⟩ (by simp) rfl : U 6 = .agg #[.int .i64 l.mN, .int .i64 l.mE])
          have t151 := act_tmp e151
          have e152 : F.eval (.tmp 152) = .agg #[.int .i64 l.mN, .int .i64 l.mE] := (hat 7 152 (of_decide_eq_true (by kernel_rfl)) rfl).trans (hp ⟨7, .data⟩ (by simp) rfl : U 7 = .agg #[.int .i64 l.mN, .int .i64 l.mE])
          have t152 := act_tmp e152
          clear hat hoff hp
          exact wp_value' (.bool false) W (by unfold execOp; go_simp) ⟨_, rfl, rfl, hGW, hrefl W⟩
        | 9 =>
          injection (show some _ = some o from ho) with ho
          subst ho
          have eg : F.eval (.tmp 149) = .bool true := (hat 4 149 (of_decide_eq_true (by kernel_rfl)) rfl).trans (hp ⟨4, .guard⟩ (by simp) rfl : U 4 = .bool true)
          refine on_ ((wanted_by rfl rfl eg).trans rfl) ?_
          have e153 : F.eval (.tmp 153) = .bool false := (hat 8 153 (of_decide_eq_true (by kernel_rfl)) rfl).trans (hp ⟨8, .data⟩ (by simp) rfl : U 8 = .bool false)
          exact wp_move' (.tmp 153) rfl ⟨_, rfl, e153, hGW, hrefl W⟩
        | 10 =>
          injection (show some _ = some o from ho) with ho
          subst ho
          have eg : F.eval (.tmp 154) = .bool false := (hat 9 154 (of_decide_eq_true (by kernel_rfl)) rfl).trans (hp ⟨9, .guard⟩ (by simp) rfl : U 9 = .bool false)
          refine on_ ((wanted_by rfl rfl eg).trans rfl) ?_
          have e9 : F.eval (.tmp 9) = .pointer (some ⟨lb, 0, none⟩) := (hoff 9 (of_decide_eq_true (by kernel_rfl))).trans rfl
          exact wp_move' (.tmp 9) rfl ⟨_, rfl, e9, hGW, hrefl W⟩
        | 11 =>
          injection (show some _ = some o from ho) with ho
          subst ho
          have eg : F.eval (.tmp 154) = .bool false := (hat 9 154 (of_decide_eq_true (by kernel_rfl)) rfl).trans (hp ⟨9, .guard⟩ (by simp) rfl : U 9 = .bool false)
          refine on_ ((wanted_by rfl rfl eg).trans rfl) ?_
          have e155 : F.eval (.tmp 155) = .pointer (some ⟨lb, 0, none⟩) := (hat 10 155 (of_decide_eq_true (by kernel_rfl)) rfl).trans (hp ⟨10, .data⟩ (by simp) rfl : U 10 = .pointer (some ⟨lb, 0, none⟩))
          have t155 := act_tmp e155
          clear hat hoff hp
          refine wp_enter' 32 #[.pointer (some ⟨lb, 0, none⟩)] (by unfold execOp; go_simp) ?_
          refine (wholeL_any lb l W hGW.1.lane HZ.out).mono ?_
          rintro e W' ⟨A', n', c', rfl, hi, hb⟩
          have hn' := hi.len
          have hne : n' = hn := by rw [← hn', HN.out]
          subst hne
          exact ⟨_, rfl, _, rfl, ⟨A', c', rfl, hi.mono fun _ _ _ => trivial⟩, ⟨hGW.1.below hb, hGW.2.below hb⟩, hb⟩
        | 12 =>
          injection (show some _ = some o from ho) with ho
          subst ho
          have eg : F.eval (.tmp 154) = .bool false := (hat 9 154 (of_decide_eq_true (by kernel_rfl)) rfl).trans (hp ⟨9, .guard⟩ (by simp) rfl : U 9 = .bool false)
          refine on_ ((wanted_by rfl rfl eg).trans rfl) ?_
          have e16 : F.eval (.tmp 16) = .pointer (some ⟨wb, 0, none⟩) := (hoff 16 (of_decide_eq_true (by kernel_rfl))).trans rfl
          have t16 := act_tmp e16
          clear hat hoff hp
          have d0 := hGW.2.whole.cell 0
          have d1 := hGW.2.whole.cell 1
          have d2 := hGW.2.whole.cell 2
          simp at d0 d1 d2
          exact wp_value' (.agg #[.int .i64 l.wN, .int .i64 l.wE, .slice oA on oc]) W (by unfold execOp; go_simp) ⟨_, rfl, rfl, hGW, hrefl W⟩
        | 13 =>
          injection (show some _ = some o from ho) with ho
          subst ho
          have eg : F.eval (.tmp 154) = .bool false := (hat 9 154 (of_decide_eq_true (by kernel_rfl)) rfl).trans (hp ⟨9, .guard⟩ (by simp) rfl : U 9 = .bool false)
          refine on_ ((wanted_by rfl rfl eg).trans rfl) ?_
          have e156 := hat 11 156 (of_decide_eq_true (by kernel_rfl)) rfl
          have v156 := hp ⟨11, .data⟩ (by simp) rfl
          have e157 : F.eval (.tmp 157) = .agg #[.int .i64 l.wN, .int .i64 l.wE, .slice oA on oc] := (hat 12 157 (of_decide_eq_true (by kernel_rfl)) rfl).trans (hp ⟨12, .data⟩ (by simp) rfl : U 12 = .agg #[.int .i64 l.wN, .int .i64 l.wE, .slice oA on oc])
          have t157 := act_tmp e157
          clear hat hoff hp
          obtain ⟨A', c', h156, hi⟩ := v156
          rw [h156] at e156
          have t156 := act_tmp e156
          refine wp_enter' 35 #[.agg #[.int .i64 l.wN, .int .i64 l.wE, .slice A' hn c'], .agg #[.int .i64 l.wN, .int .i64 l.wE, .slice oA on oc]] (by unfold execOp; go_simp) ?_
          refine (sameReach_any l.wN l.wE W hi hGW.2.holes (by have := HZ.out; have := HN.out; omega)).mono ?_
          rintro e W' ⟨rfl, hb⟩
          exact ⟨_, rfl, _, rfl, rfl, ⟨hGW.1.below hb, hGW.2.below hb⟩, hb⟩
        | 14 =>
          injection (show some _ = some o from ho) with ho
          subst ho
          have eg : F.eval (.tmp 154) = .bool false := (hat 9 154 (of_decide_eq_true (by kernel_rfl)) rfl).trans (hp ⟨9, .guard⟩ (by simp) rfl : U 9 = .bool false)
          refine on_ ((wanted_by rfl rfl eg).trans rfl) ?_
          have e158 : F.eval (.tmp 158) = .bool true := (hat 13 158 (of_decide_eq_true (by kernel_rfl)) rfl).trans (hp ⟨13, .data⟩ (by simp) rfl : U 13 = .bool true)
          have t158 := act_tmp e158
          clear hat hoff hp
          exact wp_value' (.bool false) W (by unfold execOp; go_simp) ⟨_, rfl, rfl, hGW, hrefl W⟩
        | 15 =>
          injection (show some _ = some o from ho) with ho
          subst ho
          have eg : F.eval (.tmp 149) = .bool true := (hat 4 149 (of_decide_eq_true (by kernel_rfl)) rfl).trans (hp ⟨4, .guard⟩ (by simp) rfl : U 4 = .bool true)
          refine on_ ((wanted_by rfl rfl eg).trans rfl) ?_
          have e154 : F.eval (.tmp 154) = .bool false := (hat 9 154 (of_decide_eq_true (by kernel_rfl)) rfl).trans (hp ⟨9, .data⟩ (by simp) rfl : U 9 = .bool false)
          have t154 := act_tmp e154
          have e159 : F.eval (.tmp 159) = .bool false := (hat 14 159 (of_decide_eq_true (by kernel_rfl)) rfl).trans (hp ⟨14, .data⟩ (by simp) rfl : U 14 = .bool false)
          have t159 := act_tmp e159
          clear hat hoff hp
          exact wp_value' (.bool false) W (by unfold execOp; go_simp) ⟨_, rfl, rfl, hGW, hrefl W⟩
        | 16 =>
          injection (show some _ = some o from ho) with ho
          subst ho
          have eg : F.eval (.tmp 149) = .bool true := (hat 4 149 (of_decide_eq_true (by kernel_rfl)) rfl).trans (hp ⟨4, .guard⟩ (by simp) rfl : U 4 = .bool true)
          refine on_ ((wanted_by rfl rfl eg).trans rfl) ?_
          have e160 : F.eval (.tmp 160) = .bool false := (hat 15 160 (of_decide_eq_true (by kernel_rfl)) rfl).trans (hp ⟨15, .data⟩ (by simp) rfl : U 15 = .bool false)
          exact wp_move' (.tmp 160) rfl ⟨_, rfl, e160, hGW, hrefl W⟩
        | 17 =>
          injection (show some _ = some o from ho) with ho
          subst ho
          have eg : F.eval (.tmp 161) = .bool false := (hat 16 161 (of_decide_eq_true (by kernel_rfl)) rfl).trans (hp ⟨16, .guard⟩ (by simp) rfl : U 16 = .bool false)
          refine on_ ((wanted_by rfl rfl eg).trans rfl) ?_
          have e9 : F.eval (.tmp 9) = .pointer (some ⟨lb, 0, none⟩) := (hoff 9 (of_decide_eq_true (by kernel_rfl))).trans rfl
          exact wp_move' (.tmp 9) rfl ⟨_, rfl, e9, hGW, hrefl W⟩
        | 18 =>
          injection (show some _ = some o from ho) with ho
          subst ho
          have eg : F.eval (.tmp 161) = .bool false := (hat 16 161 (of_decide_eq_true (by kernel_rfl)) rfl).trans (hp ⟨16, .guard⟩ (by simp) rfl : U 16 = .bool false)
          refine on_ ((wanted_by rfl rfl eg).trans rfl) ?_
          have e162 : F.eval (.tmp 162) = .pointer (some ⟨lb, 0, none⟩) := (hat 17 162 (of_decide_eq_true (by kernel_rfl)) rfl).trans (hp ⟨17, .data⟩ (by simp) rfl : U 17 = .pointer (some ⟨lb, 0, none⟩))
          have t162 := act_tmp e162
          clear hat hoff hp
          refine wp_enter' 33 #[.pointer (some ⟨lb, 0, none⟩)] (by unfold execOp; go_simp) ?_
          refine (nextL_any lb l W hGW.1.lane).mono ?_
          rintro e W' ⟨rfl, rfl⟩
          exact ⟨_, rfl, _, rfl, rfl, hGW, Below.refl _ _⟩
        | 19 =>
          injection (show some _ = some o from ho) with ho
          subst ho
          have eg : F.eval (.tmp 161) = .bool false := (hat 16 161 (of_decide_eq_true (by kernel_rfl)) rfl).trans (hp ⟨16, .guard⟩ (by simp) rfl : U 16 = .bool false)
          refine on_ ((wanted_by rfl rfl eg).trans rfl) ?_
          have e17 : F.eval (.tmp 17) = .int .i64 l.next := (hoff 17 (of_decide_eq_true (by kernel_rfl))).trans rfl
          exact wp_move' (.tmp 17) rfl ⟨_, rfl, e17, hGW, hrefl W⟩
        | 20 =>
          injection (show some _ = some o from ho) with ho
          subst ho
          have eg : F.eval (.tmp 161) = .bool false := (hat 16 161 (of_decide_eq_true (by kernel_rfl)) rfl).trans (hp ⟨16, .guard⟩ (by simp) rfl : U 16 = .bool false)
          refine on_ ((wanted_by rfl rfl eg).trans rfl) ?_
          have e163 : F.eval (.tmp 163) = .int .i64 l.next := (hat 18 163 (of_decide_eq_true (by kernel_rfl)) rfl).trans (hp ⟨18, .data⟩ (by simp) rfl : U 18 = .int .i64 l.next)
          have t163 := act_tmp e163
          have e164 : F.eval (.tmp 164) = .int .i64 l.next := (hat 19 164 (of_decide_eq_true (by kernel_rfl)) rfl).trans (hp ⟨19, .data⟩ (by simp) rfl : U 19 = .int .i64 l.next)
          have t164 := act_tmp e164
          clear hat hoff hp
          exact wp_value' (.bool false) W (by unfold execOp; go_simp) ⟨_, rfl, rfl, hGW, hrefl W⟩
        | 21 =>
          injection (show some _ = some o from ho) with ho
          subst ho
          have eg : F.eval (.tmp 149) = .bool true := (hat 4 149 (of_decide_eq_true (by kernel_rfl)) rfl).trans (hp ⟨4, .guard⟩ (by simp) rfl : U 4 = .bool true)
          refine on_ ((wanted_by rfl rfl eg).trans rfl) ?_
          have e161 : F.eval (.tmp 161) = .bool false := (hat 16 161 (of_decide_eq_true (by kernel_rfl)) rfl).trans (hp ⟨16, .data⟩ (by simp) rfl : U 16 = .bool false)
          have t161 := act_tmp e161
          have e165 : F.eval (.tmp 165) = .bool false := (hat 20 165 (of_decide_eq_true (by kernel_rfl)) rfl).trans (hp ⟨20, .data⟩ (by simp) rfl : U 20 = .bool false)
          have t165 := act_tmp e165
          clear hat hoff hp
          exact wp_value' (.bool false) W (by unfold execOp; go_simp) ⟨_, rfl, rfl, hGW, hrefl W⟩
        | 22 =>
          injection (show some _ = some o from ho) with ho
          subst ho
          refine on_ (wanted_none rfl) ?_
          have e149 : F.eval (.tmp 149) = .bool true := (hat 4 149 (of_decide_eq_true (by kernel_rfl)) rfl).trans (hp ⟨4, .data⟩ (by simp) rfl : U 4 = .bool true)
          have t149 := act_tmp e149
          have e166 : F.eval (.tmp 166) = .bool false := (hat 21 166 (of_decide_eq_true (by kernel_rfl)) rfl).trans (hp ⟨21, .data⟩ (by simp) rfl : U 21 = .bool false)
          have t166 := act_tmp e166
          clear hat hoff hp
          exact wp_value' (.bool false) W (by unfold execOp; go_simp) ⟨_, rfl, rfl, hGW, hrefl W⟩
        | i + 23 => exact absurd ho (by simp)
    case hend =>
      intro U W hGW hV
      have hx : U 22 = .bool false := hV 22 (of_decide_eq_true (by kernel_rfl))
      have hk := hGW
      clear hV hGW
      simp [putU, dstAt, Act.put, hx]
      exact HQ.out _ _ ⟨rfl, rfl, rfl, rfl, rfl, rfl, rfl, rfl, rfl, rfl, rfl, rfl, rfl, rfl, rfl, trivial⟩ hk

set_option maxRecDepth 100000 in
set_option maxHeartbeats 4000000 in
theorem marks21 {W w : World} {lb g1 g2 mb kb wb : Nat} {l o : LaneC} {m : MailC} {cells : Array Value} {A : Option Addr} {n cap : Nat} {os : List OpC} {c : Nat} {told wholes : List (Int × Int)} {ep : Int} {sA : Option Addr} {sn sc k : Nat} {oA : Option Addr} {on oc : Nat} (Q : Exit → Act → World → Prop) (a : Act) (hfr : Fr 169 a [(0, .int .i64 ep), (2, .slice A n cap), (9, .pointer (some ⟨lb, 0, none⟩)), (11, .map (some g1)), (12, .map (some g2)), (14, .pointer (some ⟨mb, 0, none⟩)), (15, .pointer (some ⟨kb, 0, none⟩)), (16, .pointer (some ⟨wb, 0, none⟩)), (17, .int .i64 o.next), (50, .slice sA sn sc), (51, .int .i64 (sn : Nat)), (52, .int .i64 (k : Nat))]) (h : Mk W w lb g1 g2 l A n cap os c told wholes ∧ Bx w (Away lb g1 g2) mb kb wb cells m o oA on oc) (hz : l.holes.length * 8 ≤ 140737488351232) (c1 : o.mN ≤ l.mN) (c2 : o.wN ≤ l.wN) (c3 : (l.mN, l.mE) ∈ told) (c4 : (l.wN, l.wE) ∈ wholes) (c5 : l.mN ≤ n) (c6 : l.mN ≤ l.next)
    (hQ : ∀ a' w', Fr 169 a' [(0, .int .i64 ep), (2, .slice A n cap), (9, .pointer (some ⟨lb, 0, none⟩)), (11, .map (some g1)), (12, .map (some g2)), (14, .pointer (some ⟨mb, 0, none⟩)), (15, .pointer (some ⟨kb, 0, none⟩)), (16, .pointer (some ⟨wb, 0, none⟩)), (17, .int .i64 o.next), (50, .slice sA sn sc), (51, .int .i64 (sn : Nat)), (52, .int .i64 (k : Nat)), (144, .bool false)] → Mk W w' lb g1 g2 l A n cap os c told wholes ∧ Bx w' (Away lb g1 g2) mb kb wb cells m o oA on oc → Q .normal a' w') :
    (part [1, 1, 1, 1, 1, 0, 1, 0, 0, 1, 1, 0, 0, 1, 1, 1, 1, 1, 1, 0, 0] (codeOf marksF)).wp Try.prog Q a w := by
  obtain ⟨hn, hhn⟩ : ∃ hn, hn = l.holes.length := ⟨_, rfl⟩
  have HN := Lib.hid hhn.symm
  have HZ := Lib.hid hz
  obtain ⟨W0, hW0⟩ : ∃ W0, W0 = W := ⟨_, rfl⟩
  subst hW0
  have HM1 := Lib.hid c3
  have HM2 := Lib.hid c4
  have x1 : decide (l.mN < o.mN) = false := decide_eq_false (by omega)
  have x2 : decide (l.wN < o.wN) = false := decide_eq_false (by omega)
  have x3 : decide ((n : Int) < l.mN) = false := decide_eq_false (by omega)
  have x4 : decide (l.next < l.mN) = false := decide_eq_false (by omega)
  clear hhn hz c1 c2 c3 c4 c5 c6
  have HT := Lib.hid h
  have HQ := Lib.hid hQ
  clear h hQ
  obtain ⟨t, df⟩ := a
  obtain ⟨hd, hs, h0, h2, h9, h11, h12, h14, h15, h16, h17, h50, h51, h52, -⟩ := hfr
  simp only at hd hs h0 h2 h9 h11 h12 h14 h15 h16 h17 h50 h51 h52
  subst hd
  rw [eta169 t hs, h0, h2, h9, h11, h12, h14, h15, h16, h17, h50, h51, h52]
  clear hs h0 h2 h9 h11 h12 h14 h15 h16 h17 h50 h51 h52
  conv => arg 2; whnf
  refine wp_region_all (by kernel_rfl) (fun i v W => match i with | 0 => v = .pointer (some ⟨lb, 0, none⟩) | 1 => v = .agg #[.int .i64 l.mN, .int .i64 l.mE] | 2 => v = .int .i64 l.mN | 3 => v = .pointer (some ⟨kb, 0, none⟩) | 4 => v = .int .i64 o.mN | 5 => v = .bool false | 6 => v = .bool false | 7 => v = .pointer (some ⟨lb, 0, none⟩) | 8 => ∃ A' c', v = .agg #[.int .i64 l.wN, .int .i64 l.wE, .slice A' hn c'] ∧ IntIs W Any A' hn c' l.holes | 9 => v = .agg #[.int .i64 l.wN, .int .i64 l.wE] | 10 => v = .int .i64 l.wN | 11 => v = .pointer (some ⟨wb, 0, none⟩) | 12 => v = .pointer (some ⟨wb, 0, none⟩) | 13 => v = .int .i64 o.wN | 14 => v = .bool false | 15 => v = .bool false | 16 => v = .bool false | 17 => v = .map (some g1) | 18 => v = .pointer (some ⟨lb, 0, none⟩) | 19 => v = .agg #[.int .i64 l.mN, .int .i64 l.mE] | 20 => v = .bool true | 21 => v = .bool false | 22 => v = .bool false | 23 => v = .bool false | 24 => v = .map (some g2) | 25 => v = .pointer (some ⟨lb, 0, none⟩) | 26 => ∃ A' c', v = .agg #[.int .i64 l.wN, .int .i64 l.wE, .slice A' hn c'] ∧ IntIs W Any A' hn c' l.holes | 27 => v = .agg #[.int .i64 l.wN, .int .i64 l.wE] | 28 => v = .bool true | 29 => v = .bool false | 30 => v = .bool false | 31 => v = .bool false | 32 => v = .pointer (some ⟨lb, 0, none⟩) | 33 => v = .agg #[.int .i64 l.mN, .int .i64 l.mE] | 34 => v = .int .i64 l.mN | 35 => v = .slice A n cap | 36 => v = .int .i64 (n : Nat) | 37 => v = .bool false | 38 => v = .bool false | 39 => v = .bool false | 40 => v = .pointer (some ⟨lb, 0, none⟩) | 41 => v = .int .i64 l.next | 42 => v = .pointer (some ⟨lb, 0, none⟩) | 43 => v = .agg #[.int .i64 l.mN, .int .i64 l.mE] | 44 => v = .int .i64 l.mN | 45 => v = .bool false | 46 => v = .bool false | _ => True) (fun W => Mk W0 W lb g1 g2 l A n cap os c told wholes ∧ Bx W (Away lb g1 g2) mb kb wb cells m o oA on oc) (fun W W' => Below W.heap.size W W') (by kernel_rfl) ?hG ?hmono ?hstep ?hend
  case hG => exact ⟨HT.out.1.drew, HT.out.2.drew⟩
  case hmono =>
    intro i v W W' hx hv
    match i with
    | 8 =>
      obtain ⟨A', c', rfl, hi⟩ := hv
      exact ⟨A', c', rfl, hi.below hx⟩
    | 26 =>
      obtain ⟨A', c', rfl, hi⟩ := hv
      exact ⟨A', c', rfl, hi.below hx⟩
    | 0 | 1 | 2 | 3 | 4 | 5 | 6 | 7 | 9 | 10 | 11 | 12 | 13 | 14 | 15 | 16 | 17 | 18 | 19 | 20 | 21 | 22 | 23 | 24 | 25 | 27 | 28 | 29 | 30 | 31 | 32 | 33 | 34 | 35 | 36 | 37 | 38 | 39 | 40 | 41 | 42 | 43 | 44 | 45 | 46 => exact hv
    | i + 47 => exact hv
  case hstep =>
    intro i o F U W ho hGW hat hoff hp
    have hrefl := fun W : World => Below.refl W.heap.size W
    match i with
      | 0 =>
        injection (show some _ = some o from ho) with ho
        subst ho
        refine on_ (wanted_none rfl) ?_
        have e9 : F.eval (.tmp 9) = .pointer (some ⟨lb, 0, none⟩) := (hoff 9 (of_decide_eq_true (by kernel_rfl))).trans rfl
        exact wp_move' (.tmp 9) rfl ⟨_, rfl, e9, hGW, hrefl W⟩
      | 1 =>
        injection (show some _ = some o from ho) with ho
        subst ho
        refine on_ (wanted_none rfl) ?_
        have e98 : F.eval (.tmp 98) = .pointer (some ⟨lb, 0, none⟩) := (hat 0 98 (of_decide_eq_true (by kernel_rfl)) rfl).trans (hp ⟨0, .data⟩ (by simp) rfl : U 0 = .pointer (some ⟨lb, 0, none⟩))
        have t98 := act_tmp e98
        clear hat hoff hp
        refine wp_enter' 29 #[.pointer (some ⟨lb, 0, none⟩)] (by unfold execOp; go_simp) ?_
        refine (markL_any lb l W hGW.1.lane).mono ?_
        rintro e W' ⟨rfl, hb⟩
        exact ⟨_, rfl, _, rfl, rfl, ⟨hGW.1.below hb, hGW.2.below hb⟩, hb⟩
      | 2 =>
        injection (show some _ = some o from ho) with ho
        subst ho
        refine on_ (wanted_none rfl) ?_
        have e99 : F.eval (.tmp 99) = .agg #[.int .i64 l.mN, .int .i64 l.mE] := (hat 1 99 (of_decide_eq_true (by kernel_rfl)) rfl).trans (hp ⟨1, .data⟩ (by simp) rfl : U 1 = .agg #[.int .i64 l.mN, .int .i64 l.mE])
        have t99 := act_tmp e99
        clear hat hoff hp
        have qf : ∀ w, (Instr.field 26 (.agg #[.int .i64 l.mN, .int .i64 l.mE]) 0).run Try.prog w = .ok (.int .i64 l.mN) w := fun w => by kernel_rfl
        exact wp_value' (.int .i64 l.mN) W (by unfold execOp; go_simp) ⟨_, rfl, rfl, hGW, hrefl W⟩
      | 3 =>
        injection (show some _ = some o from ho) with ho
        subst ho
        refine on_ (wanted_none rfl) ?_
        have e15 : F.eval (.tmp 15) = .pointer (some ⟨kb, 0, none⟩) := (hoff 15 (of_decide_eq_true (by kernel_rfl))).trans rfl
        have t15 := act_tmp e15
        clear hat hoff hp
        exact wp_value' (.pointer (some ⟨kb, 0, none⟩)) W (by unfold execOp; go_simp) ⟨_, rfl, rfl, hGW, hrefl W⟩
      | 4 =>
        injection (show some _ = some o from ho) with ho
        subst ho
        refine on_ (wanted_none rfl) ?_
        have e101 : F.eval (.tmp 101) = .pointer (some ⟨kb, 0, none⟩) := (hat 3 101 (of_decide_eq_true (by kernel_rfl)) rfl).trans (hp ⟨3, .data⟩ (by simp) rfl : U 3 = .pointer (some ⟨kb, 0, none⟩))
        have t101 := act_tmp e101
        clear hat hoff hp
        have d0 := hGW.2.mark.cell 0
        simp at d0
        exact wp_value' (.int .i64 o.mN) W (by unfold execOp; go_simp) ⟨_, rfl, rfl, hGW, hrefl W⟩
      | 5 =>
        injection (show some _ = some o from ho) with ho
        subst ho
        refine on_ (wanted_none rfl) ?_
        have e100 : F.eval (.tmp 100) = .int .i64 l.mN := (hat 2 100 (of_decide_eq_true (by kernel_rfl)) rfl).trans (hp ⟨2, .data⟩ (by simp) rfl : U 2 = .int .i64 l.mN)
        have t100 := act_tmp e100
        have e102 : F.eval (.tmp 102) = .int .i64 o.mN := (hat 4 102 (of_decide_eq_true (by kernel_rfl)) rfl).trans (hp ⟨4, .data⟩ (by simp) rfl : U 4 = .int .i64 o.mN)
        have t102 := act_tmp e102
        clear hat hoff hp
        exact wp_value' (.bool false) W (by unfold execOp; go_simp) ⟨_, rfl, rfl, hGW, hrefl W⟩
      | 6 =>
        injection (show some _ = some o from ho) with ho
        subst ho
        refine on_ (wanted_none rfl) ?_
        have e103 : F.eval (.tmp 103) = .bool false := (hat 5 103 (of_decide_eq_true (by kernel_rfl)) rfl).trans (hp ⟨5, .data⟩ (by simp) rfl : U 5 = .bool false)
        exact wp_move' (.tmp 103) rfl ⟨_, rfl, e103, hGW, hrefl W⟩
      | 7 =>
        injection (show some _ = some o from ho) with ho
        subst ho
        have eg : F.eval (.tmp 104) = .bool false := (hat 6 104 (of_decide_eq_true (by kernel_rfl)) rfl).trans (hp ⟨6, .guard⟩ (by simp) rfl : U 6 = .bool false)
        refine on_ ((wanted_by rfl rfl eg).trans rfl) ?_
        have e9 : F.eval (.tmp 9) = .pointer (some ⟨lb, 0, none⟩) := (hoff 9 (of_decide_eq_true (by kernel_rfl))).trans rfl
        exact wp_move' (.tmp 9) rfl ⟨_, rfl, e9, hGW, hrefl W⟩
      | 8 =>
        injection (show some _ = some o from ho) with ho
        subst ho
        have eg : F.eval (.tmp 104) = .bool false := (hat 6 104 (of_decide_eq_true (by kernel_rfl)) rfl).trans (hp ⟨6, .guard⟩ (by simp) rfl : U 6 = .bool false)
        refine on_ ((wanted_by rfl rfl eg).trans rfl) ?_
        have e105 : F.eval (.tmp 105) = .pointer (some ⟨lb, 0, none⟩) := (hat 7 105 (of_decide_eq_true (by kernel_rfl)) rfl).trans (hp ⟨7, .data⟩ (by simp) rfl : U 7 = .pointer (some ⟨lb, 0, none⟩))
        have t105 := act_tmp e105
        clear hat hoff hp
        refine wp_enter' 32 #[.pointer (some ⟨lb, 0, none⟩)] (by unfold execOp; go_simp) ?_
        refine (wholeL_any lb l W hGW.1.lane HZ.out).mono ?_
        rintro e W' ⟨A', n', c', rfl, hi, hb⟩
        have hn' := hi.len
        have hne : n' = hn := by rw [← hn', HN.out]
        subst hne
        exact ⟨_, rfl, _, rfl, ⟨A', c', rfl, hi.mono fun _ _ _ => trivial⟩, ⟨hGW.1.below hb, hGW.2.below hb⟩, hb⟩
      | 9 =>
        injection (show some _ = some o from ho) with ho
        subst ho
        have eg : F.eval (.tmp 104) = .bool false := (hat 6 104 (of_decide_eq_true (by kernel_rfl)) rfl).trans (hp ⟨6, .guard⟩ (by simp) rfl : U 6 = .bool false)
        refine on_ ((wanted_by rfl rfl eg).trans rfl) ?_
        have e106 := hat 8 106 (of_decide_eq_true (by kernel_rfl)) rfl
        have v106 := hp ⟨8, .data⟩ (by simp) rfl
        clear hat hoff hp
        obtain ⟨A', c', hw, hi⟩ := v106
        rw [hw] at e106
        have t106 := act_tmp e106
        have qf : ∀ w, (Instr.field 32 (.agg #[.int .i64 l.wN, .int .i64 l.wE, .slice A' hn c']) 0).run Try.prog w = .ok (.agg #[.int .i64 l.wN, .int .i64 l.wE]) w := fun w => by kernel_rfl
        exact wp_value' (.agg #[.int .i64 l.wN, .int .i64 l.wE]) W (by unfold execOp; go_simp) ⟨_, rfl, rfl, hGW, hrefl W⟩
      | 10 =>
        injection (show some _ = some o from ho) with ho
        subst ho
        have eg : F.eval (.tmp 104) = .bool false := (hat 6 104 (of_decide_eq_true (by kernel_rfl)) rfl).trans (hp ⟨6, .guard⟩ (by simp) rfl : U 6 = .bool false)
        refine on_ ((wanted_by rfl rfl eg).trans rfl) ?_
        have e107 : F.eval (.tmp 107) = .agg #[.int .i64 l.wN, .int .i64 l.wE] := (hat 9 107 (of_decide_eq_true (by kernel_rfl)) rfl).trans (hp ⟨9, .data⟩ (by simp) rfl : U 9 = .agg #[.int .i64 l.wN, .int .i64 l.wE])
        have t107 := act_tmp e107
        clear hat hoff hp
        have qf : ∀ w, (Instr.field 26 (.agg #[.int .i64 l.wN, .int .i64 l.wE]) 0).run Try.prog w = .ok (.int .i64 l.wN) w := fun w => by kernel_rfl
        exact wp_value' (.int .i64 l.wN) W (by unfold execOp; go_simp) ⟨_, rfl, rfl, hGW, hrefl W⟩
      | 11 =>
        injection (show some _ = some o from ho) with ho
        subst ho
        have eg : F.eval (.tmp 104) = .bool false := (hat 6 104 (of_decide_eq_true (by kernel_rfl)) rfl).trans (hp ⟨6, .guard⟩ (by simp) rfl : U 6 = .bool false)
        refine on_ ((wanted_by rfl rfl eg).trans rfl) ?_
        have e16 : F.eval (.tmp 16) = .pointer (some ⟨wb, 0, none⟩) := (hoff 16 (of_decide_eq_true (by kernel_rfl))).trans rfl
        have t16 := act_tmp e16
        clear hat hoff hp
        exact wp_value' (.pointer (some ⟨wb, 0, none⟩)) W (by unfold execOp; go_simp) ⟨_, rfl, rfl, hGW, hrefl W⟩
      | 12 =>
        injection (show some _ = some o from ho) with ho
        subst ho
        have eg : F.eval (.tmp 104) = .bool false := (hat 6 104 (of_decide_eq_true (by kernel_rfl)) rfl).trans (hp ⟨6, .guard⟩ (by simp) rfl : U 6 = .bool false)
        refine on_ ((wanted_by rfl rfl eg).trans rfl) ?_
        have e109 : F.eval (.tmp 109) = .pointer (some ⟨wb, 0, none⟩) := (hat 11 109 (of_decide_eq_true (by kernel_rfl)) rfl).trans (hp ⟨11, .data⟩ (by simp) rfl : U 11 = .pointer (some ⟨wb, 0, none⟩))
        have t109 := act_tmp e109
        clear hat hoff hp
        exact wp_value' (.pointer (some ⟨wb, 0, none⟩)) W (by unfold execOp; go_simp) ⟨_, rfl, rfl, hGW, hrefl W⟩
      | 13 =>
        injection (show some _ = some o from ho) with ho
        subst ho
        have eg : F.eval (.tmp 104) = .bool false := (hat 6 104 (of_decide_eq_true (by kernel_rfl)) rfl).trans (hp ⟨6, .guard⟩ (by simp) rfl : U 6 = .bool false)
        refine on_ ((wanted_by rfl rfl eg).trans rfl) ?_
        have e110 : F.eval (.tmp 110) = .pointer (some ⟨wb, 0, none⟩) := (hat 12 110 (of_decide_eq_true (by kernel_rfl)) rfl).trans (hp ⟨12, .data⟩ (by simp) rfl : U 12 = .pointer (some ⟨wb, 0, none⟩))
        have t110 := act_tmp e110
        clear hat hoff hp
        have d0 := hGW.2.whole.cell 0
        simp at d0
        exact wp_value' (.int .i64 o.wN) W (by unfold execOp; go_simp) ⟨_, rfl, rfl, hGW, hrefl W⟩
      | 14 =>
        injection (show some _ = some o from ho) with ho
        subst ho
        have eg : F.eval (.tmp 104) = .bool false := (hat 6 104 (of_decide_eq_true (by kernel_rfl)) rfl).trans (hp ⟨6, .guard⟩ (by simp) rfl : U 6 = .bool false)
        refine on_ ((wanted_by rfl rfl eg).trans rfl) ?_
        have e108 : F.eval (.tmp 108) = .int .i64 l.wN := (hat 10 108 (of_decide_eq_true (by kernel_rfl)) rfl).trans (hp ⟨10, .data⟩ (by simp) rfl : U 10 = .int .i64 l.wN)
        have t108 := act_tmp e108
        have e111 : F.eval (.tmp 111) = .int .i64 o.wN := (hat 13 111 (of_decide_eq_true (by kernel_rfl)) rfl).trans (hp ⟨13, .data⟩ (by simp) rfl : U 13 = .int .i64 o.wN)
        have t111 := act_tmp e111
        clear hat hoff hp
        exact wp_value' (.bool false) W (by unfold execOp; go_simp) ⟨_, rfl, rfl, hGW, hrefl W⟩
      | 15 =>
        injection (show some _ = some o from ho) with ho
        subst ho
        refine on_ (wanted_none rfl) ?_
        have e104 : F.eval (.tmp 104) = .bool false := (hat 6 104 (of_decide_eq_true (by kernel_rfl)) rfl).trans (hp ⟨6, .data⟩ (by simp) rfl : U 6 = .bool false)
        have t104 := act_tmp e104
        have e112 : F.eval (.tmp 112) = .bool false := (hat 14 112 (of_decide_eq_true (by kernel_rfl)) rfl).trans (hp ⟨14, .data⟩ (by simp) rfl : U 14 = .bool false)
        have t112 := act_tmp e112
        clear hat hoff hp
        exact wp_value' (.bool false) W (by unfold execOp; go_simp) ⟨_, rfl, rfl, hGW, hrefl W⟩
      | 16 =>
        injection (show some _ = some o from ho) with ho
        subst ho
        refine on_ (wanted_none rfl) ?_
        have e113 : F.eval (.tmp 113) = .bool false := (hat 15 113 (of_decide_eq_true (by kernel_rfl)) rfl).trans (hp ⟨15, .data⟩ (by simp) rfl : U 15 = .bool false)
        exact wp_move' (.tmp 113) rfl ⟨_, rfl, e113, hGW, hrefl W⟩
      | 17 =>
        injection (show some _ = some o from ho) with ho
        subst ho
        have eg : F.eval (.tmp 114) = .bool false := (hat 16 114 (of_decide_eq_true (by kernel_rfl)) rfl).trans (hp ⟨16, .guard⟩ (by simp) rfl : U 16 = .bool false)
        refine on_ ((wanted_by rfl rfl eg).trans rfl) ?_
        have e11 : F.eval (.tmp 11) = .map (some g1) := (hoff 11 (of_decide_eq_true (by kernel_rfl))).trans rfl
        exact wp_move' (.tmp 11) rfl ⟨_, rfl, e11, hGW, hrefl W⟩
      | 18 =>
        injection (show some _ = some o from ho) with ho
        subst ho
        have eg : F.eval (.tmp 114) = .bool false := (hat 16 114 (of_decide_eq_true (by kernel_rfl)) rfl).trans (hp ⟨16, .guard⟩ (by simp) rfl : U 16 = .bool false)
        refine on_ ((wanted_by rfl rfl eg).trans rfl) ?_
        have e9 : F.eval (.tmp 9) = .pointer (some ⟨lb, 0, none⟩) := (hoff 9 (of_decide_eq_true (by kernel_rfl))).trans rfl
        exact wp_move' (.tmp 9) rfl ⟨_, rfl, e9, hGW, hrefl W⟩
      | 19 =>
        injection (show some _ = some o from ho) with ho
        subst ho
        have eg : F.eval (.tmp 114) = .bool false := (hat 16 114 (of_decide_eq_true (by kernel_rfl)) rfl).trans (hp ⟨16, .guard⟩ (by simp) rfl : U 16 = .bool false)
        refine on_ ((wanted_by rfl rfl eg).trans rfl) ?_
        have e116 : F.eval (.tmp 116) = .pointer (some ⟨lb, 0, none⟩) := (hat 18 116 (of_decide_eq_true (by kernel_rfl)) rfl).trans (hp ⟨18, .data⟩ (by simp) rfl : U 18 = .pointer (some ⟨lb, 0, none⟩))
        have t116 := act_tmp e116
        clear hat hoff hp
        refine wp_enter' 29 #[.pointer (some ⟨lb, 0, none⟩)] (by unfold execOp; go_simp) ?_
        refine (markL_any lb l W hGW.1.lane).mono ?_
        rintro e W' ⟨rfl, hb⟩
        exact ⟨_, rfl, _, rfl, rfl, ⟨hGW.1.below hb, hGW.2.below hb⟩, hb⟩
      | 20 =>
        injection (show some _ = some o from ho) with ho
        subst ho
        have eg : F.eval (.tmp 114) = .bool false := (hat 16 114 (of_decide_eq_true (by kernel_rfl)) rfl).trans (hp ⟨16, .guard⟩ (by simp) rfl : U 16 = .bool false)
        refine on_ ((wanted_by rfl rfl eg).trans rfl) ?_
        have e115 : F.eval (.tmp 115) = .map (some g1) := (hat 17 115 (of_decide_eq_true (by kernel_rfl)) rfl).trans (hp ⟨17, .data⟩ (by simp) rfl : U 17 = .map (some g1))
        have t115 := act_tmp e115
        have e117 : F.eval (.tmp 117) = .agg #[.int .i64 l.mN, .int .i64 l.mE] := (hat 19 117 (of_decide_eq_true (by kernel_rfl)) rfl).trans (hp ⟨19, .data⟩ (by simp) rfl : U 19 = .agg #[.int .i64 l.mN, .int .i64 l.mE])
        have t117 := act_tmp e117
        clear hat hoff hp
        have hq := hGW.1.s1.look l.mN l.mE HM1.out
        exact wp_value' (.bool true) W (by unfold execOp; go_simp) ⟨_, rfl, rfl, hGW, hrefl W⟩
      | 21 =>
        injection (show some _ = some o from ho) with ho
        subst ho
        have eg : F.eval (.tmp 114) = .bool false := (hat 16 114 (of_decide_eq_true (by kernel_rfl)) rfl).trans (hp ⟨16, .guard⟩ (by simp) rfl : U 16 = .bool false)
        refine on_ ((wanted_by rfl rfl eg).trans rfl) ?_
        have e118 : F.eval (.tmp 118) = .bool true := (hat 20 118 (of_decide_eq_true (by kernel_rfl)) rfl).trans (hp ⟨20, .data⟩ (by simp) rfl : U 20 = .bool true)
        have t118 := act_tmp e118
        clear hat hoff hp
        exact wp_value' (.bool false) W (by unfold execOp; go_simp) ⟨_, rfl, rfl, hGW, hrefl W⟩
      | 22 =>
        injection (show some _ = some o from ho) with ho
        subst ho
        refine on_ (wanted_none rfl) ?_
        have e114 : F.eval (.tmp 114) = .bool false := (hat 16 114 (of_decide_eq_true (by kernel_rfl)) rfl).trans (hp ⟨16, .data⟩ (by simp) rfl : U 16 = .bool false)
        have t114 := act_tmp e114
        have e119 : F.eval (.tmp 119) = .bool false := (hat 21 119 (of_decide_eq_true (by kernel_rfl)) rfl).trans (hp ⟨21, .data⟩ (by simp) rfl : U 21 = .bool false)
        have t119 := act_tmp e119
        clear hat hoff hp
        exact wp_value' (.bool false) W (by unfold execOp; go_simp) ⟨_, rfl, rfl, hGW, hrefl W⟩
      | 23 =>
        injection (show some _ = some o from ho) with ho
        subst ho
        refine on_ (wanted_none rfl) ?_
        have e120 : F.eval (.tmp 120) = .bool false := (hat 22 120 (of_decide_eq_true (by kernel_rfl)) rfl).trans (hp ⟨22, .data⟩ (by simp) rfl : U 22 = .bool false)
        exact wp_move' (.tmp 120) rfl ⟨_, rfl, e120, hGW, hrefl W⟩
      | 24 =>
        injection (show some _ = some o from ho) with ho
        subst ho
        have eg : F.eval (.tmp 121) = .bool false := (hat 23 121 (of_decide_eq_true (by kernel_rfl)) rfl).trans (hp ⟨23, .guard⟩ (by simp) rfl : U 23 = .bool false)
        refine on_ ((wanted_by rfl rfl eg).trans rfl) ?_
        have e12 : F.eval (.tmp 12) = .map (some g2) := (hoff 12 (of_decide_eq_true (by kernel_rfl))).trans rfl
        exact wp_move' (.tmp 12) rfl ⟨_, rfl, e12, hGW, hrefl W⟩
      | 25 =>
        injection (show some _ = some o from ho) with ho
        subst ho
        have eg : F.eval (.tmp 121) = .bool false := (hat 23 121 (of_decide_eq_true (by kernel_rfl)) rfl).trans (hp ⟨23, .guard⟩ (by simp) rfl : U 23 = .bool false)
        refine on_ ((wanted_by rfl rfl eg).trans rfl) ?_
        have e9 : F.eval (.tmp 9) = .pointer (some ⟨lb, 0, none⟩) := (hoff 9 (of_decide_eq_true (by kernel_rfl))).trans rfl
        exact wp_move' (.tmp 9) rfl ⟨_, rfl, e9, hGW, hrefl W⟩
      | 26 =>
        injection (show some _ = some o from ho) with ho
        subst ho
        have eg : F.eval (.tmp 121) = .bool false := (hat 23 121 (of_decide_eq_true (by kernel_rfl)) rfl).trans (hp ⟨23, .guard⟩ (by simp) rfl : U 23 = .bool false)
        refine on_ ((wanted_by rfl rfl eg).trans rfl) ?_
        have e123 : F.eval (.tmp 123) = .pointer (some ⟨lb, 0, none⟩) := (hat 25 123 (of_decide_eq_true (by kernel_rfl)) rfl).trans (hp ⟨25, .data⟩ (by simp) rfl : U 25 = .pointer (some ⟨lb, 0, none⟩))
        have t123 := act_tmp e123
        clear hat hoff hp
        refine wp_enter' 32 #[.pointer (some ⟨lb, 0, none⟩)] (by unfold execOp; go_simp) ?_
        refine (wholeL_any lb l W hGW.1.lane HZ.out).mono ?_
        rintro e W' ⟨A', n', c', rfl, hi, hb⟩
        have hn' := hi.len
        have hne : n' = hn := by rw [← hn', HN.out]
        subst hne
        exact ⟨_, rfl, _, rfl, ⟨A', c', rfl, hi.mono fun _ _ _ => trivial⟩, ⟨hGW.1.below hb, hGW.2.below hb⟩, hb⟩
      | 27 =>
        injection (show some _ = some o from ho) with ho
        subst ho
        have eg : F.eval (.tmp 121) = .bool false := (hat 23 121 (of_decide_eq_true (by kernel_rfl)) rfl).trans (hp ⟨23, .guard⟩ (by simp) rfl : U 23 = .bool false)
        refine on_ ((wanted_by rfl rfl eg).trans rfl) ?_
        have e124 := hat 26 124 (of_decide_eq_true (by kernel_rfl)) rfl
        have v124 := hp ⟨26, .data⟩ (by simp) rfl
        clear hat hoff hp
        obtain ⟨A', c', hw, hi⟩ := v124
        rw [hw] at e124
        have t124 := act_tmp e124
        have qf : ∀ w, (Instr.field 32 (.agg #[.int .i64 l.wN, .int .i64 l.wE, .slice A' hn c']) 0).run Try.prog w = .ok (.agg #[.int .i64 l.wN, .int .i64 l.wE]) w := fun w => by kernel_rfl
        exact wp_value' (.agg #[.int .i64 l.wN, .int .i64 l.wE]) W (by unfold execOp; go_simp) ⟨_, rfl, rfl, hGW, hrefl W⟩
      | 28 =>
        injection (show some _ = some o from ho) with ho
        subst ho
        have eg : F.eval (.tmp 121) = .bool false := (hat 23 121 (of_decide_eq_true (by kernel_rfl)) rfl).trans (hp ⟨23, .guard⟩ (by simp) rfl : U 23 = .bool false)
        refine on_ ((wanted_by rfl rfl eg).trans rfl) ?_
        have e122 : F.eval (.tmp 122) = .map (some g2) := (hat 24 122 (of_decide_eq_true (by kernel_rfl)) rfl).trans (hp ⟨24, .data⟩ (by simp) rfl : U 24 = .map (some g2))
        have t122 := act_tmp e122
        have e125 : F.eval (.tmp 125) = .agg #[.int .i64 l.wN, .int .i64 l.wE] := (hat 27 125 (of_decide_eq_true (by kernel_rfl)) rfl).trans (hp ⟨27, .data⟩ (by simp) rfl : U 27 = .agg #[.int .i64 l.wN, .int .i64 l.wE])
        have t125 := act_tmp e125
        clear hat hoff hp
        have hq := hGW.1.s2.look l.wN l.wE HM2.out
        exact wp_value' (.bool true) W (by unfold execOp; go_simp) ⟨_, rfl, rfl, hGW, hrefl W⟩
      | 29 =>
        injection (show some _ = some o from ho) with ho
        subst ho
        have eg : F.eval (.tmp 121) = .bool false := (hat 23 121 (of_decide_eq_true (by kernel_rfl)) rfl).trans (hp ⟨23, .guard⟩ (by simp) rfl : U 23 = .bool false)
        refine on_ ((wanted_by rfl rfl eg).trans rfl) ?_
        have e126 : F.eval (.tmp 126) = .bool true := (hat 28 126 (of_decide_eq_true (by kernel_rfl)) rfl).trans (hp ⟨28, .data⟩ (by simp) rfl : U 28 = .bool true)
        have t126 := act_tmp e126
        clear hat hoff hp
        exact wp_value' (.bool false) W (by unfold execOp; go_simp) ⟨_, rfl, rfl, hGW, hrefl W⟩
      | 30 =>
        injection (show some _ = some o from ho) with ho
        subst ho
        refine on_ (wanted_none rfl) ?_
        have e121 : F.eval (.tmp 121) = .bool false := (hat 23 121 (of_decide_eq_true (by kernel_rfl)) rfl).trans (hp ⟨23, .data⟩ (by simp) rfl : U 23 = .bool false)
        have t121 := act_tmp e121
        have e127 : F.eval (.tmp 127) = .bool false := (hat 29 127 (of_decide_eq_true (by kernel_rfl)) rfl).trans (hp ⟨29, .data⟩ (by simp) rfl : U 29 = .bool false)
        have t127 := act_tmp e127
        clear hat hoff hp
        exact wp_value' (.bool false) W (by unfold execOp; go_simp) ⟨_, rfl, rfl, hGW, hrefl W⟩
      | 31 =>
        injection (show some _ = some o from ho) with ho
        subst ho
        refine on_ (wanted_none rfl) ?_
        have e128 : F.eval (.tmp 128) = .bool false := (hat 30 128 (of_decide_eq_true (by kernel_rfl)) rfl).trans (hp ⟨30, .data⟩ (by simp) rfl : U 30 = .bool false)
        exact wp_move' (.tmp 128) rfl ⟨_, rfl, e128, hGW, hrefl W⟩
      | 32 =>
        injection (show some _ = some o from ho) with ho
        subst ho
        have eg : F.eval (.tmp 129) = .bool false := (hat 31 129 (of_decide_eq_true (by kernel_rfl)) rfl).trans (hp ⟨31, .guard⟩ (by simp) rfl : U 31 = .bool false)
        refine on_ ((wanted_by rfl rfl eg).trans rfl) ?_
        have e9 : F.eval (.tmp 9) = .pointer (some ⟨lb, 0, none⟩) := (hoff 9 (of_decide_eq_true (by kernel_rfl))).trans rfl
        exact wp_move' (.tmp 9) rfl ⟨_, rfl, e9, hGW, hrefl W⟩
      | 33 =>
        injection (show some _ = some o from ho) with ho
        subst ho
        have eg : F.eval (.tmp 129) = .bool false := (hat 31 129 (of_decide_eq_true (by kernel_rfl)) rfl).trans (hp ⟨31, .guard⟩ (by simp) rfl : U 31 = .bool false)
        refine on_ ((wanted_by rfl rfl eg).trans rfl) ?_
        have e130 : F.eval (.tmp 130) = .pointer (some ⟨lb, 0, none⟩) := (hat 32 130 (of_decide_eq_true (by kernel_rfl)) rfl).trans (hp ⟨32, .data⟩ (by simp) rfl : U 32 = .pointer (some ⟨lb, 0, none⟩))
        have t130 := act_tmp e130
        clear hat hoff hp
        refine wp_enter' 29 #[.pointer (some ⟨lb, 0, none⟩)] (by unfold execOp; go_simp) ?_
        refine (markL_any lb l W hGW.1.lane).mono ?_
        rintro e W' ⟨rfl, hb⟩
        exact ⟨_, rfl, _, rfl, rfl, ⟨hGW.1.below hb, hGW.2.below hb⟩, hb⟩
      | 34 =>
        injection (show some _ = some o from ho) with ho
        subst ho
        have eg : F.eval (.tmp 129) = .bool false := (hat 31 129 (of_decide_eq_true (by kernel_rfl)) rfl).trans (hp ⟨31, .guard⟩ (by simp) rfl : U 31 = .bool false)
        refine on_ ((wanted_by rfl rfl eg).trans rfl) ?_
        have e131 : F.eval (.tmp 131) = .agg #[.int .i64 l.mN, .int .i64 l.mE] := (hat 33 131 (of_decide_eq_true (by kernel_rfl)) rfl).trans (hp ⟨33, .data⟩ (by simp) rfl : U 33 = .agg #[.int .i64 l.mN, .int .i64 l.mE])
        have t131 := act_tmp e131
        clear hat hoff hp
        have qf : ∀ w, (Instr.field 26 (.agg #[.int .i64 l.mN, .int .i64 l.mE]) 0).run Try.prog w = .ok (.int .i64 l.mN) w := fun w => by kernel_rfl
        exact wp_value' (.int .i64 l.mN) W (by unfold execOp; go_simp) ⟨_, rfl, rfl, hGW, hrefl W⟩
      | 35 =>
        injection (show some _ = some o from ho) with ho
        subst ho
        have eg : F.eval (.tmp 129) = .bool false := (hat 31 129 (of_decide_eq_true (by kernel_rfl)) rfl).trans (hp ⟨31, .guard⟩ (by simp) rfl : U 31 = .bool false)
        refine on_ ((wanted_by rfl rfl eg).trans rfl) ?_
        have e2 : F.eval (.tmp 2) = .slice A n cap := (hoff 2 (of_decide_eq_true (by kernel_rfl))).trans rfl
        exact wp_move' (.tmp 2) rfl ⟨_, rfl, e2, hGW, hrefl W⟩
      | 36 =>
        injection (show some _ = some o from ho) with ho
        subst ho
        have eg : F.eval (.tmp 129) = .bool false := (hat 31 129 (of_decide_eq_true (by kernel_rfl)) rfl).trans (hp ⟨31, .guard⟩ (by simp) rfl : U 31 = .bool false)
        refine on_ ((wanted_by rfl rfl eg).trans rfl) ?_
        have e133 : F.eval (.tmp 133) = .slice A n cap := (hat 35 133 (of_decide_eq_true (by kernel_rfl)) rfl).trans (hp ⟨35, .data⟩ (by simp) rfl : U 35 = .slice A n cap)
        have t133 := act_tmp e133
        clear hat hoff hp
        exact wp_value' (.int .i64 (n : Nat)) W (by unfold execOp; go_simp) ⟨_, rfl, rfl, hGW, hrefl W⟩
      | 37 =>
        injection (show some _ = some o from ho) with ho
        subst ho
        have eg : F.eval (.tmp 129) = .bool false := (hat 31 129 (of_decide_eq_true (by kernel_rfl)) rfl).trans (hp ⟨31, .guard⟩ (by simp) rfl : U 31 = .bool false)
        refine on_ ((wanted_by rfl rfl eg).trans rfl) ?_
        have e132 : F.eval (.tmp 132) = .int .i64 l.mN := (hat 34 132 (of_decide_eq_true (by kernel_rfl)) rfl).trans (hp ⟨34, .data⟩ (by simp) rfl : U 34 = .int .i64 l.mN)
        have t132 := act_tmp e132
        have e134 : F.eval (.tmp 134) = .int .i64 (n : Nat) := (hat 36 134 (of_decide_eq_true (by kernel_rfl)) rfl).trans (hp ⟨36, .data⟩ (by simp) rfl : U 36 = .int .i64 (n : Nat))
        have t134 := act_tmp e134
        clear hat hoff hp
        exact wp_value' (.bool false) W (by unfold execOp; go_simp) ⟨_, rfl, rfl, hGW, hrefl W⟩
      | 38 =>
        injection (show some _ = some o from ho) with ho
        subst ho
        refine on_ (wanted_none rfl) ?_
        have e129 : F.eval (.tmp 129) = .bool false := (hat 31 129 (of_decide_eq_true (by kernel_rfl)) rfl).trans (hp ⟨31, .data⟩ (by simp) rfl : U 31 = .bool false)
        have t129 := act_tmp e129
        have e135 : F.eval (.tmp 135) = .bool false := (hat 37 135 (of_decide_eq_true (by kernel_rfl)) rfl).trans (hp ⟨37, .data⟩ (by simp) rfl : U 37 = .bool false)
        have t135 := act_tmp e135
        clear hat hoff hp
        exact wp_value' (.bool false) W (by unfold execOp; go_simp) ⟨_, rfl, rfl, hGW, hrefl W⟩
      | 39 =>
        injection (show some _ = some o from ho) with ho
        subst ho
        refine on_ (wanted_none rfl) ?_
        have e136 : F.eval (.tmp 136) = .bool false := (hat 38 136 (of_decide_eq_true (by kernel_rfl)) rfl).trans (hp ⟨38, .data⟩ (by simp) rfl : U 38 = .bool false)
        exact wp_move' (.tmp 136) rfl ⟨_, rfl, e136, hGW, hrefl W⟩
      | 40 =>
        injection (show some _ = some o from ho) with ho
        subst ho
        have eg : F.eval (.tmp 137) = .bool false := (hat 39 137 (of_decide_eq_true (by kernel_rfl)) rfl).trans (hp ⟨39, .guard⟩ (by simp) rfl : U 39 = .bool false)
        refine on_ ((wanted_by rfl rfl eg).trans rfl) ?_
        have e9 : F.eval (.tmp 9) = .pointer (some ⟨lb, 0, none⟩) := (hoff 9 (of_decide_eq_true (by kernel_rfl))).trans rfl
        exact wp_move' (.tmp 9) rfl ⟨_, rfl, e9, hGW, hrefl W⟩
      | 41 =>
        injection (show some _ = some o from ho) with ho
        subst ho
        have eg : F.eval (.tmp 137) = .bool false := (hat 39 137 (of_decide_eq_true (by kernel_rfl)) rfl).trans (hp ⟨39, .guard⟩ (by simp) rfl : U 39 = .bool false)
        refine on_ ((wanted_by rfl rfl eg).trans rfl) ?_
        have e138 : F.eval (.tmp 138) = .pointer (some ⟨lb, 0, none⟩) := (hat 40 138 (of_decide_eq_true (by kernel_rfl)) rfl).trans (hp ⟨40, .data⟩ (by simp) rfl : U 40 = .pointer (some ⟨lb, 0, none⟩))
        have t138 := act_tmp e138
        clear hat hoff hp
        refine wp_enter' 33 #[.pointer (some ⟨lb, 0, none⟩)] (by unfold execOp; go_simp) ?_
        refine (nextL_any lb l W hGW.1.lane).mono ?_
        rintro e W' ⟨rfl, rfl⟩
        exact ⟨_, rfl, _, rfl, rfl, hGW, Below.refl _ _⟩
      | 42 =>
        injection (show some _ = some o from ho) with ho
        subst ho
        have eg : F.eval (.tmp 137) = .bool false := (hat 39 137 (of_decide_eq_true (by kernel_rfl)) rfl).trans (hp ⟨39, .guard⟩ (by simp) rfl : U 39 = .bool false)
        refine on_ ((wanted_by rfl rfl eg).trans rfl) ?_
        have e9 : F.eval (.tmp 9) = .pointer (some ⟨lb, 0, none⟩) := (hoff 9 (of_decide_eq_true (by kernel_rfl))).trans rfl
        exact wp_move' (.tmp 9) rfl ⟨_, rfl, e9, hGW, hrefl W⟩
      | 43 =>
        injection (show some _ = some o from ho) with ho
        subst ho
        have eg : F.eval (.tmp 137) = .bool false := (hat 39 137 (of_decide_eq_true (by kernel_rfl)) rfl).trans (hp ⟨39, .guard⟩ (by simp) rfl : U 39 = .bool false)
        refine on_ ((wanted_by rfl rfl eg).trans rfl) ?_
        have e140 : F.eval (.tmp 140) = .pointer (some ⟨lb, 0, none⟩) := (hat 42 140 (of_decide_eq_true (by kernel_rfl)) rfl).trans (hp ⟨42, .data⟩ (by simp) rfl : U 42 = .pointer (some ⟨lb, 0, none⟩))
        have t140 := act_tmp e140
        clear hat hoff hp
        refine wp_enter' 29 #[.pointer (some ⟨lb, 0, none⟩)] (by unfold execOp; go_simp) ?_
        refine (markL_any lb l W hGW.1.lane).mono ?_
        rintro e W' ⟨rfl, hb⟩
        exact ⟨_, rfl, _, rfl, rfl, ⟨hGW.1.below hb, hGW.2.below hb⟩, hb⟩
      | 44 =>
        injection (show some _ = some o from ho) with ho
        subst ho
        have eg : F.eval (.tmp 137) = .bool false := (hat 39 137 (of_decide_eq_true (by kernel_rfl)) rfl).trans (hp ⟨39, .guard⟩ (by simp) rfl : U 39 = .bool false)
        refine on_ ((wanted_by rfl rfl eg).trans rfl) ?_
        have e141 : F.eval (.tmp 141) = .agg #[.int .i64 l.mN, .int .i64 l.mE] := (hat 43 141 (of_decide_eq_true (by kernel_rfl)) rfl).trans (hp ⟨43, .data⟩ (by simp) rfl : U 43 = .agg #[.int .i64 l.mN, .int .i64 l.mE])
        have t141 := act_tmp e141
        clear hat hoff hp
        have qf : ∀ w, (Instr.field 26 (.agg #[.int .i64 l.mN, .int .i64 l.mE]) 0).run Try.prog w = .ok (.int .i64 l.mN) w := fun w => by kernel_rfl
        exact wp_value' (.int .i64 l.mN) W (by unfold execOp; go_simp) ⟨_, rfl, rfl, hGW, hrefl W⟩
      | 45 =>
        injection (show some _ = some o from ho) with ho
        subst ho
        have eg : F.eval (.tmp 137) = .bool false := (hat 39 137 (of_decide_eq_true (by kernel_rfl)) rfl).trans (hp ⟨39, .guard⟩ (by simp) rfl : U 39 = .bool false)
        refine on_ ((wanted_by rfl rfl eg).trans rfl) ?_
        have e139 : F.eval (.tmp 139) = .int .i64 l.next := (hat 41 139 (of_decide_eq_true (by kernel_rfl)) rfl).trans (hp ⟨41, .data⟩ (by simp) rfl : U 41 = .int .i64 l.next)
        have t139 := act_tmp e139
        have e142 : F.eval (.tmp 142) = .int .i64 l.mN := (hat 44 142 (of_decide_eq_true (by kernel_rfl)) rfl).trans (hp ⟨44, .data⟩ (by simp) rfl : U 44 = .int .i64 l.mN)
        have t142 := act_tmp e142
        clear hat hoff hp
        exact wp_value' (.bool false) W (by unfold execOp; go_simp) ⟨_, rfl, rfl, hGW, hrefl W⟩
      | 46 =>
        injection (show some _ = some o from ho) with ho
        subst ho
        refine on_ (wanted_none rfl) ?_
        have e137 : F.eval (.tmp 137) = .bool false := (hat 39 137 (of_decide_eq_true (by kernel_rfl)) rfl).trans (hp ⟨39, .data⟩ (by simp) rfl : U 39 = .bool false)
        have t137 := act_tmp e137
        have e143 : F.eval (.tmp 143) = .bool false := (hat 45 143 (of_decide_eq_true (by kernel_rfl)) rfl).trans (hp ⟨45, .data⟩ (by simp) rfl : U 45 = .bool false)
        have t143 := act_tmp e143
        clear hat hoff hp
        exact wp_value' (.bool false) W (by unfold execOp; go_simp) ⟨_, rfl, rfl, hGW, hrefl W⟩
      | i + 47 => exact absurd ho (by simp)
  case hend =>
    intro U W hGW hV
    have hx : U 46 = .bool false := hV 46 (of_decide_eq_true (by kernel_rfl))
    have hk := hGW
    clear hV hGW
    simp [putU, dstAt, Act.put, hx]
    exact HQ.out _ _ ⟨rfl, rfl, rfl, rfl, rfl, rfl, rfl, rfl, rfl, rfl, rfl, rfl, rfl, rfl, rfl, trivial⟩ hk
end Go.Proofs.Ytaipgdhdfpemcaa
