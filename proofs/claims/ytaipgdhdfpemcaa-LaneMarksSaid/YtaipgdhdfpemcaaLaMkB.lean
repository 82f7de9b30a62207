/-
  LaneMarks, the plain law: what a lane knows behind each mail. No program in sight.
-/
import Derived.Test.YtaipgdhdfpemcaaLaTk2
import Derived.Test.YtaipgdhdfpemcaaLaMk
namespace Go.Proofs.Ytaipgdhdfpemcaa
open Go.RowKit

structure LInv (ep : Int) (os : List OpC) (l : LaneC) (told wholes : List (Int × Int)) : Prop where
  ok : l.Ok
  epoch : l.epoch = ep
  mt : (l.mN, l.mE) ∈ told
  wt : (l.wN, l.wE) ∈ wholes
  mle : l.mN ≤ os.length
  mnx : l.mN ≤ l.next
  hol : ∀ z ∈ l.holes, z ≤ l.wN

theorem riseB_le (up : Int) : ∀ (l : List Int) (x : Int), riseB up x l = true → ∀ z ∈ l, z ≤ up
  | [], _, _, z, hz => by cases hz
  | a :: l, x, h, z, hz => by
    simp only [riseB, Bool.and_eq_true, decide_eq_true_eq] at h
    rcases List.mem_cons.1 hz with rfl | hz
    · omega
    · exact riseB_le up l _ h.2 z hz
theorem right10_holes {m : MailC} (h : m.right10 = true) : ∀ z ∈ m.holes, z ≤ m.whN := by
  unfold MailC.right10 at h
  simp only [Bool.and_eq_true] at h
  exact riseB_le _ _ _ h.2.2.2.2.2
theorem has_le {os : List OpC} {N E : Int} (h : hasB os N E = true) (h0 : 0 < N) : N ≤ os.length := by
  unfold hasB at h
  simp only [Bool.or_eq_true, Bool.and_eq_true, decide_eq_true_eq] at h
  rcases h with h | h
  · omega
  · exact h.2.1
theorem i64_max {a b : Int} (ha : I64 a) (hb : I64 b) : I64 (max a b) := by
  unfold I64 at *
  omega
theorem i64_min {a b : Int} (ha : I64 a) (hb : I64 b) : I64 (min a b) := by
  unfold I64 at *
  omega
/-- what is told of then -/
def told' (ep : Int) (m : MailC) (told : List (Int × Int)) : List (Int × Int) := if (m.good && (m.epoch == ep)) = true then (m.atN, m.atE) :: told else told
def wholes' (ep : Int) (m : MailC) (wholes : List (Int × Int)) : List (Int × Int) := if (m.good && (m.epoch == ep)) = true then (m.whN, m.whE) :: wholes else wholes
theorem told'_mem {ep : Int} {m : MailC} {told : List (Int × Int)} {p : Int × Int} (h : p ∈ told) : p ∈ told' ep m told := by
  unfold told'
  split
  · exact List.mem_cons_of_mem _ h
  · exact h
theorem wholes'_mem {ep : Int} {m : MailC} {wholes : List (Int × Int)} {p : Int × Int} (h : p ∈ wholes) : p ∈ wholes' ep m wholes := by
  unfold wholes'
  split
  · exact List.mem_cons_of_mem _ h
  · exact h
theorem goodS_inv {ep : Int} {os : List OpC} {l : LaneC} {told wholes : List (Int × Int)} {m : MailC} (h : LInv ep os l told wholes) (hok : m.Ok) (hr : m.right10 = true) (he : m.epoch = ep) (hg : m.good = true) :
    LInv ep os (goodS l m os) (told' ep m told) (wholes' ep m wholes) ∧ l.mN ≤ (goodS l m os).mN ∧ l.wN ≤ (goodS l m os).wN := by
  have ht : told' ep m told = (m.atN, m.atE) :: told := by unfold told'; simp [he, hg]
  have hw : wholes' ep m wholes = (m.whN, m.whE) :: wholes := by unfold wholes'; simp [he, hg]
  rw [ht, hw]
  have h1 : LInv ep os (goodS1 l m os) ((m.atN, m.atE) :: told) ((m.whN, m.whE) :: wholes) ∧ l.mN ≤ (goodS1 l m os).mN ∧ (goodS1 l m os).wN = l.wN := by
    unfold goodS1
    split
    · rename_i hc
      simp only [Bool.and_eq_true, decide_eq_true_eq] at hc
      have hle := has_le hc.2 hc.1
      have hmnx := h.mnx
      have hmle := h.mle
      unfold LaneC.further
      split
      · refine ⟨⟨⟨hok.atN, hok.atE, h.ok.wN, h.ok.wE, h.ok.holes, h.ok.each, h.ok.epoch, h.ok.site, i64_max h.ok.next hok.atN⟩, h.epoch, List.mem_cons_self .., List.mem_cons_of_mem _ h.wt, hle, ?_, h.hol⟩, ?_, rfl⟩
        · show m.atN ≤ max l.next m.atN; omega
        · show l.mN ≤ m.atN; omega
      · refine ⟨⟨⟨h.ok.mN, h.ok.mE, h.ok.wN, h.ok.wE, h.ok.holes, h.ok.each, h.ok.epoch, h.ok.site, i64_max h.ok.next hok.atN⟩, h.epoch, List.mem_cons_of_mem _ h.mt, List.mem_cons_of_mem _ h.wt, hmle, ?_, h.hol⟩, Int.le_refl _, rfl⟩
        show l.mN ≤ max l.next m.atN; omega
    · exact ⟨⟨h.ok, h.epoch, List.mem_cons_of_mem _ h.mt, List.mem_cons_of_mem _ h.wt, h.mle, h.mnx, h.hol⟩, Int.le_refl _, rfl⟩
  obtain ⟨h2, h3, h4⟩ := h1
  unfold goodS goodS2
  split
  · rename_i hc
    simp only [Bool.and_eq_true, decide_eq_true_eq] at hc
    refine ⟨⟨⟨h2.ok.mN, h2.ok.mE, hok.whN, hok.whE, hok.holes, hok.hole, h2.ok.epoch, h2.ok.site, h2.ok.next⟩, h2.epoch, h2.mt, List.mem_cons_self .., h2.mle, h2.mnx, right10_holes hr⟩, h3, ?_⟩
    show l.wN ≤ m.whN
    omega
  · exact ⟨h2, h3, by omega⟩
/-- the law -/
theorem take_inv {ep : Int} {os : List OpC} {l : LaneC} {told wholes : List (Int × Int)} {m : MailC} (h : LInv ep os l told wholes) (hok : m.Ok) (hos : os.length ≤ 4294967296) :
    LInv ep os (takeS l m os) (told' ep m told) (wholes' ep m wholes) ∧ l.mN ≤ (takeS l m os).mN ∧ l.wN ≤ (takeS l m os).wN ∧ (m.epoch ≠ ep → takeS l m os = l) := by
  have same : LInv ep os l (told' ep m told) (wholes' ep m wholes) := ⟨h.ok, h.epoch, told'_mem h.mt, wholes'_mem h.wt, h.mle, h.mnx, h.hol⟩
  unfold takeS
  split
  · rename_i hc
    unfold rightS
    split
    · rename_i he
      have he' : m.epoch = ep := by rw [he, h.epoch]
      cases hg : m.good with
      | true =>
        simp only [if_true]
        obtain ⟨h1, h2, h3⟩ := goodS_inv h hok hc.2 he' hg
        exact ⟨h1, h2, h3, fun hne => absurd he' hne⟩
      | false =>
        simp only [Bool.false_eq_true, if_false]
        have hu := Seam.upTo_le (os.map (·.epoch)) m.atN m.atE
        have hl := hu.2
        rw [List.length_map] at hl
        have hmnx := h.mnx
        refine ⟨⟨⟨h.ok.mN, h.ok.mE, h.ok.wN, h.ok.wE, h.ok.holes, h.ok.each, h.ok.epoch, h.ok.site, i64_min h.ok.next (i64_max h.ok.mN ⟨by omega, by omega⟩)⟩, h.epoch, told'_mem h.mt, wholes'_mem h.wt, h.mle, ?_, h.hol⟩, Int.le_refl _, Int.le_refl _, fun hne => absurd he' hne⟩
        show l.mN ≤ min l.next (max l.mN _)
        omega
    · exact ⟨same, Int.le_refl _, Int.le_refl _, fun _ => rfl⟩
  · exact ⟨same, Int.le_refl _, Int.le_refl _, fun _ => rfl⟩
end Go.Proofs.Ytaipgdhdfpemcaa

namespace Go.Proofs.Ytaipgdhdfpemcaa
open Go.RowKit

/-- where a round stands, but for the sets -/
structure Mkb (W w : World) (lb g1 g2 : Nat) (l : LaneC) (A : Option Addr) (n cap : Nat) (os : List OpC) : Prop where
  lane : LaneIs w (Away lb g1 g2) lb l
  ops : OpsIs w (Away lb g1 g2) A n cap os
  low : Below W.heap.size W w
  geL : W.heap.size ≤ lb
  ge1 : W.heap.size ≤ g1
  ge2 : W.heap.size ≤ g2
  ne12 : g1 ≠ g2
  neL1 : lb ≠ g1
  neL2 : lb ≠ g2
section
variable {W w w' : World} {lb g1 g2 : Nat} {l : LaneC} {A : Option Addr} {n cap : Nat} {os : List OpC} {c : Nat} {told wholes : List (Int × Int)}
theorem Mk.base (h : Mk W w lb g1 g2 l A n cap os c told wholes) : Mkb W w lb g1 g2 l A n cap os := ⟨h.lane, h.ops, h.low, h.geL, h.ge1, h.ge2, h.ne12, h.neL1, h.neL2⟩
theorem Mkb.full (h : Mkb W w lb g1 g2 l A n cap os) (s1 : SetIs w g1 c told) (s2 : SetIs w g2 c wholes) : Mk W w lb g1 g2 l A n cap os c told wholes := ⟨h.lane, h.ops, s1, s2, h.low, h.geL, h.ge1, h.ge2, h.ne12, h.neL1, h.neL2⟩
theorem away_put {g : Nat} (hg : g = g1 ∨ g = g2) (hgr : w.grownBy w' (some g)) : Kept (Away lb g1 g2) w w' :=
  ⟨hgr.size, fun b h1 h2 => hgr.block b h2 (fun e => by injection e with e; subst e; rcases hg with h | h; exact h1.2.1 h; exact h1.2.2 h)⟩
theorem Mkb.put {g : Nat} (h : Mkb W w lb g1 g2 l A n cap os) (hg : g = g1 ∨ g = g2) (hgr : w.grownBy w' (some g)) : Mkb W w' lb g1 g2 l A n cap os := by
  have hk : Kept (Away lb g1 g2) w w' := away_put hg hgr
  have hge : W.heap.size ≤ g := by rcases hg with h1 | h1 <;> rw [h1]; exact h.ge1; exact h.ge2
  have hne : lb ≠ g := by rcases hg with h1 | h1 <;> rw [h1]; exact h.neL1; exact h.neL2
  exact ⟨h.lane.kept hk (hgr.block lb h.lane.lt (fun e => hne (by injection e))), h.ops.kept hk, h.low.grown hgr h.low.size (fun k hk => by injection hk with hk; omega), h.geL, h.ge1, h.ge2, h.ne12, h.neL1, h.neL2⟩
theorem Mkb.drew (h : Mkb W w lb g1 g2 l A n cap os) : Mkb W w.drew lb g1 g2 l A n cap os :=
  have hb : Below w.heap.size w w.drew := ⟨rfl, rfl, rfl, Nat.le_refl _, fun _ _ => rfl⟩
  ⟨h.lane.below hb, h.ops.below hb, h.low.drew, h.geL, h.ge1, h.ge2, h.ne12, h.neL1, h.neL2⟩
theorem SetIs.more {w : World} {b c c' : Nat} {L : List (Int × Int)} (h : SetIs w b c L) (hc : c ≤ c') : SetIs w b c' L := by
  obtain ⟨n, D, h1, h2, h3⟩ := h
  exact ⟨n, D, h1, Nat.le_trans h2 hc, h3⟩
/-- a place put in: whether it is there or not yet -/
theorem set_either {w : World} {b c : Nat} {L : List (Int × Int)} {N E : Int} (h : SetIs w b c L ∨ SetIs w b (c + 1) ((N, E) :: L)) (hc : c + 1 < maxLen) (hN : I64 N) (hE : I64 E) :
    ∃ w', (Instr.mapUpdate 79 (.map (some b)) (spotV' N E) (.bool true)).run Try.prog w = .ok () w' ∧ SetIs w' b (c + 1) ((N, E) :: L) ∧ w.grownBy w' (some b) := by
  rcases h with h | h
  · exact h.add (by omega) N E hN hE
  · exact h.again hc N E (List.mem_cons_self ..)
end

set_option maxRecDepth 100000 in
set_option maxHeartbeats 4000000 in
theorem marks20 {W w : World} {lb g1 g2 mb kb wb : Nat} {l o : LaneC} {m : MailC} {cells : Array Value} {A : Option Addr} {n cap : Nat} {os : List OpC} {c : Nat} {told wholes : List (Int × Int)} {ep : Int} {sA : Option Addr} {sn sc k : Nat} {oA : Option Addr} {on oc : Nat} (Q : Exit → Act → World → Prop) (a : Act) (hfr : Fr 169 a [(0, .int .i64 ep), (2, .slice A n cap), (9, .pointer (some ⟨lb, 0, none⟩)), (11, .map (some g1)), (12, .map (some g2)), (14, .pointer (some ⟨mb, 0, none⟩)), (15, .pointer (some ⟨kb, 0, none⟩)), (16, .pointer (some ⟨wb, 0, none⟩)), (17, .int .i64 o.next), (50, .slice sA sn sc), (51, .int .i64 (sn : Nat)), (52, .int .i64 (k : Nat))]) (h : Mk W w lb g1 g2 l A n cap os c told wholes ∧ Bx w (Away lb g1 g2) mb kb wb cells m o oA on oc) (hok : m.Ok) (hc : c + 1 < maxLen)
    (hQ : ∀ a' w', Fr 169 a' [(0, .int .i64 ep), (2, .slice A n cap), (9, .pointer (some ⟨lb, 0, none⟩)), (11, .map (some g1)), (12, .map (some g2)), (14, .pointer (some ⟨mb, 0, none⟩)), (15, .pointer (some ⟨kb, 0, none⟩)), (16, .pointer (some ⟨wb, 0, none⟩)), (17, .int .i64 o.next), (50, .slice sA sn sc), (51, .int .i64 (sn : Nat)), (52, .int .i64 (k : Nat))] → Mk W w' lb g1 g2 l A n cap os (c + 1) ((m.atN, m.atE) :: told) ((m.whN, m.whE) :: wholes) ∧ Bx w' (Away lb g1 g2) mb kb wb cells m o oA on oc → Q .normal a' w') :
    (part [1, 1, 1, 1, 1, 0, 1, 0, 0, 1, 1, 0, 0, 1, 1, 1, 1, 1, 0, 1, 0] (codeOf marksF)).wp Try.prog Q a w := by
  obtain ⟨W0, hW0⟩ : ∃ W0, W0 = W := ⟨_, rfl⟩
  subst hW0
  have HC := Lib.hid hc
  have HAT : I64 m.atN ∧ I64 m.atE := ⟨hok.atN, hok.atE⟩
  have HWH : I64 m.whN ∧ I64 m.whE := ⟨hok.whN, hok.whE⟩
  clear hc hok
  have HT := Lib.hid h
  have HQ := Lib.hid hQ
  clear h hQ
  obtain ⟨t, df⟩ := a
  obtain ⟨hd, hs, h0, h2, h9, h11, h12, h14, h15, h16, h17, h50, h51, h52, -⟩ := hfr
  simp only at hd hs h0 h2 h9 h11 h12 h14 h15 h16 h17 h50 h51 h52
  subst hd
  rw [eta169 t hs, h0, h2, h9, h11, h12, h14, h15, h16, h17, h50, h51, h52]
  clear hs h0 h2 h9 h11 h12 h14 h15 h16 h17 h50 h51 h52
  conv => arg 2; whnf
  refine wp_region_all (by kernel_rfl) (fun i v W => match i with | 0 => v = .map (some g1) | 1 => v = .pointer (some ⟨mb, 11, none⟩) | 2 => v = .agg #[.int .i64 m.atN, .int .i64 m.atE] | 3 => v = .map (some g2) | 4 => v = .pointer (some ⟨mb, 13, none⟩) | 5 => v = .agg #[.int .i64 m.whN, .int .i64 m.whE] | 6 => SetIs W g1 (c + 1) ((m.atN, m.atE) :: told) | 7 => SetIs W g2 (c + 1) ((m.whN, m.whE) :: wholes) | _ => True) (fun W => Mkb W0 W lb g1 g2 l A n cap os ∧ (SetIs W g1 c told ∨ SetIs W g1 (c + 1) ((m.atN, m.atE) :: told)) ∧ (SetIs W g2 c wholes ∨ SetIs W g2 (c + 1) ((m.whN, m.whE) :: wholes)) ∧ Bx W (Away lb g1 g2) mb kb wb cells m o oA on oc) (fun W W' => (SetIs W g1 (c + 1) ((m.atN, m.atE) :: told) → SetIs W' g1 (c + 1) ((m.atN, m.atE) :: told)) ∧ (SetIs W g2 (c + 1) ((m.whN, m.whE) :: wholes) → SetIs W' g2 (c + 1) ((m.whN, m.whE) :: wholes))) (by kernel_rfl) ?hG ?hmono ?hstep ?hend
  case hG => exact ⟨HT.out.1.base.drew, .inl HT.out.1.s1, .inl HT.out.1.s2, HT.out.2.drew⟩
  case hmono =>
    intro i v W W' hx hv
    match i with
    | 6 =>
      exact hx.1 hv
    | 7 =>
      exact hx.2 hv
    | 0 | 1 | 2 | 3 | 4 | 5 => exact hv
    | i + 8 => exact hv
  case hstep =>
    intro i o F U W ho hGW hat hoff hp
    have hrefl := fun W : World => (⟨id, id⟩ : (SetIs W g1 (c + 1) ((m.atN, m.atE) :: told) → SetIs W g1 (c + 1) ((m.atN, m.atE) :: told)) ∧ (SetIs W g2 (c + 1) ((m.whN, m.whE) :: wholes) → SetIs W g2 (c + 1) ((m.whN, m.whE) :: wholes)))
    match i with
      | 0 =>
        injection (show some _ = some o from ho) with ho
        subst ho
        refine on_ (wanted_none rfl) ?_
        have e11 : F.eval (.tmp 11) = .map (some g1) := (hoff 11 (of_decide_eq_true (by kernel_rfl))).trans rfl
        exact wp_move' (.tmp 11) rfl ⟨_, rfl, e11, hGW, hrefl W⟩
      | 1 =>
        injection (show some _ = some o from ho) with ho
        subst ho
        refine on_ (wanted_none rfl) ?_
        have e14 : F.eval (.tmp 14) = .pointer (some ⟨mb, 0, none⟩) := (hoff 14 (of_decide_eq_true (by kernel_rfl))).trans rfl
        have t14 := act_tmp e14
        clear hat hoff hp
        exact wp_value' (.pointer (some ⟨mb, 11, none⟩)) W (by unfold execOp; go_simp) ⟨_, rfl, rfl, hGW, hrefl W⟩
      | 2 =>
        injection (show some _ = some o from ho) with ho
        subst ho
        refine on_ (wanted_none rfl) ?_
        have e93 : F.eval (.tmp 93) = .pointer (some ⟨mb, 11, none⟩) := (hat 1 93 (of_decide_eq_true (by kernel_rfl)) rfl).trans (hp ⟨1, .data⟩ (by simp) rfl : U 1 = .pointer (some ⟨mb, 11, none⟩))
        have t93 := act_tmp e93
        clear hat hoff hp
        obtain ⟨eA, en, ec, hA, hn', hc', oA', on', oc', pA, pn, pc, rfl, -⟩ := hGW.2.2.2.said
        have d0 := hGW.2.2.2.mail.cell 11
        have d1 := hGW.2.2.2.mail.cell 12
        simp at d0 d1
        exact wp_value' (.agg #[.int .i64 m.atN, .int .i64 m.atE]) W (by unfold execOp; go_simp) ⟨_, rfl, rfl, hGW, hrefl W⟩
      | 3 =>
        injection (show some _ = some o from ho) with ho
        subst ho
        refine on_ (wanted_none rfl) ?_
        have e12 : F.eval (.tmp 12) = .map (some g2) := (hoff 12 (of_decide_eq_true (by kernel_rfl))).trans rfl
        exact wp_move' (.tmp 12) rfl ⟨_, rfl, e12, hGW, hrefl W⟩
      | 4 =>
        injection (show some _ = some o from ho) with ho
        subst ho
        refine on_ (wanted_none rfl) ?_
        have e14 : F.eval (.tmp 14) = .pointer (some ⟨mb, 0, none⟩) := (hoff 14 (of_decide_eq_true (by kernel_rfl))).trans rfl
        have t14 := act_tmp e14
        clear hat hoff hp
        exact wp_value' (.pointer (some ⟨mb, 13, none⟩)) W (by unfold execOp; go_simp) ⟨_, rfl, rfl, hGW, hrefl W⟩
      | 5 =>
        injection (show some _ = some o from ho) with ho
        subst ho
        refine on_ (wanted_none rfl) ?_
        have e96 : F.eval (.tmp 96) = .pointer (some ⟨mb, 13, none⟩) := (hat 4 96 (of_decide_eq_true (by kernel_rfl)) rfl).trans (hp ⟨4, .data⟩ (by simp) rfl : U 4 = .pointer (some ⟨mb, 13, none⟩))
        have t96 := act_tmp e96
        clear hat hoff hp
        obtain ⟨eA, en, ec, hA, hn', hc', oA', on', oc', pA, pn, pc, rfl, -⟩ := hGW.2.2.2.said
        have d0 := hGW.2.2.2.mail.cell 13
        have d1 := hGW.2.2.2.mail.cell 14
        simp at d0 d1
        exact wp_value' (.agg #[.int .i64 m.whN, .int .i64 m.whE]) W (by unfold execOp; go_simp) ⟨_, rfl, rfl, hGW, hrefl W⟩
      | 6 =>
        injection (show some _ = some o from ho) with ho
        subst ho
        refine on_ (wanted_none rfl) ?_
        have e92 : F.eval (.tmp 92) = .map (some g1) := (hat 0 92 (of_decide_eq_true (by kernel_rfl)) rfl).trans (hp ⟨0, .data⟩ (by simp) rfl : U 0 = .map (some g1))
        have t92 := act_tmp e92
        have e94 : F.eval (.tmp 94) = .agg #[.int .i64 m.atN, .int .i64 m.atE] := (hat 2 94 (of_decide_eq_true (by kernel_rfl)) rfl).trans (hp ⟨2, .data⟩ (by simp) rfl : U 2 = .agg #[.int .i64 m.atN, .int .i64 m.atE])
        have t94 := act_tmp e94
        clear hat hoff hp
        obtain ⟨W', hrun, hs, hgr⟩ := set_either hGW.2.1 HC.out HAT.1 HAT.2
        have hk := away_put (lb := lb) (g1 := g1) (g2 := g2) (.inl rfl) hgr
        have hne := hGW.1.ne12
        have ho : ∀ {c' L'}, SetIs W g2 c' L' → SetIs W' g2 c' L' := fun h => h.keep (hgr.block _ h.lt (fun e => hne ((Option.some.inj e).symm)))
        refine wp_skip' W' (by unfold execOp; go_simp) ⟨_, rfl, hs, ⟨hGW.1.put (.inl rfl) hgr, (.inr hs), (hGW.2.2.1.imp ho ho), hGW.2.2.2.kept hk⟩, fun _ => hs, ho⟩
      | 7 =>
        injection (show some _ = some o from ho) with ho
        subst ho
        refine on_ (wanted_none rfl) ?_
        have e95 : F.eval (.tmp 95) = .map (some g2) := (hat 3 95 (of_decide_eq_true (by kernel_rfl)) rfl).trans (hp ⟨3, .data⟩ (by simp) rfl : U 3 = .map (some g2))
        have t95 := act_tmp e95
        have e97 : F.eval (.tmp 97) = .agg #[.int .i64 m.whN, .int .i64 m.whE] := (hat 5 97 (of_decide_eq_true (by kernel_rfl)) rfl).trans (hp ⟨5, .data⟩ (by simp) rfl : U 5 = .agg #[.int .i64 m.whN, .int .i64 m.whE])
        have t97 := act_tmp e97
        clear hat hoff hp
        obtain ⟨W', hrun, hs, hgr⟩ := set_either hGW.2.2.1 HC.out HWH.1 HWH.2
        have hk := away_put (lb := lb) (g1 := g1) (g2 := g2) (.inr rfl) hgr
        have hne := hGW.1.ne12
        have ho : ∀ {c' L'}, SetIs W g1 c' L' → SetIs W' g1 c' L' := fun h => h.keep (hgr.block _ h.lt (fun e => hne (Option.some.inj e)))
        refine wp_skip' W' (by unfold execOp; go_simp) ⟨_, rfl, hs, ⟨hGW.1.put (.inr rfl) hgr, (hGW.2.1.imp ho ho), (.inr hs), hGW.2.2.2.kept hk⟩, ho, fun _ => hs⟩
      | i + 8 => exact absurd ho (by simp)
  case hend =>
    intro U W hGW hV
    have h1 : SetIs W g1 (c + 1) ((m.atN, m.atE) :: told) := hV 6 (of_decide_eq_true (by kernel_rfl))
    have h2 : SetIs W g2 (c + 1) ((m.whN, m.whE) :: wholes) := hV 7 (of_decide_eq_true (by kernel_rfl))
    have hk := hGW.1.full h1 h2
    have hb := hGW.2.2.2
    clear hV hGW
    simp [putU, dstAt, Act.put]
    exact HQ.out _ _ ⟨rfl, rfl, rfl, rfl, rfl, rfl, rfl, rfl, rfl, rfl, rfl, rfl, rfl, rfl, trivial⟩ ⟨hk, hb⟩

set_option maxRecDepth 100000 in
set_option maxHeartbeats 4000000 in
theorem marks19 {W w : World} {lb g1 g2 mb kb wb : Nat} {l o : LaneC} {m : MailC} {cells : Array Value} {A : Option Addr} {n cap : Nat} {os : List OpC} {c : Nat} {told wholes : List (Int × Int)} {ep : Int} {sA : Option Addr} {sn sc k : Nat} {oA : Option Addr} {on oc : Nat} (Q : Exit → Act → World → Prop) (a : Act) (hfr : Fr 169 a [(0, .int .i64 ep), (2, .slice A n cap), (9, .pointer (some ⟨lb, 0, none⟩)), (11, .map (some g1)), (12, .map (some g2)), (14, .pointer (some ⟨mb, 0, none⟩)), (15, .pointer (some ⟨kb, 0, none⟩)), (16, .pointer (some ⟨wb, 0, none⟩)), (17, .int .i64 o.next), (50, .slice sA sn sc), (51, .int .i64 (sn : Nat)), (52, .int .i64 (k : Nat))]) (h : Mk W w lb g1 g2 l A n cap os c told wholes ∧ Bx w (Away lb g1 g2) mb kb wb cells m o oA on oc) 
    (hQ : ∀ a' w', Fr 169 a' [(0, .int .i64 ep), (2, .slice A n cap), (9, .pointer (some ⟨lb, 0, none⟩)), (11, .map (some g1)), (12, .map (some g2)), (14, .pointer (some ⟨mb, 0, none⟩)), (15, .pointer (some ⟨kb, 0, none⟩)), (16, .pointer (some ⟨wb, 0, none⟩)), (17, .int .i64 o.next), (50, .slice sA sn sc), (51, .int .i64 (sn : Nat)), (52, .int .i64 (k : Nat)), (91, .bool (m.good && (m.epoch == ep)))] → Mk W w' lb g1 g2 l A n cap os c told wholes ∧ Bx w' (Away lb g1 g2) mb kb wb cells m o oA on oc → Q .normal a' w') :
    (part [1, 1, 1, 1, 1, 0, 1, 0, 0, 1, 1, 0, 0, 1, 1, 1, 1, 1, 0, 0] (codeOf marksF)).wp Try.prog Q a w := by
  have hs := h.2.said
  have hm := h.2.mail
  obtain ⟨eA, en, ec, hA, hn', hc', oA', on', oc', pA, pn, pc, rfl, -⟩ := hs
  have c5 := hm.cell 5
  have c9 := hm.cell 9
  simp at c5 c9
  clear hm
  have HT := Lib.hid h
  have HQ := Lib.hid hQ
  clear h hQ
  obtain ⟨t, df⟩ := a
  obtain ⟨hd, hs, h0, h2, h9, h11, h12, h14, h15, h16, h17, h50, h51, h52, -⟩ := hfr
  simp only at hd hs h0 h2 h9 h11 h12 h14 h15 h16 h17 h50 h51 h52
  subst hd
  rw [eta169 t hs, h0, h2, h9, h11, h12, h14, h15, h16, h17, h50, h51, h52]
  clear hs h0 h2 h9 h11 h12 h14 h15 h16 h17 h50 h51 h52
  conv => arg 2; whnf
  cases hg : m.good with
  | true =>
    rw [hg] at c5
    have HG := Lib.hid hg
    clear hg
    go_wp2_with fail
    exact HQ.out _ _ ⟨rfl, rfl, rfl, rfl, rfl, rfl, rfl, rfl, rfl, rfl, rfl, rfl, rfl, rfl, by rw [HG.out]; rfl, trivial⟩ HT.out
  | false =>
    rw [hg] at c5
    have HG := Lib.hid hg
    clear hg
    go_wp2_with fail
    exact HQ.out _ _ ⟨rfl, rfl, rfl, rfl, rfl, rfl, rfl, rfl, rfl, rfl, rfl, rfl, rfl, rfl, by rw [HG.out]; rfl, trivial⟩ HT.out

set_option maxRecDepth 100000 in
set_option maxHeartbeats 4000000 in
theorem marks18 {W w : World} {lb g1 g2 mb kb wb : Nat} {l o : LaneC} {m : MailC} {cells : Array Value} {A : Option Addr} {n cap : Nat} {os : List OpC} {c : Nat} {told wholes : List (Int × Int)} {ep : Int} {sA : Option Addr} {sn sc k : Nat} {oA : Option Addr} {on oc : Nat} (Q : Exit → Act → World → Prop) (a : Act) (hfr : Fr 169 a [(0, .int .i64 ep), (2, .slice A n cap), (9, .pointer (some ⟨lb, 0, none⟩)), (11, .map (some g1)), (12, .map (some g2)), (14, .pointer (some ⟨mb, 0, none⟩)), (15, .pointer (some ⟨kb, 0, none⟩)), (16, .pointer (some ⟨wb, 0, none⟩)), (17, .int .i64 o.next), (50, .slice sA sn sc), (51, .int .i64 (sn : Nat)), (52, .int .i64 (k : Nat))]) (h : Mk W w lb g1 g2 l A n cap os c told wholes ∧ Bx w (Away lb g1 g2) mb kb wb cells m o oA on oc) (hok : m.Ok) (hsm : m.ops.length ≤ 4294967296) (hn : n ≤ 4294967296) (hos : ∀ c ∈ os, c.Ok)
    (hQ : ∀ a' w', Fr 169 a' [(0, .int .i64 ep), (2, .slice A n cap), (9, .pointer (some ⟨lb, 0, none⟩)), (11, .map (some g1)), (12, .map (some g2)), (14, .pointer (some ⟨mb, 0, none⟩)), (15, .pointer (some ⟨kb, 0, none⟩)), (16, .pointer (some ⟨wb, 0, none⟩)), (17, .int .i64 o.next), (50, .slice sA sn sc), (51, .int .i64 (sn : Nat)), (52, .int .i64 (k : Nat))] → Mk W w' lb g1 g2 (takeS l m os) A n cap os c told wholes ∧ Bx w' (Away lb g1 g2) mb kb wb cells m o oA on oc → Q .normal a' w') :
    (part [1, 1, 1, 1, 1, 0, 1, 0, 0, 1, 1, 0, 0, 1, 1, 1, 1, 0] (codeOf marksF)).wp Try.prog Q a w := by
  have HOK := Lib.hid hok
  have HSM := Lib.hid hsm
  have HN := Lib.hid hn
  have HOS := Lib.hid hos
  have hsd := h.2.said
  obtain ⟨eA, en, ec, hA, hn', hc', oA', on', oc', pA, pn, pc, ecells, -⟩ := hsd
  have hs17 : cells.size = 17 := by rw [ecells]; rfl
  have HS17 := Lib.hid hs17
  clear hok hsm hn hos ecells hs17
  have HT := Lib.hid h
  have HQ := Lib.hid hQ
  clear h hQ
  obtain ⟨t, df⟩ := a
  obtain ⟨hd, hs, h0, h2, h9, h11, h12, h14, h15, h16, h17, h50, h51, h52, -⟩ := hfr
  simp only at hd hs h0 h2 h9 h11 h12 h14 h15 h16 h17 h50 h51 h52
  subst hd
  rw [eta169 t hs, h0, h2, h9, h11, h12, h14, h15, h16, h17, h50, h51, h52]
  clear hs h0 h2 h9 h11 h12 h14 h15 h16 h17 h50 h51 h52
  conv => arg 2; whnf
  go_wp2_with (refine wpList_load_mid rfl 30 (.tmp 14) rfl mb 0 rfl _ _ HT.out.2.mail.range Try.underlying30 rfl (by rw [Array.length_toList, HS17.out]; exact Try.sizeMail) ?_)
  refine (own15_any _ m _ HT.out.2.said HOK.out HSM.out).mono ?_
  rintro e w1 ⟨cells1, rfl, hm1, hb1⟩
  have HM1 := Lib.hid hm1
  have HT1 := Lib.hid (And.intro (HT.out.1.below hb1) (HT.out.2.below hb1))
  have HZ1 := Lib.hid hb1.size
  clear hb1 hm1
  go_wp2_with fail
  refine (ownOps_any A n cap os w1 HT1.out.1.ops HN.out HOS.out).mono ?_
  rintro e w2 ⟨A2, cap2, rfl, ho2, hb2⟩
  have HO2 := Lib.hid ho2
  have HT2 := Lib.hid (And.intro (HT1.out.1.below hb2) (HT1.out.2.below hb2))
  have HM2 := Lib.hid (HM1.out.below hb2)
  have HZ2 := Lib.hid hb2.size
  clear hb2 ho2
  go_wp2_with fail
  refine (takeL_any (S := Away lb g1 g2) lb l cells1 m os w2 (fun h => h.1 rfl) (fun b hb => HT2.out.1.away hb) HT2.out.1.lane (HM2.out.mono fun b _ h => HT.out.1.away (show w.heap.size ≤ b from h)) HOK.out (HO2.out.mono fun b _ h => HT1.out.1.away (show w1.heap.size ≤ b from h)) HN.out).mono ?_
  rintro e w3 ⟨rfl, hl3, ht3⟩
  have HT3 := Lib.hid (And.intro (HT2.out.1.turned ht3 hl3) (HT2.out.2.kept (ht3.kept fun h => h.1 rfl)))
  clear hl3 ht3
  go_wp2_with fail
  exact HQ.out _ _ ⟨rfl, rfl, rfl, rfl, rfl, rfl, rfl, rfl, rfl, rfl, rfl, rfl, rfl, rfl, trivial⟩ HT3.out
end Go.Proofs.Ytaipgdhdfpemcaa

namespace Go.Proofs.Ytaipgdhdfpemcaa
open Go.RowKit

/-- a mail's box -/
def Bx0 (w : World) (S : Nat → Prop) (mb : Nat) (cells : Array Value) (m : MailC) : Prop := Blk w mb 30 cells ∧ MailIs w S cells m ∧ S mb
theorem Bx0.below {w w' : World} {S : Nat → Prop} {mb : Nat} {cells : Array Value} {m : MailC} (h : Bx0 w S mb cells m) (hb : Below w.heap.size w w') : Bx0 w' S mb cells m := ⟨h.1.below hb h.1.lt, h.2.1.below hb, h.2.2⟩
/-- a return that is wanted -/
@[reducible] noncomputable def marksQ (W : World) : Exit → Act → World → Prop := bodyPost Try.prog marksF fun e w' => e = .returned (.bool true) ∧ Below W.heap.size W w'

set_option maxRecDepth 100000 in
set_option maxHeartbeats 4000000 in
theorem marks12 {W w : World} {lb g1 g2 mb kb wb : Nat} {l : LaneC} {m : MailC} {cells : Array Value} {A : Option Addr} {n cap : Nat} {os : List OpC} {c : Nat} {told wholes : List (Int × Int)} {ep : Int} {sA : Option Addr} {sn sc k : Nat} {oA : Option Addr} {on oc : Nat} (Q : Exit → Act → World → Prop) (a : Act) (hfr : Fr 169 a [(0, .int .i64 ep), (2, .slice A n cap), (9, .pointer (some ⟨lb, 0, none⟩)), (11, .map (some g1)), (12, .map (some g2)), (14, .pointer (some ⟨mb, 0, none⟩)), (15, .pointer (some ⟨kb, 0, none⟩)), (16, .pointer (some ⟨wb, 0, none⟩)), (17, .int .i64 l.next), (50, .slice sA sn sc), (51, .int .i64 (sn : Nat)), (52, .int .i64 (k : Nat))]) (h : Mk W w lb g1 g2 l A n cap os c told wholes ∧ Bx w (Away lb g1 g2) mb kb wb cells m l oA on oc) (hz : l.holes.length * 8 ≤ 140737488351232) (hle : ∀ z ∈ l.holes, z ≤ l.wN)
    (hQ : ∀ a' w', Fr 169 a' [(0, .int .i64 ep), (2, .slice A n cap), (9, .pointer (some ⟨lb, 0, none⟩)), (11, .map (some g1)), (12, .map (some g2)), (14, .pointer (some ⟨mb, 0, none⟩)), (15, .pointer (some ⟨kb, 0, none⟩)), (16, .pointer (some ⟨wb, 0, none⟩)), (17, .int .i64 l.next), (50, .slice sA sn sc), (51, .int .i64 (sn : Nat)), (52, .int .i64 (k : Nat))] → Mk W w' lb g1 g2 l A n cap os c told wholes ∧ Bx w' (Away lb g1 g2) mb kb wb cells m l oA on oc → Q .normal a' w') :
    (part [1, 1, 1, 1, 1, 0, 1, 0, 0, 1, 1, 0, 0, 1, 1, 1, 0] (codeOf marksF)).wp Try.prog Q a w := by
  have HT := Lib.hid h
  have HQ := Lib.hid hQ
  have HZ := Lib.hid hz
  have HLE := Lib.hid hle
  clear h hQ hz hle
  obtain ⟨t, df⟩ := a
  obtain ⟨hd, hs, h0, h2, h9, h11, h12, h14, h15, h16, h17, h50, h51, h52, -⟩ := hfr
  simp only at hd hs h0 h2 h9 h11 h12 h14 h15 h16 h17 h50 h51 h52
  subst hd
  rw [eta169 t hs, h0, h2, h9, h11, h12, h14, h15, h16, h17, h50, h51, h52]
  clear hs h0 h2 h9 h11 h12 h14 h15 h16 h17 h50 h51 h52
  conv => arg 2; whnf
  go_wp2_with fail
  refine (wholeL_any lb l w HT.out.1.lane HZ.out).mono ?_
  rintro e w1 ⟨A', hn, c', rfl, hi, hb⟩
  have HT1 := Lib.hid (And.intro (HT.out.1.below hb) (HT.out.2.below hb))
  have hlen := hi.len
  have hrd := hi.1.reads
  have HI := Lib.hid hrd
  have HLN := Lib.hid hlen
  have hbnd : hn ≤ 140737488351232 := by have := HZ.out; omega
  have hwc := HT1.out.2.whole.cell 0
  simp at hwc
  have qf : ∀ w, (Instr.field 32 (.agg #[.int .i64 l.wN, .int .i64 l.wE, .slice A' hn c']) 1).run Try.prog w = .ok (.slice A' hn c') w := fun w => by kernel_rfl
  clear hb hi hlen hrd
  go_wp2_with fail
  go_loopw [68] (fun i wr => ∃ k : Nat, k ≤ hn ∧ i = .int .i64 k ∧ wr = w1) (fun i _ => hn - (intOf i).toNat)
  case atStart => exact ⟨0, by omega, rfl, rfl⟩
  case round =>
    obtain ⟨j, hj, rfl, rfl⟩ := hrel
    rcases Nat.lt_or_ge j hn with hj1 | hj1
    · obtain ⟨ad, rfl, hcell⟩ := int_at HI.out hj1
      have hzl : l.holes.getD j 0 ≤ l.wN := by
        have hjl : j < l.holes.length := by have := HLN.out; omega
        rw [List.getD_eq_getElem?_getD, List.getElem?_eq_getElem hjl]
        exact HLE.out _ (List.getElem_mem _)
      have hgt : decide (l.wN < l.holes.getD j 0) = false := decide_eq_false (by omega)
      obtain ⟨z, hz⟩ : ∃ z, z = l.holes.getD j 0 := ⟨_, rfl⟩
      rw [← hz] at hcell hgt
      clear hz hzl
      go_wp2_with fail
      go_roundw
      case rel => exact ⟨j + 1, by omega, by go_num, trivial⟩
      case measure => simp [intOf]; omega
    · obtain rfl : hn = j := by omega
      go_wp2_with fail
      exact HQ.out _ _ ⟨rfl, rfl, rfl, rfl, rfl, rfl, rfl, rfl, rfl, rfl, rfl, rfl, rfl, rfl, trivial⟩ HT1.out

set_option maxRecDepth 100000 in
set_option maxHeartbeats 4000000 in
theorem marks11 {W w : World} {lb g1 g2 mb : Nat} {l : LaneC} {m : MailC} {cells : Array Value} {A : Option Addr} {n cap : Nat} {os : List OpC} {c : Nat} {told wholes : List (Int × Int)} {ep : Int} {sA : Option Addr} {sn sc k : Nat} (Q : Exit → Act → World → Prop) (a : Act) (hfr : Fr 169 a [(0, .int .i64 ep), (2, .slice A n cap), (9, .pointer (some ⟨lb, 0, none⟩)), (11, .map (some g1)), (12, .map (some g2)), (14, .pointer (some ⟨mb, 0, none⟩)), (50, .slice sA sn sc), (51, .int .i64 (sn : Nat)), (52, .int .i64 (k : Nat))]) (h : Mk W w lb g1 g2 l A n cap os c told wholes ∧ Bx0 w (Away lb g1 g2) mb cells m) (hz : l.holes.length * 8 ≤ 140737488351232)
    (hQ : ∀ a' w' kb wb oA on oc, Fr 169 a' [(0, .int .i64 ep), (2, .slice A n cap), (9, .pointer (some ⟨lb, 0, none⟩)), (11, .map (some g1)), (12, .map (some g2)), (14, .pointer (some ⟨mb, 0, none⟩)), (15, .pointer (some ⟨kb, 0, none⟩)), (16, .pointer (some ⟨wb, 0, none⟩)), (17, .int .i64 l.next), (50, .slice sA sn sc), (51, .int .i64 (sn : Nat)), (52, .int .i64 (k : Nat))] → Mk W w' lb g1 g2 l A n cap os c told wholes ∧ Bx w' (Away lb g1 g2) mb kb wb cells m l oA on oc → Q .normal a' w') :
    (part [1, 1, 1, 1, 1, 0, 1, 0, 0, 1, 1, 0, 0, 1, 1, 0] (codeOf marksF)).wp Try.prog Q a w := by
  have HT := Lib.hid h
  have HQ := Lib.hid hQ
  have HZ := Lib.hid hz
  clear h hQ hz
  obtain ⟨t, df⟩ := a
  obtain ⟨hd, hs, h0, h2, h9, h11, h12, h14, h50, h51, h52, -⟩ := hfr
  simp only at hd hs h0 h2 h9 h11 h12 h14 h50 h51 h52
  subst hd
  rw [eta169 t hs, h0, h2, h9, h11, h12, h14, h50, h51, h52]
  clear hs h0 h2 h9 h11 h12 h14 h50 h51 h52
  conv => arg 2; whnf
  go_wp2_with fail
  refine (markL_any lb l w HT.out.1.lane).mono ?_
  rintro e w1 ⟨rfl, hb1⟩
  have HT1 := Lib.hid (And.intro (HT.out.1.below hb1) (HT.out.2.below hb1))
  have S1 := Lib.hid hb1.size
  clear hb1
  go_wp2_with fail
  refine (wholeL_any lb l w1 HT1.out.1.lane HZ.out).mono ?_
  rintro e w2 ⟨oA, on, oc, rfl, hi, hb2⟩
  have HT2 := Lib.hid (And.intro (HT1.out.1.below hb2) (HT1.out.2.below hb2))
  have S2 := Lib.hid hb2.size
  have HI := Lib.hid hi
  clear hb2 hi
  go_wp2_with fail
  refine (nextL_any lb l w2 HT2.out.1.lane).mono ?_
  rintro e w3 ⟨rfl, rfl⟩
  go_wp2_with fail
  have hb : Below w3.heap.size w3 ((w3.alloc (.cells #[.int .i64 l.mN, .int .i64 l.mE] 26)).alloc (.cells #[.int .i64 l.wN, .int .i64 l.wE, .slice oA on oc] 32)) := ((Below.refl _ _).alloc (Nat.le_refl _) _).alloc (by simp) _
  have hk : Blk ((w3.alloc (.cells #[.int .i64 l.mN, .int .i64 l.mE] 26)).alloc (.cells #[.int .i64 l.wN, .int .i64 l.wE, .slice oA on oc] 32)) w3.heap.size 26 #[.int .i64 l.mN, .int .i64 l.mE] := (Blk.new w3 _ _).alloc _
  have hw : Blk ((w3.alloc (.cells #[.int .i64 l.mN, .int .i64 l.mE] 26)).alloc (.cells #[.int .i64 l.wN, .int .i64 l.wE, .slice oA on oc] 32)) (w3.heap.size + 1) 32 #[.int .i64 l.wN, .int .i64 l.wE, .slice oA on oc] := by
    have := Blk.new (w3.alloc (.cells #[.int .i64 l.mN, .int .i64 l.mE] 26)) 32 #[.int .i64 l.wN, .int .i64 l.wE, .slice oA on oc]
    simpa using this
  have hm := HT2.out.2.below hb
  have s1 := S1.out
  have s2 := S2.out
  refine HQ.out _ _ w3.heap.size (w3.heap.size + 1) oA on oc ⟨rfl, rfl, rfl, rfl, rfl, rfl, rfl, rfl, rfl, rfl, rfl, rfl, rfl, rfl, trivial⟩ ⟨HT2.out.1.below hb, ⟨hm.1, hm.2.1, hm.2.2, hk, HT2.out.1.away (Nat.le_refl _), hw, ?_, HT2.out.1.away (by omega)⟩⟩
  exact (HI.out.mono fun b _ h => HT1.out.1.away (show w1.heap.size ≤ b from h)).below hb

set_option maxRecDepth 100000 in
set_option maxHeartbeats 4000000 in
theorem marks9 {W w : World} {lb g1 g2 mb : Nat} {l : LaneC} {m : MailC} {cells : Array Value} {A : Option Addr} {n cap : Nat} {os : List OpC} {c : Nat} {told wholes : List (Int × Int)} {ep : Int} {sA : Option Addr} {sn sc k : Nat} (Q : Exit → Act → World → Prop) (a : Act) (hfr : Fr 169 a [(0, .int .i64 ep), (2, .slice A n cap), (9, .pointer (some ⟨lb, 0, none⟩)), (11, .map (some g1)), (12, .map (some g2)), (14, .pointer (some ⟨mb, 0, none⟩)), (50, .slice sA sn sc), (51, .int .i64 (sn : Nat)), (52, .int .i64 (k : Nat))]) (h : Mk W w lb g1 g2 l A n cap os c told wholes ∧ Bx0 w (Away lb g1 g2) mb cells m) (hok : m.Ok)
    (hret : ∀ a' w', marksQ W .ret a' w' → Q .ret a' w')
    (hQ : m.heavy = false → ∀ a' w', Fr 169 a' [(0, .int .i64 ep), (2, .slice A n cap), (9, .pointer (some ⟨lb, 0, none⟩)), (11, .map (some g1)), (12, .map (some g2)), (14, .pointer (some ⟨mb, 0, none⟩)), (50, .slice sA sn sc), (51, .int .i64 (sn : Nat)), (52, .int .i64 (k : Nat))] → Mk W w' lb g1 g2 l A n cap os c told wholes ∧ Bx0 w' (Away lb g1 g2) mb cells m → Q .normal a' w') :
    (part [1, 1, 1, 1, 1, 0, 1, 0, 0, 1, 1, 0, 0, 1, 0] (codeOf marksF)).wp Try.prog Q a w := by
  have HT := Lib.hid h
  have HQ := Lib.hid hQ
  have HR := Lib.hid hret
  have HOK := Lib.hid hok
  have hsd := h.2.2.1
  obtain ⟨eA, en, ec, hA, hn', hc', oA', on', oc', pA, pn, pc, ecells, -⟩ := hsd
  have hs17 : cells.size = 17 := by rw [ecells]; rfl
  have HS17 := Lib.hid hs17
  clear h hQ hok hret ecells hs17
  obtain ⟨t, df⟩ := a
  obtain ⟨hd, hs, h0, h2, h9, h11, h12, h14, h50, h51, h52, -⟩ := hfr
  simp only at hd hs h0 h2 h9 h11 h12 h14 h50 h51 h52
  subst hd
  rw [eta169 t hs, h0, h2, h9, h11, h12, h14, h50, h51, h52]
  clear hs h0 h2 h9 h11 h12 h14 h50 h51 h52
  conv => arg 2; whnf
  go_wp2_with (refine wpList_load_mid rfl 30 (.tmp 14) rfl mb 0 rfl _ _ HT.out.2.1.range Try.underlying30 rfl (by rw [Array.length_toList, HS17.out]; exact Try.sizeMail) ?_)
  refine (heavy_any _ m _ HT.out.2.2.1 HOK.out).mono ?_
  rintro e w1 ⟨rfl, hb1⟩
  have HT1 := Lib.hid (And.intro (HT.out.1.below hb1) (HT.out.2.below hb1))
  clear hb1
  cases hv : m.heavy with
  | true =>
    go_wp2_with fail
    refine HR.out _ _ (bodyPost_ret (results_tmp rfl _ _ _) rfl ?_)
    exact ⟨rfl, HT1.out.1.low⟩
  | false =>
    have HV := Lib.hid hv
    go_wp2_with fail
    exact HQ.out HV.out _ _ ⟨rfl, rfl, rfl, rfl, rfl, rfl, rfl, rfl, rfl, rfl, rfl, trivial⟩ HT1.out

set_option maxRecDepth 100000 in
set_option maxHeartbeats 4000000 in
theorem marks8 {W w : World} {lb g1 g2 : Nat} {l : LaneC} {A : Option Addr} {n cap : Nat} {os : List OpC} {c : Nat} {told wholes : List (Int × Int)} {ep : Int} {sA : Option Addr} {sn sc k : Nat} (xs : List MsgX) (Q : Exit → Act → World → Prop) (a : Act) (hfr : Fr 169 a [(0, .int .i64 ep), (2, .slice A n cap), (9, .pointer (some ⟨lb, 0, none⟩)), (11, .map (some g1)), (12, .map (some g2)), (50, .slice sA sn sc), (51, .int .i64 (sn : Nat)), (52, .int .i64 (k : Nat))]) (h : Mk W w lb g1 g2 l A n cap os c told wholes) (hm : MsgsIs w (Away lb g1 g2) sA sn xs) (hk : k < sn)
    (hQ : ∀ a' w' mb x, Fr 169 a' [(0, .int .i64 ep), (2, .slice A n cap), (9, .pointer (some ⟨lb, 0, none⟩)), (11, .map (some g1)), (12, .map (some g2)), (14, .pointer (some ⟨mb, 0, none⟩)), (50, .slice sA sn sc), (51, .int .i64 (sn : Nat)), (52, .int .i64 (k : Nat))] → Mk W w' lb g1 g2 l A n cap os c told wholes ∧ Bx0 w' (Away lb g1 g2) mb x.cells.toArray x.m → x.m.Ok → xs[k]? = some x → Q .normal a' w') :
    (part [1, 1, 1, 1, 1, 0, 1, 0, 0, 1, 1, 0, 0, 0] (codeOf marksF)).wp Try.prog Q a w := by
  have HT := Lib.hid h
  have HQ := Lib.hid hQ
  obtain ⟨ad, x, rfl, hx, hcell, h17, hmi, hok⟩ := hm.at_ hk
  have HX := Lib.hid hx
  have HC := Lib.hid hcell
  have H17 := Lib.hid h17
  have HMI := Lib.hid hmi
  have HOK := Lib.hid hok
  obtain ⟨eA, en, ec, hA, hn', hc', oA', on', oc', pA, pn, pc, ecells, -⟩ := hmi
  have h1 : x.cells.toArray.all (·.oneCell') = true := by rw [ecells]; exact mailC_one
  have H1 := Lib.hid h1
  have hlt : (k : Int) < (sn : Int) := by omega
  have hb0 : Below w.heap.size w ((w.alloc (.cells noMailC 30)).setCells w.heap.size 0 x.cells) := below_setCells (Nat.le_refl _) ((Below.refl _ _).alloc (Nat.le_refl _) _) _ _
  have hbk : Blk ((w.alloc (.cells noMailC 30)).setCells w.heap.size 0 x.cells) w.heap.size 30 x.cells.toArray := (Blk.new w 30 noMailC).setCells_ x.cells (by rw [h17]; rfl)
  have HB := Lib.hid hb0
  have HK := Lib.hid hbk
  clear h hQ hm hx hcell h17 hok ecells h1 hb0 hbk
  obtain ⟨t, df⟩ := a
  obtain ⟨hd, hs, h0, h2, h9, h11, h12, h50, h51, h52, -⟩ := hfr
  simp only at hd hs h0 h2 h9 h11 h12 h50 h51 h52
  subst hd
  rw [eta169 t hs, h0, h2, h9, h11, h12, h50, h51, h52]
  clear hs h0 h2 h9 h11 h12 h50 h51 h52
  conv => arg 2; whnf
  go_wp2_with (first | refine wpList_load_any rfl 30 (.tmp 54) rfl (ad.add (k * 17)) rfl x.cells _ HC.out Try.underlying30 rfl (by rw [H17.out]; exact Try.sizeMail) ?_ | refine wpList_store_mid rfl 30 (.tmp 14) (.tmp 55) rfl w.heap.size 0 x.cells.toArray rfl rfl ((Blk.new w 30 noMailC).there_ 0 _ (by show 0 + x.cells.toArray.size ≤ 17; rw [List.size_toArray, H17.out]; exact Nat.le_refl _)) (by rw [List.size_toArray, H17.out]; exact Try.sizeMail) H1.out ?_)
  exact HQ.out _ _ w.heap.size x ⟨rfl, rfl, rfl, rfl, rfl, rfl, rfl, rfl, rfl, rfl, rfl, trivial⟩ ⟨HT.out.below HB.out, HK.out, HMI.out.below HB.out, HT.out.away (Nat.le_refl _)⟩ HOK.out HX.out
end Go.Proofs.Ytaipgdhdfpemcaa

namespace Go.Proofs.Ytaipgdhdfpemcaa
open Go.RowKit


set_option maxRecDepth 100000 in
set_option maxHeartbeats 4000000 in
theorem marks_round {W w : World} {lb g1 g2 : Nat} {l : LaneC} {A : Option Addr} {n cap : Nat} {os : List OpC} {c : Nat} {told wholes : List (Int × Int)} {ep : Int} {sA : Option Addr} {sn sc k : Nat} (xs : List MsgX) (Q : Exit → Act → World → Prop) (a : Act) (hfr : Fr 169 a [(0, .int .i64 ep), (2, .slice A n cap), (9, .pointer (some ⟨lb, 0, none⟩)), (11, .map (some g1)), (12, .map (some g2)), (50, .slice sA sn sc), (51, .int .i64 (sn : Nat)), (52, .int .i64 (k : Nat))]) (h : Mk W w lb g1 g2 l A n cap os c told wholes) (hinv : LInv ep os l told wholes) (hm : MsgsIs w (Away lb g1 g2) sA sn xs) (hk : k < sn) (hn : n ≤ 4294967296) (hos : ∀ c ∈ os, c.Ok) (hc : c + 1 < maxLen)
    (hret : ∀ a' w', marksQ W .ret a' w' → Q .ret a' w')
    (hQ : ∀ a' w' l' told' wholes', Fr 169 a' [(0, .int .i64 ep), (2, .slice A n cap), (9, .pointer (some ⟨lb, 0, none⟩)), (11, .map (some g1)), (12, .map (some g2)), (50, .slice sA sn sc), (51, .int .i64 (sn : Nat)), (52, .int .i64 (k : Nat))] → Mk W w' lb g1 g2 l' A n cap os (c + 1) told' wholes' → LInv ep os l' told' wholes' → Q .normal a' w') :
    (part [1, 1, 1, 1, 1, 0, 1, 0, 0, 1, 1, 0, 0] (codeOf marksF)).wp Try.prog Q a w := by
  have hol := h.ops.len
  have hz := hinv.ok.holes
  refine wp_two (x := part [1, 1, 1, 1, 1, 0, 1, 0, 0, 1, 1, 0, 0, 0] (codeOf marksF)) (y := part [1, 1, 1, 1, 1, 0, 1, 0, 0, 1, 1, 0, 0, 1] (codeOf marksF)) (by kernel_rfl) ?_
  refine marks8 xs _ a hfr h hm hk fun a1 w1 mb x hf1 h1 hxok hxk => ?_
  show (part [1, 1, 1, 1, 1, 0, 1, 0, 0, 1, 1, 0, 0, 1] (codeOf marksF)).wp Try.prog (Q) a1 w1
  refine wp_two (x := part [1, 1, 1, 1, 1, 0, 1, 0, 0, 1, 1, 0, 0, 1, 0] (codeOf marksF)) (y := part [1, 1, 1, 1, 1, 0, 1, 0, 0, 1, 1, 0, 0, 1, 1] (codeOf marksF)) (by kernel_rfl) ?_
  refine marks9 _ a1 hf1 h1 hxok (fun a' w' hq => hret a' w' hq) fun hv a2 w2 hf2 h2 => ?_
  have hsm : x.m.ops.length ≤ 4294967296 := by
    unfold MailC.heavy at hv
    simp only [Bool.or_eq_false_iff, decide_eq_false_iff_not] at hv
    omega
  show (part [1, 1, 1, 1, 1, 0, 1, 0, 0, 1, 1, 0, 0, 1, 1] (codeOf marksF)).wp Try.prog (Q) a2 w2
  refine wp_two (x := part [1, 1, 1, 1, 1, 0, 1, 0, 0, 1, 1, 0, 0, 1, 1, 0] (codeOf marksF)) (y := part [1, 1, 1, 1, 1, 0, 1, 0, 0, 1, 1, 0, 0, 1, 1, 1] (codeOf marksF)) (by kernel_rfl) ?_
  refine marks11 _ a2 hf2 h2 hz fun a3 w3 kb wb oA on oc hf3 h3 => ?_
  show (part [1, 1, 1, 1, 1, 0, 1, 0, 0, 1, 1, 0, 0, 1, 1, 1] (codeOf marksF)).wp Try.prog (Q) a3 w3
  refine wp_two (x := part [1, 1, 1, 1, 1, 0, 1, 0, 0, 1, 1, 0, 0, 1, 1, 1, 0] (codeOf marksF)) (y := part [1, 1, 1, 1, 1, 0, 1, 0, 0, 1, 1, 0, 0, 1, 1, 1, 1] (codeOf marksF)) (by kernel_rfl) ?_
  refine marks12 _ a3 hf3 h3 hz hinv.hol fun a4 w4 hf4 h4 => ?_
  show (part [1, 1, 1, 1, 1, 0, 1, 0, 0, 1, 1, 0, 0, 1, 1, 1, 1] (codeOf marksF)).wp Try.prog (Q) a4 w4
  refine wp_two (x := part [1, 1, 1, 1, 1, 0, 1, 0, 0, 1, 1, 0, 0, 1, 1, 1, 1, 0] (codeOf marksF)) (y := part [1, 1, 1, 1, 1, 0, 1, 0, 0, 1, 1, 0, 0, 1, 1, 1, 1, 1] (codeOf marksF)) (by kernel_rfl) ?_
  refine marks18 _ a4 hf4 h4 hxok hsm hn hos fun a5 w5 hf5 h5 => ?_
  obtain ⟨i1, i2, i3, i4⟩ := take_inv (m := x.m) hinv hxok (by omega)
  show (part [1, 1, 1, 1, 1, 0, 1, 0, 0, 1, 1, 0, 0, 1, 1, 1, 1, 1] (codeOf marksF)).wp Try.prog (Q) a5 w5
  refine wp_two (x := part [1, 1, 1, 1, 1, 0, 1, 0, 0, 1, 1, 0, 0, 1, 1, 1, 1, 1, 0] (codeOf marksF)) (y := part [1, 1, 1, 1, 1, 0, 1, 0, 0, 1, 1, 0, 0, 1, 1, 1, 1, 1, 1] (codeOf marksF)) (by kernel_rfl) ?_
  refine wp_two (x := part [1, 1, 1, 1, 1, 0, 1, 0, 0, 1, 1, 0, 0, 1, 1, 1, 1, 1, 0, 0] (codeOf marksF)) (y := part [1, 1, 1, 1, 1, 0, 1, 0, 0, 1, 1, 0, 0, 1, 1, 1, 1, 1, 0, 1] (codeOf marksF)) (by kernel_rfl) ?_
  refine marks19 _ a5 hf5 h5 fun a6 w6 hf6 h6 => ?_
  have hF6 : Fr 169 a6 [(0, .int .i64 ep), (2, .slice A n cap), (9, .pointer (some ⟨lb, 0, none⟩)), (11, .map (some g1)), (12, .map (some g2)), (14, .pointer (some ⟨mb, 0, none⟩)), (15, .pointer (some ⟨kb, 0, none⟩)), (16, .pointer (some ⟨wb, 0, none⟩)), (17, .int .i64 l.next), (50, .slice sA sn sc), (51, .int .i64 (sn : Nat)), (52, .int .i64 (k : Nat))] := ⟨hf6.1, hf6.2.1, hf6.2.2.1, hf6.2.2.2.1, hf6.2.2.2.2.1, hf6.2.2.2.2.2.1, hf6.2.2.2.2.2.2.1, hf6.2.2.2.2.2.2.2.1, hf6.2.2.2.2.2.2.2.2.1, hf6.2.2.2.2.2.2.2.2.2.1, hf6.2.2.2.2.2.2.2.2.2.2.1, hf6.2.2.2.2.2.2.2.2.2.2.2.1, hf6.2.2.2.2.2.2.2.2.2.2.2.2.1, hf6.2.2.2.2.2.2.2.2.2.2.2.2.2.1, trivial⟩
  -- behind the sets: the tests
  have rest : ∀ (a : Act) (w : World), Fr 169 a [(0, .int .i64 ep), (2, .slice A n cap), (9, .pointer (some ⟨lb, 0, none⟩)), (11, .map (some g1)), (12, .map (some g2)), (14, .pointer (some ⟨mb, 0, none⟩)), (15, .pointer (some ⟨kb, 0, none⟩)), (16, .pointer (some ⟨wb, 0, none⟩)), (17, .int .i64 l.next), (50, .slice sA sn sc), (51, .int .i64 (sn : Nat)), (52, .int .i64 (k : Nat))] → Mk W w lb g1 g2 (takeS l x.m os) A n cap os (c + 1) (told' ep x.m told) (wholes' ep x.m wholes) ∧ Bx w (Away lb g1 g2) mb kb wb x.cells.toArray x.m l oA on oc → (part [1, 1, 1, 1, 1, 0, 1, 0, 0, 1, 1, 0, 0, 1, 1, 1, 1, 1, 1] (codeOf marksF)).wp Try.prog Q a w := by
    intro a w hf hh
    refine wp_two (x := part [1, 1, 1, 1, 1, 0, 1, 0, 0, 1, 1, 0, 0, 1, 1, 1, 1, 1, 1, 0] (codeOf marksF)) (y := part [1, 1, 1, 1, 1, 0, 1, 0, 0, 1, 1, 0, 0, 1, 1, 1, 1, 1, 1, 1] (codeOf marksF)) (by kernel_rfl) ?_
    refine wp_two (x := part [1, 1, 1, 1, 1, 0, 1, 0, 0, 1, 1, 0, 0, 1, 1, 1, 1, 1, 1, 0, 0] (codeOf marksF)) (y := part [1, 1, 1, 1, 1, 0, 1, 0, 0, 1, 1, 0, 0, 1, 1, 1, 1, 1, 1, 0, 1] (codeOf marksF)) (by kernel_rfl) ?_
    refine marks21 _ a hf hh i1.ok.holes i2 i3 i1.mt i1.wt (by have := i1.mle; omega) i1.mnx fun a7 w7 hf7 h7 => ?_
    show (part [1, 1, 1, 1, 1, 0, 1, 0, 0, 1, 1, 0, 0, 1, 1, 1, 1, 1, 1, 0, 1] (codeOf marksF)).wp Try.prog (Exit.then ((part [1, 1, 1, 1, 1, 0, 1, 0, 0, 1, 1, 0, 0, 1, 1, 1, 1, 1, 1, 1] (codeOf marksF)).wp Try.prog Q) Q) a7 w7
    refine wp_if (x := part [1, 1, 1, 1, 1, 0, 1, 0, 0, 1, 1, 0, 0, 1, 1, 1, 1, 1, 1, 0, 1, 0] (codeOf marksF)) (y := part [1, 1, 1, 1, 1, 0, 1, 0, 0, 1, 1, 0, 0, 1, 1, 1, 1, 1, 1, 0, 1, 1] (codeOf marksF)) (o := .tmp 144) (by kernel_rfl) (eval_at hf7.2.2.2.2.2.2.2.2.2.2.2.2.2.2.1 rfl) (fun ht => by cases ht) fun _ => ?_
    refine wp_nop (by kernel_rfl) ?_
    have hF7 : Fr 169 a7 [(0, .int .i64 ep), (2, .slice A n cap), (9, .pointer (some ⟨lb, 0, none⟩)), (11, .map (some g1)), (12, .map (some g2)), (14, .pointer (some ⟨mb, 0, none⟩)), (15, .pointer (some ⟨kb, 0, none⟩)), (16, .pointer (some ⟨wb, 0, none⟩)), (17, .int .i64 l.next), (50, .slice sA sn sc), (51, .int .i64 (sn : Nat)), (52, .int .i64 (k : Nat))] := ⟨hf7.1, hf7.2.1, hf7.2.2.1, hf7.2.2.2.1, hf7.2.2.2.2.1, hf7.2.2.2.2.2.1, hf7.2.2.2.2.2.2.1, hf7.2.2.2.2.2.2.2.1, hf7.2.2.2.2.2.2.2.2.1, hf7.2.2.2.2.2.2.2.2.2.1, hf7.2.2.2.2.2.2.2.2.2.2.1, hf7.2.2.2.2.2.2.2.2.2.2.2.1, hf7.2.2.2.2.2.2.2.2.2.2.2.2.1, hf7.2.2.2.2.2.2.2.2.2.2.2.2.2.1, trivial⟩
    show (part [1, 1, 1, 1, 1, 0, 1, 0, 0, 1, 1, 0, 0, 1, 1, 1, 1, 1, 1, 1] (codeOf marksF)).wp Try.prog (Q) a7 w7
    refine wp_two (x := part [1, 1, 1, 1, 1, 0, 1, 0, 0, 1, 1, 0, 0, 1, 1, 1, 1, 1, 1, 1, 0] (codeOf marksF)) (y := part [1, 1, 1, 1, 1, 0, 1, 0, 0, 1, 1, 0, 0, 1, 1, 1, 1, 1, 1, 1, 1] (codeOf marksF)) (by kernel_rfl) ?_
    refine marks23 _ a7 hF7 h7 i1.ok.holes i4 fun a8 w8 hf8 h8 => ?_
    show (part [1, 1, 1, 1, 1, 0, 1, 0, 0, 1, 1, 0, 0, 1, 1, 1, 1, 1, 1, 1, 1] (codeOf marksF)).wp Try.prog (Q) a8 w8
    refine wp_if (x := part [1, 1, 1, 1, 1, 0, 1, 0, 0, 1, 1, 0, 0, 1, 1, 1, 1, 1, 1, 1, 1, 0] (codeOf marksF)) (y := part [1, 1, 1, 1, 1, 0, 1, 0, 0, 1, 1, 0, 0, 1, 1, 1, 1, 1, 1, 1, 1, 1] (codeOf marksF)) (o := .tmp 167) (by kernel_rfl) (eval_at hf8.2.2.2.2.2.2.2.2.2.2.2.2.2.2.1 rfl) (fun ht => by cases ht) fun _ => ?_
    refine wp_nop (by kernel_rfl) ?_
    exact hQ a8 w8 _ _ _ ⟨hf8.1, hf8.2.1, hf8.2.2.1, hf8.2.2.2.1, hf8.2.2.2.2.1, hf8.2.2.2.2.2.1, hf8.2.2.2.2.2.2.1, hf8.2.2.2.2.2.2.2.2.2.2.2.1, hf8.2.2.2.2.2.2.2.2.2.2.2.2.1, hf8.2.2.2.2.2.2.2.2.2.2.2.2.2.1, trivial⟩ h8.1 i1
  show (part [1, 1, 1, 1, 1, 0, 1, 0, 0, 1, 1, 0, 0, 1, 1, 1, 1, 1, 0, 1] (codeOf marksF)).wp Try.prog (Exit.then ((part [1, 1, 1, 1, 1, 0, 1, 0, 0, 1, 1, 0, 0, 1, 1, 1, 1, 1, 1] (codeOf marksF)).wp Try.prog Q) Q) a6 w6
  refine wp_if (x := part [1, 1, 1, 1, 1, 0, 1, 0, 0, 1, 1, 0, 0, 1, 1, 1, 1, 1, 0, 1, 0] (codeOf marksF)) (y := part [1, 1, 1, 1, 1, 0, 1, 0, 0, 1, 1, 0, 0, 1, 1, 1, 1, 1, 0, 1, 1] (codeOf marksF)) (o := .tmp 91) (by kernel_rfl) (eval_at hf6.2.2.2.2.2.2.2.2.2.2.2.2.2.2.1 rfl) (fun ht => ?_) fun ht => ?_
  · refine marks20 _ a6 hF6 h6 hxok hc fun a7 w7 hf7 h7 => ?_
    refine rest a7 w7 hf7 ?_
    unfold told' wholes'
    rw [if_pos ht, if_pos ht]
    exact h7
  · refine wp_nop (by kernel_rfl) ?_
    refine rest a6 w6 hF6 ?_
    unfold told' wholes'
    rw [if_neg (by rw [ht]; exact Bool.false_ne_true), if_neg (by rw [ht]; exact Bool.false_ne_true)]
    exact ⟨⟨h6.1.lane, h6.1.ops, h6.1.s1.more (Nat.le_succ _), h6.1.s2.more (Nat.le_succ _), h6.1.low, h6.1.geL, h6.1.ge1, h6.1.ge2, h6.1.ne12, h6.1.neL1, h6.1.neL2⟩, h6.2⟩

set_option maxRecDepth 100000 in
set_option maxHeartbeats 4000000 in
theorem marks7 {w : World} {ep : Int} {lb g1 g2 : Nat} {A : Option Addr} {n cap : Nat} {sA : Option Addr} {sn sc k : Nat} (Q : Exit → Act → World → Prop) (a : Act) (hfr : Fr 169 a [(0, .int .i64 ep), (2, .slice A n cap), (9, .pointer (some ⟨lb, 0, none⟩)), (11, .map (some g1)), (12, .map (some g2)), (50, .slice sA sn sc), (51, .int .i64 (sn : Nat)), (52, .int .i64 (k : Nat))]) (hQ : ∀ a', Fr 169 a' [(0, .int .i64 ep), (2, .slice A n cap), (9, .pointer (some ⟨lb, 0, none⟩)), (11, .map (some g1)), (12, .map (some g2)), (50, .slice sA sn sc), (51, .int .i64 (sn : Nat)), (52, .int .i64 (k : Nat)), (53, .bool (decide (k < sn)))] → Q .normal a' w) :
    (part [1, 1, 1, 1, 1, 0, 1, 0, 0, 0] (codeOf marksF)).wp Try.prog Q a w := by
  have HQ := Lib.hid hQ
  clear hQ
  obtain ⟨t, df⟩ := a
  obtain ⟨hd, hs, h0, h2, h9, h11, h12, h50, h51, h52, -⟩ := hfr
  simp only at hd hs h0 h2 h9 h11 h12 h50 h51 h52
  subst hd
  rw [eta169 t hs, h0, h2, h9, h11, h12, h50, h51, h52]
  clear hs h0 h2 h9 h11 h12 h50 h51 h52
  conv => arg 2; whnf
  by_cases hk : k < sn
  · have d : decide ((k : Int) < (sn : Int)) = true := decide_eq_true (by omega)
    have HD := Lib.hid (decide_eq_true hk)
    clear hk
    go_wp2_with fail
    exact HQ.out _ ⟨rfl, rfl, rfl, rfl, rfl, rfl, rfl, rfl, rfl, rfl, by rw [HD.out]; rfl, trivial⟩
  · have d : decide ((k : Int) < (sn : Int)) = false := decide_eq_false (by omega)
    have HD := Lib.hid (decide_eq_false hk)
    clear hk
    go_wp2_with fail
    exact HQ.out _ ⟨rfl, rfl, rfl, rfl, rfl, rfl, rfl, rfl, rfl, rfl, by rw [HD.out]; rfl, trivial⟩

set_option maxRecDepth 100000 in
set_option maxHeartbeats 4000000 in
theorem marks25 {w : World} {ep : Int} {lb g1 g2 : Nat} {A : Option Addr} {n cap : Nat} {sA : Option Addr} {sn sc k : Nat} (Q : Exit → Act → World → Prop) (a : Act) (hfr : Fr 169 a [(0, .int .i64 ep), (2, .slice A n cap), (9, .pointer (some ⟨lb, 0, none⟩)), (11, .map (some g1)), (12, .map (some g2)), (50, .slice sA sn sc), (51, .int .i64 (sn : Nat)), (52, .int .i64 (k : Nat))]) (hk : k < 1000) (hQ : ∀ a', Fr 169 a' [(0, .int .i64 ep), (2, .slice A n cap), (9, .pointer (some ⟨lb, 0, none⟩)), (11, .map (some g1)), (12, .map (some g2)), (50, .slice sA sn sc), (51, .int .i64 (sn : Nat)), (52, .int .i64 ((k + 1) : Nat))] → Q .normal a' w) :
    (part [1, 1, 1, 1, 1, 0, 1, 0, 0, 1, 1, 1] (codeOf marksF)).wp Try.prog Q a w := by
  have HQ := Lib.hid hQ
  clear hQ
  obtain ⟨t, df⟩ := a
  obtain ⟨hd, hs, h0, h2, h9, h11, h12, h50, h51, h52, -⟩ := hfr
  simp only at hd hs h0 h2 h9 h11 h12 h50 h51 h52
  subst hd
  rw [eta169 t hs, h0, h2, h9, h11, h12, h50, h51, h52]
  clear hs h0 h2 h9 h11 h12 h50 h51 h52
  conv => arg 2; whnf
  go_wp2_with fail
  exact HQ.out _ ⟨rfl, rfl, rfl, rfl, rfl, rfl, rfl, rfl, rfl, by simp [at_], trivial⟩

/-- where the loop stands -/
def MkI (W : World) (lb g1 g2 : Nat) (A : Option Addr) (n cap : Nat) (os : List OpC) (ep : Int) (sA : Option Addr) (sn sc : Nat) (a : Act) (w : World) : Prop :=
  ∃ (k : Nat) (l : LaneC) (told wholes : List (Int × Int)), k ≤ sn ∧ Fr 169 a [(0, .int .i64 ep), (2, .slice A n cap), (9, .pointer (some ⟨lb, 0, none⟩)), (11, .map (some g1)), (12, .map (some g2)), (50, .slice sA sn sc), (51, .int .i64 (sn : Nat)), (52, .int .i64 (k : Nat))] ∧ Mk W w lb g1 g2 l A n cap os (k + 1) told wholes ∧ LInv ep os l told wholes
def muI (sn : Nat) (a : Act) : Nat := sn - (match at_ a.tmps 52 with | .int _ z => z.toNat | _ => 0)

set_option maxRecDepth 100000 in
set_option maxHeartbeats 4000000 in
theorem marks_loop {W w : World} {lb g1 g2 : Nat} {l : LaneC} {A : Option Addr} {n cap : Nat} {os : List OpC} {told wholes : List (Int × Int)} {ep : Int} {sA : Option Addr} {sn sc : Nat} (xs : List MsgX) (a : Act)
    (hfr : Fr 169 a [(0, .int .i64 ep), (2, .slice A n cap), (3, .slice sA sn sc), (9, .pointer (some ⟨lb, 0, none⟩)), (11, .map (some g1)), (12, .map (some g2))])
    (h : Mk W w lb g1 g2 l A n cap os 1 told wholes) (hinv : LInv ep os l told wholes) (hm : MsgsIs W Any sA sn xs) (hsn : sn ≤ 100) (hn : n ≤ 4294967296) (hos : ∀ c ∈ os, c.Ok) :
    (part [1, 1, 1, 1, 1] (codeOf marksF)).wp Try.prog (marksQ W) a w := by
  have HT := Lib.hid h
  have HV := Lib.hid hinv
  -- a round
  have round : ∀ (Q : Exit → Act → World → Prop) (hret : ∀ a' w', marksQ W .ret a' w' → Q .ret a' w') (hexit : ∀ a' w', Below W.heap.size W w' → a'.defers = [] → a'.tmps.size = 169 → Q (.exit 0) a' w')
      (a : Act) (w : World), MkI W lb g1 g2 A n cap os ep sA sn sc a w → (∀ a' w', MkI W lb g1 g2 A n cap os ep sA sn sc a' w' ∧ muI sn a' < muI sn a → Q .normal a' w') → (part [1, 1, 1, 1, 1, 0, 1, 0, 0] (codeOf marksF)).wp Try.prog Q a w := by
    intro Q hret hexit a w hI hQ
    obtain ⟨k, l, told, wholes, hk, hf, hh, hv⟩ := hI
    refine wp_two (x := part [1, 1, 1, 1, 1, 0, 1, 0, 0, 0] (codeOf marksF)) (y := part [1, 1, 1, 1, 1, 0, 1, 0, 0, 1] (codeOf marksF)) (by kernel_rfl) ?_
    refine marks7 _ a hf fun a1 hf1 => ?_
    have hF1 : Fr 169 a1 [(0, .int .i64 ep), (2, .slice A n cap), (9, .pointer (some ⟨lb, 0, none⟩)), (11, .map (some g1)), (12, .map (some g2)), (50, .slice sA sn sc), (51, .int .i64 (sn : Nat)), (52, .int .i64 (k : Nat))] := ⟨hf1.1, hf1.2.1, hf1.2.2.1, hf1.2.2.2.1, hf1.2.2.2.2.1, hf1.2.2.2.2.2.1, hf1.2.2.2.2.2.2.1, hf1.2.2.2.2.2.2.2.1, hf1.2.2.2.2.2.2.2.2.1, hf1.2.2.2.2.2.2.2.2.2.1, trivial⟩
    show (part [1, 1, 1, 1, 1, 0, 1, 0, 0, 1] (codeOf marksF)).wp Try.prog (Q) a1 w
    refine wp_two (x := part [1, 1, 1, 1, 1, 0, 1, 0, 0, 1, 0] (codeOf marksF)) (y := part [1, 1, 1, 1, 1, 0, 1, 0, 0, 1, 1] (codeOf marksF)) (by kernel_rfl) ?_
    refine wp_if (x := part [1, 1, 1, 1, 1, 0, 1, 0, 0, 1, 0, 0] (codeOf marksF)) (y := part [1, 1, 1, 1, 1, 0, 1, 0, 0, 1, 0, 1] (codeOf marksF)) (o := .tmp 53) (by kernel_rfl) (eval_at hf1.2.2.2.2.2.2.2.2.2.2.1 rfl) (fun ht => ?_) fun ht => ?_
    · have hk1 : k < sn := of_decide_eq_true ht
      refine wp_nop (by kernel_rfl) ?_
      show (part [1, 1, 1, 1, 1, 0, 1, 0, 0, 1, 1] (codeOf marksF)).wp Try.prog (Q) a1 w
      refine wp_two (x := part [1, 1, 1, 1, 1, 0, 1, 0, 0, 1, 1, 0] (codeOf marksF)) (y := part [1, 1, 1, 1, 1, 0, 1, 0, 0, 1, 1, 1] (codeOf marksF)) (by kernel_rfl) ?_
      refine wp_blk (x := part [1, 1, 1, 1, 1, 0, 1, 0, 0, 1, 1, 0, 0] (codeOf marksF)) (id := 1) (by kernel_rfl) ?_
      have hms : MsgsIs w (Away lb g1 g2) sA sn xs := by
        have g1' := hh.geL
        have g2' := hh.ge1
        have g3' := hh.ge2
        exact (hm.mono (S' := Away lb g1 g2) fun b hb _ => ⟨by omega, by omega, by omega⟩).below hh.low
      refine marks_round xs _ a1 hF1 hh hv hms hk1 hn hos (by unfold maxLen; omega) (fun a' w' hq => hret a' w' hq) fun a2 w2 l2 t2 u2 hf2 h2 hv2 => ?_
      show (part [1, 1, 1, 1, 1, 0, 1, 0, 0, 1, 1, 1] (codeOf marksF)).wp Try.prog (Q) a2 w2
      refine marks25 _ a2 hf2 (by omega) fun a3 hf3 => hQ a3 w2 ⟨⟨k + 1, l2, t2, u2, by omega, hf3, h2, hv2⟩, ?_⟩
      have e1 : at_ a.tmps 52 = .int .i64 (k : Nat) := hf.2.2.2.2.2.2.2.2.2.1
      have e2 : at_ a3.tmps 52 = .int .i64 ((k + 1 : Nat) : Nat) := hf3.2.2.2.2.2.2.2.2.2.1
      unfold muI
      rw [e1, e2]
      simp only [Int.toNat_natCast]
      omega
    · have e : part [1, 1, 1, 1, 1, 0, 1, 0, 0, 1, 0, 1] (codeOf marksF) = Code.exit 0 := by kernel_rfl
      rw [e]
      exact wp_exit (hexit a1 w hh.low hF1.1 hF1.2.1)
  have HR := Lib.hid round
  have HM := Lib.hid hm
  clear round h hinv hm hos
  refine wp_two (x := part [1, 1, 1, 1, 1, 0] (codeOf marksF)) (y := part [1, 1, 1, 1, 1, 1] (codeOf marksF)) (by kernel_rfl) ?_
  refine wp_two (x := part [1, 1, 1, 1, 1, 0, 0] (codeOf marksF)) (y := part [1, 1, 1, 1, 1, 0, 1] (codeOf marksF)) (by kernel_rfl) ?_
  -- the loop's head
  have start : ∀ (Q : Exit → Act → World → Prop), (∀ a', Fr 169 a' [(0, .int .i64 ep), (2, .slice A n cap), (9, .pointer (some ⟨lb, 0, none⟩)), (11, .map (some g1)), (12, .map (some g2)), (50, .slice sA sn sc), (51, .int .i64 (sn : Nat)), (52, .int .i64 (0 : Nat))] → Q .normal a' w) → (part [1, 1, 1, 1, 1, 0, 0] (codeOf marksF)).wp Try.prog Q a w := by
    intro Q hQ
    have HQ := Lib.hid hQ
    clear hQ
    obtain ⟨t, df⟩ := a
    obtain ⟨hd, hs, h0, h2, h3, h9, h11, h12, -⟩ := hfr
    simp only at hd hs h0 h2 h3 h9 h11 h12
    subst hd
    rw [eta169 t hs, h0, h2, h3, h9, h11, h12]
    clear hs h0 h2 h3 h9 h11 h12
    conv => arg 2; whnf
    go_wp2_with fail
    exact HQ.out _ ⟨rfl, rfl, rfl, rfl, rfl, rfl, rfl, rfl, rfl, rfl, trivial⟩
  refine start _ fun a1 hf1 => ?_
  clear start
  show (part [1, 1, 1, 1, 1, 0, 1] (codeOf marksF)).wp Try.prog (Exit.then ((part [1, 1, 1, 1, 1, 1] (codeOf marksF)).wp Try.prog (marksQ W)) (marksQ W)) a1 w
  refine wp_blk (x := part [1, 1, 1, 1, 1, 0, 1, 0] (codeOf marksF)) (id := 0) (by kernel_rfl) ?_
  have el : part [1, 1, 1, 1, 1, 0, 1, 0] (codeOf marksF) = Code.loop (part [1, 1, 1, 1, 1, 0, 1, 0, 0] (codeOf marksF)) := by kernel_rfl
  rw [el]
  -- what stands behind the loop
  have after : ∀ (a' : Act) (w' : World), Below W.heap.size W w' → a'.defers = [] → a'.tmps.size = 169 → (part [1, 1, 1, 1, 1, 1] (codeOf marksF)).wp Try.prog (marksQ W) a' w' := by
    intro a w' hb hd hs
    have HB := Lib.hid hb
    have hfr : Fr 169 a [(0, at_ a.tmps 0)] := ⟨hd, hs, rfl, trivial⟩
    clear hb hd hs
    obtain ⟨v0, hv0⟩ : ∃ v0, v0 = at_ a.tmps 0 := ⟨_, rfl⟩
    rw [← hv0] at hfr
    clear hv0
    obtain ⟨t, df⟩ := a
    obtain ⟨hd, hs, h0, -⟩ := hfr
    simp only at hd hs h0
    subst hd
    rw [eta169 t hs, h0]
    clear hs h0
    conv => arg 2; whnf
    go_wp2_with fail
    exact bodyPost_ret (results_tmp rfl _ _ _) rfl ⟨rfl, HB.out⟩
  refine wp_loop (MkI W lb g1 g2 A n cap os ep sA sn sc) (fun a _ => muI sn a) ⟨0, l, told, wholes, Nat.zero_le _, hf1, HT.out, HV.out⟩ fun a2 w2 hI => ?_
  refine HR.out _ ?_ ?_ a2 w2 hI ?_
  · exact fun a' w' hq => hq
  · exact fun a' w' hb hd hs => after a' w' hb hd hs
  · exact fun a' w' hh => hh
end Go.Proofs.Ytaipgdhdfpemcaa

namespace Go.Proofs.Ytaipgdhdfpemcaa
open Go.RowKit

set_option maxRecDepth 100000 in
set_option maxHeartbeats 4000000 in
theorem marks4 (W w : World) (a : Act) (ep : Int) (lb : Nat) (A : Option Addr) (n cap : Nat) (os : List OpC) (sA : Option Addr) (sn sc : Nat) (xs : List MsgX)
    (hfr : Fr 169 a [(0, .int .i64 ep), (2, .slice A n cap), (3, .slice sA sn sc), (9, .pointer (some ⟨lb, 0, none⟩))])
    (hl : Blk w lb 127 (laneC 0 0 0 0 none 0 0 ep 0 0) ∨ Blk w lb 127 (laneC 0 0 0 0 none 0 0 ep 1 0)) (hlb : W.heap.size ≤ lb) (hb : Below W.heap.size W w)
    (ho : OpsIs W Any A n cap os) (hn : n ≤ 4294967296) (hos : ∀ c ∈ os, c.Ok) (hA : A = none → cap = 0) (hm : MsgsIs W Any sA sn xs) (hsn : sn ≤ 100) (hep : I64 ep) :
    (part [1, 1, 1] (codeOf marksF)).wp Try.prog (marksQ W) a w := by
  obtain ⟨site, hsite, hl⟩ : ∃ site : Int, I64 site ∧ Blk w lb 127 (laneC 0 0 0 0 none 0 0 ep site 0) := by
    rcases hl with h | h
    · exact ⟨0, ⟨by omega, by omega⟩, h⟩
    · exact ⟨1, ⟨by omega, by omega⟩, h⟩
  have HL := Lib.hid hl
  have HB := Lib.hid hb
  have HO := Lib.hid ho
  have HOS := Lib.hid hos
  have HM := Lib.hid hm
  have HLB := Lib.hid hlb
  have HS := Lib.hid hsite
  have HE := Lib.hid hep
  have HAA := Lib.hid hA
  have HN := Lib.hid hn
  clear hl hb ho hos hm hlb hsite hep hA hn
  refine wp_two (x := part [1, 1, 1, 0] (codeOf marksF)) (y := part [1, 1, 1, 1] (codeOf marksF)) (by kernel_rfl) ?_
  have r4 : ∀ (Q : Exit → Act → World → Prop), (∀ a' w' A' n' cap', Fr 169 a' [(0, .int .i64 ep), (2, .slice A' n' cap'), (3, .slice sA sn sc), (9, .pointer (some ⟨lb, 0, none⟩))] → OpsIs w' (From w.heap.size) A' n' cap' (numbC os) → n' ≤ 80 → Below w.heap.size w w' → Q .normal a' w') →
      (part [1, 1, 1, 0] (codeOf marksF)).wp Try.prog Q a w := by
    intro Q hQ
    have HQ := Lib.hid hQ
    clear hQ
    obtain ⟨t, df⟩ := a
    obtain ⟨hd, hs, h0, h2, h3, h9, -⟩ := hfr
    simp only at hd hs h0 h2 h3 h9
    subst hd
    rw [eta169 t hs, h0, h2, h3, h9]
    clear hs h0 h2 h3 h9
    conv => arg 2; whnf
    go_wp2_with fail
    refine (numbered_any A n cap os w (HO.out.below HB.out) HN.out HOS.out HAA.out).mono ?_
    rintro e w1 ⟨A', n', cap', rfl, ho1, hn1, hb1⟩
    have HO1 := Lib.hid ho1
    have HB1 := Lib.hid hb1
    clear ho1 hb1
    go_wp2_with fail
    exact HQ.out _ _ A' n' cap' ⟨rfl, rfl, rfl, rfl, rfl, rfl, trivial⟩ HO1.out hn1 HB1.out
  refine r4 _ fun a1 w1 A' n' cap' hf1 ho1 hn1 hb1 => ?_
  clear r4
  show (part [1, 1, 1, 1] (codeOf marksF)).wp Try.prog (marksQ W) a1 w1
  refine wp_two (x := part [1, 1, 1, 1, 0] (codeOf marksF)) (y := part [1, 1, 1, 1, 1] (codeOf marksF)) (by kernel_rfl) ?_
  refine marks5 w1 _ a1 ep lb A' n' cap' sA sn sc hf1 fun a2 w2 g1 g2 hf2 hg1 hg2 hne hs1 hs2 hb2 => ?_
  show (part [1, 1, 1, 1, 1] (codeOf marksF)).wp Try.prog (marksQ W) a2 w2
  have hl1 := HL.out.below hb1 HL.out.lt
  have hl2 := hl1.below hb2 hl1.lt
  have hlt := HL.out.lt
  have hsz := HB.out.size
  have hs1' := hb1.size
  have hlow : Below W.heap.size W w2 := (HB.out.trans (hb1.mono hsz)).trans (hb2.mono (Nat.le_trans hsz hs1'))
  have hw1 : W.heap.size ≤ w1.heap.size := Nat.le_trans hsz hs1'
  have hlane : LaneIs w2 (Away lb g1 g2) lb ⟨0, 0, 0, 0, [], ep, site, 0⟩ := ⟨none, 0, 0, hl2, ⟨Rs.nil_ _ _ _ _, Nat.le_refl _, Nat.zero_le _⟩⟩
  have hops : OpsIs w2 (Away lb g1 g2) A' n' cap' (numbC os) := (ho1.mono (S' := Away lb g1 g2) fun b hb h => ⟨by have : w.heap.size ≤ b := h; omega, by omega, by omega⟩).below hb2
  have i0 : I64 0 := ⟨by omega, by omega⟩
  refine marks_loop xs a2 hf2 (l := ⟨0, 0, 0, 0, [], ep, site, 0⟩) (os := numbC os) (told := [(0, 0)]) (wholes := [(0, 0)]) ⟨hlane, hops, hs1, hs2, hlow, HLB.out, by omega, by omega, hne, by omega, by omega⟩ ?_ HM.out hsn (by omega) (numbC_ok HOS.out)
  exact ⟨⟨i0, i0, i0, i0, by simp, by simp, HE.out, HS.out, i0⟩, rfl, by simp, by simp, by simp, by simp, by simp⟩

set_option maxRecDepth 100000 in
set_option maxHeartbeats 4000000 in
theorem marks_walk (W : World) (ep site : Int) (A : Option Addr) (n cap : Nat) (os : List OpC) (sA : Option Addr) (sn sc : Nat) (xs : List MsgX)
    (ho : OpsIs W Any A n cap os) (hcz : cap * 96 ≤ 140737488351232) (hos : ∀ c ∈ os, c.Ok) (hA : A = none → cap = 0) (hm : MsgsIs W Any sA sn xs) (hsc : sn ≤ 140737488351232) (hep : I64 ep) :
    Calls Try.prog 5 #[.int .i64 ep, .int .i64 site, .slice A n cap, .slice sA sn sc] W fun e w' => e = .returned (.bool true) ∧ Below W.heap.size W w' := by
  have hnc : n ≤ cap := by obtain ⟨_, _, _, h, _⟩ := ho; exact h
  have hlen := ho.len
  have HO := Lib.hid ho
  have HOS := Lib.hid hos
  have HA := Lib.hid hA
  have HM := Lib.hid hm
  have HE := Lib.hid hep
  have hnz : n * 96 ≤ 140737488351232 := by omega
  have HNZ := Lib.hid hnz
  have HLEN := Lib.hid hlen
  clear ho hos hA hm hep hnz hlen
  by_cases hnew : newB ep site 0 = true
  · have hb := of_decide_eq_true hnew
    have HNEW := Lib.hid hb
    clear hnew hb
    have hwa : Below W.heap.size W (W.alloc (.cells (laneC 0 0 0 0 none 0 0 ep site 0) 127)) := (Below.refl _ _).alloc (Nat.le_refl _) _
    have HWA := Lib.hid hwa
    have HBK := Lib.hid (Blk.new W 127 (laneC 0 0 0 0 none 0 0 ep site 0))
    clear hwa
    go_enter Try.func5, Try.ntmps5
    conv => arg 2; arg 2; arg 2; arg 2; change part [1, 1, 1] (codeOf marksF)
    go_wp2_with fail
    refine (newL_ok ep site 0 W (by have := HNEW.out; omega) (by have := HNEW.out; omega) (by omega)).mono ?_
    rintro e w1 ⟨rfl, rfl⟩
    go_wp2_with fail
    refine (awake_any _).mono ?_
    rintro e w2 ⟨rfl, hb2⟩
    have HB2 := Lib.hid (HWA.out.trans (hb2.mono HWA.out.size))
    have HK2 := Lib.hid (HBK.out.below hb2 HBK.out.lt)
    clear hb2
    go_wp2_with fail
    refine (great_any A n cap os w2 (HO.out.below HB2.out) HNZ.out HOS.out).mono ?_
    rintro e w3 ⟨rfl, hb3⟩
    have HB3 := Lib.hid (HB2.out.trans (hb3.mono HB2.out.size))
    have HK3 := Lib.hid (HK2.out.below hb3 HK2.out.lt)
    clear hb3
    by_cases hg : 4096 < bigOf os
    · have dg : decide (4096 < bigOf os) = true := decide_eq_true hg
      rw [dg]
      clear hg dg
      go_wp2_with fail
      refine (awake_any _).mono ?_
      rintro e w4 ⟨rfl, hb4⟩
      have HB4 := Lib.hid (HB3.out.trans (hb4.mono HB3.out.size))
      clear hb4
      go_wp2_with fail
      go_ret
      exact ⟨rfl, HB4.out⟩
    · have dg : decide (4096 < bigOf os) = false := decide_eq_false hg
      rw [dg]
      have hbig := bigOf_len os
      have hn1 : n ≤ 4294967296 := by have := HLEN.out; omega
      clear hg dg
      by_cases h100 : 100 < sn
      · have d1 : decide ((100 : Int) < (sn : Nat)) = true := decide_eq_true (by omega)
        clear h100
        go_wp2_with fail
        refine (awake_any _).mono ?_
        rintro e w4 ⟨rfl, hb4⟩
        have HB4 := Lib.hid (HB3.out.trans (hb4.mono HB3.out.size))
        clear hb4
        go_wp2_with fail
        go_ret
        exact ⟨rfl, HB4.out⟩
      · have d1 : decide ((100 : Int) < (sn : Nat)) = false := decide_eq_false (by omega)
        go_wp2_with fail
        refine marks4 W w3 _ ep W.heap.size A n cap os sA sn sc xs ⟨rfl, rfl, rfl, rfl, rfl, rfl, trivial⟩ ?_ (Nat.le_refl _) HB3.out HO.out hn1 HOS.out HA.out HM.out (by omega) HE.out
        have hs : site = 0 ∨ site = 1 := by have := HNEW.out; omega
        rcases hs with hs | hs
        · exact .inl (by have := HK3.out; rw [hs] at this; exact this)
        · exact .inr (by have := HK3.out; rw [hs] at this; exact this)
  · have hnew' : newB ep site 0 = false := by simpa using hnew
    have HNEW := Lib.hid hnew'
    clear hnew hnew'
    go_enter Try.func5, Try.ntmps5
    conv => arg 2; arg 2; arg 2; arg 2; change part [1, 1, 1] (codeOf marksF)
    go_wp2_with fail
    refine (newL_no ep site 0 W HNEW.out).mono ?_
    rintro e w1 ⟨rfl, rfl⟩
    go_wp2_with fail
    refine (awake_any _).mono ?_
    rintro e w2 ⟨rfl, hb2⟩
    have HB2 := Lib.hid hb2
    clear hb2
    go_wp2_with fail
    refine (awake_any _).mono ?_
    rintro e w4 ⟨rfl, hb4⟩
    have HB4 := Lib.hid (HB2.out.trans (hb4.mono HB2.out.size))
    clear hb4
    go_wp2_with fail
    go_ret
    exact ⟨rfl, HB4.out⟩
/-- the walk, as the frame asks it -/
theorem laneMarks_walk (W : World) (ep : Int) (hep : -9223372036854775808 ≤ ep ∧ ep ≤ 9223372036854775807) (site : Int) (_hsite : -9223372036854775808 ≤ site ∧ site ≤ 9223372036854775807) (A : Option Addr) (n cap : Nat) (os : List OpC) (ho : OpsIs W Any A n cap os) (hcz : cap * 96 ≤ 140737488351232) (hos : ∀ c ∈ os, c.Ok) (hA : A = none → cap = 0)
    (sA : Option Addr) (sn sc : Nat) (xs : List MsgX) (hm : MsgsIs W Any sA sn xs) (hsc : sn ≤ sc) (hsz : sc * 208 ≤ 140737488351232) (_hsA : sA = none → sc = 0) :
    Calls Try.prog 5 #[.int .i64 ep, .int .i64 site, .slice A n cap, .slice sA sn sc] W fun e w' => e = .returned (.bool true) ∧ Below W.heap.size W w' :=
  marks_walk W ep site A n cap os sA sn sc xs ho hcz hos hA hm (by omega) hep
end Go.Proofs.Ytaipgdhdfpemcaa
