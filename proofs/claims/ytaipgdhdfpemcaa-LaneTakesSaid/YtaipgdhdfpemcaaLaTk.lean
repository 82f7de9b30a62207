/-
  THE WALKS OF THE LANE: Take, in general, region by region. (wip/gen/take.py prints this text.)
-/
import Derived.Test.YtaipgdhdfpemcaaLaHasA
import Derived.Test.YtaipgdhdfpemcaaFr
namespace Go.Proofs.Ytaipgdhdfpemcaa
open Go.RowKit

theorem eta109 (t : Array Value) (h : t.size = 109) : t = #[at_ t 0, at_ t 1, at_ t 2, at_ t 3, at_ t 4, at_ t 5, at_ t 6, at_ t 7, at_ t 8, at_ t 9, at_ t 10, at_ t 11, at_ t 12, at_ t 13, at_ t 14, at_ t 15, at_ t 16, at_ t 17, at_ t 18, at_ t 19, at_ t 20, at_ t 21, at_ t 22, at_ t 23, at_ t 24, at_ t 25, at_ t 26, at_ t 27, at_ t 28, at_ t 29, at_ t 30, at_ t 31, at_ t 32, at_ t 33, at_ t 34, at_ t 35, at_ t 36, at_ t 37, at_ t 38, at_ t 39, at_ t 40, at_ t 41, at_ t 42, at_ t 43, at_ t 44, at_ t 45, at_ t 46, at_ t 47, at_ t 48, at_ t 49, at_ t 50, at_ t 51, at_ t 52, at_ t 53, at_ t 54, at_ t 55, at_ t 56, at_ t 57, at_ t 58, at_ t 59, at_ t 60, at_ t 61, at_ t 62, at_ t 63, at_ t 64, at_ t 65, at_ t 66, at_ t 67, at_ t 68, at_ t 69, at_ t 70, at_ t 71, at_ t 72, at_ t 73, at_ t 74, at_ t 75, at_ t 76, at_ t 77, at_ t 78, at_ t 79, at_ t 80, at_ t 81, at_ t 82, at_ t 83, at_ t 84, at_ t 85, at_ t 86, at_ t 87, at_ t 88, at_ t 89, at_ t 90, at_ t 91, at_ t 92, at_ t 93, at_ t 94, at_ t 95, at_ t 96, at_ t 97, at_ t 98, at_ t 99, at_ t 100, at_ t 101, at_ t 102, at_ t 103, at_ t 104, at_ t 105, at_ t 106, at_ t 107, at_ t 108] := (eta_ t h).trans (by kernel_rfl)

@[reducible] noncomputable def takeF : Func := Try.f28
/-- all but one block stand -/
def Turn (g : Nat) (w w' : World) : Prop := Save g w w' ∧ Below g w w'
theorem Turn.refl (g : Nat) (w : World) : Turn g w w := ⟨fun _ _ _ => rfl, Below.refl _ _⟩
theorem Turn.size {g : Nat} {w w' : World} (h : Turn g w w') : w.heap.size ≤ w'.heap.size := h.2.size
theorem Turn.trans {g : Nat} {w w' w'' : World} (h : Turn g w w') (h' : Turn g w' w'') : Turn g w w'' := ⟨h.1.trans h.2.size h'.1, h.2.trans h'.2⟩
theorem Turn.of {g : Nat} {w w' : World} (hg : g ≤ w.heap.size) (h : Below w.heap.size w w') : Turn g w w' := ⟨Save.of h, h.mono hg⟩
theorem Turn.next {g : Nat} {w w' w'' : World} (h : Turn g w w') (hg : g ≤ w'.heap.size) (hb : Below w'.heap.size w' w'') : Turn g w w'' := h.trans (Turn.of hg hb)
/-- a mail's box, in what Take reads of it -/
def BoxIs (w : World) (S : Nat → Prop) (b : Nat) (m : MailC) : Prop :=
  ∃ eA en ec hA hn hc oA on oc pA pn pc, Blk w b 30 (mailC m.kind m.term m.index m.prev m.commit m.good eA en ec m.data hA hn hc m.epoch m.site m.atN m.atE m.whN m.whE oA on oc pA pn pc) ∧ IntIs w S oA on oc m.holes
theorem BoxIs.below {w w' : World} {S : Nat → Prop} {b : Nat} {m : MailC} (h : BoxIs w S b m) (hb : Below w.heap.size w w') : BoxIs w' S b m := by
  obtain ⟨eA, en, ec, hA, hn, hc, oA, on, oc, pA, pn, pc, h1, h2⟩ := h
  exact ⟨eA, en, ec, hA, hn, hc, oA, on, oc, pA, pn, pc, h1.below hb h1.lt, h2.below hb⟩
theorem BoxIs.kept {w w' : World} {S : Nat → Prop} {b : Nat} {m : MailC} (h : BoxIs w S b m) (hk : Kept S w w') (hb : S b) : BoxIs w' S b m := by
  obtain ⟨eA, en, ec, hA, hn, hc, oA, on, oc, pA, pn, pc, h1, h2⟩ := h
  exact ⟨eA, en, ec, hA, hn, hc, oA, on, oc, pA, pn, pc, (hk.2 b hb h1.lt).trans h1, h2.kept hk⟩
/-- where Take stands -/
structure Tk (w0 w : World) (S : Nat → Prop) (lb bx : Nat) (l : LaneC) (m : MailC) (A : Option Addr) (n cap : Nat) (os : List OpC) : Prop where
  lane : LaneIs w S lb l
  box : BoxIs w S bx m
  bxS : S bx
  ops : OpsIs w S A n cap os
  turn : Turn lb w0 w
section
variable {w0 w w' : World} {S : Nat → Prop} {lb bx : Nat} {l l' : LaneC} {m : MailC} {A : Option Addr} {n cap : Nat} {os : List OpC}
theorem Tk.below (h : Tk w0 w S lb bx l m A n cap os) (hb : Below w.heap.size w w') : Tk w0 w' S lb bx l m A n cap os :=
  ⟨h.lane.below hb, h.box.below hb, h.bxS, h.ops.below hb, h.turn.next (Nat.le_of_lt h.lane.lt) hb⟩
theorem Tk.drew (h : Tk w0 w S lb bx l m A n cap os) : Tk w0 w.drew S lb bx l m A n cap os := h.below ⟨rfl, rfl, rfl, Nat.le_refl _, fun _ _ => rfl⟩
theorem Tk.drewN (h : Tk w0 w S lb bx l m A n cap os) (k : Nat) : Tk w0 (w.drewN k) S lb bx l m A n cap os := h.below ⟨rfl, rfl, rfl, Nat.le_refl _, fun _ _ => rfl⟩
/-- the lane turned -/
theorem Tk.turned (h : Tk w0 w S lb bx l m A n cap os) (hL : ¬ S lb) (ht : Turn lb w w') (hl : LaneIs w' S lb l') : Tk w0 w' S lb bx l' m A n cap os := by
  have hk : Kept S w w' := ⟨ht.size, fun b h1 h2 => ht.1 b h2 (by rintro rfl; exact hL h1)⟩
  exact ⟨hl, h.box.kept hk h.bxS, h.bxS, h.ops.kept hk, h.turn.trans ht⟩
end
/-- a lane, its mark put further -/
def LaneC.further (l : LaneC) (N E : Int) : LaneC := if l.mN < N then { l with mN := N, mE := E } else l
theorem LaneC.further_twice (l : LaneC) (N E : Int) : (l.further N E).further N E = l.further N E := by
  unfold LaneC.further
  by_cases h : l.mN < N
  · simp [h]
  · simp [h]
theorem further_lane {w w' : World} {S : Nat → Prop} {b : Nat} {l : LaneC} {oA : Option Addr} {on oc : Nat} (N E : Int) (hi : IntIs w S oA on oc l.holes) (hL : ¬ S b) (ht : Turn b w w') (hk : Blk w' b 127 (further (laneC l.mN l.mE l.wN l.wE oA on oc l.epoch l.site l.next) l.mN N E)) : LaneIs w' S b (l.further N E) := by
  have hi' : IntIs w' S oA on oc l.holes := hi.kept ⟨ht.size, fun x h1 h2 => ht.1 x h2 (by rintro rfl; exact hL h1)⟩
  unfold further at hk
  unfold LaneC.further
  by_cases h : l.mN < N
  · rw [if_pos h] at hk ⊢
    exact ⟨oA, on, oc, hk, hi'⟩
  · rw [if_neg h] at hk ⊢
    exact ⟨oA, on, oc, hk, hi'⟩

set_option maxRecDepth 100000 in
set_option maxHeartbeats 4000000 in
theorem take6 {w0 w : World} {S : Nat → Prop} {lb bx : Nat} {l : LaneC} {m : MailC} {A : Option Addr} {n cap : Nat} {os : List OpC} (Q : Exit → Act → World → Prop) (a : Act) (hL : ¬ S lb) (hU : ∀ b, w0.heap.size ≤ b → S b) (hfr : Fr 109 a [(0, .pointer (some ⟨lb, 0, none⟩)), (2, .slice A n cap), (4, .pointer (some ⟨bx, 0, none⟩))]) (h : Tk w0 w S lb bx l m A n cap os) (hn : n ≤ 4294967296)
    (hQ : ∀ a' w', Fr 109 a' [(0, .pointer (some ⟨lb, 0, none⟩)), (2, .slice A n cap), (4, .pointer (some ⟨bx, 0, none⟩)), (60, .bool (decide (0 < m.atN) && hasB os m.atN m.atE))] → Tk w0 w' S lb bx l m A n cap os → Q .normal a' w') :
    (part [1, 1, 0, 0, 1, 1, 1, 0, 0, 0] (codeOf takeF)).wp Try.prog Q a w := by
  have HT := Lib.hid h
  have HQ := Lib.hid hQ
  have HL := Lib.hid hL
  have HU := Lib.hid hU
  clear h hQ hL hU
  obtain ⟨t, df⟩ := a
  obtain ⟨hd, hs, h0, h2, h4, -⟩ := hfr
  simp only at hd hs h0 h2 h4
  subst hd
  rw [eta109 t hs, h0, h2, h4]
  clear hs h0 h2 h4
  conv => arg 2; whnf
  obtain ⟨eA, en, ec, hA, hn', hc, oA, on, oc, pA, pn, pc, kb, ko⟩ := HT.out.box
  have c11 := kb.cell 11
  have c12 := kb.cell 12
  simp at c11 c12
  clear kb ko
  by_cases h0 : 0 < m.atN
  · have d0 : decide (0 < m.atN) = true := decide_eq_true h0
    have HB := Lib.hid ((Below.refl w.heap.size w).alloc (Nat.le_refl _) (.cells #[.int .i64 m.atN, .int .i64 m.atE] 26))
    have HG := Lib.hid (Blk.new w 26 #[.int .i64 m.atN, .int .i64 m.atE])
    clear h0
    go_wp2_with fail
    refine (has_any os _ (HT.out.below HB.out).ops hn HG.out).mono ?_
    rintro e w1 ⟨rfl, hb1⟩
    have hb := HB.out.trans (hb1.mono HB.out.size)
    have HB1 := Lib.hid hb
    clear hb1 hb
    go_wp2_with fail
    exact HQ.out _ _ ⟨rfl, rfl, rfl, rfl, rfl, by rw [d0]; rfl, trivial⟩ (HT.out.below HB1.out)
  · have d0 : decide (0 < m.atN) = false := decide_eq_false h0
    clear h0
    go_wp2_with fail
    exact HQ.out _ _ ⟨rfl, rfl, rfl, rfl, rfl, by rw [d0]; rfl, trivial⟩ HT.out

/-- where Take stands, the lane turned or not yet -/
structure Tk2 (w0 w : World) (S : Nat → Prop) (lb bx : Nat) (l l1 : LaneC) (m : MailC) (A : Option Addr) (n cap : Nat) (os : List OpC) : Prop where
  lane : LaneIs w S lb l ∨ LaneIs w S lb l1
  box : BoxIs w S bx m
  bxS : S bx
  ops : OpsIs w S A n cap os
  turn : Turn lb w0 w
section
variable {w0 w w' : World} {S : Nat → Prop} {lb bx : Nat} {l l1 : LaneC} {m : MailC} {A : Option Addr} {n cap : Nat} {os : List OpC}
theorem Tk2.lt (h : Tk2 w0 w S lb bx l l1 m A n cap os) : lb < w.heap.size := by rcases h.lane with h | h <;> exact h.lt
theorem Tk2.below (h : Tk2 w0 w S lb bx l l1 m A n cap os) (hb : Below w.heap.size w w') : Tk2 w0 w' S lb bx l l1 m A n cap os :=
  ⟨h.lane.imp (·.below hb) (·.below hb), h.box.below hb, h.bxS, h.ops.below hb, h.turn.next (Nat.le_of_lt h.lt) hb⟩
theorem Tk.two (h : Tk w0 w S lb bx l m A n cap os) : Tk2 w0 w S lb bx l l1 m A n cap os := ⟨.inl h.lane, h.box, h.bxS, h.ops, h.turn⟩
theorem Tk2.one (h : Tk2 w0 w S lb bx l l1 m A n cap os) (hl : LaneIs w S lb l1) : Tk w0 w S lb bx l1 m A n cap os := ⟨hl, h.box, h.bxS, h.ops, h.turn⟩
theorem Tk2.turned (h : Tk2 w0 w S lb bx l l1 m A n cap os) (hL : ¬ S lb) (ht : Turn lb w w') (hl : LaneIs w' S lb l1) : Tk2 w0 w' S lb bx l l1 m A n cap os := by
  have hk : Kept S w w' := ⟨ht.size, fun b h1 h2 => ht.1 b h2 (by rintro rfl; exact hL h1)⟩
  exact ⟨.inr hl, h.box.kept hk h.bxS, h.bxS, h.ops.kept hk, h.turn.trans ht⟩
theorem setCell_turn (b o : Nat) (u : Value) (w : World) : Turn b w (w.setCell ⟨b, o, none⟩ u) := ⟨fun x _ h2 => Below.heap_setCell w ⟨b, o, none⟩ u x h2, (Below.refl _ _).setCell (p := ⟨b, o, none⟩) (Nat.le_refl _) _⟩
theorem setCells_turn (b o : Nat) (vs : List Value) (w : World) : Turn b w (w.setCells b o vs) := ⟨save_setCells w b o vs, below_setCells (Nat.le_refl _) (Below.refl _ _) _ _⟩
end

set_option maxRecDepth 100000 in
set_option maxHeartbeats 4000000 in
theorem take7 {w0 w : World} {S : Nat → Prop} {lb bx : Nat} {l : LaneC} {m : MailC} {A : Option Addr} {n cap : Nat} {os : List OpC} (Q : Exit → Act → World → Prop) (a : Act) (hL : ¬ S lb) (hU : ∀ b, w0.heap.size ≤ b → S b) (hfr : Fr 109 a [(0, .pointer (some ⟨lb, 0, none⟩)), (2, .slice A n cap), (4, .pointer (some ⟨bx, 0, none⟩))]) (h : Tk w0 w S lb bx l m A n cap os) 
    (hQ : ∀ a' w', Fr 109 a' [(0, .pointer (some ⟨lb, 0, none⟩)), (2, .slice A n cap), (4, .pointer (some ⟨bx, 0, none⟩))] → Tk w0 w' S lb bx (l.further m.atN m.atE) m A n cap os → Q .normal a' w') :
    (part [1, 1, 0, 0, 1, 1, 1, 0, 0, 1, 0, 0] (codeOf takeF)).wp Try.prog Q a w := by
  have HT := Lib.hid h
  have HQ := Lib.hid hQ
  have HL := Lib.hid hL
  have HU := Lib.hid hU
  clear h hQ hL hU
  obtain ⟨t, df⟩ := a
  obtain ⟨hd, hs, h0, h2, h4, -⟩ := hfr
  simp only at hd hs h0 h2 h4
  subst hd
  rw [eta109 t hs, h0, h2, h4]
  clear hs h0 h2 h4
  conv => arg 2; whnf
  obtain ⟨l1, hl1⟩ : ∃ l1, l1 = l.further m.atN m.atE := ⟨_, rfl⟩
  have HE := Lib.hid hl1
  clear hl1
  refine wp_region_all (by kernel_rfl) (fun i v W => match i with | 0 => v = .pointer (some ⟨lb, 0, none⟩) | 1 => v = .pointer (some ⟨lb, 0, none⟩) | 2 => v = .pointer (some ⟨lb, 0, none⟩) | 3 => v = .pointer (some ⟨lb, 0, none⟩) | 4 => v = .pointer (some ⟨bx, 11, none⟩) | 5 => v = .agg #[.int .i64 m.atN, .int .i64 m.atE] | 6 => LaneIs W S lb l1 | _ => True) (fun W => Tk2 w0 W S lb bx l l1 m A n cap os) (fun W W' => Turn lb W W' ∧ (LaneIs W S lb l1 → LaneIs W' S lb l1)) (by kernel_rfl) ?hG ?hmono ?hstep ?hend
  case hG => exact HT.out.drew.two
  case hmono =>
    intro i v W W' hx hv
    match i with
    | 6 =>
      exact hx.2 hv
    | 0 | 1 | 2 | 3 | 4 | 5 => exact hv
    | i + 7 => exact hv
  case hstep =>
    intro i o F U W ho hGW hat hoff hp
    have hrefl := fun W : World => (⟨Turn.refl _ _, fun h => h⟩ : Turn lb W W ∧ (LaneIs W S lb l1 → LaneIs W S lb l1))
    match i with
      | 0 =>
        injection (show some _ = some o from ho) with ho
        subst ho
        refine on_ (wanted_none rfl) ?_
        have e0 : F.eval (.tmp 0) = .pointer (some ⟨lb, 0, none⟩) := (hoff 0 (of_decide_eq_true (by kernel_rfl))).trans rfl
        exact wp_move' (.tmp 0) rfl ⟨_, rfl, e0, hGW, hrefl W⟩
      | 1 =>
        injection (show some _ = some o from ho) with ho
        subst ho
        refine on_ (wanted_none rfl) ?_
        have e61 : F.eval (.tmp 61) = .pointer (some ⟨lb, 0, none⟩) := (hat 0 61 (of_decide_eq_true (by kernel_rfl)) rfl).trans (hp ⟨0, .data⟩ (by simp) rfl : U 0 = .pointer (some ⟨lb, 0, none⟩))
        have t61 := act_tmp e61
        clear hat hoff hp
        exact wp_value' (.pointer (some ⟨lb, 0, none⟩)) W (by unfold execOp; go_simp) ⟨_, rfl, rfl, hGW, hrefl W⟩
      | 2 =>
        injection (show some _ = some o from ho) with ho
        subst ho
        refine on_ (wanted_none rfl) ?_
        have e62 : F.eval (.tmp 62) = .pointer (some ⟨lb, 0, none⟩) := (hat 1 62 (of_decide_eq_true (by kernel_rfl)) rfl).trans (hp ⟨1, .data⟩ (by simp) rfl : U 1 = .pointer (some ⟨lb, 0, none⟩))
        have t62 := act_tmp e62
        clear hat hoff hp
        exact wp_value' (.pointer (some ⟨lb, 0, none⟩)) W (by unfold execOp; go_simp) ⟨_, rfl, rfl, hGW, hrefl W⟩
      | 3 =>
        injection (show some _ = some o from ho) with ho
        subst ho
        refine on_ (wanted_none rfl) ?_
        have e63 : F.eval (.tmp 63) = .pointer (some ⟨lb, 0, none⟩) := (hat 2 63 (of_decide_eq_true (by kernel_rfl)) rfl).trans (hp ⟨2, .data⟩ (by simp) rfl : U 2 = .pointer (some ⟨lb, 0, none⟩))
        have t63 := act_tmp e63
        clear hat hoff hp
        exact wp_value' (.pointer (some ⟨lb, 0, none⟩)) W (by unfold execOp; go_simp) ⟨_, rfl, rfl, hGW, hrefl W⟩
      | 4 =>
        injection (show some _ = some o from ho) with ho
        subst ho
        refine on_ (wanted_none rfl) ?_
        have e4 : F.eval (.tmp 4) = .pointer (some ⟨bx, 0, none⟩) := (hoff 4 (of_decide_eq_true (by kernel_rfl))).trans rfl
        have t4 := act_tmp e4
        clear hat hoff hp
        exact wp_value' (.pointer (some ⟨bx, 11, none⟩)) W (by unfold execOp; go_simp) ⟨_, rfl, rfl, hGW, hrefl W⟩
      | 5 =>
        injection (show some _ = some o from ho) with ho
        subst ho
        refine on_ (wanted_none rfl) ?_
        have e65 : F.eval (.tmp 65) = .pointer (some ⟨bx, 11, none⟩) := (hat 4 65 (of_decide_eq_true (by kernel_rfl)) rfl).trans (hp ⟨4, .data⟩ (by simp) rfl : U 4 = .pointer (some ⟨bx, 11, none⟩))
        have t65 := act_tmp e65
        clear hat hoff hp
        obtain ⟨eA, en, ec, hA, hn', hc, oA, on, oc, pA, pn, pc, kb, ko⟩ := hGW.box
        have d0 := kb.cell 11
        have d1 := kb.cell 12
        simp at d0 d1
        exact wp_value' (.agg #[.int .i64 m.atN, .int .i64 m.atE]) W (by unfold execOp; go_simp) ⟨_, rfl, rfl, hGW, hrefl W⟩
      | 6 =>
        injection (show some _ = some o from ho) with ho
        subst ho
        refine on_ (wanted_none rfl) ?_
        have e64 : F.eval (.tmp 64) = .pointer (some ⟨lb, 0, none⟩) := (hat 3 64 (of_decide_eq_true (by kernel_rfl)) rfl).trans (hp ⟨3, .data⟩ (by simp) rfl : U 3 = .pointer (some ⟨lb, 0, none⟩))
        have t64 := act_tmp e64
        have e66 : F.eval (.tmp 66) = .agg #[.int .i64 m.atN, .int .i64 m.atE] := (hat 5 66 (of_decide_eq_true (by kernel_rfl)) rfl).trans (hp ⟨5, .data⟩ (by simp) rfl : U 5 = .agg #[.int .i64 m.atN, .int .i64 m.atE])
        have t66 := act_tmp e66
        clear hat hoff hp
        refine wp_enter' 78 #[.pointer (some ⟨lb, 0, none⟩), .agg #[.int .i64 m.atN, .int .i64 m.atE]] (by unfold execOp; go_simp) ?_
        have hgo : ∀ l0 : LaneC, l0.further m.atN m.atE = l1 → LaneIs W S lb l0 → Calls Try.prog 78 #[.pointer (some ⟨lb, 0, none⟩), .agg #[.int .i64 m.atN, .int .i64 m.atE]] W fun e W' => e = .returned (.tuple #[]) ∧ LaneIs W' S lb l1 ∧ Turn lb W W' := by
          rintro l0 hl0 ⟨oA, on, oc, kl, ki⟩
          refine (further_any lb _ _ l0.mN l0.mE m.atN m.atE W kl rfl rfl).mono ?_
          rintro e W' ⟨rfl, hk, hs, hb⟩
          exact ⟨rfl, by rw [← hl0]; exact further_lane _ _ ki HL.out ⟨hs, hb⟩ hk, hs, hb⟩
        have hcall : Calls Try.prog 78 #[.pointer (some ⟨lb, 0, none⟩), .agg #[.int .i64 m.atN, .int .i64 m.atE]] W fun e W' => e = .returned (.tuple #[]) ∧ LaneIs W' S lb l1 ∧ Turn lb W W' := by
          rcases hGW.lane with h | h
          · exact hgo l HE.out.symm h
          · exact hgo l1 (by rw [HE.out, LaneC.further_twice]) h
        refine hcall.mono ?_
        rintro e W' ⟨rfl, hl, ht⟩
        exact ⟨_, rfl, _, rfl, hl, hGW.turned HL.out ht hl, ht, fun _ => hl⟩
      | i + 7 => exact absurd ho (by simp)
  case hend =>
    intro U W hGW hV
    have hl1 : LaneIs W S lb l1 := hV 6 (of_decide_eq_true (by kernel_rfl))
    have hk := hGW.one hl1
    rw [HE.out] at hk
    clear hV hGW hl1
    simp [putU, dstAt, Act.put]
    exact HQ.out _ _ ⟨rfl, rfl, rfl, rfl, rfl, trivial⟩ hk

set_option maxRecDepth 100000 in
set_option maxHeartbeats 4000000 in
theorem take8 {w0 w : World} {S : Nat → Prop} {lb bx : Nat} {l : LaneC} {m : MailC} {A : Option Addr} {n cap : Nat} {os : List OpC} (Q : Exit → Act → World → Prop) (a : Act) (hL : ¬ S lb) (hU : ∀ b, w0.heap.size ≤ b → S b) (hfr : Fr 109 a [(0, .pointer (some ⟨lb, 0, none⟩)), (2, .slice A n cap), (4, .pointer (some ⟨bx, 0, none⟩))]) (h : Tk w0 w S lb bx l m A n cap os) 
    (hQ : ∀ a' w', Fr 109 a' [(0, .pointer (some ⟨lb, 0, none⟩)), (2, .slice A n cap), (4, .pointer (some ⟨bx, 0, none⟩))] → Tk w0 w' S lb bx { l with next := max l.next m.atN } m A n cap os → Q .normal a' w') :
    (part [1, 1, 0, 0, 1, 1, 1, 0, 0, 1, 0, 1] (codeOf takeF)).wp Try.prog Q a w := by
  have HT := Lib.hid h
  have HQ := Lib.hid hQ
  have HL := Lib.hid hL
  have HU := Lib.hid hU
  clear h hQ hL hU
  obtain ⟨t, df⟩ := a
  obtain ⟨hd, hs, h0, h2, h4, -⟩ := hfr
  simp only at hd hs h0 h2 h4
  subst hd
  rw [eta109 t hs, h0, h2, h4]
  clear hs h0 h2 h4
  conv => arg 2; whnf
  obtain ⟨l1, hl1⟩ : ∃ l1, l1 = { l with next := max l.next m.atN } := ⟨_, rfl⟩
  have HE := Lib.hid hl1
  clear hl1
  refine wp_region_all (by kernel_rfl) (fun i v W => match i with | 0 => v = .pointer (some ⟨lb, 0, none⟩) | 1 => v = .pointer (some ⟨lb, 0, none⟩) | 2 => v = .pointer (some ⟨lb, 0, none⟩) | 3 => v = .pointer (some ⟨lb, 7, none⟩) | 4 => v = .int .i64 l.next ∨ v = .int .i64 l1.next | 5 => v = .pointer (some ⟨bx, 11, none⟩) | 6 => v = .pointer (some ⟨bx, 11, none⟩) | 7 => v = .int .i64 m.atN | 8 => v = .int .i64 l1.next | 9 => v = .pointer (some ⟨lb, 0, none⟩) | 10 => v = .pointer (some ⟨lb, 7, none⟩) | 11 => LaneIs W S lb l1 | _ => True) (fun W => Tk2 w0 W S lb bx l l1 m A n cap os) (fun W W' => Turn lb W W' ∧ (LaneIs W S lb l1 → LaneIs W' S lb l1)) (by kernel_rfl) ?hG ?hmono ?hstep ?hend
  case hG => exact HT.out.drew.two
  case hmono =>
    intro i v W W' hx hv
    match i with
    | 11 =>
      exact hx.2 hv
    | 0 | 1 | 2 | 3 | 4 | 5 | 6 | 7 | 8 | 9 | 10 => exact hv
    | i + 12 => exact hv
  case hstep =>
    intro i o F U W ho hGW hat hoff hp
    have hrefl := fun W : World => (⟨Turn.refl _ _, fun h => h⟩ : Turn lb W W ∧ (LaneIs W S lb l1 → LaneIs W S lb l1))
    match i with
      | 0 =>
        injection (show some _ = some o from ho) with ho
        subst ho
        refine on_ (wanted_none rfl) ?_
        have e0 : F.eval (.tmp 0) = .pointer (some ⟨lb, 0, none⟩) := (hoff 0 (of_decide_eq_true (by kernel_rfl))).trans rfl
        exact wp_move' (.tmp 0) rfl ⟨_, rfl, e0, hGW, hrefl W⟩
      | 1 =>
        injection (show some _ = some o from ho) with ho
        subst ho
        refine on_ (wanted_none rfl) ?_
        have e0 : F.eval (.tmp 0) = .pointer (some ⟨lb, 0, none⟩) := (hoff 0 (of_decide_eq_true (by kernel_rfl))).trans rfl
        exact wp_move' (.tmp 0) rfl ⟨_, rfl, e0, hGW, hrefl W⟩
      | 2 =>
        injection (show some _ = some o from ho) with ho
        subst ho
        refine on_ (wanted_none rfl) ?_
        have e69 : F.eval (.tmp 69) = .pointer (some ⟨lb, 0, none⟩) := (hat 1 69 (of_decide_eq_true (by kernel_rfl)) rfl).trans (hp ⟨1, .data⟩ (by simp) rfl : U 1 = .pointer (some ⟨lb, 0, none⟩))
        have t69 := act_tmp e69
        clear hat hoff hp
        exact wp_value' (.pointer (some ⟨lb, 0, none⟩)) W (by unfold execOp; go_simp) ⟨_, rfl, rfl, hGW, hrefl W⟩
      | 3 =>
        injection (show some _ = some o from ho) with ho
        subst ho
        refine on_ (wanted_none rfl) ?_
        have e70 : F.eval (.tmp 70) = .pointer (some ⟨lb, 0, none⟩) := (hat 2 70 (of_decide_eq_true (by kernel_rfl)) rfl).trans (hp ⟨2, .data⟩ (by simp) rfl : U 2 = .pointer (some ⟨lb, 0, none⟩))
        have t70 := act_tmp e70
        clear hat hoff hp
        exact wp_value' (.pointer (some ⟨lb, 7, none⟩)) W (by unfold execOp; go_simp) ⟨_, rfl, rfl, hGW, hrefl W⟩
      | 4 =>
        injection (show some _ = some o from ho) with ho
        subst ho
        refine on_ (wanted_none rfl) ?_
        have e71 : F.eval (.tmp 71) = .pointer (some ⟨lb, 7, none⟩) := (hat 3 71 (of_decide_eq_true (by kernel_rfl)) rfl).trans (hp ⟨3, .data⟩ (by simp) rfl : U 3 = .pointer (some ⟨lb, 7, none⟩))
        have t71 := act_tmp e71
        clear hat hoff hp
        rcases hGW.lane with ⟨oA, on, oc, kl, ki⟩ | ⟨oA, on, oc, kl, ki⟩
        · have c7 := kl.cell 7
          simp at c7
          exact wp_value' (.int .i64 l.next) W (by unfold execOp; go_simp) ⟨_, rfl, .inl rfl, hGW, hrefl W⟩
        · have c7 := kl.cell 7
          simp at c7
          exact wp_value' (.int .i64 l1.next) W (by unfold execOp; go_simp) ⟨_, rfl, .inr rfl, hGW, hrefl W⟩
      | 5 =>
        injection (show some _ = some o from ho) with ho
        subst ho
        refine on_ (wanted_none rfl) ?_
        have e4 : F.eval (.tmp 4) = .pointer (some ⟨bx, 0, none⟩) := (hoff 4 (of_decide_eq_true (by kernel_rfl))).trans rfl
        have t4 := act_tmp e4
        clear hat hoff hp
        exact wp_value' (.pointer (some ⟨bx, 11, none⟩)) W (by unfold execOp; go_simp) ⟨_, rfl, rfl, hGW, hrefl W⟩
      | 6 =>
        injection (show some _ = some o from ho) with ho
        subst ho
        refine on_ (wanted_none rfl) ?_
        have e73 : F.eval (.tmp 73) = .pointer (some ⟨bx, 11, none⟩) := (hat 5 73 (of_decide_eq_true (by kernel_rfl)) rfl).trans (hp ⟨5, .data⟩ (by simp) rfl : U 5 = .pointer (some ⟨bx, 11, none⟩))
        have t73 := act_tmp e73
        clear hat hoff hp
        exact wp_value' (.pointer (some ⟨bx, 11, none⟩)) W (by unfold execOp; go_simp) ⟨_, rfl, rfl, hGW, hrefl W⟩
      | 7 =>
        injection (show some _ = some o from ho) with ho
        subst ho
        refine on_ (wanted_none rfl) ?_
        have e74 : F.eval (.tmp 74) = .pointer (some ⟨bx, 11, none⟩) := (hat 6 74 (of_decide_eq_true (by kernel_rfl)) rfl).trans (hp ⟨6, .data⟩ (by simp) rfl : U 6 = .pointer (some ⟨bx, 11, none⟩))
        have t74 := act_tmp e74
        clear hat hoff hp
        obtain ⟨eA, en, ec, hA, hn', hc, oA, on, oc, pA, pn, pc, kb, ko⟩ := hGW.box
        have d0 := kb.cell 11
        simp at d0
        exact wp_value' (.int .i64 m.atN) W (by unfold execOp; go_simp) ⟨_, rfl, rfl, hGW, hrefl W⟩
      | 8 =>
        injection (show some _ = some o from ho) with ho
        subst ho
        refine on_ (wanted_none rfl) ?_
        have e72 := hat 4 72 (of_decide_eq_true (by kernel_rfl)) rfl
        have v72 := hp ⟨4, .data⟩ (by simp) rfl
        have e75 : F.eval (.tmp 75) = .int .i64 m.atN := (hat 7 75 (of_decide_eq_true (by kernel_rfl)) rfl).trans (hp ⟨7, .data⟩ (by simp) rfl : U 7 = .int .i64 m.atN)
        have t75 := act_tmp e75
        clear hat hoff hp
        rcases v72 with h72 | h72
        · rw [h72] at e72
          have t72 := act_tmp e72
          have q : (if m.atN > l.next then m.atN else l.next) = l1.next := by rw [HE.out]; show _ = max l.next m.atN; split <;> omega
          exact wp_value' (.int .i64 (if m.atN > l.next then m.atN else l.next)) W (by unfold execOp; go_simp) ⟨_, rfl, congrArg (Value.int .i64) q, hGW, hrefl W⟩
        · rw [h72] at e72
          have t72 := act_tmp e72
          have q : (if m.atN > l1.next then m.atN else l1.next) = l1.next := by rw [HE.out]; show (if m.atN > max l.next m.atN then m.atN else max l.next m.atN) = max l.next m.atN; split <;> omega
          exact wp_value' (.int .i64 (if m.atN > l1.next then m.atN else l1.next)) W (by unfold execOp; go_simp) ⟨_, rfl, congrArg (Value.int .i64) q, hGW, hrefl W⟩
      | 9 =>
        injection (show some _ = some o from ho) with ho
        subst ho
        refine on_ (wanted_none rfl) ?_
        have e68 : F.eval (.tmp 68) = .pointer (some ⟨lb, 0, none⟩) := (hat 0 68 (of_decide_eq_true (by kernel_rfl)) rfl).trans (hp ⟨0, .data⟩ (by simp) rfl : U 0 = .pointer (some ⟨lb, 0, none⟩))
        have t68 := act_tmp e68
        clear hat hoff hp
        exact wp_value' (.pointer (some ⟨lb, 0, none⟩)) W (by unfold execOp; go_simp) ⟨_, rfl, rfl, hGW, hrefl W⟩
      | 10 =>
        injection (show some _ = some o from ho) with ho
        subst ho
        refine on_ (wanted_none rfl) ?_
        have e77 : F.eval (.tmp 77) = .pointer (some ⟨lb, 0, none⟩) := (hat 9 77 (of_decide_eq_true (by kernel_rfl)) rfl).trans (hp ⟨9, .data⟩ (by simp) rfl : U 9 = .pointer (some ⟨lb, 0, none⟩))
        have t77 := act_tmp e77
        clear hat hoff hp
        exact wp_value' (.pointer (some ⟨lb, 7, none⟩)) W (by unfold execOp; go_simp) ⟨_, rfl, rfl, hGW, hrefl W⟩
      | 11 =>
        injection (show some _ = some o from ho) with ho
        subst ho
        refine on_ (wanted_none rfl) ?_
        have e78 : F.eval (.tmp 78) = .pointer (some ⟨lb, 7, none⟩) := (hat 10 78 (of_decide_eq_true (by kernel_rfl)) rfl).trans (hp ⟨10, .data⟩ (by simp) rfl : U 10 = .pointer (some ⟨lb, 7, none⟩))
        have t78 := act_tmp e78
        have e76 : F.eval (.tmp 76) = .int .i64 l1.next := (hat 8 76 (of_decide_eq_true (by kernel_rfl)) rfl).trans (hp ⟨8, .data⟩ (by simp) rfl : U 8 = .int .i64 l1.next)
        have t76 := act_tmp e76
        clear hat hoff hp
        have hnew : ∀ l0 : LaneC, l1 = { l0 with next := l1.next } → LaneIs W S lb l0 → LaneIs (W.setCell ⟨lb, 7, none⟩ (.int .i64 l1.next)) S lb l1 := by
          rintro l0 e0 ⟨oA, on, oc, kl, ki⟩
          have ht := setCell_turn lb 7 (.int .i64 l1.next) W
          rw [e0]
          exact ⟨oA, on, oc, kl.set_ 7 _, ki.kept ⟨ht.size, fun x h1 h2 => ht.1 x h2 (by rintro rfl; exact HL.out h1)⟩⟩
        have hl : LaneIs (W.setCell ⟨lb, 7, none⟩ (.int .i64 l1.next)) S lb l1 := by
          rcases hGW.lane with h | h
          · exact hnew l (by rw [HE.out]) h
          · exact hnew l1 rfl h
        have hc : ∃ x, W.cell? ⟨lb, 7, none⟩ = some (.int .i64 x) ∧ W.frozen? ⟨lb, 7, none⟩ = false := by
          rcases hGW.lane with ⟨oA, on, oc, kl, ki⟩ | ⟨oA, on, oc, kl, ki⟩ <;> exact ⟨_, kl.cell 7, kl.frozen 7⟩
        obtain ⟨x, c7, f7⟩ := hc
        refine wp_skip' (W.setCell ⟨lb, 7, none⟩ (.int .i64 l1.next)) (by unfold execOp; go_simp) ?_
        exact ⟨_, rfl, hl, hGW.turned HL.out (setCell_turn _ _ _ _) hl, setCell_turn _ _ _ _, fun _ => hl⟩
      | i + 12 => exact absurd ho (by simp)
  case hend =>
    intro U W hGW hV
    have hl1 : LaneIs W S lb l1 := hV 11 (of_decide_eq_true (by kernel_rfl))
    have hk := hGW.one hl1
    rw [HE.out] at hk
    clear hV hGW hl1
    simp [putU, dstAt, Act.put]
    exact HQ.out _ _ ⟨rfl, rfl, rfl, rfl, rfl, trivial⟩ hk

set_option maxRecDepth 100000 in
set_option maxHeartbeats 4000000 in
theorem take9 {w0 w : World} {S : Nat → Prop} {lb bx : Nat} {l : LaneC} {m : MailC} {A : Option Addr} {n cap : Nat} {os : List OpC} (Q : Exit → Act → World → Prop) (a : Act) (hL : ¬ S lb) (hU : ∀ b, w0.heap.size ≤ b → S b) (hfr : Fr 109 a [(0, .pointer (some ⟨lb, 0, none⟩)), (2, .slice A n cap), (4, .pointer (some ⟨bx, 0, none⟩))]) (h : Tk w0 w S lb bx l m A n cap os) (hn : n ≤ 4294967296)
    (hQ : ∀ a' w', Fr 109 a' [(0, .pointer (some ⟨lb, 0, none⟩)), (2, .slice A n cap), (4, .pointer (some ⟨bx, 0, none⟩)), (96, .bool (hasB os m.whN m.whE && decide (l.wN ≤ m.whN)))] → Tk w0 w' S lb bx l m A n cap os → Q .normal a' w') :
    (part [1, 1, 0, 0, 1, 1, 1, 0, 1, 0] (codeOf takeF)).wp Try.prog Q a w := by
  have HT := Lib.hid h
  have HQ := Lib.hid hQ
  have HL := Lib.hid hL
  have HU := Lib.hid hU
  clear h hQ hL hU
  obtain ⟨t, df⟩ := a
  obtain ⟨hd, hs, h0, h2, h4, -⟩ := hfr
  simp only at hd hs h0 h2 h4
  subst hd
  rw [eta109 t hs, h0, h2, h4]
  clear hs h0 h2 h4
  conv => arg 2; whnf
  cases hh : hasB os m.whN m.whE with
  | false =>
    have HH := Lib.hid hh
    clear hh
    refine wp_region_all (by kernel_rfl) (fun i v W => match i with | 0 => v = .slice A n cap | 1 => v = .pointer (some ⟨bx, 13, none⟩) | 2 => v = .agg #[.int .i64 m.whN, .int .i64 m.whE] | 3 => ∃ g, v = .slice (some ⟨g, 0, none⟩) 1 1 ∧ Blk W g 26 #[.int .i64 m.whN, .int .i64 m.whE] ∧ w.heap.size ≤ g | 4 => v = .bool false | 5 => v = .bool false | 6 => v = undef | 7 => v = undef | 8 => v = undef | 9 => v = undef | 10 => v = undef | 11 => v = undef | 12 => v = undef | 13 => v = undef | 14 => v = undef | 15 => v = undef | 16 => v = undef | 17 => v = .bool false | _ => True) (fun W => Tk w0 W S lb bx l m A n cap os ∧ Below w.heap.size w W) (fun W W' => Below W.heap.size W W') (by kernel_rfl) ?hG ?hmono ?hstep ?hend
    case hG => exact ⟨HT.out.drew, (Below.refl _ _).drew⟩
    case hmono =>
      intro i v W W' hx hv
      match i with
      | 3 =>
        obtain ⟨g, h1, h2, h3⟩ := hv
        exact ⟨g, h1, h2.below hx h2.lt, h3⟩
      | 0 | 1 | 2 | 4 | 5 | 6 | 7 | 8 | 9 | 10 | 11 | 12 | 13 | 14 | 15 | 16 | 17 => exact hv
      | i + 18 => exact hv
    case hstep =>
      intro i o F U W ho hGW hat hoff hp
      have hrefl := fun W : World => Below.refl W.heap.size W
      match i with
        | 0 =>
          injection (show some _ = some o from ho) with ho
          subst ho
          refine on_ (wanted_none rfl) ?_
          have e2 : F.eval (.tmp 2) = .slice A n cap := (hoff 2 (of_decide_eq_true (by kernel_rfl))).trans rfl
          exact wp_move' (.tmp 2) rfl ⟨_, rfl, e2, hGW, hrefl W⟩
        | 1 =>
          injection (show some _ = some o from ho) with ho
          subst ho
          refine on_ (wanted_none rfl) ?_
          have e4 : F.eval (.tmp 4) = .pointer (some ⟨bx, 0, none⟩) := (hoff 4 (of_decide_eq_true (by kernel_rfl))).trans rfl
          have t4 := act_tmp e4
          clear hat hoff hp
          exact wp_value' (.pointer (some ⟨bx, 13, none⟩)) W (by unfold execOp; go_simp) ⟨_, rfl, rfl, hGW, hrefl W⟩
        | 2 =>
          injection (show some _ = some o from ho) with ho
          subst ho
          refine on_ (wanted_none rfl) ?_
          have e80 : F.eval (.tmp 80) = .pointer (some ⟨bx, 13, none⟩) := (hat 1 80 (of_decide_eq_true (by kernel_rfl)) rfl).trans (hp ⟨1, .data⟩ (by simp) rfl : U 1 = .pointer (some ⟨bx, 13, none⟩))
          have t80 := act_tmp e80
          clear hat hoff hp
          obtain ⟨eA, en, ec, hA, hn', hc, oA, on, oc, pA, pn, pc, kb, ko⟩ := hGW.1.box
          have d0 := kb.cell 13
          have d1 := kb.cell 14
          simp at d0 d1
          exact wp_value' (.agg #[.int .i64 m.whN, .int .i64 m.whE]) W (by unfold execOp; go_simp) ⟨_, rfl, rfl, hGW, hrefl W⟩
        | 3 =>
          injection (show some _ = some o from ho) with ho
          subst ho
          refine on_ (wanted_none rfl) ?_
          have e81 : F.eval (.tmp 81) = .agg #[.int .i64 m.whN, .int .i64 m.whE] := (hat 2 81 (of_decide_eq_true (by kernel_rfl)) rfl).trans (hp ⟨2, .data⟩ (by simp) rfl : U 2 = .agg #[.int .i64 m.whN, .int .i64 m.whE])
          have t81 := act_tmp e81
          clear hat hoff hp
          exact wp_value' (.slice (some ⟨W.heap.size, 0, none⟩) 1 1) (W.alloc (.cells #[.int .i64 m.whN, .int .i64 m.whE] 26)) (by unfold execOp; go_simp) ⟨_, rfl, ⟨_, rfl, Blk.new _ _ _, hGW.2.size⟩, ⟨hGW.1.below ((Below.refl _ _).alloc (Nat.le_refl _) _), hGW.2.alloc hGW.2.size _⟩, (Below.refl _ _).alloc (Nat.le_refl _) _⟩
        | 4 =>
          injection (show some _ = some o from ho) with ho
          subst ho
          refine on_ (wanted_none rfl) ?_
          have e79 : F.eval (.tmp 79) = .slice A n cap := (hat 0 79 (of_decide_eq_true (by kernel_rfl)) rfl).trans (hp ⟨0, .data⟩ (by simp) rfl : U 0 = .slice A n cap)
          have t79 := act_tmp e79
          have e82 := hat 3 82 (of_decide_eq_true (by kernel_rfl)) rfl
          have v82 := hp ⟨3, .data⟩ (by simp) rfl
          clear hat hoff hp
          obtain ⟨g, hg, hgb, hge⟩ := v82
          rw [hg] at e82
          have t82 := act_tmp e82
          refine wp_enter' 54 #[.slice A n cap, .slice (some ⟨g, 0, none⟩) 1 1] (by unfold execOp; go_simp) ?_
          refine (has_any os W hGW.1.ops hn hgb).mono ?_
          rintro e W' ⟨rfl, hb⟩
          rw [HH.out]
          exact ⟨_, rfl, _, rfl, rfl, ⟨hGW.1.below hb, hGW.2.trans (hb.mono hGW.2.size)⟩, hb⟩
        | 5 =>
          injection (show some _ = some o from ho) with ho
          subst ho
          refine on_ (wanted_none rfl) ?_
          have e83 : F.eval (.tmp 83) = .bool false := (hat 4 83 (of_decide_eq_true (by kernel_rfl)) rfl).trans (hp ⟨4, .data⟩ (by simp) rfl : U 4 = .bool false)
          exact wp_move' (.tmp 83) rfl ⟨_, rfl, e83, hGW, hrefl W⟩
        | 6 =>
          injection (show some _ = some o from ho) with ho
          subst ho
          have eg : F.eval (.tmp 84) = .bool false := (hat 5 84 (of_decide_eq_true (by kernel_rfl)) rfl).trans (hp ⟨5, .guard⟩ (by simp) rfl : U 5 = .bool false)
          exact off_ (W := W) ((wanted_by rfl rfl eg).trans rfl) rfl
        | 7 =>
          injection (show some _ = some o from ho) with ho
          subst ho
          have eg : F.eval (.tmp 84) = .bool false := (hat 5 84 (of_decide_eq_true (by kernel_rfl)) rfl).trans (hp ⟨5, .guard⟩ (by simp) rfl : U 5 = .bool false)
          exact off_ (W := W) ((wanted_by rfl rfl eg).trans rfl) rfl
        | 8 =>
          injection (show some _ = some o from ho) with ho
          subst ho
          have eg : F.eval (.tmp 84) = .bool false := (hat 5 84 (of_decide_eq_true (by kernel_rfl)) rfl).trans (hp ⟨5, .guard⟩ (by simp) rfl : U 5 = .bool false)
          exact off_ (W := W) ((wanted_by rfl rfl eg).trans rfl) rfl
        | 9 =>
          injection (show some _ = some o from ho) with ho
          subst ho
          have eg : F.eval (.tmp 84) = .bool false := (hat 5 84 (of_decide_eq_true (by kernel_rfl)) rfl).trans (hp ⟨5, .guard⟩ (by simp) rfl : U 5 = .bool false)
          exact off_ (W := W) ((wanted_by rfl rfl eg).trans rfl) rfl
        | 10 =>
          injection (show some _ = some o from ho) with ho
          subst ho
          have eg : F.eval (.tmp 84) = .bool false := (hat 5 84 (of_decide_eq_true (by kernel_rfl)) rfl).trans (hp ⟨5, .guard⟩ (by simp) rfl : U 5 = .bool false)
          exact off_ (W := W) ((wanted_by rfl rfl eg).trans rfl) rfl
        | 11 =>
          injection (show some _ = some o from ho) with ho
          subst ho
          have eg : F.eval (.tmp 84) = .bool false := (hat 5 84 (of_decide_eq_true (by kernel_rfl)) rfl).trans (hp ⟨5, .guard⟩ (by simp) rfl : U 5 = .bool false)
          exact off_ (W := W) ((wanted_by rfl rfl eg).trans rfl) rfl
        | 12 =>
          injection (show some _ = some o from ho) with ho
          subst ho
          have eg : F.eval (.tmp 84) = .bool false := (hat 5 84 (of_decide_eq_true (by kernel_rfl)) rfl).trans (hp ⟨5, .guard⟩ (by simp) rfl : U 5 = .bool false)
          exact off_ (W := W) ((wanted_by rfl rfl eg).trans rfl) rfl
        | 13 =>
          injection (show some _ = some o from ho) with ho
          subst ho
          have eg : F.eval (.tmp 84) = .bool false := (hat 5 84 (of_decide_eq_true (by kernel_rfl)) rfl).trans (hp ⟨5, .guard⟩ (by simp) rfl : U 5 = .bool false)
          exact off_ (W := W) ((wanted_by rfl rfl eg).trans rfl) rfl
        | 14 =>
          injection (show some _ = some o from ho) with ho
          subst ho
          have eg : F.eval (.tmp 84) = .bool false := (hat 5 84 (of_decide_eq_true (by kernel_rfl)) rfl).trans (hp ⟨5, .guard⟩ (by simp) rfl : U 5 = .bool false)
          exact off_ (W := W) ((wanted_by rfl rfl eg).trans rfl) rfl
        | 15 =>
          injection (show some _ = some o from ho) with ho
          subst ho
          have eg : F.eval (.tmp 84) = .bool false := (hat 5 84 (of_decide_eq_true (by kernel_rfl)) rfl).trans (hp ⟨5, .guard⟩ (by simp) rfl : U 5 = .bool false)
          exact off_ (W := W) ((wanted_by rfl rfl eg).trans rfl) rfl
        | 16 =>
          injection (show some _ = some o from ho) with ho
          subst ho
          have eg : F.eval (.tmp 84) = .bool false := (hat 5 84 (of_decide_eq_true (by kernel_rfl)) rfl).trans (hp ⟨5, .guard⟩ (by simp) rfl : U 5 = .bool false)
          exact off_ (W := W) ((wanted_by rfl rfl eg).trans rfl) rfl
        | 17 =>
          injection (show some _ = some o from ho) with ho
          subst ho
          refine on_ (wanted_none rfl) ?_
          have e84 : F.eval (.tmp 84) = .bool false := (hat 5 84 (of_decide_eq_true (by kernel_rfl)) rfl).trans (hp ⟨5, .data⟩ (by simp) rfl : U 5 = .bool false)
          have t84 := act_tmp e84
          have e95 : F.eval (.tmp 95) = undef := (hat 16 95 (of_decide_eq_true (by kernel_rfl)) rfl).trans (hp ⟨16, .data⟩ (by simp) rfl : U 16 = undef)
          have t95 := act_tmp e95
          clear hat hoff hp
          exact wp_value' (.bool false) W (by unfold execOp; go_simp) ⟨_, rfl, rfl, hGW, hrefl W⟩
        | i + 18 => exact absurd ho (by simp)
    case hend =>
      intro U W hGW hV
      have h96 : U 17 = .bool false := hV 17 (of_decide_eq_true (by kernel_rfl))
      have hk := hGW.1
      clear hV hGW
      simp [putU, dstAt, Act.put, h96]
      exact HQ.out _ _ ⟨rfl, rfl, rfl, rfl, rfl, by first | (rw [HH.out]; rfl) | (rw [HH.out, d1]; rfl), trivial⟩ hk
  | true =>
    have HH := Lib.hid hh
    clear hh
    by_cases hw : l.wN ≤ m.whN
    · have d1 : decide (l.wN ≤ m.whN) = true := decide_eq_true hw
      clear hw
      refine wp_region_all (by kernel_rfl) (fun i v W => match i with | 0 => v = .slice A n cap | 1 => v = .pointer (some ⟨bx, 13, none⟩) | 2 => v = .agg #[.int .i64 m.whN, .int .i64 m.whE] | 3 => ∃ g, v = .slice (some ⟨g, 0, none⟩) 1 1 ∧ Blk W g 26 #[.int .i64 m.whN, .int .i64 m.whE] ∧ w.heap.size ≤ g | 4 => v = .bool true | 5 => v = .bool true | 6 => v = .pointer (some ⟨bx, 13, none⟩) | 7 => v = .pointer (some ⟨bx, 13, none⟩) | 8 => v = .int .i64 m.whN | 9 => v = .pointer (some ⟨lb, 0, none⟩) | 10 => v = .pointer (some ⟨lb, 0, none⟩) | 11 => v = .pointer (some ⟨lb, 0, none⟩) | 12 => v = .pointer (some ⟨lb, 2, none⟩) | 13 => v = .pointer (some ⟨lb, 2, none⟩) | 14 => v = .pointer (some ⟨lb, 2, none⟩) | 15 => v = .int .i64 l.wN | 16 => v = .bool true | 17 => v = .bool true | _ => True) (fun W => Tk w0 W S lb bx l m A n cap os ∧ Below w.heap.size w W) (fun W W' => Below W.heap.size W W') (by kernel_rfl) ?hG ?hmono ?hstep ?hend
      case hG => exact ⟨HT.out.drew, (Below.refl _ _).drew⟩
      case hmono =>
        intro i v W W' hx hv
        match i with
        | 3 =>
          obtain ⟨g, h1, h2, h3⟩ := hv
          exact ⟨g, h1, h2.below hx h2.lt, h3⟩
        | 0 | 1 | 2 | 4 | 5 | 6 | 7 | 8 | 9 | 10 | 11 | 12 | 13 | 14 | 15 | 16 | 17 => exact hv
        | i + 18 => exact hv
      case hstep =>
        intro i o F U W ho hGW hat hoff hp
        have hrefl := fun W : World => Below.refl W.heap.size W
        match i with
          | 0 =>
            injection (show some _ = some o from ho) with ho
            subst ho
            refine on_ (wanted_none rfl) ?_
            have e2 : F.eval (.tmp 2) = .slice A n cap := (hoff 2 (of_decide_eq_true (by kernel_rfl))).trans rfl
            exact wp_move' (.tmp 2) rfl ⟨_, rfl, e2, hGW, hrefl W⟩
          | 1 =>
            injection (show some _ = some o from ho) with ho
            subst ho
            refine on_ (wanted_none rfl) ?_
            have e4 : F.eval (.tmp 4) = .pointer (some ⟨bx, 0, none⟩) := (hoff 4 (of_decide_eq_true (by kernel_rfl))).trans rfl
            have t4 := act_tmp e4
            clear hat hoff hp
            exact wp_value' (.pointer (some ⟨bx, 13, none⟩)) W (by unfold execOp; go_simp) ⟨_, rfl, rfl, hGW, hrefl W⟩
          | 2 =>
            injection (show some _ = some o from ho) with ho
            subst ho
            refine on_ (wanted_none rfl) ?_
            have e80 : F.eval (.tmp 80) = .pointer (some ⟨bx, 13, none⟩) := (hat 1 80 (of_decide_eq_true (by kernel_rfl)) rfl).trans (hp ⟨1, .data⟩ (by simp) rfl : U 1 = .pointer (some ⟨bx, 13, none⟩))
            have t80 := act_tmp e80
            clear hat hoff hp
            obtain ⟨eA, en, ec, hA, hn', hc, oA, on, oc, pA, pn, pc, kb, ko⟩ := hGW.1.box
            have d0 := kb.cell 13
            have d1 := kb.cell 14
            simp at d0 d1
            exact wp_value' (.agg #[.int .i64 m.whN, .int .i64 m.whE]) W (by unfold execOp; go_simp) ⟨_, rfl, rfl, hGW, hrefl W⟩
          | 3 =>
            injection (show some _ = some o from ho) with ho
            subst ho
            refine on_ (wanted_none rfl) ?_
            have e81 : F.eval (.tmp 81) = .agg #[.int .i64 m.whN, .int .i64 m.whE] := (hat 2 81 (of_decide_eq_true (by kernel_rfl)) rfl).trans (hp ⟨2, .data⟩ (by simp) rfl : U 2 = .agg #[.int .i64 m.whN, .int .i64 m.whE])
            have t81 := act_tmp e81
            clear hat hoff hp
            exact wp_value' (.slice (some ⟨W.heap.size, 0, none⟩) 1 1) (W.alloc (.cells #[.int .i64 m.whN, .int .i64 m.whE] 26)) (by unfold execOp; go_simp) ⟨_, rfl, ⟨_, rfl, Blk.new _ _ _, hGW.2.size⟩, ⟨hGW.1.below ((Below.refl _ _).alloc (Nat.le_refl _) _), hGW.2.alloc hGW.2.size _⟩, (Below.refl _ _).alloc (Nat.le_refl _) _⟩
          | 4 =>
            injection (show some _ = some o from ho) with ho
            subst ho
            refine on_ (wanted_none rfl) ?_
            have e79 : F.eval (.tmp 79) = .slice A n cap := (hat 0 79 (of_decide_eq_true (by kernel_rfl)) rfl).trans (hp ⟨0, .data⟩ (by simp) rfl : U 0 = .slice A n cap)
            have t79 := act_tmp e79
            have e82 := hat 3 82 (of_decide_eq_true (by kernel_rfl)) rfl
            have v82 := hp ⟨3, .data⟩ (by simp) rfl
            clear hat hoff hp
            obtain ⟨g, hg, hgb, hge⟩ := v82
            rw [hg] at e82
            have t82 := act_tmp e82
            refine wp_enter' 54 #[.slice A n cap, .slice (some ⟨g, 0, none⟩) 1 1] (by unfold execOp; go_simp) ?_
            refine (has_any os W hGW.1.ops hn hgb).mono ?_
            rintro e W' ⟨rfl, hb⟩
            rw [HH.out]
            exact ⟨_, rfl, _, rfl, rfl, ⟨hGW.1.below hb, hGW.2.trans (hb.mono hGW.2.size)⟩, hb⟩
          | 5 =>
            injection (show some _ = some o from ho) with ho
            subst ho
            refine on_ (wanted_none rfl) ?_
            have e83 : F.eval (.tmp 83) = .bool true := (hat 4 83 (of_decide_eq_true (by kernel_rfl)) rfl).trans (hp ⟨4, .data⟩ (by simp) rfl : U 4 = .bool true)
            exact wp_move' (.tmp 83) rfl ⟨_, rfl, e83, hGW, hrefl W⟩
          | 6 =>
            injection (show some _ = some o from ho) with ho
            subst ho
            have eg : F.eval (.tmp 84) = .bool true := (hat 5 84 (of_decide_eq_true (by kernel_rfl)) rfl).trans (hp ⟨5, .guard⟩ (by simp) rfl : U 5 = .bool true)
            refine on_ ((wanted_by rfl rfl eg).trans rfl) ?_
            have e4 : F.eval (.tmp 4) = .pointer (some ⟨bx, 0, none⟩) := (hoff 4 (of_decide_eq_true (by kernel_rfl))).trans rfl
            have t4 := act_tmp e4
            clear hat hoff hp
            exact wp_value' (.pointer (some ⟨bx, 13, none⟩)) W (by unfold execOp; go_simp) ⟨_, rfl, rfl, hGW, hrefl W⟩
          | 7 =>
            injection (show some _ = some o from ho) with ho
            subst ho
            have eg : F.eval (.tmp 84) = .bool true := (hat 5 84 (of_decide_eq_true (by kernel_rfl)) rfl).trans (hp ⟨5, .guard⟩ (by simp) rfl : U 5 = .bool true)
            refine on_ ((wanted_by rfl rfl eg).trans rfl) ?_
            have e85 : F.eval (.tmp 85) = .pointer (some ⟨bx, 13, none⟩) := (hat 6 85 (of_decide_eq_true (by kernel_rfl)) rfl).trans (hp ⟨6, .data⟩ (by simp) rfl : U 6 = .pointer (some ⟨bx, 13, none⟩))
            have t85 := act_tmp e85
            clear hat hoff hp
            exact wp_value' (.pointer (some ⟨bx, 13, none⟩)) W (by unfold execOp; go_simp) ⟨_, rfl, rfl, hGW, hrefl W⟩
          | 8 =>
            injection (show some _ = some o from ho) with ho
            subst ho
            have eg : F.eval (.tmp 84) = .bool true := (hat 5 84 (of_decide_eq_true (by kernel_rfl)) rfl).trans (hp ⟨5, .guard⟩ (by simp) rfl : U 5 = .bool true)
            refine on_ ((wanted_by rfl rfl eg).trans rfl) ?_
            have e86 : F.eval (.tmp 86) = .pointer (some ⟨bx, 13, none⟩) := (hat 7 86 (of_decide_eq_true (by kernel_rfl)) rfl).trans (hp ⟨7, .data⟩ (by simp) rfl : U 7 = .pointer (some ⟨bx, 13, none⟩))
            have t86 := act_tmp e86
            clear hat hoff hp
            obtain ⟨eA, en, ec, hA, hn', hc, oA, on, oc, pA, pn, pc, kb, ko⟩ := hGW.1.box
            have d0 := kb.cell 13
            simp at d0
            exact wp_value' (.int .i64 m.whN) W (by unfold execOp; go_simp) ⟨_, rfl, rfl, hGW, hrefl W⟩
          | 9 =>
            injection (show some _ = some o from ho) with ho
            subst ho
            have eg : F.eval (.tmp 84) = .bool true := (hat 5 84 (of_decide_eq_true (by kernel_rfl)) rfl).trans (hp ⟨5, .guard⟩ (by simp) rfl : U 5 = .bool true)
            refine on_ ((wanted_by rfl rfl eg).trans rfl) ?_
            have e0 : F.eval (.tmp 0) = .pointer (some ⟨lb, 0, none⟩) := (hoff 0 (of_decide_eq_true (by kernel_rfl))).trans rfl
            exact wp_move' (.tmp 0) rfl ⟨_, rfl, e0, hGW, hrefl W⟩
          | 10 =>
            injection (show some _ = some o from ho) with ho
            subst ho
            have eg : F.eval (.tmp 84) = .bool true := (hat 5 84 (of_decide_eq_true (by kernel_rfl)) rfl).trans (hp ⟨5, .guard⟩ (by simp) rfl : U 5 = .bool true)
            refine on_ ((wanted_by rfl rfl eg).trans rfl) ?_
            have e88 : F.eval (.tmp 88) = .pointer (some ⟨lb, 0, none⟩) := (hat 9 88 (of_decide_eq_true (by kernel_rfl)) rfl).trans (hp ⟨9, .data⟩ (by simp) rfl : U 9 = .pointer (some ⟨lb, 0, none⟩))
            have t88 := act_tmp e88
            clear hat hoff hp
            exact wp_value' (.pointer (some ⟨lb, 0, none⟩)) W (by unfold execOp; go_simp) ⟨_, rfl, rfl, hGW, hrefl W⟩
          | 11 =>
            injection (show some _ = some o from ho) with ho
            subst ho
            have eg : F.eval (.tmp 84) = .bool true := (hat 5 84 (of_decide_eq_true (by kernel_rfl)) rfl).trans (hp ⟨5, .guard⟩ (by simp) rfl : U 5 = .bool true)
            refine on_ ((wanted_by rfl rfl eg).trans rfl) ?_
            have e89 : F.eval (.tmp 89) = .pointer (some ⟨lb, 0, none⟩) := (hat 10 89 (of_decide_eq_true (by kernel_rfl)) rfl).trans (hp ⟨10, .data⟩ (by simp) rfl : U 10 = .pointer (some ⟨lb, 0, none⟩))
            have t89 := act_tmp e89
            clear hat hoff hp
            exact wp_value' (.pointer (some ⟨lb, 0, none⟩)) W (by unfold execOp; go_simp) ⟨_, rfl, rfl, hGW, hrefl W⟩
          | 12 =>
            injection (show some _ = some o from ho) with ho
            subst ho
            have eg : F.eval (.tmp 84) = .bool true := (hat 5 84 (of_decide_eq_true (by kernel_rfl)) rfl).trans (hp ⟨5, .guard⟩ (by simp) rfl : U 5 = .bool true)
            refine on_ ((wanted_by rfl rfl eg).trans rfl) ?_
            have e90 : F.eval (.tmp 90) = .pointer (some ⟨lb, 0, none⟩) := (hat 11 90 (of_decide_eq_true (by kernel_rfl)) rfl).trans (hp ⟨11, .data⟩ (by simp) rfl : U 11 = .pointer (some ⟨lb, 0, none⟩))
            have t90 := act_tmp e90
            clear hat hoff hp
            exact wp_value' (.pointer (some ⟨lb, 2, none⟩)) W (by unfold execOp; go_simp) ⟨_, rfl, rfl, hGW, hrefl W⟩
          | 13 =>
            injection (show some _ = some o from ho) with ho
            subst ho
            have eg : F.eval (.tmp 84) = .bool true := (hat 5 84 (of_decide_eq_true (by kernel_rfl)) rfl).trans (hp ⟨5, .guard⟩ (by simp) rfl : U 5 = .bool true)
            refine on_ ((wanted_by rfl rfl eg).trans rfl) ?_
            have e91 : F.eval (.tmp 91) = .pointer (some ⟨lb, 2, none⟩) := (hat 12 91 (of_decide_eq_true (by kernel_rfl)) rfl).trans (hp ⟨12, .data⟩ (by simp) rfl : U 12 = .pointer (some ⟨lb, 2, none⟩))
            have t91 := act_tmp e91
            clear hat hoff hp
            exact wp_value' (.pointer (some ⟨lb, 2, none⟩)) W (by unfold execOp; go_simp) ⟨_, rfl, rfl, hGW, hrefl W⟩
          | 14 =>
            injection (show some _ = some o from ho) with ho
            subst ho
            have eg : F.eval (.tmp 84) = .bool true := (hat 5 84 (of_decide_eq_true (by kernel_rfl)) rfl).trans (hp ⟨5, .guard⟩ (by simp) rfl : U 5 = .bool true)
            refine on_ ((wanted_by rfl rfl eg).trans rfl) ?_
            have e92 : F.eval (.tmp 92) = .pointer (some ⟨lb, 2, none⟩) := (hat 13 92 (of_decide_eq_true (by kernel_rfl)) rfl).trans (hp ⟨13, .data⟩ (by simp) rfl : U 13 = .pointer (some ⟨lb, 2, none⟩))
            have t92 := act_tmp e92
            clear hat hoff hp
            exact wp_value' (.pointer (some ⟨lb, 2, none⟩)) W (by unfold execOp; go_simp) ⟨_, rfl, rfl, hGW, hrefl W⟩
          | 15 =>
            injection (show some _ = some o from ho) with ho
            subst ho
            have eg : F.eval (.tmp 84) = .bool true := (hat 5 84 (of_decide_eq_true (by kernel_rfl)) rfl).trans (hp ⟨5, .guard⟩ (by simp) rfl : U 5 = .bool true)
            refine on_ ((wanted_by rfl rfl eg).trans rfl) ?_
            have e93 : F.eval (.tmp 93) = .pointer (some ⟨lb, 2, none⟩) := (hat 14 93 (of_decide_eq_true (by kernel_rfl)) rfl).trans (hp ⟨14, .data⟩ (by simp) rfl : U 14 = .pointer (some ⟨lb, 2, none⟩))
            have t93 := act_tmp e93
            clear hat hoff hp
            obtain ⟨oA, on, oc, kl, ki⟩ := hGW.1.lane
            have c2 := kl.cell 2
            simp at c2
            exact wp_value' (.int .i64 l.wN) W (by unfold execOp; go_simp) ⟨_, rfl, rfl, hGW, hrefl W⟩
          | 16 =>
            injection (show some _ = some o from ho) with ho
            subst ho
            have eg : F.eval (.tmp 84) = .bool true := (hat 5 84 (of_decide_eq_true (by kernel_rfl)) rfl).trans (hp ⟨5, .guard⟩ (by simp) rfl : U 5 = .bool true)
            refine on_ ((wanted_by rfl rfl eg).trans rfl) ?_
            have e87 : F.eval (.tmp 87) = .int .i64 m.whN := (hat 8 87 (of_decide_eq_true (by kernel_rfl)) rfl).trans (hp ⟨8, .data⟩ (by simp) rfl : U 8 = .int .i64 m.whN)
            have t87 := act_tmp e87
            have e94 : F.eval (.tmp 94) = .int .i64 l.wN := (hat 15 94 (of_decide_eq_true (by kernel_rfl)) rfl).trans (hp ⟨15, .data⟩ (by simp) rfl : U 15 = .int .i64 l.wN)
            have t94 := act_tmp e94
            clear hat hoff hp
            exact wp_value' (.bool true) W (by unfold execOp; go_simp) ⟨_, rfl, rfl, hGW, hrefl W⟩
          | 17 =>
            injection (show some _ = some o from ho) with ho
            subst ho
            refine on_ (wanted_none rfl) ?_
            have e84 : F.eval (.tmp 84) = .bool true := (hat 5 84 (of_decide_eq_true (by kernel_rfl)) rfl).trans (hp ⟨5, .data⟩ (by simp) rfl : U 5 = .bool true)
            have t84 := act_tmp e84
            have e95 : F.eval (.tmp 95) = .bool true := (hat 16 95 (of_decide_eq_true (by kernel_rfl)) rfl).trans (hp ⟨16, .data⟩ (by simp) rfl : U 16 = .bool true)
            have t95 := act_tmp e95
            clear hat hoff hp
            exact wp_value' (.bool true) W (by unfold execOp; go_simp) ⟨_, rfl, rfl, hGW, hrefl W⟩
          | i + 18 => exact absurd ho (by simp)
      case hend =>
        intro U W hGW hV
        have h96 : U 17 = .bool true := hV 17 (of_decide_eq_true (by kernel_rfl))
        have hk := hGW.1
        clear hV hGW
        simp [putU, dstAt, Act.put, h96]
        exact HQ.out _ _ ⟨rfl, rfl, rfl, rfl, rfl, by first | (rw [HH.out]; rfl) | (rw [HH.out, d1]; rfl), trivial⟩ hk
    · have d1 : decide (l.wN ≤ m.whN) = false := decide_eq_false hw
      clear hw
      refine wp_region_all (by kernel_rfl) (fun i v W => match i with | 0 => v = .slice A n cap | 1 => v = .pointer (some ⟨bx, 13, none⟩) | 2 => v = .agg #[.int .i64 m.whN, .int .i64 m.whE] | 3 => ∃ g, v = .slice (some ⟨g, 0, none⟩) 1 1 ∧ Blk W g 26 #[.int .i64 m.whN, .int .i64 m.whE] ∧ w.heap.size ≤ g | 4 => v = .bool true | 5 => v = .bool true | 6 => v = .pointer (some ⟨bx, 13, none⟩) | 7 => v = .pointer (some ⟨bx, 13, none⟩) | 8 => v = .int .i64 m.whN | 9 => v = .pointer (some ⟨lb, 0, none⟩) | 10 => v = .pointer (some ⟨lb, 0, none⟩) | 11 => v = .pointer (some ⟨lb, 0, none⟩) | 12 => v = .pointer (some ⟨lb, 2, none⟩) | 13 => v = .pointer (some ⟨lb, 2, none⟩) | 14 => v = .pointer (some ⟨lb, 2, none⟩) | 15 => v = .int .i64 l.wN | 16 => v = .bool false | 17 => v = .bool false | _ => True) (fun W => Tk w0 W S lb bx l m A n cap os ∧ Below w.heap.size w W) (fun W W' => Below W.heap.size W W') (by kernel_rfl) ?hG ?hmono ?hstep ?hend
      case hG => exact ⟨HT.out.drew, (Below.refl _ _).drew⟩
      case hmono =>
        intro i v W W' hx hv
        match i with
        | 3 =>
          obtain ⟨g, h1, h2, h3⟩ := hv
          exact ⟨g, h1, h2.below hx h2.lt, h3⟩
        | 0 | 1 | 2 | 4 | 5 | 6 | 7 | 8 | 9 | 10 | 11 | 12 | 13 | 14 | 15 | 16 | 17 => exact hv
        | i + 18 => exact hv
      case hstep =>
        intro i o F U W ho hGW hat hoff hp
        have hrefl := fun W : World => Below.refl W.heap.size W
        match i with
          | 0 =>
            injection (show some _ = some o from ho) with ho
            subst ho
            refine on_ (wanted_none rfl) ?_
            have e2 : F.eval (.tmp 2) = .slice A n cap := (hoff 2 (of_decide_eq_true (by kernel_rfl))).trans rfl
            exact wp_move' (.tmp 2) rfl ⟨_, rfl, e2, hGW, hrefl W⟩
          | 1 =>
            injection (show some _ = some o from ho) with ho
            subst ho
            refine on_ (wanted_none rfl) ?_
            have e4 : F.eval (.tmp 4) = .pointer (some ⟨bx, 0, none⟩) := (hoff 4 (of_decide_eq_true (by kernel_rfl))).trans rfl
            have t4 := act_tmp e4
            clear hat hoff hp
            exact wp_value' (.pointer (some ⟨bx, 13, none⟩)) W (by unfold execOp; go_simp) ⟨_, rfl, rfl, hGW, hrefl W⟩
          | 2 =>
            injection (show some _ = some o from ho) with ho
            subst ho
            refine on_ (wanted_none rfl) ?_
            have e80 : F.eval (.tmp 80) = .pointer (some ⟨bx, 13, none⟩) := (hat 1 80 (of_decide_eq_true (by kernel_rfl)) rfl).trans (hp ⟨1, .data⟩ (by simp) rfl : U 1 = .pointer (some ⟨bx, 13, none⟩))
            have t80 := act_tmp e80
            clear hat hoff hp
            obtain ⟨eA, en, ec, hA, hn', hc, oA, on, oc, pA, pn, pc, kb, ko⟩ := hGW.1.box
            have d0 := kb.cell 13
            have d1 := kb.cell 14
            simp at d0 d1
            exact wp_value' (.agg #[.int .i64 m.whN, .int .i64 m.whE]) W (by unfold execOp; go_simp) ⟨_, rfl, rfl, hGW, hrefl W⟩
          | 3 =>
            injection (show some _ = some o from ho) with ho
            subst ho
            refine on_ (wanted_none rfl) ?_
            have e81 : F.eval (.tmp 81) = .agg #[.int .i64 m.whN, .int .i64 m.whE] := (hat 2 81 (of_decide_eq_true (by kernel_rfl)) rfl).trans (hp ⟨2, .data⟩ (by simp) rfl : U 2 = .agg #[.int .i64 m.whN, .int .i64 m.whE])
            have t81 := act_tmp e81
            clear hat hoff hp
            exact wp_value' (.slice (some ⟨W.heap.size, 0, none⟩) 1 1) (W.alloc (.cells #[.int .i64 m.whN, .int .i64 m.whE] 26)) (by unfold execOp; go_simp) ⟨_, rfl, ⟨_, rfl, Blk.new _ _ _, hGW.2.size⟩, ⟨hGW.1.below ((Below.refl _ _).alloc (Nat.le_refl _) _), hGW.2.alloc hGW.2.size _⟩, (Below.refl _ _).alloc (Nat.le_refl _) _⟩
          | 4 =>
            injection (show some _ = some o from ho) with ho
            subst ho
            refine on_ (wanted_none rfl) ?_
            have e79 : F.eval (.tmp 79) = .slice A n cap := (hat 0 79 (of_decide_eq_true (by kernel_rfl)) rfl).trans (hp ⟨0, .data⟩ (by simp) rfl : U 0 = .slice A n cap)
            have t79 := act_tmp e79
            have e82 := hat 3 82 (of_decide_eq_true (by kernel_rfl)) rfl
            have v82 := hp ⟨3, .data⟩ (by simp) rfl
            clear hat hoff hp
            obtain ⟨g, hg, hgb, hge⟩ := v82
            rw [hg] at e82
            have t82 := act_tmp e82
            refine wp_enter' 54 #[.slice A n cap, .slice (some ⟨g, 0, none⟩) 1 1] (by unfold execOp; go_simp) ?_
            refine (has_any os W hGW.1.ops hn hgb).mono ?_
            rintro e W' ⟨rfl, hb⟩
            rw [HH.out]
            exact ⟨_, rfl, _, rfl, rfl, ⟨hGW.1.below hb, hGW.2.trans (hb.mono hGW.2.size)⟩, hb⟩
          | 5 =>
            injection (show some _ = some o from ho) with ho
            subst ho
            refine on_ (wanted_none rfl) ?_
            have e83 : F.eval (.tmp 83) = .bool true := (hat 4 83 (of_decide_eq_true (by kernel_rfl)) rfl).trans (hp ⟨4, .data⟩ (by simp) rfl : U 4 = .bool true)
            exact wp_move' (.tmp 83) rfl ⟨_, rfl, e83, hGW, hrefl W⟩
          | 6 =>
            injection (show some _ = some o from ho) with ho
            subst ho
            have eg : F.eval (.tmp 84) = .bool true := (hat 5 84 (of_decide_eq_true (by kernel_rfl)) rfl).trans (hp ⟨5, .guard⟩ (by simp) rfl : U 5 = .bool true)
            refine on_ ((wanted_by rfl rfl eg).trans rfl) ?_
            have e4 : F.eval (.tmp 4) = .pointer (some ⟨bx, 0, none⟩) := (hoff 4 (of_decide_eq_true (by kernel_rfl))).trans rfl
            have t4 := act_tmp e4
            clear hat hoff hp
            exact wp_value' (.pointer (some ⟨bx, 13, none⟩)) W (by unfold execOp; go_simp) ⟨_, rfl, rfl, hGW, hrefl W⟩
          | 7 =>
            injection (show some _ = some o from ho) with ho
            subst ho
            have eg : F.eval (.tmp 84) = .bool true := (hat 5 84 (of_decide_eq_true (by kernel_rfl)) rfl).trans (hp ⟨5, .guard⟩ (by simp) rfl : U 5 = .bool true)
            refine on_ ((wanted_by rfl rfl eg).trans rfl) ?_
            have e85 : F.eval (.tmp 85) = .pointer (some ⟨bx, 13, none⟩) := (hat 6 85 (of_decide_eq_true (by kernel_rfl)) rfl).trans (hp ⟨6, .data⟩ (by simp) rfl : U 6 = .pointer (some ⟨bx, 13, none⟩))
            have t85 := act_tmp e85
            clear hat hoff hp
            exact wp_value' (.pointer (some ⟨bx, 13, none⟩)) W (by unfold execOp; go_simp) ⟨_, rfl, rfl, hGW, hrefl W⟩
          | 8 =>
            injection (show some _ = some o from ho) with ho
            subst ho
            have eg : F.eval (.tmp 84) = .bool true := (hat 5 84 (of_decide_eq_true (by kernel_rfl)) rfl).trans (hp ⟨5, .guard⟩ (by simp) rfl : U 5 = .bool true)
            refine on_ ((wanted_by rfl rfl eg).trans rfl) ?_
            have e86 : F.eval (.tmp 86) = .pointer (some ⟨bx, 13, none⟩) := (hat 7 86 (of_decide_eq_true (by kernel_rfl)) rfl).trans (hp ⟨7, .data⟩ (by simp) rfl : U 7 = .pointer (some ⟨bx, 13, none⟩))
            have t86 := act_tmp e86
            clear hat hoff hp
            obtain ⟨eA, en, ec, hA, hn', hc, oA, on, oc, pA, pn, pc, kb, ko⟩ := hGW.1.box
            have d0 := kb.cell 13
            simp at d0
            exact wp_value' (.int .i64 m.whN) W (by unfold execOp; go_simp) ⟨_, rfl, rfl, hGW, hrefl W⟩
          | 9 =>
            injection (show some _ = some o from ho) with ho
            subst ho
            have eg : F.eval (.tmp 84) = .bool true := (hat 5 84 (of_decide_eq_true (by kernel_rfl)) rfl).trans (hp ⟨5, .guard⟩ (by simp) rfl : U 5 = .bool true)
            refine on_ ((wanted_by rfl rfl eg).trans rfl) ?_
            have e0 : F.eval (.tmp 0) = .pointer (some ⟨lb, 0, none⟩) := (hoff 0 (of_decide_eq_true (by kernel_rfl))).trans rfl
            exact wp_move' (.tmp 0) rfl ⟨_, rfl, e0, hGW, hrefl W⟩
          | 10 =>
            injection (show some _ = some o from ho) with ho
            subst ho
            have eg : F.eval (.tmp 84) = .bool true := (hat 5 84 (of_decide_eq_true (by kernel_rfl)) rfl).trans (hp ⟨5, .guard⟩ (by simp) rfl : U 5 = .bool true)
            refine on_ ((wanted_by rfl rfl eg).trans rfl) ?_
            have e88 : F.eval (.tmp 88) = .pointer (some ⟨lb, 0, none⟩) := (hat 9 88 (of_decide_eq_true (by kernel_rfl)) rfl).trans (hp ⟨9, .data⟩ (by simp) rfl : U 9 = .pointer (some ⟨lb, 0, none⟩))
            have t88 := act_tmp e88
            clear hat hoff hp
            exact wp_value' (.pointer (some ⟨lb, 0, none⟩)) W (by unfold execOp; go_simp) ⟨_, rfl, rfl, hGW, hrefl W⟩
          | 11 =>
            injection (show some _ = some o from ho) with ho
            subst ho
            have eg : F.eval (.tmp 84) = .bool true := (hat 5 84 (of_decide_eq_true (by kernel_rfl)) rfl).trans (hp ⟨5, .guard⟩ (by simp) rfl : U 5 = .bool true)
            refine on_ ((wanted_by rfl rfl eg).trans rfl) ?_
            have e89 : F.eval (.tmp 89) = .pointer (some ⟨lb, 0, none⟩) := (hat 10 89 (of_decide_eq_true (by kernel_rfl)) rfl).trans (hp ⟨10, .data⟩ (by simp) rfl : U 10 = .pointer (some ⟨lb, 0, none⟩))
            have t89 := act_tmp e89
            clear hat hoff hp
            exact wp_value' (.pointer (some ⟨lb, 0, none⟩)) W (by unfold execOp; go_simp) ⟨_, rfl, rfl, hGW, hrefl W⟩
          | 12 =>
            injection (show some _ = some o from ho) with ho
            subst ho
            have eg : F.eval (.tmp 84) = .bool true := (hat 5 84 (of_decide_eq_true (by kernel_rfl)) rfl).trans (hp ⟨5, .guard⟩ (by simp) rfl : U 5 = .bool true)
            refine on_ ((wanted_by rfl rfl eg).trans rfl) ?_
            have e90 : F.eval (.tmp 90) = .pointer (some ⟨lb, 0, none⟩) := (hat 11 90 (of_decide_eq_true (by kernel_rfl)) rfl).trans (hp ⟨11, .data⟩ (by simp) rfl : U 11 = .pointer (some ⟨lb, 0, none⟩))
            have t90 := act_tmp e90
            clear hat hoff hp
            exact wp_value' (.pointer (some ⟨lb, 2, none⟩)) W (by unfold execOp; go_simp) ⟨_, rfl, rfl, hGW, hrefl W⟩
          | 13 =>
            injection (show some _ = some o from ho) with ho
            subst ho
            have eg : F.eval (.tmp 84) = .bool true := (hat 5 84 (of_decide_eq_true (by kernel_rfl)) rfl).trans (hp ⟨5, .guard⟩ (by simp) rfl : U 5 = .bool true)
            refine on_ ((wanted_by rfl rfl eg).trans rfl) ?_
            have e91 : F.eval (.tmp 91) = .pointer (some ⟨lb, 2, none⟩) := (hat 12 91 (of_decide_eq_true (by kernel_rfl)) rfl).trans (hp ⟨12, .data⟩ (by simp) rfl : U 12 = .pointer (some ⟨lb, 2, none⟩))
            have t91 := act_tmp e91
            clear hat hoff hp
            exact wp_value' (.pointer (some ⟨lb, 2, none⟩)) W (by unfold execOp; go_simp) ⟨_, rfl, rfl, hGW, hrefl W⟩
          | 14 =>
            injection (show some _ = some o from ho) with ho
            subst ho
            have eg : F.eval (.tmp 84) = .bool true := (hat 5 84 (of_decide_eq_true (by kernel_rfl)) rfl).trans (hp ⟨5, .guard⟩ (by simp) rfl : U 5 = .bool true)
            refine on_ ((wanted_by rfl rfl eg).trans rfl) ?_
            have e92 : F.eval (.tmp 92) = .pointer (some ⟨lb, 2, none⟩) := (hat 13 92 (of_decide_eq_true (by kernel_rfl)) rfl).trans (hp ⟨13, .data⟩ (by simp) rfl : U 13 = .pointer (some ⟨lb, 2, none⟩))
            have t92 := act_tmp e92
            clear hat hoff hp
            exact wp_value' (.pointer (some ⟨lb, 2, none⟩)) W (by unfold execOp; go_simp) ⟨_, rfl, rfl, hGW, hrefl W⟩
          | 15 =>
            injection (show some _ = some o from ho) with ho
            subst ho
            have eg : F.eval (.tmp 84) = .bool true := (hat 5 84 (of_decide_eq_true (by kernel_rfl)) rfl).trans (hp ⟨5, .guard⟩ (by simp) rfl : U 5 = .bool true)
            refine on_ ((wanted_by rfl rfl eg).trans rfl) ?_
            have e93 : F.eval (.tmp 93) = .pointer (some ⟨lb, 2, none⟩) := (hat 14 93 (of_decide_eq_true (by kernel_rfl)) rfl).trans (hp ⟨14, .data⟩ (by simp) rfl : U 14 = .pointer (some ⟨lb, 2, none⟩))
            have t93 := act_tmp e93
            clear hat hoff hp
            obtain ⟨oA, on, oc, kl, ki⟩ := hGW.1.lane
            have c2 := kl.cell 2
            simp at c2
            exact wp_value' (.int .i64 l.wN) W (by unfold execOp; go_simp) ⟨_, rfl, rfl, hGW, hrefl W⟩
          | 16 =>
            injection (show some _ = some o from ho) with ho
            subst ho
            have eg : F.eval (.tmp 84) = .bool true := (hat 5 84 (of_decide_eq_true (by kernel_rfl)) rfl).trans (hp ⟨5, .guard⟩ (by simp) rfl : U 5 = .bool true)
            refine on_ ((wanted_by rfl rfl eg).trans rfl) ?_
            have e87 : F.eval (.tmp 87) = .int .i64 m.whN := (hat 8 87 (of_decide_eq_true (by kernel_rfl)) rfl).trans (hp ⟨8, .data⟩ (by simp) rfl : U 8 = .int .i64 m.whN)
            have t87 := act_tmp e87
            have e94 : F.eval (.tmp 94) = .int .i64 l.wN := (hat 15 94 (of_decide_eq_true (by kernel_rfl)) rfl).trans (hp ⟨15, .data⟩ (by simp) rfl : U 15 = .int .i64 l.wN)
            have t94 := act_tmp e94
            clear hat hoff hp
            exact wp_value' (.bool false) W (by unfold execOp; go_simp) ⟨_, rfl, rfl, hGW, hrefl W⟩
          | 17 =>
            injection (show some _ = some o from ho) with ho
            subst ho
            refine on_ (wanted_none rfl) ?_
            have e84 : F.eval (.tmp 84) = .bool true := (hat 5 84 (of_decide_eq_true (by kernel_rfl)) rfl).trans (hp ⟨5, .data⟩ (by simp) rfl : U 5 = .bool true)
            have t84 := act_tmp e84
            have e95 : F.eval (.tmp 95) = .bool false := (hat 16 95 (of_decide_eq_true (by kernel_rfl)) rfl).trans (hp ⟨16, .data⟩ (by simp) rfl : U 16 = .bool false)
            have t95 := act_tmp e95
            clear hat hoff hp
            exact wp_value' (.bool false) W (by unfold execOp; go_simp) ⟨_, rfl, rfl, hGW, hrefl W⟩
          | i + 18 => exact absurd ho (by simp)
      case hend =>
        intro U W hGW hV
        have h96 : U 17 = .bool false := hV 17 (of_decide_eq_true (by kernel_rfl))
        have hk := hGW.1
        clear hV hGW
        simp [putU, dstAt, Act.put, h96]
        exact HQ.out _ _ ⟨rfl, rfl, rfl, rfl, rfl, by first | (rw [HH.out]; rfl) | (rw [HH.out, d1]; rfl), trivial⟩ hk
end Go.Proofs.Ytaipgdhdfpemcaa
