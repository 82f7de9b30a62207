/-
  THE WALKS OF THE LANE: Take, in general, whole. (wip/gen/take3.py prints this text.)
-/
import Derived.Test.YtaipgdhdfpemcaaLaTk2
namespace Go.Proofs.Ytaipgdhdfpemcaa
open Go.RowKit


set_option maxRecDepth 100000 in
set_option maxHeartbeats 4000000 in
theorem take4 {w0 w : World} {S : Nat → Prop} {lb bx : Nat} {l : LaneC} {m : MailC} {A : Option Addr} {n cap : Nat} {os : List OpC} (Q : Exit → Act → World → Prop) (a : Act) (hL : ¬ S lb) (hU : ∀ b, w0.heap.size ≤ b → S b) (hfr : Fr 109 a [(0, .pointer (some ⟨lb, 0, none⟩)), (2, .slice A n cap), (4, .pointer (some ⟨bx, 0, none⟩))]) (h : Tk w0 w S lb bx l m A n cap os) 
    (hQ : ∀ a' w', Fr 109 a' [(0, .pointer (some ⟨lb, 0, none⟩)), (2, .slice A n cap), (4, .pointer (some ⟨bx, 0, none⟩)), (39, .bool (m.epoch != l.epoch))] → Tk w0 w' S lb bx l m A n cap os → Q .normal a' w') :
    (part [1, 1, 0, 0, 0] (codeOf takeF)).wp Try.prog Q a w := by
  have HT := Lib.hid h
  have HQ := Lib.hid hQ
  have HL := Lib.hid hL
  have HU := Lib.hid hU
  clear h hQ hL hU
  obtain ⟨t, df⟩ := a
  obtain ⟨hd, hs, h0, h2, h4, -⟩ := hfr
  simp only at hd hs h0 h2 h4
  subst hd
  rw [eta109 t hs, h0, h2, h4]
  clear hs h0 h2 h4
  conv => arg 2; whnf
  cases hd : (m.epoch != l.epoch) with
  | true =>
    have hd' := hd
    have HD := Lib.hid hd
    clear hd
    refine wp_region_all (by kernel_rfl) (fun i v W => match i with | 0 => v = .pointer (some ⟨bx, 9, none⟩) | 1 => v = .int .i64 m.epoch | 2 => v = .pointer (some ⟨lb, 0, none⟩) | 3 => v = .pointer (some ⟨lb, 0, none⟩) | 4 => v = .pointer (some ⟨lb, 5, none⟩) | 5 => v = .int .i64 l.epoch | 6 => v = .bool true | 7 => v = .bool true | _ => True) (fun W => Tk w0 W S lb bx l m A n cap os ∧ True) (fun W W' => True) (by kernel_rfl) ?hG ?hmono ?hstep ?hend
    case hG => exact ⟨HT.out.drew, trivial⟩
    case hmono =>
      intro i v W W' hx hv
      match i with
      | 0 | 1 | 2 | 3 | 4 | 5 | 6 | 7 => exact hv
      | i + 8 => exact hv
    case hstep =>
      intro i o F U W ho hGW hat hoff hp
      have hrefl := fun _ : World => trivial
      match i with
        | 0 =>
          injection (show some _ = some o from ho) with ho
          subst ho
          refine on_ (wanted_none rfl) ?_
          have e4 : F.eval (.tmp 4) = .pointer (some ⟨bx, 0, none⟩) := (hoff 4 (of_decide_eq_true (by kernel_rfl))).trans rfl
          have t4 := act_tmp e4
          clear hat hoff hp
          exact wp_value' (.pointer (some ⟨bx, 9, none⟩)) W (by unfold execOp; go_simp) ⟨_, rfl, rfl, hGW, hrefl W⟩
        | 1 =>
          injection (show some _ = some o from ho) with ho
          subst ho
          refine on_ (wanted_none rfl) ?_
          have e40 : F.eval (.tmp 40) = .pointer (some ⟨bx, 9, none⟩) := (hat 0 40 (of_decide_eq_true (by kernel_rfl)) rfl).trans (hp ⟨0, .data⟩ (by simp) rfl : U 0 = .pointer (some ⟨bx, 9, none⟩))
          have t40 := act_tmp e40
          clear hat hoff hp
          obtain ⟨eA, en, ec, hA, hn', hc, oA, on, oc, pA, pn, pc, kb, ko⟩ := hGW.1.box
          have d0 := kb.cell 9
          simp at d0
          exact wp_value' (.int .i64 m.epoch) W (by unfold execOp; go_simp) ⟨_, rfl, rfl, hGW, hrefl W⟩
        | 2 =>
          injection (show some _ = some o from ho) with ho
          subst ho
          refine on_ (wanted_none rfl) ?_
          have e0 : F.eval (.tmp 0) = .pointer (some ⟨lb, 0, none⟩) := (hoff 0 (of_decide_eq_true (by kernel_rfl))).trans rfl
          exact wp_move' (.tmp 0) rfl ⟨_, rfl, e0, hGW, hrefl W⟩
        | 3 =>
          injection (show some _ = some o from ho) with ho
          subst ho
          refine on_ (wanted_none rfl) ?_
          have e42 : F.eval (.tmp 42) = .pointer (some ⟨lb, 0, none⟩) := (hat 2 42 (of_decide_eq_true (by kernel_rfl)) rfl).trans (hp ⟨2, .data⟩ (by simp) rfl : U 2 = .pointer (some ⟨lb, 0, none⟩))
          have t42 := act_tmp e42
          clear hat hoff hp
          exact wp_value' (.pointer (some ⟨lb, 0, none⟩)) W (by unfold execOp; go_simp) ⟨_, rfl, rfl, hGW, hrefl W⟩
        | 4 =>
          injection (show some _ = some o from ho) with ho
          subst ho
          refine on_ (wanted_none rfl) ?_
          have e43 : F.eval (.tmp 43) = .pointer (some ⟨lb, 0, none⟩) := (hat 3 43 (of_decide_eq_true (by kernel_rfl)) rfl).trans (hp ⟨3, .data⟩ (by simp) rfl : U 3 = .pointer (some ⟨lb, 0, none⟩))
          have t43 := act_tmp e43
          clear hat hoff hp
          exact wp_value' (.pointer (some ⟨lb, 5, none⟩)) W (by unfold execOp; go_simp) ⟨_, rfl, rfl, hGW, hrefl W⟩
        | 5 =>
          injection (show some _ = some o from ho) with ho
          subst ho
          refine on_ (wanted_none rfl) ?_
          have e44 : F.eval (.tmp 44) = .pointer (some ⟨lb, 5, none⟩) := (hat 4 44 (of_decide_eq_true (by kernel_rfl)) rfl).trans (hp ⟨4, .data⟩ (by simp) rfl : U 4 = .pointer (some ⟨lb, 5, none⟩))
          have t44 := act_tmp e44
          clear hat hoff hp
          obtain ⟨oA, on, oc, kl, ki⟩ := hGW.1.lane
          have d0 := kl.cell 5
          simp at d0
          exact wp_value' (.int .i64 l.epoch) W (by unfold execOp; go_simp) ⟨_, rfl, rfl, hGW, hrefl W⟩
        | 6 =>
          injection (show some _ = some o from ho) with ho
          subst ho
          refine on_ (wanted_none rfl) ?_
          have e41 : F.eval (.tmp 41) = .int .i64 m.epoch := (hat 1 41 (of_decide_eq_true (by kernel_rfl)) rfl).trans (hp ⟨1, .data⟩ (by simp) rfl : U 1 = .int .i64 m.epoch)
          have t41 := act_tmp e41
          have e45 : F.eval (.tmp 45) = .int .i64 l.epoch := (hat 5 45 (of_decide_eq_true (by kernel_rfl)) rfl).trans (hp ⟨5, .data⟩ (by simp) rfl : U 5 = .int .i64 l.epoch)
          have t45 := act_tmp e45
          clear hat hoff hp
          exact wp_value' (.bool true) W (by unfold execOp; go_simp) ⟨_, rfl, rfl, hGW, hrefl W⟩
        | 7 =>
          injection (show some _ = some o from ho) with ho
          subst ho
          refine on_ (wanted_none rfl) ?_
          have e46 : F.eval (.tmp 46) = .bool true := (hat 6 46 (of_decide_eq_true (by kernel_rfl)) rfl).trans (hp ⟨6, .data⟩ (by simp) rfl : U 6 = .bool true)
          exact wp_assign' (.tmp 46) rfl ⟨_, rfl, e46, hGW, hrefl W⟩
        | i + 8 => exact absurd ho (by simp)
    case hend =>
      intro U W hGW hV
      have h39 : U 7 = .bool true := hV 7 (of_decide_eq_true (by kernel_rfl))
      have hk := hGW.1
      clear hV hGW
      simp [putU, dstAt, Act.put, h39]
      exact HQ.out _ _ ⟨rfl, rfl, rfl, rfl, rfl, by rw [HD.out]; rfl, trivial⟩ hk
  | false =>
    have hd' := hd
    have HD := Lib.hid hd
    clear hd
    refine wp_region_all (by kernel_rfl) (fun i v W => match i with | 0 => v = .pointer (some ⟨bx, 9, none⟩) | 1 => v = .int .i64 m.epoch | 2 => v = .pointer (some ⟨lb, 0, none⟩) | 3 => v = .pointer (some ⟨lb, 0, none⟩) | 4 => v = .pointer (some ⟨lb, 5, none⟩) | 5 => v = .int .i64 l.epoch | 6 => v = .bool false | 7 => v = .bool false | _ => True) (fun W => Tk w0 W S lb bx l m A n cap os ∧ True) (fun W W' => True) (by kernel_rfl) ?hG ?hmono ?hstep ?hend
    case hG => exact ⟨HT.out.drew, trivial⟩
    case hmono =>
      intro i v W W' hx hv
      match i with
      | 0 | 1 | 2 | 3 | 4 | 5 | 6 | 7 => exact hv
      | i + 8 => exact hv
    case hstep =>
      intro i o F U W ho hGW hat hoff hp
      have hrefl := fun _ : World => trivial
      match i with
        | 0 =>
          injection (show some _ = some o from ho) with ho
          subst ho
          refine on_ (wanted_none rfl) ?_
          have e4 : F.eval (.tmp 4) = .pointer (some ⟨bx, 0, none⟩) := (hoff 4 (of_decide_eq_true (by kernel_rfl))).trans rfl
          have t4 := act_tmp e4
          clear hat hoff hp
          exact wp_value' (.pointer (some ⟨bx, 9, none⟩)) W (by unfold execOp; go_simp) ⟨_, rfl, rfl, hGW, hrefl W⟩
        | 1 =>
          injection (show some _ = some o from ho) with ho
          subst ho
          refine on_ (wanted_none rfl) ?_
          have e40 : F.eval (.tmp 40) = .pointer (some ⟨bx, 9, none⟩) := (hat 0 40 (of_decide_eq_true (by kernel_rfl)) rfl).trans (hp ⟨0, .data⟩ (by simp) rfl : U 0 = .pointer (some ⟨bx, 9, none⟩))
          have t40 := act_tmp e40
          clear hat hoff hp
          obtain ⟨eA, en, ec, hA, hn', hc, oA, on, oc, pA, pn, pc, kb, ko⟩ := hGW.1.box
          have d0 := kb.cell 9
          simp at d0
          exact wp_value' (.int .i64 m.epoch) W (by unfold execOp; go_simp) ⟨_, rfl, rfl, hGW, hrefl W⟩
        | 2 =>
          injection (show some _ = some o from ho) with ho
          subst ho
          refine on_ (wanted_none rfl) ?_
          have e0 : F.eval (.tmp 0) = .pointer (some ⟨lb, 0, none⟩) := (hoff 0 (of_decide_eq_true (by kernel_rfl))).trans rfl
          exact wp_move' (.tmp 0) rfl ⟨_, rfl, e0, hGW, hrefl W⟩
        | 3 =>
          injection (show some _ = some o from ho) with ho
          subst ho
          refine on_ (wanted_none rfl) ?_
          have e42 : F.eval (.tmp 42) = .pointer (some ⟨lb, 0, none⟩) := (hat 2 42 (of_decide_eq_true (by kernel_rfl)) rfl).trans (hp ⟨2, .data⟩ (by simp) rfl : U 2 = .pointer (some ⟨lb, 0, none⟩))
          have t42 := act_tmp e42
          clear hat hoff hp
          exact wp_value' (.pointer (some ⟨lb, 0, none⟩)) W (by unfold execOp; go_simp) ⟨_, rfl, rfl, hGW, hrefl W⟩
        | 4 =>
          injection (show some _ = some o from ho) with ho
          subst ho
          refine on_ (wanted_none rfl) ?_
          have e43 : F.eval (.tmp 43) = .pointer (some ⟨lb, 0, none⟩) := (hat 3 43 (of_decide_eq_true (by kernel_rfl)) rfl).trans (hp ⟨3, .data⟩ (by simp) rfl : U 3 = .pointer (some ⟨lb, 0, none⟩))
          have t43 := act_tmp e43
          clear hat hoff hp
          exact wp_value' (.pointer (some ⟨lb, 5, none⟩)) W (by unfold execOp; go_simp) ⟨_, rfl, rfl, hGW, hrefl W⟩
        | 5 =>
          injection (show some _ = some o from ho) with ho
          subst ho
          refine on_ (wanted_none rfl) ?_
          have e44 : F.eval (.tmp 44) = .pointer (some ⟨lb, 5, none⟩) := (hat 4 44 (of_decide_eq_true (by kernel_rfl)) rfl).trans (hp ⟨4, .data⟩ (by simp) rfl : U 4 = .pointer (some ⟨lb, 5, none⟩))
          have t44 := act_tmp e44
          clear hat hoff hp
          obtain ⟨oA, on, oc, kl, ki⟩ := hGW.1.lane
          have d0 := kl.cell 5
          simp at d0
          exact wp_value' (.int .i64 l.epoch) W (by unfold execOp; go_simp) ⟨_, rfl, rfl, hGW, hrefl W⟩
        | 6 =>
          injection (show some _ = some o from ho) with ho
          subst ho
          refine on_ (wanted_none rfl) ?_
          have e41 : F.eval (.tmp 41) = .int .i64 m.epoch := (hat 1 41 (of_decide_eq_true (by kernel_rfl)) rfl).trans (hp ⟨1, .data⟩ (by simp) rfl : U 1 = .int .i64 m.epoch)
          have t41 := act_tmp e41
          have e45 : F.eval (.tmp 45) = .int .i64 l.epoch := (hat 5 45 (of_decide_eq_true (by kernel_rfl)) rfl).trans (hp ⟨5, .data⟩ (by simp) rfl : U 5 = .int .i64 l.epoch)
          have t45 := act_tmp e45
          clear hat hoff hp
          exact wp_value' (.bool false) W (by unfold execOp; go_simp) ⟨_, rfl, rfl, hGW, hrefl W⟩
        | 7 =>
          injection (show some _ = some o from ho) with ho
          subst ho
          refine on_ (wanted_none rfl) ?_
          have e46 : F.eval (.tmp 46) = .bool false := (hat 6 46 (of_decide_eq_true (by kernel_rfl)) rfl).trans (hp ⟨6, .data⟩ (by simp) rfl : U 6 = .bool false)
          exact wp_assign' (.tmp 46) rfl ⟨_, rfl, e46, hGW, hrefl W⟩
        | i + 8 => exact absurd ho (by simp)
    case hend =>
      intro U W hGW hV
      have h39 : U 7 = .bool false := hV 7 (of_decide_eq_true (by kernel_rfl))
      have hk := hGW.1
      clear hV hGW
      simp [putU, dstAt, Act.put, h39]
      exact HQ.out _ _ ⟨rfl, rfl, rfl, rfl, rfl, by rw [HD.out]; rfl, trivial⟩ hk

set_option maxRecDepth 100000 in
set_option maxHeartbeats 4000000 in
theorem take5 {w0 w : World} {S : Nat → Prop} {lb bx : Nat} {l : LaneC} {m : MailC} {A : Option Addr} {n cap : Nat} {os : List OpC} (Q : Exit → Act → World → Prop) (a : Act) (hL : ¬ S lb) (hU : ∀ b, w0.heap.size ≤ b → S b) (hfr : Fr 109 a [(0, .pointer (some ⟨lb, 0, none⟩)), (2, .slice A n cap), (4, .pointer (some ⟨bx, 0, none⟩))]) (h : Tk w0 w S lb bx l m A n cap os) 
    (hQ : ∀ a' w', Fr 109 a' [(0, .pointer (some ⟨lb, 0, none⟩)), (2, .slice A n cap), (4, .pointer (some ⟨bx, 0, none⟩)), (47, .bool m.good)] → Tk w0 w' S lb bx l m A n cap os → Q .normal a' w') :
    (part [1, 1, 0, 0, 1, 1, 0] (codeOf takeF)).wp Try.prog Q a w := by
  have HT := Lib.hid h
  have HQ := Lib.hid hQ
  have HL := Lib.hid hL
  have HU := Lib.hid hU
  clear h hQ hL hU
  obtain ⟨t, df⟩ := a
  obtain ⟨hd, hs, h0, h2, h4, -⟩ := hfr
  simp only at hd hs h0 h2 h4
  subst hd
  rw [eta109 t hs, h0, h2, h4]
  clear hs h0 h2 h4
  conv => arg 2; whnf
  obtain ⟨eA, en, ec, hA, hn', hc, oA, on, oc, pA, pn, pc, kb, ko⟩ := HT.out.box
  have c5 := kb.cell 5
  simp at c5
  clear kb ko
  go_wp2_with fail
  exact HQ.out _ _ ⟨rfl, rfl, rfl, rfl, rfl, rfl, trivial⟩ HT.out

set_option maxRecDepth 100000 in
set_option maxHeartbeats 4000000 in
theorem take11 {w0 w : World} {S : Nat → Prop} {lb bx : Nat} {l : LaneC} {m : MailC} {A : Option Addr} {n cap : Nat} {os : List OpC} (R : Ending → World → Prop) (a : Act) (hfr : Fr 109 a [(0, .pointer (some ⟨lb, 0, none⟩)), (2, .slice A n cap), (4, .pointer (some ⟨bx, 0, none⟩))]) (h : Tk w0 w S lb bx l m A n cap os) (hR : R (.returned (.int .i64 m.epoch)) w) :
    (part [1, 1, 1] (codeOf takeF)).wp Try.prog (bodyPost Try.prog takeF R) a w := by
  have HR := Lib.hid hR
  obtain ⟨eA, en, ec, hA, hn', hc, oA, on, oc, pA, pn, pc, kb, ko⟩ := h.box
  have c9 := kb.cell 9
  simp at c9
  clear kb ko h hR
  obtain ⟨t, df⟩ := a
  obtain ⟨hd, hs, h0, h2, h4, -⟩ := hfr
  simp only at hd hs h0 h2 h4
  subst hd
  rw [eta109 t hs, h0, h2, h4]
  clear hs h0 h2 h4
  conv => arg 2; whnf
  go_wp2_with fail
  exact HR.out

set_option maxRecDepth 100000 in
set_option maxHeartbeats 4000000 in
theorem take_tail {w0 w : World} {S : Nat → Prop} {lb bx : Nat} {l : LaneC} {m : MailC} {A : Option Addr} {n cap : Nat} {os : List OpC} (R : Ending → World → Prop) (a : Act) (hL : ¬ S lb) (hU : ∀ b, w0.heap.size ≤ b → S b) (hfr : Fr 109 a [(0, .pointer (some ⟨lb, 0, none⟩)), (2, .slice A n cap), (4, .pointer (some ⟨bx, 0, none⟩))]) (h : Tk w0 w S lb bx l m A n cap os) (hn : n ≤ 4294967296) (hz : m.holes.length * 8 ≤ 140737488351232) (hat : I64 m.atN)
    (hR : ∀ w', LaneIs w' S lb (rightS l m os) → Turn lb w0 w' → R (.returned (.int .i64 m.epoch)) w') :
    (part [1, 1] (codeOf takeF)).wp Try.prog (bodyPost Try.prog takeF R) a w := by
  have HR := Lib.hid hR
  clear hR
  have fin : ∀ (a : Act) (w : World), Fr 109 a [(0, .pointer (some ⟨lb, 0, none⟩)), (2, .slice A n cap), (4, .pointer (some ⟨bx, 0, none⟩))] → Tk w0 w S lb bx (rightS l m os) m A n cap os → (part [1, 1, 1] (codeOf takeF)).wp Try.prog (bodyPost Try.prog takeF R) a w :=
    fun a w hf hk => take11 R a hf hk (HR.out w hk.lane hk.turn)
  refine wp_two (x := part [1, 1, 0] (codeOf takeF)) (y := part [1, 1, 1] (codeOf takeF)) (by kernel_rfl) ?_
  refine wp_blk (x := part [1, 1, 0, 0] (codeOf takeF)) (id := 0) (by kernel_rfl) ?_
  refine wp_two (x := part [1, 1, 0, 0, 0] (codeOf takeF)) (y := part [1, 1, 0, 0, 1] (codeOf takeF)) (by kernel_rfl) ?_
  refine take4 _ a hL hU hfr h fun a1 w1 hf1 h1 => ?_
  have hF1 : Fr 109 a1 [(0, .pointer (some ⟨lb, 0, none⟩)), (2, .slice A n cap), (4, .pointer (some ⟨bx, 0, none⟩))] := ⟨hf1.1, hf1.2.1, hf1.2.2.1, hf1.2.2.2.1, hf1.2.2.2.2.1, trivial⟩
  show (part [1, 1, 0, 0, 1] (codeOf takeF)).wp Try.prog (Exit.inBlock 0 (Exit.then ((part [1, 1, 1] (codeOf takeF)).wp Try.prog (bodyPost Try.prog takeF R)) (bodyPost Try.prog takeF R))) a1 w1
  refine wp_if (x := part [1, 1, 0, 0, 1, 0] (codeOf takeF)) (y := part [1, 1, 0, 0, 1, 1] (codeOf takeF)) (o := .tmp 39) (by kernel_rfl) (eval_at hf1.2.2.2.2.2.1 rfl) (fun ht => ?_) (fun ht => ?_)
  · refine wp_nop (by kernel_rfl) ?_
    refine fin a1 w1 hF1 ?_
    have e : rightS l m os = l := by
      unfold rightS
      rw [if_neg (by simpa using ht)]
    rw [e]
    exact h1
  · have he : m.epoch = l.epoch := by simpa using ht
    refine wp_two (x := part [1, 1, 0, 0, 1, 1, 0] (codeOf takeF)) (y := part [1, 1, 0, 0, 1, 1, 1] (codeOf takeF)) (by kernel_rfl) ?_
    refine take5 _ a1 hL hU hF1 h1 fun a2 w2 hf2 h2 => ?_
    have hF2 : Fr 109 a2 [(0, .pointer (some ⟨lb, 0, none⟩)), (2, .slice A n cap), (4, .pointer (some ⟨bx, 0, none⟩))] := ⟨hf2.1, hf2.2.1, hf2.2.2.1, hf2.2.2.2.1, hf2.2.2.2.2.1, trivial⟩
    show (part [1, 1, 0, 0, 1, 1, 1] (codeOf takeF)).wp Try.prog (Exit.inBlock 0 (Exit.then ((part [1, 1, 1] (codeOf takeF)).wp Try.prog (bodyPost Try.prog takeF R)) (bodyPost Try.prog takeF R))) a2 w2
    refine wp_if (x := part [1, 1, 0, 0, 1, 1, 1, 0] (codeOf takeF)) (y := part [1, 1, 0, 0, 1, 1, 1, 1] (codeOf takeF)) (o := .tmp 47) (by kernel_rfl) (eval_at hf2.2.2.2.2.2.1 rfl) (fun hg => ?_) (fun hg => ?_)
    · refine take_good _ a2 hL hU hF2 h2 hn hz fun a3 w3 hf3 h3 => fin a3 w3 hf3 ?_
      have e : rightS l m os = goodS l m os := by
        unfold rightS
        rw [if_pos he, if_pos hg]
      rw [e]
      exact h3
    · refine take3 _ a2 hL hU hF2 h2 hn hat fun a3 w3 hf3 h3 => fin a3 w3 hf3 ?_
      have e : rightS l m os = { l with next := min l.next (max l.mN (Seam.upTo (os.map (·.epoch)) m.atN m.atE : Int)) } := by
        unfold rightS
        rw [if_pos he, if_neg (by rw [hg]; exact Bool.false_ne_true)]
      rw [e]
      exact h3

set_option maxRecDepth 100000 in
set_option maxHeartbeats 4000000 in
/-- Take -/
theorem takeL_any {A : Option Addr} {n cap : Nat} {S : Nat → Prop} (lb : Nat) (l : LaneC) (cells : Array Value) (m : MailC) (os : List OpC) (w : World) (hL : ¬ S lb) (hU : ∀ b, w.heap.size ≤ b → S b) (hl : LaneIs w S lb l) (hm : MailIs w S cells m) (hok : m.Ok) (ho : OpsIs w S A n cap os) (hn : n ≤ 4294967296) :
    Calls Try.prog 28 #[.pointer (some ⟨lb, 0, none⟩), .agg cells, .slice A n cap] w fun x w' => x = .returned (.int .i64 (takeR m)) ∧ LaneIs w' S lb (takeS l m os) ∧ Turn lb w w' := by
  have hm0 := hm
  obtain ⟨eA, en, ec, hA, hn', hc, oA, on, oc, pA, pn, pc, rfl, hm1, hm2, hm3, hm4⟩ := hm0
  have hbl : Below w.heap.size w (w.alloc (.cells (mailC m.kind m.term m.index m.prev m.commit m.good eA en ec m.data hA hn' hc m.epoch m.site m.atN m.atE m.whN m.whE oA on oc pA pn pc) 30)) := (Below.refl _ _).alloc (Nat.le_refl _) _
  have hbk := Blk.new w 30 (mailC m.kind m.term m.index m.prev m.commit m.good eA en ec m.data hA hn' hc m.epoch m.site m.atN m.atE m.whN m.whE oA on oc pA pn pc)
  have htk : Tk w (w.alloc (.cells (mailC m.kind m.term m.index m.prev m.commit m.good eA en ec m.data hA hn' hc m.epoch m.site m.atN m.atE m.whN m.whE oA on oc pA pn pc) 30)) S lb w.heap.size l m A n cap os :=
    ⟨hl.below hbl, ⟨eA, en, ec, hA, hn', hc, oA, on, oc, pA, pn, pc, hbk, hm3.below hbl⟩, hU _ (Nat.le_refl _), ho.below hbl, Turn.of (Nat.le_of_lt hl.lt) hbl⟩
  have HT := Lib.hid htk
  have HM := Lib.hid (hm.below hbl)
  have HOK := Lib.hid hok
  have HL := Lib.hid hL
  have HU := Lib.hid hU
  have HZ := Lib.hid hok.holes
  have HAT := Lib.hid hok.atN
  have c := fun k => hbk.cell k
  have c0 := c 0
  have c1 := c 1
  have c2 := c 2
  have c3 := c 3
  have c4 := c 4
  have c5 := c 5
  have c6 := c 6
  have c7 := c 7
  have c8 := c 8
  have c9 := c 9
  have c10 := c 10
  have c11 := c 11
  have c12 := c 12
  have c13 := c 13
  have c14 := c 14
  have c15 := c 15
  have c16 := c 16
  simp at c0 c1 c2 c3 c4 c5 c6 c7 c8 c9 c10 c11 c12 c13 c14 c15 c16
  clear c hL hU hl hm hok ho hm1 hm2 hm3 hm4 hbl hbk htk
  by_cases hk : m.kind = 10
  · have hk1 : (m.kind != 10) = false := by simp [hk]
    have HK := Lib.hid hk
    clear hk
    go_enter Try.func28, Try.ntmps28
    conv => arg 2; arg 2; arg 2; change part [1, 1] (codeOf takeF)
    go_wp2_with fail
    refine (check10_any _ m _ HK.out HM.out HOK.out).mono ?_
    rintro e w1 ⟨rfl, hb1⟩
    have HT1 := Lib.hid (HT.out.below hb1)
    clear hb1 c0 c1 c2 c3 c4 c5 c6 c7 c8 c9 c10 c11 c12 c13 c14 c15 c16
    cases hr : m.right10 with
    | true =>
      have HR := Lib.hid hr
      clear hr
      go_wp2_with fail
      refine take_tail _ _ HL.out HU.out ⟨rfl, rfl, rfl, rfl, rfl, trivial⟩ HT1.out hn HZ.out HAT.out fun w' h1 h2 => ?_
      have e1 : takeR m = m.epoch := by unfold takeR; rw [if_pos ⟨HK.out, HR.out⟩]
      have e2 : takeS l m os = rightS l m os := by unfold takeS; rw [if_pos ⟨HK.out, HR.out⟩]
      rw [e1, e2]
      exact ⟨rfl, h1, h2⟩
    | false =>
      have HR := Lib.hid hr
      clear hr
      go_wp2_with fail
      go_ret
      have e1 : takeR m = 0 := by unfold takeR; rw [if_neg (by rw [HR.out]; simp)]
      have e2 : takeS l m os = l := by unfold takeS; rw [if_neg (by rw [HR.out]; simp)]
      rw [e1, e2]
      exact ⟨rfl, HT1.out.lane, HT1.out.turn⟩
  · have hk1 : (m.kind != 10) = true := by simp [hk]
    have HK := Lib.hid hk
    clear hk
    go_enter Try.func28, Try.ntmps28
    conv => arg 2; arg 2; arg 2; change part [1, 1] (codeOf takeF)
    go_wp2_with fail
    go_ret
    have e1 : takeR m = 0 := by unfold takeR; rw [if_neg (by simp [HK.out])]
    have e2 : takeS l m os = l := by unfold takeS; rw [if_neg (by simp [HK.out])]
    rw [e1, e2]
    exact ⟨rfl, HT.out.lane, HT.out.turn⟩
end Go.Proofs.Ytaipgdhdfpemcaa
