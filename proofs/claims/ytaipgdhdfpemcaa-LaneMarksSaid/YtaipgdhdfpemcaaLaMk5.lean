/-
  LaneMarks: two sets of places are made. (wip/gen/mark5.py prints the steps.)
-/
import Derived.Test.YtaipgdhdfpemcaaLaSet
import Derived.Test.YtaipgdhdfpemcaaDraw5
import Derived.Test.YtaipgdhdfpemcaaFr2
import Derived.WideMake
namespace Go.Proofs.Ytaipgdhdfpemcaa
open Go.RowKit

theorem eta169 (t : Array Value) (h : t.size = 169) : t = #[at_ t 0, at_ t 1, at_ t 2, at_ t 3, at_ t 4, at_ t 5, at_ t 6, at_ t 7, at_ t 8, at_ t 9, at_ t 10, at_ t 11, at_ t 12, at_ t 13, at_ t 14, at_ t 15, at_ t 16, at_ t 17, at_ t 18, at_ t 19, at_ t 20, at_ t 21, at_ t 22, at_ t 23, at_ t 24, at_ t 25, at_ t 26, at_ t 27, at_ t 28, at_ t 29, at_ t 30, at_ t 31, at_ t 32, at_ t 33, at_ t 34, at_ t 35, at_ t 36, at_ t 37, at_ t 38, at_ t 39, at_ t 40, at_ t 41, at_ t 42, at_ t 43, at_ t 44, at_ t 45, at_ t 46, at_ t 47, at_ t 48, at_ t 49, at_ t 50, at_ t 51, at_ t 52, at_ t 53, at_ t 54, at_ t 55, at_ t 56, at_ t 57, at_ t 58, at_ t 59, at_ t 60, at_ t 61, at_ t 62, at_ t 63, at_ t 64, at_ t 65, at_ t 66, at_ t 67, at_ t 68, at_ t 69, at_ t 70, at_ t 71, at_ t 72, at_ t 73, at_ t 74, at_ t 75, at_ t 76, at_ t 77, at_ t 78, at_ t 79, at_ t 80, at_ t 81, at_ t 82, at_ t 83, at_ t 84, at_ t 85, at_ t 86, at_ t 87, at_ t 88, at_ t 89, at_ t 90, at_ t 91, at_ t 92, at_ t 93, at_ t 94, at_ t 95, at_ t 96, at_ t 97, at_ t 98, at_ t 99, at_ t 100, at_ t 101, at_ t 102, at_ t 103, at_ t 104, at_ t 105, at_ t 106, at_ t 107, at_ t 108, at_ t 109, at_ t 110, at_ t 111, at_ t 112, at_ t 113, at_ t 114, at_ t 115, at_ t 116, at_ t 117, at_ t 118, at_ t 119, at_ t 120, at_ t 121, at_ t 122, at_ t 123, at_ t 124, at_ t 125, at_ t 126, at_ t 127, at_ t 128, at_ t 129, at_ t 130, at_ t 131, at_ t 132, at_ t 133, at_ t 134, at_ t 135, at_ t 136, at_ t 137, at_ t 138, at_ t 139, at_ t 140, at_ t 141, at_ t 142, at_ t 143, at_ t 144, at_ t 145, at_ t 146, at_ t 147, at_ t 148, at_ t 149, at_ t 150, at_ t 151, at_ t 152, at_ t 153, at_ t 154, at_ t 155, at_ t 156, at_ t 157, at_ t 158, at_ t 159, at_ t 160, at_ t 161, at_ t 162, at_ t 163, at_ t 164, at_ t 165, at_ t 166, at_ t 167, at_ t 168] := (eta_ t h).trans (by kernel_rfl)

@[reducible] noncomputable def marksF : Func := Try.f5

theorem updU_same (U : Nat → Value) (i : Nat) (v : Value) : updU U i v i = v := by simp [updU]
theorem updU_other (U : Nat → Value) {i j : Nat} (v : Value) (h : j ≠ i) : updU U i v j = U j := by simp [updU, h]
/-- one set of the two, made or with nothing's place in it -/
def Set0 (s0 : Nat) (W : World) (v : Value) : Prop := ∃ g, v = .map (some g) ∧ s0 ≤ g ∧ (SetIs W g 0 [] ∨ SetIs W g 1 [(0, 0)])
def Set1 (s0 : Nat) (W : World) (v : Value) : Prop := ∃ g, v = .map (some g) ∧ s0 ≤ g ∧ SetIs W g 1 [(0, 0)]
def Ext5 (W W' : World) : Prop := W.heap.size ≤ W'.heap.size ∧ ∀ b, ((SetIs W b 0 [] ∨ SetIs W b 1 [(0, 0)]) → SetIs W' b 0 [] ∨ SetIs W' b 1 [(0, 0)]) ∧ (SetIs W b 1 [(0, 0)] → SetIs W' b 1 [(0, 0)])
theorem Ext5.refl (W : World) : Ext5 W W := ⟨Nat.le_refl _, fun _ => ⟨id, id⟩⟩
theorem Set0.ext {s0 : Nat} {W W' : World} {v : Value} (h : Set0 s0 W v) (hx : Ext5 W W') : Set0 s0 W' v := by
  obtain ⟨g, h1, h2, h3⟩ := h
  exact ⟨g, h1, h2, (hx.2 g).1 h3⟩
theorem Set1.ext {s0 : Nat} {W W' : World} {v : Value} (h : Set1 s0 W v) (hx : Ext5 W W') : Set1 s0 W' v := by
  obtain ⟨g, h1, h2, h3⟩ := h
  exact ⟨g, h1, h2, (hx.2 g).2 h3⟩
theorem Set0.lt {s0 : Nat} {W : World} {v : Value} (h : Set0 s0 W v) : ∃ g, v = .map (some g) ∧ g < W.heap.size := by
  obtain ⟨g, h1, h2, h3 | h3⟩ := h <;> exact ⟨g, h1, h3.lt⟩
theorem ext5_alloc (W : World) : Ext5 W (W.alloc (.map #[] 0)) :=
  ⟨by simp, fun b => ⟨fun h => h.imp (fun h => h.keep (Below.heap_alloc W _ b h.lt)) (fun h => h.keep (Below.heap_alloc W _ b h.lt)), fun h => h.keep (Below.heap_alloc W _ b h.lt)⟩⟩
/-- nothing's place put in -/
theorem set_put {s0 : Nat} {W : World} {v : Value} (h : Set0 s0 W v) (w : World) (hb : Below s0 w W) (hsz : s0 ≤ W.heap.size) :
    ∃ g W', v = .map (some g) ∧ (Instr.mapUpdate 79 (.map (some g)) (spotV' 0 0) (.bool true)).run Try.prog W = .ok () W' ∧ Set1 s0 W' v ∧ Below s0 w W' ∧ Ext5 W W' := by
  obtain ⟨g, rfl, hg, h3⟩ := h
  have i0 : I64 0 := ⟨by omega, by omega⟩
  have main : ∃ W', (Instr.mapUpdate 79 (.map (some g)) (spotV' 0 0) (.bool true)).run Try.prog W = .ok () W' ∧ SetIs W' g 1 [(0, 0)] ∧ W.grownBy W' (some g) := by
    rcases h3 with h | h
    · exact h.add (by unfold maxLen; omega) 0 0 i0 i0
    · exact h.again (by unfold maxLen; omega) 0 0 (by simp)
  obtain ⟨W', hrun, hs, hgr⟩ := main
  refine ⟨g, W', rfl, hrun, ⟨g, rfl, hg, hs⟩, hb.grown hgr hsz (fun k hk => by injection hk with hk; omega), hgr.size, fun b => ?_⟩
  by_cases e : b = g
  · subst e
    exact ⟨fun _ => .inr hs, fun _ => hs⟩
  · have hk : ∀ {c L}, SetIs W b c L → SetIs W' b c L := fun h => h.keep (hgr.block b h.lt (fun e2 => e (by injection e2)))
    exact ⟨fun h => h.imp hk hk, hk⟩

/-- what the operations have yielded -/
def V5 (s0 : Nat) : Nat → (Nat → Value) → World → Prop
  | 0, U, W => Set0 s0 W (U 0)
  | 1, U, _ => U 1 = spotV' 0 0
  | 2, U, W => Set1 s0 W (U 0)
  | 3, U, W => Set1 s0 W (U 3) ∧ U 0 = U 3
  | 4, U, W => Set0 s0 W (U 4)
  | 5, U, _ => U 5 = spotV' 0 0
  | 6, U, W => Set1 s0 W (U 4)
  | 7, U, W => Set1 s0 W (U 7) ∧ U 4 = U 7
  | 8, U, W => Set1 s0 W (U 8) ∧ U 3 = U 8
  | 9, U, W => Set1 s0 W (U 9) ∧ U 7 = U 9
  | _, _, _ => True

set_option maxRecDepth 100000 in
set_option maxHeartbeats 4000000 in
theorem marks5 (w : World) (Q : Exit → Act → World → Prop) (a : Act) (ep : Int) (lb : Nat) (A : Option Addr) (n cap : Nat) (sA : Option Addr) (sn sc : Nat)
    (hfr : Fr 169 a [(0, .int .i64 ep), (2, .slice A n cap), (3, .slice sA sn sc), (9, .pointer (some ⟨lb, 0, none⟩))])
    (hQ : ∀ a' w' g1 g2, Fr 169 a' [(0, .int .i64 ep), (2, .slice A n cap), (3, .slice sA sn sc), (9, .pointer (some ⟨lb, 0, none⟩)), (11, .map (some g1)), (12, .map (some g2))] → w.heap.size ≤ g1 → w.heap.size ≤ g2 → g1 ≠ g2 → SetIs w' g1 1 [(0, 0)] → SetIs w' g2 1 [(0, 0)] → Below w.heap.size w w' → Q .normal a' w') :
    (part [1, 1, 1, 1, 0] (codeOf marksF)).wp Try.prog Q a w := by
  have HQ := Lib.hid hQ
  clear hQ
  obtain ⟨t, df⟩ := a
  obtain ⟨hd, hs, h0, h2, h3, h9, -⟩ := hfr
  simp only at hd hs h0 h2 h3 h9
  subst hd
  rw [eta169 t hs, h0, h2, h3, h9]
  clear hs h0 h2 h3 h9
  conv => arg 2; whnf
  obtain ⟨s0, hs0⟩ : ∃ s0, s0 = w.heap.size := ⟨_, rfl⟩
  rw [← hs0] at HQ
  refine wp_region_dep (by kernel_rfl) (V5 s0) (fun d U => d 0 = true → d 4 = true → U 0 ≠ U 4) (fun W => Below s0 w W) Ext5 (by kernel_rfl) ?hG ?hloc Ext5.refl (fun U h => by cases h) ?hmono ?hstep ?hend
  case hG => rw [hs0]; exact (Below.refl _ _).drew
  case hloc =>
    intro i o U U' W ho hUi hUe hv
    match i with
    | 0 =>
      injection (show some _ = some o from ho) with ho
      subst ho
      show Set0 s0 W (U' 0)
      rw [← hUi]
      exact hv
    | 1 =>
      injection (show some _ = some o from ho) with ho
      subst ho
      show U' 1 = _
      rw [← hUi]
      exact hv
    | 2 =>
      injection (show some _ = some o from ho) with ho
      subst ho
      have h0 : U 0 = U' 0 := hUe ⟨0, .data⟩ (by simp) rfl
      show Set1 s0 W (U' 0)
      rw [← h0]
      exact hv
    | 3 =>
      injection (show some _ = some o from ho) with ho
      subst ho
      have h0 : U 0 = U' 0 := hUe ⟨0, .data⟩ (by simp) rfl
      show Set1 s0 W (U' 3) ∧ U' 0 = U' 3
      rw [← hUi, ← h0]
      exact hv
    | 4 =>
      injection (show some _ = some o from ho) with ho
      subst ho
      show Set0 s0 W (U' 4)
      rw [← hUi]
      exact hv
    | 5 =>
      injection (show some _ = some o from ho) with ho
      subst ho
      show U' 5 = _
      rw [← hUi]
      exact hv
    | 6 =>
      injection (show some _ = some o from ho) with ho
      subst ho
      have h4 : U 4 = U' 4 := hUe ⟨4, .data⟩ (by simp) rfl
      show Set1 s0 W (U' 4)
      rw [← h4]
      exact hv
    | 7 =>
      injection (show some _ = some o from ho) with ho
      subst ho
      have h4 : U 4 = U' 4 := hUe ⟨4, .data⟩ (by simp) rfl
      show Set1 s0 W (U' 7) ∧ U' 4 = U' 7
      rw [← hUi, ← h4]
      exact hv
    | 8 =>
      injection (show some _ = some o from ho) with ho
      subst ho
      have h3 : U 3 = U' 3 := hUe ⟨3, .data⟩ (by simp) rfl
      show Set1 s0 W (U' 8) ∧ U' 3 = U' 8
      rw [← hUi, ← h3]
      exact hv
    | 9 =>
      injection (show some _ = some o from ho) with ho
      subst ho
      have h7 : U 7 = U' 7 := hUe ⟨7, .data⟩ (by simp) rfl
      show Set1 s0 W (U' 9) ∧ U' 7 = U' 9
      rw [← hUi, ← h7]
      exact hv
    | i + 10 => exact absurd ho (by simp)
  case hmono =>
    intro i U W W' hx hv
    match i with
    | 0 | 4 => exact Set0.ext hv hx
    | 1 | 5 => exact hv
    | 2 | 6 => exact Set1.ext hv hx
    | 3 | 7 | 8 | 9 => exact ⟨Set1.ext hv.1 hx, hv.2⟩
    | i + 10 => trivial
  case hstep =>
    intro i o F U W ho hGW hat hoff hp
    match i with
    | 0 =>
      injection (show some _ = some o from ho) with ho
      subst ho
      refine on_ (wanted_none rfl) ?_
      clear hat hoff hp
      refine wp_value' (.map (some W.heap.size)) (W.alloc (.map #[] 0)) (by unfold execOp; go_simp; rw [run_makeMap_plain]; go_simp) ⟨_, rfl, ?_, hGW.alloc (by rw [hs0]; exact hGW.size) _, ext5_alloc W, ?_⟩
      · show Set0 s0 _ (updU U 0 _ 0)
        rw [updU_same]
        exact ⟨_, rfl, by rw [hs0]; have := hGW.size; omega, .inl (SetIs.made W)⟩
      · intro d hd hV h h0 h4
        have hd4 : d 4 = true := by simpa using h4
        obtain ⟨g, hg, hlt⟩ := Set0.lt (hV 4 (of_decide_eq_true (by kernel_rfl)) hd4 : Set0 s0 W (U 4))
        rw [updU_same, updU_other U _ (show 4 ≠ 0 by omega), hg]
        intro e
        injection e with e
        injection e with e
        omega
    | 1 =>
      injection (show some _ = some o from ho) with ho
      subst ho
      refine on_ (wanted_none rfl) ?_
      clear hat hoff hp
      refine wp_value' (spotV' 0 0) W (by unfold execOp; go_simp) ⟨_, rfl, updU_same _ _ _, hGW, Ext5.refl W, fun d _ _ h h0 h4 => by
        have h0' : d 0 = true := by simpa using h0
        have h4' : d 4 = true := by simpa using h4
        rw [updU_other U _ (show 0 ≠ 1 by omega), updU_other U _ (show 4 ≠ 1 by omega)]
        exact h h0' h4'⟩
    | 2 =>
      injection (show some _ = some o from ho) with ho
      subst ho
      refine on_ (wanted_none rfl) ?_
      have e44 := hat 0 44 (of_decide_eq_true (by kernel_rfl)) rfl
      have v0 := hp ⟨0, .data⟩ (by simp) rfl
      have e45 := hat 1 45 (of_decide_eq_true (by kernel_rfl)) rfl
      have v1 := hp ⟨1, .data⟩ (by simp) rfl
      clear hat hoff hp
      obtain ⟨g, W', eg, hrun, h1, h2, h3⟩ := set_put v0 w hGW (by rw [hs0]; exact hGW.size)
      rw [eg] at e44
      have t44 := act_tmp e44
      have t45 := act_tmp (e45.trans v1)
      refine wp_skip' W' (by unfold execOp; go_simp) ⟨_, rfl, ?_, h2, h3, fun d _ _ h h0 h4 => by
        have h0' : d 0 = true := by simpa using h0
        have h4' : d 4 = true := by simpa using h4
        rw [updU_other U _ (show 0 ≠ 2 by omega), updU_other U _ (show 4 ≠ 2 by omega)]
        exact h h0' h4'⟩
      show Set1 s0 W' (updU U 2 _ 0)
      rw [updU_other U _ (show 0 ≠ 2 by omega)]
      exact h1
    | 3 =>
      injection (show some _ = some o from ho) with ho
      subst ho
      refine on_ (wanted_none rfl) ?_
      have e44 := hat 0 44 (of_decide_eq_true (by kernel_rfl)) rfl
      have v0 := hp ⟨0, .data⟩ (by simp) rfl
      have vs := hp ⟨2, .data⟩ (by simp) rfl
      refine wp_move' (.tmp 44) rfl ⟨_, rfl, ?_, hGW, Ext5.refl W, fun d _ _ h h0 h4 => by
        have h0' : d 0 = true := by simpa using h0
        have h4' : d 4 = true := by simpa using h4
        rw [updU_other U _ (show 0 ≠ 3 by omega), updU_other U _ (show 4 ≠ 3 by omega)]
        exact h h0' h4'⟩
      show Set1 s0 W (updU U 3 _ 3) ∧ updU U 3 _ 0 = updU U 3 _ 3
      rw [updU_same, updU_other U _ (show 0 ≠ 3 by omega), e44]
      exact ⟨vs, rfl⟩
    | 4 =>
      injection (show some _ = some o from ho) with ho
      subst ho
      refine on_ (wanted_none rfl) ?_
      clear hat hoff hp
      refine wp_value' (.map (some W.heap.size)) (W.alloc (.map #[] 0)) (by unfold execOp; go_simp; rw [run_makeMap_plain]; go_simp) ⟨_, rfl, ?_, hGW.alloc (by rw [hs0]; exact hGW.size) _, ext5_alloc W, ?_⟩
      · show Set0 s0 _ (updU U 4 _ 4)
        rw [updU_same]
        exact ⟨_, rfl, by rw [hs0]; have := hGW.size; omega, .inl (SetIs.made W)⟩
      · intro d hd hV h h0 h4
        have hd0 : d 0 = true := by simpa using h0
        obtain ⟨g, hg, hlt⟩ := Set0.lt (hV 0 (of_decide_eq_true (by kernel_rfl)) hd0 : Set0 s0 W (U 0))
        rw [updU_same, updU_other U _ (show 0 ≠ 4 by omega), hg]
        intro e
        injection e with e
        injection e with e
        omega
    | 5 =>
      injection (show some _ = some o from ho) with ho
      subst ho
      refine on_ (wanted_none rfl) ?_
      clear hat hoff hp
      refine wp_value' (spotV' 0 0) W (by unfold execOp; go_simp) ⟨_, rfl, updU_same _ _ _, hGW, Ext5.refl W, fun d _ _ h h0 h4 => by
        have h0' : d 0 = true := by simpa using h0
        have h4' : d 4 = true := by simpa using h4
        rw [updU_other U _ (show 0 ≠ 5 by omega), updU_other U _ (show 4 ≠ 5 by omega)]
        exact h h0' h4'⟩
    | 6 =>
      injection (show some _ = some o from ho) with ho
      subst ho
      refine on_ (wanted_none rfl) ?_
      have e47 := hat 4 47 (of_decide_eq_true (by kernel_rfl)) rfl
      have v4 := hp ⟨4, .data⟩ (by simp) rfl
      have e48 := hat 5 48 (of_decide_eq_true (by kernel_rfl)) rfl
      have v5 := hp ⟨5, .data⟩ (by simp) rfl
      clear hat hoff hp
      obtain ⟨g, W', eg, hrun, h1, h2, h3⟩ := set_put v4 w hGW (by rw [hs0]; exact hGW.size)
      rw [eg] at e47
      have t47 := act_tmp e47
      have t48 := act_tmp (e48.trans v5)
      refine wp_skip' W' (by unfold execOp; go_simp) ⟨_, rfl, ?_, h2, h3, fun d _ _ h h0 h4 => by
        have h0' : d 0 = true := by simpa using h0
        have h4' : d 4 = true := by simpa using h4
        rw [updU_other U _ (show 0 ≠ 6 by omega), updU_other U _ (show 4 ≠ 6 by omega)]
        exact h h0' h4'⟩
      show Set1 s0 W' (updU U 6 _ 4)
      rw [updU_other U _ (show 4 ≠ 6 by omega)]
      exact h1
    | 7 =>
      injection (show some _ = some o from ho) with ho
      subst ho
      refine on_ (wanted_none rfl) ?_
      have e47 := hat 4 47 (of_decide_eq_true (by kernel_rfl)) rfl
      have v4 := hp ⟨4, .data⟩ (by simp) rfl
      have vs := hp ⟨6, .data⟩ (by simp) rfl
      refine wp_move' (.tmp 47) rfl ⟨_, rfl, ?_, hGW, Ext5.refl W, fun d _ _ h h0 h4 => by
        have h0' : d 0 = true := by simpa using h0
        have h4' : d 4 = true := by simpa using h4
        rw [updU_other U _ (show 0 ≠ 7 by omega), updU_other U _ (show 4 ≠ 7 by omega)]
        exact h h0' h4'⟩
      show Set1 s0 W (updU U 7 _ 7) ∧ updU U 7 _ 4 = updU U 7 _ 7
      rw [updU_same, updU_other U _ (show 4 ≠ 7 by omega), e47]
      exact ⟨vs, rfl⟩
    | 8 =>
      injection (show some _ = some o from ho) with ho
      subst ho
      refine on_ (wanted_none rfl) ?_
      have e46 := hat 3 46 (of_decide_eq_true (by kernel_rfl)) rfl
      have v3 := hp ⟨3, .data⟩ (by simp) rfl
      refine wp_assign' (.tmp 46) rfl ⟨_, rfl, ?_, hGW, Ext5.refl W, fun d _ _ h h0 h4 => by
        have h0' : d 0 = true := by simpa using h0
        have h4' : d 4 = true := by simpa using h4
        rw [updU_other U _ (show 0 ≠ 8 by omega), updU_other U _ (show 4 ≠ 8 by omega)]
        exact h h0' h4'⟩
      show Set1 s0 W (updU U 8 _ 8) ∧ updU U 8 _ 3 = updU U 8 _ 8
      rw [updU_same, updU_other U _ (show 3 ≠ 8 by omega), e46]
      exact ⟨v3.1, rfl⟩
    | 9 =>
      injection (show some _ = some o from ho) with ho
      subst ho
      refine on_ (wanted_none rfl) ?_
      have e49 := hat 7 49 (of_decide_eq_true (by kernel_rfl)) rfl
      have v7 := hp ⟨7, .data⟩ (by simp) rfl
      refine wp_assign' (.tmp 49) rfl ⟨_, rfl, ?_, hGW, Ext5.refl W, fun d _ _ h h0 h4 => by
        have h0' : d 0 = true := by simpa using h0
        have h4' : d 4 = true := by simpa using h4
        rw [updU_other U _ (show 0 ≠ 9 by omega), updU_other U _ (show 4 ≠ 9 by omega)]
        exact h h0' h4'⟩
      show Set1 s0 W (updU U 9 _ 9) ∧ updU U 9 _ 7 = updU U 9 _ 9
      rw [updU_same, updU_other U _ (show 7 ≠ 9 by omega), e49]
      exact ⟨v7.1, rfl⟩
    | i + 10 => exact absurd ho (by simp)
  case hend =>
    intro U W hGW hV hR
    obtain ⟨d, hd, hne⟩ := hR
    obtain ⟨⟨g1, e1, hg1, hs1⟩, e38⟩ := hV 8 (of_decide_eq_true (by kernel_rfl))
    obtain ⟨⟨g2, e2, hg2, hs2⟩, e79⟩ := hV 9 (of_decide_eq_true (by kernel_rfl))
    obtain ⟨_, e03⟩ := hV 3 (of_decide_eq_true (by kernel_rfl))
    obtain ⟨_, e47⟩ := hV 7 (of_decide_eq_true (by kernel_rfl))
    have h12 : g1 ≠ g2 := by
      intro e
      refine hne (hd 0 (of_decide_eq_true (by kernel_rfl))) (hd 4 (of_decide_eq_true (by kernel_rfl))) ?_
      rw [e03, e38, e1, e47, e79, e2, e]
    clear hV hne
    simp [putU, dstAt, Act.put]
    exact HQ.out _ W g1 g2 ⟨rfl, rfl, rfl, rfl, rfl, rfl, e1, e2, trivial⟩ hg1 hg2 h12 hs1 hs2 hGW
end Go.Proofs.Ytaipgdhdfpemcaa
