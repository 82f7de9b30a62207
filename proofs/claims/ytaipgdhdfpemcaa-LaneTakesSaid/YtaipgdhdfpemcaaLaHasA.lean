/-
  THE WALKS OF THE LANE: whether operations have a place, in general; a place put further.
-/
import Derived.Test.YtaipgdhdfpemcaaLaHas
import Derived.Test.YtaipgdhdfpemcaaLaWhole
namespace Go.Proofs.Ytaipgdhdfpemcaa
open Go.RowKit

theorem has_any {A : Option Addr} {n cap g c1 : Nat} {N E : Int} {S : Nat → Prop} (cs : List OpC) (w : World) (h : OpsIs w S A n cap cs) (hz : n ≤ 4294967296) (hg : Blk w g 26 #[.int .i64 N, .int .i64 E]) :
    Calls Try.prog 54 #[.slice A n cap, .slice (some ⟨g, 0, none⟩) 1 c1] w fun x w' => x = .returned (.bool (hasB cs N E)) ∧ Below w.heap.size w w' := by
  have hl := h.len
  by_cases h0 : N = 0 ∧ E = 0
  · have e : hasB cs N E = true := by simp [hasB, h0.1, h0.2]
    rw [e]
    exact has_zero w hg h0.1 h0.2
  have e0 : (decide (N = 0) && decide (E = 0)) = false := by
    rw [Bool.and_eq_false_imp]
    intro h1
    exact decide_eq_false fun h2 => h0 ⟨of_decide_eq_true h1, h2⟩
  by_cases h1 : N < 1
  · have e : hasB cs N E = false := by
      have : decide (1 ≤ N) = false := decide_eq_false (by omega)
      simp only [hasB, e0, this, Bool.false_and, Bool.or_false]
    rw [e]
    exact has_low w hg h1 h0
  by_cases h2 : (n : Int) < N
  · have e : hasB cs N E = false := by
      have : decide (N ≤ (cs.length : Int)) = false := decide_eq_false (by omega)
      simp only [hasB, e0, this, Bool.false_and, Bool.and_false, Bool.or_false]
    rw [e]
    exact has_high w hg (by omega) h2
  obtain ⟨k, hk⟩ : ∃ k : Nat, N = (k : Int) + 1 := ⟨(N - 1).toNat, by omega⟩
  subst hk
  obtain ⟨ad, c, hA, hn, hc, rfl, hb, ho, hop, hs⟩ := h.at_ (k := k) (by omega)
  have e1 : decide (1 ≤ (k : Int) + 1) = true := decide_eq_true (by omega)
  have e2 : decide ((k : Int) + 1 ≤ (cs.length : Int)) = true := decide_eq_true (by omega)
  have e3 : ((k : Int) + 1 - 1).toNat = k := by omega
  by_cases hne : c.n = (k : Int) + 1 ∧ c.epoch = E
  · have e : hasB cs ((k : Int) + 1) E = true := by
      simp only [hasB, e0, e1, e2, e3, ho, hne.1, hne.2, decide_true, Bool.and_self, Bool.or_true]
    rw [e]
    exact has_yes c w hg (by omega) hz hb hop hne
  · have e : hasB cs ((k : Int) + 1) E = false := by
      simp only [hasB, e0, e1, e2, e3, ho, Bool.true_and, Bool.false_or]
      rw [Bool.and_eq_false_imp]
      intro h1
      exact decide_eq_false fun h2 => hne ⟨of_decide_eq_true h1, h2⟩
    rw [e]
    exact has_not c w hg (by omega) hz hb hop hne

/-- a block, its first two cells put further -/
def further (cs : Array Value) (mN tN tE : Int) : Array Value := if mN < tN then (cs.setIfInBounds 0 (.int .i64 tN)).setIfInBounds 1 (.int .i64 tE) else cs
theorem further_any (b : Nat) (cs : Array Value) (t : TypeId) (mN mE tN tE : Int) (w : World) (h : Blk w b t cs) (h0 : cs[0]? = some (.int .i64 mN)) (h1 : cs[1]? = some (.int .i64 mE)) :
    Calls Try.prog 78 #[.pointer (some ⟨b, 0, none⟩), .agg #[.int .i64 tN, .int .i64 tE]] w fun x w' => x = .returned (.tuple #[]) ∧ Blk w' b t (further cs mN tN tE) ∧ Save b w w' ∧ Below b w w' := by
  have hl := h.lt
  have hb := h.alloc (.cells #[.int .i64 tN, .int .i64 tE] 26)
  have hw : Below w.heap.size w (w.alloc (.cells #[.int .i64 tN, .int .i64 tE] 26)) := (Below.refl _ _).alloc (Nat.le_refl _) _
  have k0 := hb.cell 0
  have k1 := hb.cell 1
  rw [h0] at k0
  rw [h1] at k1
  have f0 := hb.frozen 0
  have f1 := hb.frozen 1
  have HW := Lib.hid hw
  have HB := Lib.hid hb
  clear h h0 h1 hb hw
  by_cases hlt : mN < tN
  · have hd : decide (mN < tN) = true := decide_eq_true hlt
    have HL := Lib.hid hlt
    clear hlt
    go_enter Try.func78, Try.ntmps78
    go_wp2_with fail
    go_quiet (fail)
    go_wp2_with fail
    refine bodyPost_end (results_none rfl _ _ _) rfl ?_
    refine ⟨rfl, ?_, ?_, ?_⟩
    · have e : further cs mN tN tE = (cs.setIfInBounds 0 (.int .i64 tN)).setIfInBounds 1 (.int .i64 tE) := by unfold further; rw [if_pos HL.out]
      rw [e]
      exact ((HB.out.drewN _).set_ 0 _).set_ 1 _
    · exact fun x h1 h2 => (Below.heap_setCell _ ⟨b, 1, none⟩ _ x h2).trans ((Below.heap_setCell _ ⟨b, 0, none⟩ _ x h2).trans (HW.out.block x h1))
    · exact ((below_drewN (HW.out.mono (Nat.le_of_lt hl)) _).setCell (p := ⟨b, 0, none⟩) (Nat.le_refl _) _).setCell (p := ⟨b, 1, none⟩) (Nat.le_refl _) _
  · have hd : decide (mN < tN) = false := decide_eq_false hlt
    have HL := Lib.hid hlt
    clear hlt
    go_enter Try.func78, Try.ntmps78
    go_wp2_with fail
    go_quiet (fail)
    go_wp2_with fail
    refine bodyPost_end (results_none rfl _ _ _) rfl ?_
    refine ⟨rfl, ?_, ?_, ?_⟩
    · have e : further cs mN tN tE = cs := by unfold further; rw [if_neg (by have := HL.out; omega)]
      rw [e]
      exact HB.out.drewN _
    · exact fun x h1 h2 => HW.out.block x h1
    · exact below_drewN (HW.out.mono (Nat.le_of_lt hl)) _
end Go.Proofs.Ytaipgdhdfpemcaa
