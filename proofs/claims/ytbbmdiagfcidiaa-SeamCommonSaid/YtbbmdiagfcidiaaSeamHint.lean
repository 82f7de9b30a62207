/-
  THE WALK OF SeamHints: what the taker says of a place that it hasn't, and where the sender looks next, is what the document says.
-/
import Derived.Test.YtbbmdiagfcidiaaSeamRef
import Derived.Deep.RegionWith
import Derived.Deep.DeepMust
namespace Go.Proofs.Ytbbmdiagfcidiaa
open Go.RowKit

/-- a later world: nothing that was there has turned -/
def Later (w W : World) : Prop := Below w.heap.size w W
theorem Later.of {w W : World} (h : Below w.heap.size w W) : Later w W := h
theorem Later.out {w W : World} (h : Later w W) : Below w.heap.size w W := h
theorem Later.step {w W W' : World} (h : Later w W) (h' : Below W.heap.size W W') : Later w W' := Below.trans h (h'.mono h.size)
theorem Later.cell {w W : World} (h : Later w W) {a : Addr} {v : Value} (hc : w.cell? a = some v) : W.cell? a = some v := (Below.cell h (block_lt hc)).trans hc

set_option maxHeartbeats 1600000 in
theorem seamHints_walk (w : World) (A : Option Addr) (n c : Nat) (l : List Int) (h : Reads w w.heap.size 1 A n (intV .i64 l)) (hn : n ≤ maxLen) (_hl : ∀ x ∈ l, (Lit.int .i64 x).wf = true)
    (after : Int) (ha : -9223372036854775808 ≤ after ∧ after ≤ 9223372036854775807) (since : Int) (_hs : -9223372036854775808 ≤ since ∧ since ≤ 9223372036854775807)
    (N : Int) (hN : -9223372036854775808 ≤ N ∧ N ≤ 9223372036854775807) (E : Int) (_hE : -9223372036854775808 ≤ E ∧ E ≤ 9223372036854775807) :
    Calls Try.prog 4 #[.slice A n c, .int .i64 after, .int .i64 since, .agg #[.int .i64 N, .int .i64 E]] w fun e w' => e = .returned (.bool true) ∧ Below w.heap.size w w' := by
  have HR := Lib.hid h
  have HMX := Lib.hid hn
  clear h
  unfold maxLen at hn
  have hb0 : Below w.heap.size w (w.alloc (.cells #[.int .i64 N, .int .i64 E] 30)) := (Below.refl _ _).alloc (Nat.le_refl _) _
  by_cases h2 : (2000 : Int) < n
  · go_enter Try.func4, Try.ntmps4
    go_wp2_with fail
    refine (awake_any _).mono ?_
    rintro e w1 ⟨rfl, hb1⟩
    have hbb1 := hb0.trans (hb1.mono hb0.size)
    have HB1 := Lib.hid hbb1
    clear hb1 hbb1 hb0
    go_wp2_with fail
    refine (awake_any _).mono ?_
    rintro e w2 ⟨rfl, hb2⟩
    have hbb2 := HB1.out.trans (hb2.mono HB1.out.size)
    have HB2 := Lib.hid hbb2
    clear hb2 hbb2
    go_wp2
    go_ret
    exact ⟨rfl, HB2.out⟩
  · go_enter Try.func4, Try.ntmps4
    go_wp2_with fail
    refine (awake_any _).mono ?_
    rintro e w1 ⟨rfl, hb1⟩
    have hbb1 := hb0.trans (hb1.mono hb0.size)
    have hc0 : w1.cell? ⟨w.heap.size, 0, none⟩ = some (.int .i64 N) := (hb1.cell (p := ⟨w.heap.size, 0, none⟩) (by simp)).trans ((Blk.new w 30 _).cell 0)
    have hc1 : w1.cell? ⟨w.heap.size, 1, none⟩ = some (.int .i64 E) := (hb1.cell (p := ⟨w.heap.size, 1, none⟩) (by simp)).trans ((Blk.new w 30 _).cell 1)
    have HB1 := Lib.hid hbb1
    have HC0 := Lib.hid hc0
    have HC1 := Lib.hid hc1
    obtain ⟨K, hK⟩ : ∃ K, K = Seam.hintN l after since := ⟨_, rfl⟩
    obtain ⟨X, hX⟩ : ∃ X, X = Seam.ep l K := ⟨_, rfl⟩
    have d1 : decide ((2000 : Int) < n) = false := by simpa using h2
    have hrd := HR.out.below HB1.out
    have hrd1 : ∀ W, Later w1 W → Reads W W.heap.size 1 A n (intV .i64 l) := fun W hW => (hrd.below (hW.out.mono HB1.out.size)).more (Nat.le_trans HB1.out.size hW.out.size)
    have HO : ∀ W, Later w1 W → Calls Try.prog 8 #[.slice A n c] W fun x w' => ∃ g c', x = .returned (.slice (some ⟨g, 0, none⟩) n c') ∧ Reads w' w'.heap.size 1 (some ⟨g, 0, none⟩) n (intV .i64 l) ∧ Later w1 w' := fun W hW =>
      (own_any A n c l W (hrd1 W hW) (by omega)).mono fun x w' ⟨g, c', hx, _, _, _, hr, hb⟩ => ⟨g, c', hx, hr, hW.step hb⟩
    have HH : ∀ W g c', Reads W W.heap.size 1 (some ⟨g, 0, none⟩) n (intV .i64 l) → Later w1 W → Calls Try.prog 11 #[.slice (some ⟨g, 0, none⟩) n c', .int .i64 after, .int .i64 since] W fun x w' => x = .returned (.agg #[.int .i64 K, .int .i64 X]) ∧ Later w1 w' := fun W g c' hr hW =>
      (hint_any _ n c' l W hr HMX.out after since ha).mono fun x w' ⟨hx, hb⟩ => ⟨by rw [hx, hX, hK]; rfl, hW.step hb⟩
    have HRH : ∀ W, Later w1 W → Calls Try.prog 12 #[.slice A n c, .int .i64 after, .int .i64 since] W fun x w' => x = .returned (.agg #[.int .i64 K, .int .i64 X]) ∧ Later w1 w' := fun W hW =>
      (refHint_any A n c l W (hrd1 W hW) (by omega) after since).mono fun x w' ⟨hx, hb⟩ => ⟨by rw [hx, hX, hK]; rfl, hW.step hb⟩
    have HX : ∀ W g c', Reads W W.heap.size 1 (some ⟨g, 0, none⟩) n (intV .i64 l) → Later w1 W → Calls Try.prog 13 #[.slice (some ⟨g, 0, none⟩) n c', .agg #[.int .i64 N, .int .i64 E]] W fun x w' => x = .returned (.int .i64 (Seam.upTo l N E)) ∧ Later w1 w' := fun W g c' hr hW =>
      (next_any _ n c' l W hr HMX.out N E hN).mono fun x w' ⟨hx, hb⟩ => ⟨hx, hW.step hb⟩
    have HRX : ∀ W, Later w1 W → Calls Try.prog 14 #[.slice A n c, .agg #[.int .i64 N, .int .i64 E]] W fun x w' => x = .returned (.int .i64 (Seam.upTo l N E)) ∧ Later w1 w' := fun W hW =>
      (refNext_any A n c l W (hrd1 W hW) (by omega) N E).mono fun x w' ⟨hx, hb⟩ => ⟨hx, hW.step hb⟩
    have hL0 : Later w1 w1.drew := (Below.refl _ _).drew
    have HO' := Lib.hid HO
    have HH' := Lib.hid HH
    have HRH' := Lib.hid HRH
    have HX' := Lib.hid HX
    have HRX' := Lib.hid HRX
    clear HO HH HRH HX HRX hrd1 hrd hb1 hbb1 hb0 hK hX
    go_wp2_with fail
    go_region_with (first
      | (go_at_call 8; (with_reducible refine (HO'.out _ (by assumption)).mono ?_); rintro e w' ⟨g, c', rfl, hr', hl'⟩; have k0 := hl'.cell HC0.out; have k1 := hl'.cell HC1.out)
      | (go_at_call 11; (with_reducible refine (HH'.out _ _ _ (by assumption) (by assumption)).mono ?_); rintro e w' ⟨rfl, hl'⟩; have k0 := hl'.cell HC0.out; have k1 := hl'.cell HC1.out)
      | (go_at_call 12; (with_reducible refine (HRH'.out _ (by assumption)).mono ?_); rintro e w' ⟨rfl, hl'⟩; have k0 := hl'.cell HC0.out; have k1 := hl'.cell HC1.out)
      | (go_at_call 13; (with_reducible refine (HX'.out _ _ _ (by assumption) (by assumption)).mono ?_); rintro e w' ⟨rfl, hl'⟩; have k0 := hl'.cell HC0.out; have k1 := hl'.cell HC1.out)
      | (go_at_call 14; (with_reducible refine (HRX'.out _ (by assumption)).mono ?_); rintro e w' ⟨rfl, hl'⟩; have k0 := hl'.cell HC0.out; have k1 := hl'.cell HC1.out))
    all_goals
      go_wp2
      go_ret
      exact ⟨rfl, HB1.out.trans (Below.mono (Later.out (by assumption)) HB1.out.size)⟩

end Go.Proofs.Ytbbmdiagfcidiaa
