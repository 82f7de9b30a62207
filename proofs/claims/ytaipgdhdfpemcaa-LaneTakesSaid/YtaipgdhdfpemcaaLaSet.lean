/-
  SETS OF PLACES: a map from places to yes, which the call makes.
-/
import Derived.Test.YtaipgdhdfpemcaaLaDat
import Derived.Maps.OwnSet
import Derived.DeepKeys4
namespace Go.Proofs.Ytaipgdhdfpemcaa
open Go.RowKit
open Go.Maps

theorem laidOut_ : laidOutB Try.prog = true := by kernel_rfl
theorem spotKeyed : Keyed Try.prog 26 := Keyed.of_law (deep_law_laid (m := 5) laidOut_ (by omega) (of_decide_eq_true (by kernel_rfl)) (by kernel_rfl) (by kernel_rfl))
/-- a place as a key -/
@[reducible] def spotV' (N E : Int) : Value := .agg #[.int .i64 N, .int .i64 E]
theorem wf_of {z : Int} (h : I64 z) : (Lit.int .i64 z).wf = true := WalkArith.wf_i64 ⟨h.1, h.2⟩
theorem spotKey (N E : Int) (hN : I64 N) (hE : I64 E) : ∃ l, keyOf Try.prog 26 (spotV' N E) = some l := by
  have h1 := wf_of hN
  have h2 := wf_of hE
  have hk : Try.prog.keyType 26 = true := by kernel_rfl
  unfold keyOf
  rw [Try.underlying26]
  simp only [hk]
  have hf : (spotV' N E).formed Try.prog 26 = true := by
    unfold Value.formed
    rw [Try.underlying26]
    kernel_rfl
  have hl : ∃ ls, Try.prog.keyLits (Try.prog.types.size + 1) 26 [.int .i64 N, .int .i64 E] = some ls := by
    obtain ⟨q, hq⟩ : ∃ q, Try.prog.types.size + 1 = q + 1 + 1 := ⟨Try.prog.types.size - 1, by
      have : 0 < Try.prog.types.size := of_decide_eq_true (by kernel_rfl)
      omega⟩
    rw [hq]
    have hi : ∀ z, (Lit.int .i64 z).wf = true → Try.prog.keyLits (q + 1) 3 [.int .i64 z] = some [.int .i64 z] := by
      intro z hz
      unfold Program.keyLits
      rw [Try.underlying3]
      simp [hz]
    unfold Program.keyLits
    rw [Try.underlying26]
    simp [Try.cSpot, Try.cInt, hi _ h1, hi _ h2]
  obtain ⟨ls, hls⟩ := hl
  simp [hf, Value.cells]
  exact ⟨_, ls, hls, rfl⟩
theorem plainElem_bool_inv {H : Type} {P : Program} {e : TypeId} (he : P.underlying e = some .bool) {v : Value} {z : DataW H × List MemPlace} (h : plainElem P e v = some z) : ∃ x, v = .bool x ∧ z = (.lit (.bool x), []) := by
  unfold plainElem at h
  rw [he] at h
  cases v <;> simp at h
  subst h
  exact ⟨_, rfl, rfl⟩
theorem zeroBool (w : World) : (zeroValue 4).run Try.prog w = .ok (.bool false) w := by kernel_rfl
/-- block b is a set of at most c places, among which these are -/
def SetIs (w : World) (b c : Nat) (L : List (Int × Int)) : Prop :=
  ∃ (n : Nat) (D : DataW Unit), w.ownsMap Try.prog 26 (plainElem Try.prog 4) b n D ∧ Maps.size D ≤ c ∧ ∀ p ∈ L, ∃ l, keyOf Try.prog 26 (spotV' p.1 p.2) = some l ∧ D.atKey l (.lit (.bool false)) = .lit (.bool true)
section
variable {w w' : World} {b c : Nat} {L : List (Int × Int)}
theorem SetIs.lt (h : SetIs w b c L) : b < w.heap.size := by
  obtain ⟨n, D, h, _⟩ := h
  exact h.lt
theorem SetIs.keep (h : SetIs w b c L) (hk : w'.heap[b]? = w.heap[b]?) : SetIs w' b c L := by
  obtain ⟨n, D, ⟨es, clock, h1, h2⟩, h3⟩ := h
  exact ⟨n, D, ⟨es, clock, hk.trans h1, h2⟩, h3⟩
theorem SetIs.below {B : Nat} (h : SetIs w b c L) (hb : Below B w w') (hg : b < B) : SetIs w' b c L := h.keep (hb.block b hg)
theorem SetIs.made (w : World) : SetIs (w.alloc (.map #[] 0)) w.heap.size 0 [] :=
  ⟨0, .map [], World.ownsMap_made w _ _ _, Nat.le_refl _, fun p hp => by cases hp⟩
theorem ownsMap_size {H : Type} {P : Program} {k : TypeId} {R : Value → Option (DataW H × List MemPlace)} {n : Nat} {D : DataW H} (h : w.ownsMap P k R b n D) : w.ownsMap P k R b (Maps.size D) D := by
  obtain ⟨es, clock, hb, F, hs, hD⟩ := h
  refine ⟨es, clock, hb, F, ?_, hD⟩
  rw [hD, Maps.size_eq, length_sorted]
  simp
/-- one more place -/
theorem SetIs.add (h : SetIs w b c L) (hc : c < maxLen) (N E : Int) (hN : I64 N) (hE : I64 E) :
    ∃ w', (Instr.mapUpdate 79 (.map (some b)) (spotV' N E) (.bool true)).run Try.prog w = .ok () w' ∧ SetIs w' b (c + 1) ((N, E) :: L) ∧ w.grownBy w' (some b) := by
  obtain ⟨n, D, h1, h2, h3⟩ := h
  obtain ⟨l, hl⟩ := spotKey N E hN hE
  have h4 := ownsMap_size h1
  have ht := h1.tidy spotKeyed
  have hik := spotKeyed.key hl
  obtain ⟨w', hrun, h5, hg⟩ := h4.update spotKeyed Try.underlying79 (by omega) hl (plainElem_bool Try.underlying4 true)
  refine ⟨w', hrun, ⟨_, _, h5, ?_, ?_⟩, hg⟩
  · rw [size_put ht]
    split <;> omega
  · intro p hp
    rcases List.mem_cons.1 hp with rfl | hp
    · exact ⟨l, hl, atKey_put_same ht.isMap hik _ _⟩
    · obtain ⟨l2, hl2, hat⟩ := h3 p hp
      refine ⟨l2, hl2, ?_⟩
      by_cases e : l2 = l
      · subst e
        exact atKey_put_same ht.isMap hik _ _
      · rw [atKey_put_other e]
        exact hat
/-- a place that is there, put in again -/
theorem SetIs.again (h : SetIs w b c L) (hc : c < maxLen) (N E : Int) (hm : (N, E) ∈ L) :
    ∃ w', (Instr.mapUpdate 79 (.map (some b)) (spotV' N E) (.bool true)).run Try.prog w = .ok () w' ∧ SetIs w' b c L ∧ w.grownBy w' (some b) := by
  obtain ⟨n, D, h1, h2, h3⟩ := h
  obtain ⟨l, hl, hat⟩ := h3 _ hm
  have h4 := ownsMap_size h1
  have ht := h1.tidy spotKeyed
  have hik := spotKeyed.key hl
  obtain ⟨w', hrun, h5, hg⟩ := h4.update spotKeyed Try.underlying79 (by omega) hl (plainElem_bool Try.underlying4 true)
  have hh : Maps.has D l = true := by
    cases hx : Maps.has D l with
    | true => rfl
    | false =>
      rw [atKey_of_not_has hx] at hat
      cases hat
  refine ⟨w', hrun, ⟨_, _, h5, ?_, ?_⟩, hg⟩
  · rw [size_put ht, if_pos hh]
    exact h2
  · intro p hp
    obtain ⟨l2, hl2, hat2⟩ := h3 p hp
    refine ⟨l2, hl2, ?_⟩
    by_cases e : l2 = l
    · subst e
      exact atKey_put_same ht.isMap hik _ _
    · rw [atKey_put_other e]
      exact hat2
set_option maxRecDepth 100000 in
/-- is a place there? -/
theorem SetIs.look (h : SetIs w b c L) (N E : Int) (hm : (N, E) ∈ L) : (Instr.lookup 79 (.map (some b)) (spotV' N E) false).run Try.prog w = .ok (.bool true) w := by
  obtain ⟨n, D, h1, h2, h3⟩ := h
  obtain ⟨l, hl, hat⟩ := h3 _ hm
  obtain ⟨v, ps, hrun, hv⟩ := h1.lookup spotKeyed Try.underlying79 (z := .bool false) (zeroBool w) (plainElem_bool Try.underlying4 false) hl
  rw [hat] at hv
  obtain ⟨x, rfl, hx⟩ := plainElem_bool_inv Try.underlying4 hv
  injection hx with hx _
  injection hx with hx
  injection hx with hx
  rw [hrun, hx]
end
end Go.Proofs.Ytaipgdhdfpemcaa
