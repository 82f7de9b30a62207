/-
  A REGION THAT DRAWS ITS ORDER AND STORES: the law of XDraw's, where an operation may write no place.
-/
import Derived.Test.YtaipgdhdfpemcaaDraw
namespace Go.Proofs.Ytaipgdhdfpemcaa
open Go.RowKit

section
variable {P : Program} {ops : Array Oper} {a : Act} {U : Nat → Value}
/-- writing one place anew, or none -/
theorem putU_put2 (n i : Nat) (hi : i < n) (v : Value) (hd : ∀ j k, j < n → k < n → ∀ d, dstAt ops j = some d → dstAt ops k = some d → j = k) :
    (putU ops a U n).put (dstAt ops i) v = putU ops a (updU U i v) n := by
  induction n with
  | zero => omega
  | succ n ih =>
    unfold putU
    by_cases h : i = n
    · subst h
      rw [put_put_same, putU_cong i (U := U) (U' := updU U i v) (fun j hj => by unfold updU; rw [if_neg (by omega)])]
      unfold updU
      rw [if_pos rfl]
    · have e : updU U i v n = U n := by unfold updU; rw [if_neg (fun e => h e.symm)]
      rw [e, ← ih (by omega) (fun j k hj hk => hd j k (by omega) (by omega))]
      refine Act.put_comm _ _ _ fun d hdn hdi => ?_
      exact h ((hd n i (by omega) (by omega) d hdn hdi).symm)
end

/-- every operation that writes a place writes one of its own, none is guarded, and all edges lead back -/
def drawOk2 (ops : Array Oper) (n : Nat) : Bool :=
  ((List.range ops.size).all fun j => match dstAt ops j with | some d => decide (d < n) | none => true) &&
  ((List.range ops.size).all fun j => (List.range ops.size).all fun k => (dstAt ops j).isNone || dstAt ops j != dstAt ops k || j == k) &&
  ((List.range ops.size).all fun i => match ops[i]? with | some o => o.guard.isNone && o.after.all (fun e => !Region.binds .any e || decide (e.on < i)) | none => true)
theorem drawOk2_spec {ops : Array Oper} {n : Nat} (h : drawOk2 ops n = true) :
    (∀ j, j < ops.size → ∀ d, dstAt ops j = some d → d < n) ∧ (∀ j k, j < ops.size → k < ops.size → ∀ d, dstAt ops j = some d → dstAt ops k = some d → j = k) ∧
    (∀ i o, ops[i]? = some o → o.guard = none ∧ ∀ e ∈ o.after, Region.binds .any e = true → e.on < i) := by
  simp only [drawOk2, Bool.and_eq_true] at h
  obtain ⟨⟨h1, h2⟩, h3⟩ := h
  refine ⟨fun j hj d hd => ?_, fun j k hj hk d e1 e2 => ?_, fun i o ho => ?_⟩
  · have := List.all_eq_true.1 h1 j (List.mem_range.2 hj)
    rw [hd] at this
    exact of_decide_eq_true this
  · have := List.all_eq_true.1 (List.all_eq_true.1 h2 j (List.mem_range.2 hj)) k (List.mem_range.2 hk)
    simp only [Bool.or_eq_true, bne_iff_ne, ne_eq, beq_iff_eq, Option.isNone_iff_eq_none] at this
    rcases this with (h | h) | h
    · rw [e1] at h; cases h
    · exact absurd (e1.trans e2.symm) h
    · exact h
  · have hi : i < ops.size := by
      rcases Nat.lt_or_ge i ops.size with h | h
      · exact h
      · rw [Array.getElem?_eq_none h] at ho; cases ho
    have := List.all_eq_true.1 h3 i (List.mem_range.2 hi)
    rw [ho] at this
    simp only [Bool.and_eq_true, Option.isNone_iff_eq_none, Array.all_eq_true_iff_forall_mem, Bool.or_eq_true, Bool.not_eq_true', decide_eq_true_eq] at this
    exact ⟨this.1, fun e he hb => (this.2 e he).resolve_left (by rw [hb]; simp)⟩

/-- WHAT EACH OPERATION YIELDS, IN ANY ORDER. G: what is known of the world throughout; V i: what operation i's place holds, once it has run; both outlast what any operation does to the world (Ext). -/
theorem wp_region_stores {P : Program} {ops : Array Oper} {Q : Exit → Act → World → Prop} {id : Nat} {a : Act} {w : World} (hm : P.follows .mixedOrders = true)
    (V : Nat → Value → World → Prop) (G : World → Prop) (Ext : World → World → Prop)
    (hsz' : drawOk2 ops a.tmps.size = true)
    (hG : G { w with drawn := w.drawn + 1 })
    (hmono : ∀ i v W W', Ext W W' → V i v W → V i v W')
    (hstep : ∀ (i : Nat) (o : Oper) (F : Act) (U : Nat → Value) (W : World), ops[i]? = some o → G W →
      (∀ (j : Nat) (t : Tmp), j < ops.size → dstAt ops j = some t → F.eval (.tmp t) = U j) → (∀ t : Tmp, (∀ j, j < ops.size → dstAt ops j ≠ some t) → F.eval (.tmp t) = a.eval (.tmp t)) →
      (∀ e ∈ o.after, Region.binds .any e = true → V e.on (U e.on) W) →
      o.wp P F W (fun a' W' => ∃ v, a' = F.put o.dst v ∧ V i v W' ∧ G W' ∧ Ext W W') Q)
    (hend : ∀ (U : Nat → Value) (W : World), G W → (∀ i, i < ops.size → V i (U i) W) → Q .normal (putU ops a U ops.size) W) : (Code.region id ops true).wp P Q a w := by
  refine wp_region_any hm ?_
  obtain ⟨hsz, hd', hback⟩ := drawOk2_spec hsz'
  have main : ∀ (fuel : Nat) (l : Array Bool) (U : Nat → Value) (W : World), l.size = ops.size → G W → (∀ i, i < ops.size → l.getD i false = true → V i (U i) W) →
      ((List.range ops.size).filter fun i => !l.getD i false).length ≤ fuel → wpAny P .any ops Q fuel l (putU ops a U ops.size) W := by
    intro fuel
    induction fuel with
    | zero =>
      intro l U W hl hGW hV hf
      have hall : ∀ i, i < ops.size → l.getD i false = true := fun i hi => by
        cases hb : l.getD i false with
        | true => rfl
        | false =>
          have : i ∈ (List.range ops.size).filter fun i => !l.getD i false := List.mem_filter.2 ⟨List.mem_range.2 hi, by rw [hb]; rfl⟩
          rw [List.eq_nil_of_length_eq_zero (Nat.le_zero.1 hf)] at this
          cases this
      refine ⟨?_, hend U W hGW fun i hi => hV i hi (hall i hi)⟩
      apply List.eq_nil_iff_forall_not_mem.2
      intro i hi
      obtain ⟨o, ho, hln, _⟩ := ready_spec hi
      have hio : i < ops.size := by
        rcases Nat.lt_or_ge i ops.size with h | h
        · exact h
        · rw [Array.getElem?_eq_none h] at ho; cases ho
      have := hall i hio
      have hil : i < l.size := by omega
      simp [Array.getD, hil] at this hln
      rw [this] at hln
      cases hln
    | succ fuel ih =>
      intro l U W hl hGW hV hf
      refine ⟨fun hr => hend U W hGW fun i hi => hV i hi (ready_some hl (fun i o ho => (hback i o ho).2) hr i hi), fun i hi => ?_⟩
      obtain ⟨o, ho, hln, hpre⟩ := ready_spec hi
      have hio : i < ops.size := by
        rcases Nat.lt_or_ge i ops.size with h | h
        · exact h
        · rw [Array.getElem?_eq_none h] at ho; cases ho
      have hil : i < l.size := by omega
      have hlf : l.getD i false = false := by
        simp [Array.getD, hil] at hln ⊢
        exact hln
      obtain ⟨hg, hb⟩ := hback i o ho
      unfold wpOp
      rw [ho]
      have hw : Region.wanted o (yielded ops (putU ops a U ops.size).tmps) = true := by simp [Region.wanted, hg]
      simp only [hw, if_true]
      left
      refine Oper.wp_mono ?_ (hstep i o (putU ops a U ops.size) U W ho hGW ?_ ?_ ?_)
      · rintro a' W' ⟨v, rfl, hv, hG', hx⟩
        have hdo : o.dst = dstAt ops i := by unfold dstAt; rw [ho]; rfl
        rw [hdo, putU_put2 ops.size i hio v hd']
        refine ih _ _ _ (by simp [hl]) hG' (fun j hj hlj => ?_) ?_
        · unfold updU
          by_cases hji : j = i
          · subst hji; rw [if_pos rfl]; exact hv
          · rw [if_neg hji]
            refine hmono _ _ _ _ hx (hV j hj ?_)
            have hjl : j < l.size := by omega
            have hij : ¬ i = j := fun e => hji e.symm
            simp [Array.getD, hjl, hij] at hlj ⊢
            exact hlj
        · -- one fewer
          have hlt : ((List.range ops.size).filter fun j => !(l.setIfInBounds i true).getD j false).length < ((List.range ops.size).filter fun j => !l.getD j false).length := by
            refine filter_lt (x := i) (by simp [hio]) (by simp [hlf]) (by simp [Array.getD, hil]) fun j hj hh => ?_
            have hjl : j < l.size := by have := List.mem_range.1 hj; omega
            by_cases hij : i = j
            · subst hij; simpa using hlf
            · simp [Array.getD, hjl, hij] at hh ⊢
              exact hh
          omega
      · intro j t hj ht
        exact putU_at ops.size hd' j hj t ht (hsz j hj t ht)
      · intro t ht
        exact putU_off ops.size t ht
      · intro e he hbe
        have hlt := hb e he hbe
        exact hV e.on (by omega) (hpre e he hbe)
  obtain ⟨U, hU⟩ := putU_self (ops := ops) (a := a) ops.size hsz
  have := main ops.size (Array.replicate ops.size false) U { w with drawn := w.drawn + 1 } (by simp) hG (fun i hi h => by simp [Array.getD, hi] at h) (Nat.le_trans (List.length_filter_le _ _) (by simp))
  rw [hU] at this
  exact this

theorem wp_skip' {P : Program} {o : Oper} {F : Act} {W : World} {K : Act → World → Prop} {Q : Exit → Act → World → Prop} (W' : World) (h : (execOp F.eval o).run P W = .ok .skip W') (hk : K (F.put o.dst undef) W') : o.wp P F W K Q := by
  unfold Oper.wp
  rw [h]
  exact hk
end Go.Proofs.Ytaipgdhdfpemcaa
