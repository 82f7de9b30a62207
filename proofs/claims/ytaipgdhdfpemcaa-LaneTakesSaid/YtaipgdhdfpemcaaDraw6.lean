/-
  A REGION THAT DRAWS ITS ORDER: the law of XDraw3's, with what holds until an operation has run.
-/
import Derived.Test.YtaipgdhdfpemcaaDraw3
namespace Go.Proofs.Ytaipgdhdfpemcaa
open Go.RowKit

/-- does j wait for i? -/
def hasEdge (ops : Array Oper) (j i : Nat) : Bool := match ops[j]? with
  | some o => o.after.any fun e => Region.binds .any e && e.on == i
  | none => false
/-- all operations that are early for s run ahead of it -/
def earlyOk (ops : Array Oper) (stages : List Nat) (early : Nat → Nat → Bool) : Bool :=
  stages.all fun s => (List.range ops.size).all fun i => !early s i || i == s || (List.range ops.size).any fun j => early s j && (decide (i < j) && hasEdge ops j i)
theorem early_done {ops : Array Oper} {stages : List Nat} {early : Nat → Nat → Bool} (h : earlyOk ops stages early = true) {l : Nat → Bool}
    (hcl : ∀ j oj, ops[j]? = some oj → l j = true → ∀ e ∈ oj.after, Region.binds .any e = true → l e.on = true) {s : Nat} (hs : s ∈ stages) (hd : l s = true) :
    ∀ i, i < ops.size → early s i = true → l i = true := by
  have key : ∀ k i, ops.size - i = k → i < ops.size → early s i = true → l i = true := by
    intro k
    induction k using Nat.strongRecOn with
    | _ k ih =>
      intro i hk hi he
      have h1 := List.all_eq_true.1 (List.all_eq_true.1 h s hs) i (List.mem_range.2 hi)
      rw [he] at h1
      simp only [Bool.not_true, Bool.false_or, Bool.or_eq_true, beq_iff_eq] at h1
      rcases h1 with h1 | h1
      · rw [h1]; exact hd
      · obtain ⟨j, hj, h2⟩ := List.any_eq_true.1 h1
        simp only [Bool.and_eq_true, decide_eq_true_eq] at h2
        have hj' := List.mem_range.1 hj
        have hlj := ih (ops.size - j) (by omega) j rfl hj' h2.1
        have h3 := h2.2.2
        unfold hasEdge at h3
        rw [Array.getElem?_eq_getElem hj'] at h3
        simp only at h3
        obtain ⟨e, he1, he2⟩ := Array.any_eq_true'.1 h3
        simp only [Bool.and_eq_true, beq_iff_eq] at he2
        have := hcl j _ (Array.getElem?_eq_getElem hj') hlj e he1 he2.1
        rw [he2.2] at this
        exact this
  exact fun i hi he => key _ i rfl hi he

/-- WHAT EACH OPERATION YIELDS, IN ANY ORDER, with what holds until an operation has run (N; early s: operations that all run ahead of s): one that is not wanted writes 'undef'. G: what is known of the world throughout; V i: what operation i's place holds, once it has run; both outlast what any operation does to the world (Ext). -/
theorem wp_region_stage {P : Program} {ops : Array Oper} {Q : Exit → Act → World → Prop} {id : Nat} {a : Act} {w : World} (hm : P.follows .mixedOrders = true)
    (V : Nat → Value → World → Prop) (G : World → Prop) (N : Nat → World → Prop) (stages : List Nat) (early : Nat → Nat → Bool) (Ext : World → World → Prop)
    (hsz' : drawOk3 ops a.tmps.size = true)
    (hearly : earlyOk ops stages early = true) (hN : ∀ s ∈ stages, N s { w with drawn := w.drawn + 1 })
    (hG : G { w with drawn := w.drawn + 1 })
    (hmono : ∀ i v W W', Ext W W' → V i v W → V i v W')
    (hstep : ∀ (i : Nat) (o : Oper) (F : Act) (U : Nat → Value) (W : World), ops[i]? = some o → G W → (∀ s ∈ stages, early s i = true → N s W) →
      (∀ (j : Nat) (t : Tmp), j < ops.size → dstAt ops j = some t → F.eval (.tmp t) = U j) → (∀ t : Tmp, (∀ j, j < ops.size → dstAt ops j ≠ some t) → F.eval (.tmp t) = a.eval (.tmp t)) →
      (∀ e ∈ o.after, Region.binds .any e = true → V e.on (U e.on) W) →
      (Region.wanted o (yielded ops F.tmps) = true → o.wp P F W (fun a' W' => ∃ v, a' = F.put o.dst v ∧ V i v W' ∧ G W' ∧ Ext W W' ∧ ∀ s ∈ stages, s ≠ i → N s W → N s W') Q) ∧
      (Region.wanted o (yielded ops F.tmps) = false → V i undef W))
    (hend : ∀ (U : Nat → Value) (W : World), G W → (∀ i, i < ops.size → V i (U i) W) → Q .normal (putU ops a U ops.size) W) : (Code.region id ops true).wp P Q a w := by
  refine wp_region_any hm ?_
  obtain ⟨hsz, hd', hback⟩ := drawOk3_spec hsz'
  have main : ∀ (fuel : Nat) (l : Array Bool) (U : Nat → Value) (W : World), l.size = ops.size → G W → (∀ i, i < ops.size → l.getD i false = true → V i (U i) W) → (∀ i o, ops[i]? = some o → l.getD i false = true → ∀ e ∈ o.after, Region.binds .any e = true → l.getD e.on false = true) → (∀ s ∈ stages, l.getD s false = false → N s W) →
      ((List.range ops.size).filter fun i => !l.getD i false).length ≤ fuel → wpAny P .any ops Q fuel l (putU ops a U ops.size) W := by
    intro fuel
    induction fuel with
    | zero =>
      intro l U W hl hGW hV hcl hNl hf
      have hall : ∀ i, i < ops.size → l.getD i false = true := fun i hi => by
        cases hb : l.getD i false with
        | true => rfl
        | false =>
          have : i ∈ (List.range ops.size).filter fun i => !l.getD i false := List.mem_filter.2 ⟨List.mem_range.2 hi, by rw [hb]; rfl⟩
          rw [List.eq_nil_of_length_eq_zero (Nat.le_zero.1 hf)] at this
          cases this
      refine ⟨?_, hend U W hGW fun i hi => hV i hi (hall i hi)⟩
      apply List.eq_nil_iff_forall_not_mem.2
      intro i hi
      obtain ⟨o, ho, hln, _⟩ := ready_spec hi
      have hio : i < ops.size := by
        rcases Nat.lt_or_ge i ops.size with h | h
        · exact h
        · rw [Array.getElem?_eq_none h] at ho; cases ho
      have := hall i hio
      have hil : i < l.size := by omega
      simp [Array.getD, hil] at this hln
      rw [this] at hln
      cases hln
    | succ fuel ih =>
      intro l U W hl hGW hV hcl hNl hf
      refine ⟨fun hr => hend U W hGW fun i hi => hV i hi (ready_some hl (fun i o ho => hback i o ho) hr i hi), fun i hi => ?_⟩
      obtain ⟨o, ho, hln, hpre⟩ := ready_spec hi
      have hio : i < ops.size := by
        rcases Nat.lt_or_ge i ops.size with h | h
        · exact h
        · rw [Array.getElem?_eq_none h] at ho; cases ho
      have hil : i < l.size := by omega
      have hlf : l.getD i false = false := by
        simp [Array.getD, hil] at hln ⊢
        exact hln
      have hb := hback i o ho
      unfold wpOp
      rw [ho]
      have hdo : o.dst = dstAt ops i := by unfold dstAt; rw [ho]; rfl
      have fewer : ((List.range ops.size).filter fun j => !(l.setIfInBounds i true).getD j false).length ≤ fuel := by
        have hlt : ((List.range ops.size).filter fun j => !(l.setIfInBounds i true).getD j false).length < ((List.range ops.size).filter fun j => !l.getD j false).length := by
          refine filter_lt (x := i) (by simp [hio]) (by simp [hlf]) (by simp [Array.getD, hil]) fun j hj hh => ?_
          have hjl : j < l.size := by have := List.mem_range.1 hj; omega
          by_cases hij : i = j
          · subst hij; simpa using hlf
          · simp [Array.getD, hjl, hij] at hh ⊢
            exact hh
        omega
      have hold : ∀ j, j < ops.size → (l.setIfInBounds i true).getD j false = true → j ≠ i → l.getD j false = true := by
        intro j hj hlj hji
        have hjl : j < l.size := by omega
        have hij : ¬ i = j := fun e => hji e.symm
        simp [Array.getD, hjl, hij] at hlj ⊢
        exact hlj
      have hnot : ∀ s ∈ stages, early s i = true → N s W := by
        intro s hs he
        refine hNl s hs ?_
        cases hb2 : l.getD s false with
        | false => rfl
        | true =>
          have := early_done hearly (l := fun j => l.getD j false) (fun j oj hoj hlj e he hbe => hcl j oj hoj hlj e he hbe) hs hb2 i hio he
          rw [hlf] at this
          cases this
      have hst := hstep i o (putU ops a U ops.size) U W ho hGW hnot (fun j t hj ht => putU_at ops.size hd' j hj t ht (hsz j hj t ht)) (fun t ht => putU_off ops.size t ht) (fun e he hbe => by
        have hlt := hb e he hbe
        exact hV e.on (by omega) (hpre e he hbe))
      have hcl' : ∀ j oj, ops[j]? = some oj → (l.setIfInBounds i true).getD j false = true → ∀ e ∈ oj.after, Region.binds .any e = true → (l.setIfInBounds i true).getD e.on false = true := by
        intro j oj hoj hlj e he hbe
        have up : ∀ k, l.getD k false = true → (l.setIfInBounds i true).getD k false = true := by
          intro k hk
          by_cases hki : i = k
          · subst hki; simp [Array.getD, hil]
          · by_cases hkl : k < l.size
            · simp [Array.getD, hkl, hki] at hk ⊢
              exact hk
            · simp [Array.getD, hkl] at hk
        by_cases hji : j = i
        · subst hji
          rw [ho] at hoj
          injection hoj with hoj
          subst hoj
          exact up _ (hpre e he hbe)
        · have hj : j < ops.size := by
            rcases Nat.lt_or_ge j ops.size with h | h
            · exact h
            · rw [Array.getElem?_eq_none h] at hoj; cases hoj
          exact up _ (hcl j oj hoj (hold j hj hlj hji) e he hbe)
      have down : ∀ s, (l.setIfInBounds i true).getD s false = false → s ≠ i ∧ l.getD s false = false := by
        intro s hs
        by_cases hsi : i = s
        · subst hsi; simp [Array.getD, hil] at hs
        · refine ⟨fun e => hsi e.symm, ?_⟩
          by_cases hsl : s < l.size
          · simp [Array.getD, hsl, hsi] at hs ⊢
            exact hs
          · simp [Array.getD, hsl]
      by_cases hw : Region.wanted o (yielded ops (putU ops a U ops.size).tmps) = true
      · simp only [hw, if_true]
        left
        refine Oper.wp_mono ?_ (hst.1 hw)
        rintro a' W' ⟨v, rfl, hv, hG', hx, hn'⟩
        rw [hdo, putU_put2 ops.size i hio v hd']
        refine ih _ _ _ (by simp [hl]) hG' (fun j hj hlj => ?_) hcl' (fun s hs hf => hn' s hs (down s hf).1 (hNl s hs (down s hf).2)) fewer
        unfold updU
        by_cases hji : j = i
        · subst hji; rw [if_pos rfl]; exact hv
        · rw [if_neg hji]
          exact hmono _ _ _ _ hx (hV j hj (hold j hj hlj hji))
      · have hw' : Region.wanted o (yielded ops (putU ops a U ops.size).tmps) = false := by simpa using hw
        simp only [hw', Bool.false_eq_true, if_false]
        rw [hdo, putU_put2 ops.size i hio undef hd']
        refine ih _ _ _ (by simp [hl]) hGW (fun j hj hlj => ?_) hcl' (fun s hs hf => hNl s hs (down s hf).2) fewer
        unfold updU
        by_cases hji : j = i
        · subst hji; rw [if_pos rfl]; exact hst.2 hw'
        · rw [if_neg hji]
          exact hV j hj (hold j hj hlj hji)
  obtain ⟨U, hU⟩ := putU_self (ops := ops) (a := a) ops.size hsz
  have := main ops.size (Array.replicate ops.size false) U { w with drawn := w.drawn + 1 } (by simp) hG (fun i hi h => by simp [Array.getD, hi] at h) (fun i o ho h => by
    have hi : i < ops.size := by
      rcases Nat.lt_or_ge i ops.size with h | h
      · exact h
      · rw [Array.getElem?_eq_none h] at ho; cases ho
    simp [Array.getD, hi] at h) (fun s hs _ => hN s hs) (Nat.le_trans (List.length_filter_le _ _) (by simp))
  rw [hU] at this
  exact this

end Go.Proofs.Ytaipgdhdfpemcaa
