/-
  A REGION THAT DRAWS ITS ORDER: the law of XDraw3's, where what an operation yields may be told by what those ahead of it have yielded.
-/
import Derived.Test.YtaipgdhdfpemcaaDraw3
namespace Go.Proofs.Ytaipgdhdfpemcaa
open Go.RowKit

/-- WHAT EACH OPERATION YIELDS, IN ANY ORDER, told by what the operations ahead of it have yielded: one that is not wanted writes 'undef'. G: what is known of the world throughout; V i: what operation i's place holds, once it has run; both outlast what any operation does to the world (Ext). -/
theorem wp_region_dep {P : Program} {ops : Array Oper} {Q : Exit → Act → World → Prop} {id : Nat} {a : Act} {w : World} (hm : P.follows .mixedOrders = true)
    (V : Nat → (Nat → Value) → World → Prop) (R : (Nat → Bool) → (Nat → Value) → Prop) (G : World → Prop) (Ext : World → World → Prop)
    (hsz' : drawOk3 ops a.tmps.size = true)
    (hG : G { w with drawn := w.drawn + 1 })
    (hloc : ∀ (i : Nat) (o : Oper) (U U' : Nat → Value) (W : World), ops[i]? = some o → U i = U' i → (∀ e ∈ o.after, Region.binds .any e = true → U e.on = U' e.on) → V i U W → V i U' W)
    (hrefl : ∀ W, Ext W W) (hR : ∀ U, R (fun _ => false) U)
    (hmono : ∀ i U W W', Ext W W' → V i U W → V i U W')
    (hstep : ∀ (i : Nat) (o : Oper) (F : Act) (U : Nat → Value) (W : World), ops[i]? = some o → G W →
      (∀ (j : Nat) (t : Tmp), j < ops.size → dstAt ops j = some t → F.eval (.tmp t) = U j) → (∀ t : Tmp, (∀ j, j < ops.size → dstAt ops j ≠ some t) → F.eval (.tmp t) = a.eval (.tmp t)) →
      (∀ e ∈ o.after, Region.binds .any e = true → V e.on U W) →
      (Region.wanted o (yielded ops F.tmps) = true → o.wp P F W (fun a' W' => ∃ v, a' = F.put o.dst v ∧ V i (updU U i v) W' ∧ G W' ∧ Ext W W' ∧ ∀ d : Nat → Bool, d i = false → (∀ j, j < ops.size → d j = true → V j U W) → R d U → R (fun j => d j || j == i) (updU U i v)) Q) ∧
      (Region.wanted o (yielded ops F.tmps) = false → V i (updU U i undef) W ∧ ∀ d : Nat → Bool, d i = false → R d U → R (fun j => d j || j == i) (updU U i undef)))
    (hend : ∀ (U : Nat → Value) (W : World), G W → (∀ i, i < ops.size → V i U W) → (∃ d : Nat → Bool, (∀ j, j < ops.size → d j = true) ∧ R d U) → Q .normal (putU ops a U ops.size) W) : (Code.region id ops true).wp P Q a w := by
  refine wp_region_any hm ?_
  obtain ⟨hsz, hd', hback⟩ := drawOk3_spec hsz'
  have main : ∀ (fuel : Nat) (l : Array Bool) (U : Nat → Value) (W : World), l.size = ops.size → G W → (∀ i, i < ops.size → l.getD i false = true → V i U W) → (∀ i o, ops[i]? = some o → l.getD i false = true → ∀ e ∈ o.after, Region.binds .any e = true → l.getD e.on false = true) → R (fun j => l.getD j false) U →
      ((List.range ops.size).filter fun i => !l.getD i false).length ≤ fuel → wpAny P .any ops Q fuel l (putU ops a U ops.size) W := by
    intro fuel
    induction fuel with
    | zero =>
      intro l U W hl hGW hV hcl hRl hf
      have hall : ∀ i, i < ops.size → l.getD i false = true := fun i hi => by
        cases hb : l.getD i false with
        | true => rfl
        | false =>
          have : i ∈ (List.range ops.size).filter fun i => !l.getD i false := List.mem_filter.2 ⟨List.mem_range.2 hi, by rw [hb]; rfl⟩
          rw [List.eq_nil_of_length_eq_zero (Nat.le_zero.1 hf)] at this
          cases this
      refine ⟨?_, hend U W hGW (fun i hi => hV i hi (hall i hi)) ⟨_, hall, hRl⟩⟩
      apply List.eq_nil_iff_forall_not_mem.2
      intro i hi
      obtain ⟨o, ho, hln, _⟩ := ready_spec hi
      have hio : i < ops.size := by
        rcases Nat.lt_or_ge i ops.size with h | h
        · exact h
        · rw [Array.getElem?_eq_none h] at ho; cases ho
      have := hall i hio
      have hil : i < l.size := by omega
      simp [Array.getD, hil] at this hln
      rw [this] at hln
      cases hln
    | succ fuel ih =>
      intro l U W hl hGW hV hcl hRl hf
      refine ⟨fun hr => hend U W hGW (fun i hi => hV i hi (ready_some hl (fun i o ho => hback i o ho) hr i hi)) ⟨_, fun i hi => ready_some hl (fun i o ho => hback i o ho) hr i hi, hRl⟩, fun i hi => ?_⟩
      obtain ⟨o, ho, hln, hpre⟩ := ready_spec hi
      have hio : i < ops.size := by
        rcases Nat.lt_or_ge i ops.size with h | h
        · exact h
        · rw [Array.getElem?_eq_none h] at ho; cases ho
      have hil : i < l.size := by omega
      have hlf : l.getD i false = false := by
        simp [Array.getD, hil] at hln ⊢
        exact hln
      have hb := hback i o ho
      unfold wpOp
      rw [ho]
      have hdo : o.dst = dstAt ops i := by unfold dstAt; rw [ho]; rfl
      have fewer : ((List.range ops.size).filter fun j => !(l.setIfInBounds i true).getD j false).length ≤ fuel := by
        have hlt : ((List.range ops.size).filter fun j => !(l.setIfInBounds i true).getD j false).length < ((List.range ops.size).filter fun j => !l.getD j false).length := by
          refine filter_lt (x := i) (by simp [hio]) (by simp [hlf]) (by simp [Array.getD, hil]) fun j hj hh => ?_
          have hjl : j < l.size := by have := List.mem_range.1 hj; omega
          by_cases hij : i = j
          · subst hij; simpa using hlf
          · simp [Array.getD, hjl, hij] at hh ⊢
            exact hh
        omega
      have hold : ∀ j, j < ops.size → (l.setIfInBounds i true).getD j false = true → j ≠ i → l.getD j false = true := by
        intro j hj hlj hji
        have hjl : j < l.size := by omega
        have hij : ¬ i = j := fun e => hji e.symm
        simp [Array.getD, hjl, hij] at hlj ⊢
        exact hlj
      have hst := hstep i o (putU ops a U ops.size) U W ho hGW (fun j t hj ht => putU_at ops.size hd' j hj t ht (hsz j hj t ht)) (fun t ht => putU_off ops.size t ht) (fun e he hbe => by
        have hlt := hb e he hbe
        exact hV e.on (by omega) (hpre e he hbe))
      have hi0 : l.getD i false = false := hlf
      have hset : (fun j => l.getD j false || j == i) = fun j => (l.setIfInBounds i true).getD j false := by
        funext j
        by_cases hji : i = j
        · subst hji; simp [Array.getD, hil]
        · have hb : (j == i) = false := by simpa using fun h => hji h.symm
          by_cases hjl : j < l.size
          · simp [Array.getD, hjl, hji, hb]
          · simp [Array.getD, hjl, hb]
      have step : ∀ (v : Value) (W' : World), Ext W W' → V i (updU U i v) W' → ∀ j, j < ops.size → (l.setIfInBounds i true).getD j false = true → V j (updU U i v) W' := by
        intro v W' hx hv j hj hlj
        by_cases hji : j = i
        · subst hji; exact hv
        · have hlj0 := hold j hj hlj hji
          have hoj : ops[j]? = some ops[j] := Array.getElem?_eq_getElem hj
          refine hloc j _ U (updU U i v) W' hoj (by unfold updU; rw [if_neg hji]) (fun e he hbe => ?_) (hmono _ _ _ _ hx (hV j hj hlj0))
          have hd := hcl j _ hoj hlj0 e he hbe
          unfold updU
          rw [if_neg (fun h => by rw [h, hi0] at hd; cases hd)]
      have hcl' : ∀ j oj, ops[j]? = some oj → (l.setIfInBounds i true).getD j false = true → ∀ e ∈ oj.after, Region.binds .any e = true → (l.setIfInBounds i true).getD e.on false = true := by
        intro j oj hoj hlj e he hbe
        have up : ∀ k, l.getD k false = true → (l.setIfInBounds i true).getD k false = true := by
          intro k hk
          by_cases hki : i = k
          · subst hki; simp [Array.getD, hil]
          · by_cases hkl : k < l.size
            · simp [Array.getD, hkl, hki] at hk ⊢
              exact hk
            · simp [Array.getD, hkl] at hk
        by_cases hji : j = i
        · subst hji
          rw [ho] at hoj
          injection hoj with hoj
          subst hoj
          exact up _ (hpre e he hbe)
        · have hj : j < ops.size := by
            rcases Nat.lt_or_ge j ops.size with h | h
            · exact h
            · rw [Array.getElem?_eq_none h] at hoj; cases hoj
          exact up _ (hcl j oj hoj (hold j hj hlj hji) e he hbe)
      by_cases hw : Region.wanted o (yielded ops (putU ops a U ops.size).tmps) = true
      · simp only [hw, if_true]
        left
        refine Oper.wp_mono ?_ (hst.1 hw)
        rintro a' W' ⟨v, rfl, hv, hG', hx, hr'⟩
        rw [hdo, putU_put2 ops.size i hio v hd']
        exact ih _ _ _ (by simp [hl]) hG' (step v W' hx hv) hcl' (hset ▸ hr' _ hi0 hV hRl) fewer
      · have hw' : Region.wanted o (yielded ops (putU ops a U ops.size).tmps) = false := by simpa using hw
        simp only [hw', Bool.false_eq_true, if_false]
        rw [hdo, putU_put2 ops.size i hio undef hd']
        exact ih _ _ _ (by simp [hl]) hGW (step undef W (hrefl W) (hst.2 hw').1) hcl' (hset ▸ (hst.2 hw').2 _ hi0 hRl) fewer
  obtain ⟨U, hU⟩ := putU_self (ops := ops) (a := a) ops.size hsz
  have := main ops.size (Array.replicate ops.size false) U { w with drawn := w.drawn + 1 } (by simp) hG (fun i hi h => by simp [Array.getD, hi] at h) (fun i o ho h => by
    have hi : i < ops.size := by
      rcases Nat.lt_or_ge i ops.size with h | h
      · exact h
      · rw [Array.getElem?_eq_none h] at ho; cases ho
    simp [Array.getD, hi] at h) (by
    have e : (fun j => (Array.replicate ops.size false).getD j false) = fun _ => false := by
      funext j
      by_cases hj : j < ops.size <;> simp [Array.getD, hj]
    rw [e]
    exact hR U) (Nat.le_trans (List.length_filter_le _ _) (by simp))
  rw [hU] at this
  exact this
end Go.Proofs.Ytaipgdhdfpemcaa
