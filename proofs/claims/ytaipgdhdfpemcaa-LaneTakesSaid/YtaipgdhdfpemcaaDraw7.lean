/-
  A REGION IN ITS ORDER, told operation by operation as XDraw3 tells a drawn one: for frames of many slots.
-/
import Derived.Test.YtaipgdhdfpemcaaFr2
namespace Go.Proofs.Ytaipgdhdfpemcaa
open Go.RowKit

/-- WHAT EACH OPERATION YIELDS, IN ORDER, guarded ones too. -/
theorem wp_region_line {P : Program} {ops : Array Oper} {Q : Exit → Act → World → Prop} {id : Nat} {a : Act} {w : World}
    (V : Nat → Value → World → Prop) (G : World → Prop) (Ext : World → World → Prop)
    (hsz' : drawOk3 ops a.tmps.size = true) (hG : G w)
    (hmono : ∀ i v W W', Ext W W' → V i v W → V i v W')
    (hstep : ∀ (i : Nat) (o : Oper) (F : Act) (U : Nat → Value) (W : World), ops[i]? = some o → G W →
      (∀ (j : Nat) (t : Tmp), j < ops.size → dstAt ops j = some t → F.eval (.tmp t) = U j) → (∀ t : Tmp, (∀ j, j < ops.size → dstAt ops j ≠ some t) → F.eval (.tmp t) = a.eval (.tmp t)) →
      (∀ j, j < i → V j (U j) W) →
      (Region.wanted o (yielded ops F.tmps) = true → o.wp P F W (fun a' W' => ∃ v, a' = F.put o.dst v ∧ V i v W' ∧ G W' ∧ Ext W W') Q) ∧
      (Region.wanted o (yielded ops F.tmps) = false → V i undef W))
    (hend : ∀ (U : Nat → Value) (W : World), G W → (∀ i, i < ops.size → V i (U i) W) → Q .normal (putU ops a U ops.size) W) : (Code.region id ops false).wp P Q a w := by
  obtain ⟨hsz, hd', _⟩ := drawOk3_spec hsz'
  have main : ∀ (l : List Oper) (k : Nat) (U : Nat → Value) (W : World), k + l.length = ops.size → (∀ j, l[j]? = ops[k + j]?) → G W → (∀ i, i < k → V i (U i) W) → wpList P ops Q l (putU ops a U ops.size) W := by
    intro l
    induction l with
    | nil =>
      intro k U W hk _ hGW hV
      exact hend U W hGW fun i hi => hV i (by simp at hk; omega)
    | cons o l ih =>
      intro k U W hk hl hGW hV
      have hko : ops[k]? = some o := by have := hl 0; simpa using this.symm
      have hks : k < ops.size := (Array.getElem?_eq_some_iff.1 hko).1
      have hdo : o.dst = dstAt ops k := by unfold dstAt; rw [hko]; rfl
      have hst := hstep k o (putU ops a U ops.size) U W hko hGW (fun j t hj ht => putU_at ops.size hd' j hj t ht (hsz j hj t ht)) (fun t ht => putU_off ops.size t ht) hV
      have next : ∀ (v : Value) (W' : World), V k v W' → (∀ i, i < k → V i (U i) W') → ∀ i, i < k + 1 → V i (updU U k v i) W' := by
        intro v W' hv ho i hi
        unfold updU
        by_cases hik : i = k
        · subst hik; rw [if_pos rfl]; exact hv
        · rw [if_neg hik]; exact ho i (by omega)
      unfold wpList
      by_cases hw : Region.wanted o (yielded ops (putU ops a U ops.size).tmps) = true
      · rw [if_pos hw]
        left
        refine Oper.wp_mono ?_ (hst.1 hw)
        rintro a' W' ⟨v, rfl, hv, hG', hx⟩
        rw [hdo, putU_put2 ops.size k hks v hd']
        exact ih (k + 1) _ W' (by simp at hk ⊢; omega) (fun j => by have := hl (j + 1); simp only [List.getElem?_cons_succ] at this; rw [this]; congr 1; omega) hG' (next v W' hv fun i hi => hmono _ _ _ _ hx (hV i hi))
      · have hw' : Region.wanted o (yielded ops (putU ops a U ops.size).tmps) = false := by simpa using hw
        rw [if_neg hw, hdo, putU_put2 ops.size k hks undef hd']
        exact ih (k + 1) _ W (by simp at hk ⊢; omega) (fun j => by have := hl (j + 1); simp only [List.getElem?_cons_succ] at this; rw [this]; congr 1; omega) hGW (next undef W (hst.2 hw') hV)
  obtain ⟨U, hU⟩ := putU_self (ops := ops) (a := a) ops.size hsz
  have h0 := main ops.toList 0 U w (by simp) (fun j => by simp) hG (fun i hi => absurd hi (by omega))
  rw [hU] at h0
  have := wp_region_lit (id := id) (l := ops.toList) (by simpa using h0)
  simpa using this
theorem none_past {ops : Array Oper} {i n : Nat} {o : Oper} (hn : ops.size = n) (h : ops[i + n]? = some o) : False := by
  rw [Array.getElem?_eq_none (by omega)] at h
  cases h
/-- .. its operations by name -/
theorem wp_region_named {P : Program} {c : Code} {Q : Exit → Act → World → Prop} {id : Nat} {a : Act} {w : World} (hc : c = .region id (opsOf c).toArray false)
    (V : Nat → Value → World → Prop) (G : World → Prop) (Ext : World → World → Prop)
    (hsz' : drawOk3 (opsOf c).toArray a.tmps.size = true) (hG : G w)
    (hmono : ∀ i v W W', Ext W W' → V i v W → V i v W')
    (hstep : ∀ (i : Nat) (o : Oper) (F : Act) (U : Nat → Value) (W : World), (opsOf c).toArray[i]? = some o → G W →
      (∀ (j : Nat) (t : Tmp), j < (opsOf c).toArray.size → dstAt (opsOf c).toArray j = some t → F.eval (.tmp t) = U j) → (∀ t : Tmp, (∀ j, j < (opsOf c).toArray.size → dstAt (opsOf c).toArray j ≠ some t) → F.eval (.tmp t) = a.eval (.tmp t)) →
      (∀ j, j < i → V j (U j) W) →
      (Region.wanted o (yielded (opsOf c).toArray F.tmps) = true → o.wp P F W (fun a' W' => ∃ v, a' = F.put o.dst v ∧ V i v W' ∧ G W' ∧ Ext W W') Q) ∧
      (Region.wanted o (yielded (opsOf c).toArray F.tmps) = false → V i undef W))
    (hend : ∀ (U : Nat → Value) (W : World), G W → (∀ i, i < (opsOf c).toArray.size → V i (U i) W) → Q .normal (putU (opsOf c).toArray a U (opsOf c).toArray.size) W) : c.wp P Q a w := by
  rw [hc]
  exact wp_region_line V G Ext hsz' hG hmono hstep hend
section
variable {ops : Array Oper} {a : Act} {U : Nat → Value}
theorem putU_get (hsz' : drawOk3 ops a.tmps.size = true) (j t : Nat) (hj : j < ops.size) (ht : dstAt ops j = some t) : at_ (putU ops a U ops.size).tmps t = U j := by
  obtain ⟨hsz, hd', _⟩ := drawOk3_spec hsz'
  have h := putU_at (a := a) (U := U) ops.size hd' j hj t ht (hsz j hj t ht)
  rw [← h]
  simp [Act.eval, at_]
theorem putU_old (t : Nat) (h : ∀ j, j < ops.size → dstAt ops j ≠ some t) : at_ (putU ops a U ops.size).tmps t = at_ a.tmps t := by
  have h := putU_off (a := a) (U := U) ops.size t h
  have e : ∀ x : Act, at_ x.tmps t = x.eval (.tmp t) := fun x => by simp [Act.eval, at_]
  rw [e, e, h]
theorem putU_defers (n : Nat) : (putU ops a U n).defers = a.defers := by
  induction n with
  | zero => rfl
  | succ n ih =>
    unfold putU
    rw [← ih]
    unfold Act.put
    split <;> rfl
theorem eval_of {t : Nat} {v : Value} (h : at_ a.tmps t = v) : a.eval (.tmp t) = v := by
  rw [← h]
  simp [Act.eval, at_]
end
end Go.Proofs.Ytaipgdhdfpemcaa
