/-
  A REGION THAT DRAWS ITS ORDER, BY A LAW OVER WHAT EACH OPERATION YIELDS: no order is walked. Each operation once, at any world in which those before it have yielded what they should.
-/
import Derived.WalkKit
import Derived.Orders
namespace Go.Proofs.Ytaipgdhdfpemcaa
open Go.RowKit

/-- the place an operation writes -/
def dstAt (ops : Array Oper) (i : Nat) : Option Tmp := (ops[i]?).bind (·.dst)
/-- the frame with what the first n operations have yielded -/
def putU (ops : Array Oper) (a : Act) (U : Nat → Value) : Nat → Act
  | 0 => a
  | n + 1 => (putU ops a U n).put (dstAt ops n) (U n)
def updU (U : Nat → Value) (i : Nat) (v : Value) : Nat → Value := fun j => if j = i then v else U j

section
variable {P : Program} {ops : Array Oper} {a : Act} {U : Nat → Value}

theorem put_put_same (a : Act) (d : Option Tmp) (v u : Value) : (a.put d v).put d u = a.put d u := by
  cases d with
  | none => rfl
  | some d => simp [Act.put, Array.setIfInBounds_setIfInBounds]

theorem putU_cong {U U' : Nat → Value} (n : Nat) (h : ∀ j, j < n → U j = U' j) : putU ops a U n = putU ops a U' n := by
  induction n with
  | zero => rfl
  | succ n ih =>
    unfold putU
    rw [ih (fun j hj => h j (by omega)), h n (by omega)]

/-- writing one place anew -/
theorem putU_put (n i : Nat) (hi : i < n) (v : Value) (hd : ∀ j k, j < n → k < n → ∀ d, dstAt ops j = some d → dstAt ops k = some d → j = k) (hs : ∀ j, j < n → (dstAt ops j).isSome = true) :
    (putU ops a U n).put (dstAt ops i) v = putU ops a (updU U i v) n := by
  induction n with
  | zero => omega
  | succ n ih =>
    unfold putU
    by_cases h : i = n
    · subst h
      rw [put_put_same, putU_cong i (U := U) (U' := updU U i v) (fun j hj => by unfold updU; rw [if_neg (by omega)])]
      unfold updU
      rw [if_pos rfl]
    · have e : updU U i v n = U n := by unfold updU; rw [if_neg (fun e => h e.symm)]
      rw [e, ← ih (by omega) (fun j k hj hk => hd j k (by omega) (by omega)) (fun j hj => hs j (by omega))]
      refine Act.put_comm _ _ _ fun d hdn hdi => ?_
      exact h ((hd n i (by omega) (by omega) d hdn hdi).symm)

theorem put_tmps_size (a : Act) (d : Option Tmp) (v : Value) : (a.put d v).tmps.size = a.tmps.size := by
  cases d <;> simp [Act.put]
theorem putU_size (n : Nat) : (putU ops a U n).tmps.size = a.tmps.size := by
  induction n with
  | zero => rfl
  | succ n ih => unfold putU; rw [put_tmps_size, ih]

theorem eval_put_same (a : Act) (t : Tmp) (v : Value) (h : t < a.tmps.size) : (a.put (some t) v).eval (.tmp t) = v := by
  simp [Act.put, Act.eval, h]

theorem putU_at (n : Nat) (hd : ∀ j k, j < n → k < n → ∀ d, dstAt ops j = some d → dstAt ops k = some d → j = k) (i : Nat) (hi : i < n) (t : Tmp) (ht : dstAt ops i = some t) (hsz : t < a.tmps.size) :
    (putU ops a U n).eval (.tmp t) = U i := by
  induction n with
  | zero => omega
  | succ n ih =>
    unfold putU
    by_cases h : i = n
    · subst h
      rw [ht, eval_put_same _ _ _ (by rw [putU_size]; exact hsz)]
    · rw [Act.eval_put (fun d hdn e => ?_)]
      · exact ih (fun j k hj hk => hd j k (by omega) (by omega)) (by omega)
      · injection e with e
        subst e
        exact h (hd i n (by omega) (by omega) t ht hdn)

theorem putU_off (n : Nat) (t : Tmp) (h : ∀ j, j < n → dstAt ops j ≠ some t) : (putU ops a U n).eval (.tmp t) = a.eval (.tmp t) := by
  induction n with
  | zero => rfl
  | succ n ih =>
    unfold putU
    rw [Act.eval_put (fun d hdn e => ?_)]
    · exact ih fun j hj => h j (by omega)
    · injection e with e
      subst e
      exact h n (by omega) hdn

/-- the frame is as it was, if each place holds what it held -/
theorem putU_self (n : Nat) (hs : ∀ j, j < n → ∀ d, dstAt ops j = some d → d < a.tmps.size) : ∃ U, putU ops a U n = a := by
  refine ⟨fun j => match dstAt ops j with | some d => a.eval (.tmp d) | none => undef, ?_⟩
  induction n with
  | zero => rfl
  | succ n ih =>
    unfold putU
    rw [ih fun j hj => hs j (by omega)]
    cases hd : dstAt ops n with
    | none => rfl
    | some d =>
      have hlt := hs n (by omega) d hd
      show ({ a with tmps := a.tmps.setIfInBounds d (a.tmps.getD d undef) } : Act) = a
      have : a.tmps.setIfInBounds d (a.tmps.getD d undef) = a.tmps := by
        apply Array.ext_getElem?
        intro j
        by_cases hj : d = j
        · subst hj
          rw [Array.getElem?_setIfInBounds_self_of_lt hlt]
          simp [hlt]
        · rw [Array.getElem?_setIfInBounds_ne hj]
      rw [this]
end

theorem ready_spec {md : Region.Mode} {ops : Array Oper} {l : Array Bool} {i : Nat} (h : i ∈ Region.ready md ops l) :
    ∃ o, ops[i]? = some o ∧ l.getD i true = false ∧ ∀ e ∈ o.after, Region.binds md e = true → l.getD e.on false = true := by
  simp only [Region.ready, List.mem_filter, List.mem_range, Bool.and_eq_true, Bool.not_eq_true'] at h
  obtain ⟨hi, hl, ha⟩ := h
  cases ho : ops[i]? with
  | none => rw [Array.getElem?_eq_none_iff] at ho; omega
  | some o =>
    rw [ho] at ha
    simp only [Option.map_some, Option.getD_some, Array.all_eq_true_iff_forall_mem, Bool.or_eq_true, Bool.not_eq_true'] at ha
    exact ⟨o, rfl, hl, fun e he hb => (ha e he).resolve_left (by rw [hb]; simp)⟩

/-- all edges lead back: so while one is not listed, one is ready -/
theorem ready_some {ops : Array Oper} {l : Array Bool} (hl : l.size = ops.size) (hback : ∀ i o, ops[i]? = some o → ∀ e ∈ o.after, Region.binds .any e = true → e.on < i)
    (h : Region.ready .any ops l = []) : ∀ i, i < ops.size → l.getD i false = true := by
  intro i
  induction i using Nat.strongRecOn with
  | _ i ih =>
    intro hi
    cases hb : l.getD i false with
    | true => rfl
    | false =>
      have hli : i < l.size := by omega
      have hlt : l.getD i true = false := by
        have e : ∀ b, l.getD i b = l[i] := fun b => by simp [Array.getD, hli]
        rw [e] at hb ⊢
        exact hb
      have : i ∈ Region.ready .any ops l := by
        simp only [Region.ready, List.mem_filter, List.mem_range, Bool.and_eq_true, Bool.not_eq_true']
        refine ⟨hi, hlt, ?_⟩
        rw [Array.getElem?_eq_getElem hi]
        simp only [Option.map_some, Option.getD_some, Array.all_eq_true_iff_forall_mem, Bool.or_eq_true, Bool.not_eq_true']
        intro e he
        cases hbe : Region.binds .any e with
        | false => exact Or.inl rfl
        | true =>
          have hlt := hback i ops[i] (Array.getElem?_eq_getElem hi) e he hbe
          exact Or.inr (ih e.on hlt (by omega))
      rw [h] at this
      cases this

/-- every operation writes a place of its own, none is guarded, and all edges lead back -/
def drawOk (ops : Array Oper) (n : Nat) : Bool :=
  ((List.range ops.size).all fun j => match dstAt ops j with | some d => decide (d < n) | none => false) &&
  ((List.range ops.size).all fun j => (List.range ops.size).all fun k => dstAt ops j != dstAt ops k || j == k) &&
  ((List.range ops.size).all fun i => match ops[i]? with | some o => o.guard.isNone && o.after.all (fun e => !Region.binds .any e || decide (e.on < i)) | none => true)
theorem drawOk_spec {ops : Array Oper} {n : Nat} (h : drawOk ops n = true) :
    (∀ j, j < ops.size → ∃ d, dstAt ops j = some d ∧ d < n) ∧ (∀ j k, j < ops.size → k < ops.size → dstAt ops j = dstAt ops k → j = k) ∧
    (∀ i o, ops[i]? = some o → o.guard = none ∧ ∀ e ∈ o.after, Region.binds .any e = true → e.on < i) := by
  simp only [drawOk, Bool.and_eq_true] at h
  obtain ⟨⟨h1, h2⟩, h3⟩ := h
  refine ⟨fun j hj => ?_, fun j k hj hk e => ?_, fun i o ho => ?_⟩
  · have := List.all_eq_true.1 h1 j (List.mem_range.2 hj)
    cases hd : dstAt ops j with
    | none => rw [hd] at this; cases this
    | some d => rw [hd] at this; exact ⟨d, rfl, of_decide_eq_true this⟩
  · have := List.all_eq_true.1 (List.all_eq_true.1 h2 j (List.mem_range.2 hj)) k (List.mem_range.2 hk)
    simp only [Bool.or_eq_true, bne_iff_ne, ne_eq, beq_iff_eq] at this
    exact this.resolve_left fun h => h e
  · have hi : i < ops.size := by
      rcases Nat.lt_or_ge i ops.size with h | h
      · exact h
      · rw [Array.getElem?_eq_none h] at ho; cases ho
    have := List.all_eq_true.1 h3 i (List.mem_range.2 hi)
    rw [ho] at this
    simp only [Bool.and_eq_true, Option.isNone_iff_eq_none, Array.all_eq_true_iff_forall_mem, Bool.or_eq_true, Bool.not_eq_true', decide_eq_true_eq] at this
    exact ⟨this.1, fun e he hb => (this.2 e he).resolve_left (by rw [hb]; simp)⟩

theorem filter_le {α : Type} {p q : α → Bool} : ∀ (l : List α), (∀ x ∈ l, p x = true → q x = true) → (l.filter p).length ≤ (l.filter q).length
  | [], _ => Nat.le_refl _
  | x :: l, h => by
    have ih := filter_le l fun y hy => h y (List.mem_cons_of_mem _ hy)
    have hx := h x (List.mem_cons_self ..)
    simp only [List.filter_cons]
    cases hp : p x
    · cases q x <;> simp <;> omega
    · rw [hx hp]; simp; omega
theorem filter_lt {α : Type} {p q : α → Bool} {x : α} : ∀ {l : List α}, x ∈ l → q x = true → p x = false → (∀ y ∈ l, p y = true → q y = true) → (l.filter p).length < (l.filter q).length
  | y :: l, hx, hq, hp, h => by
    have hl : ∀ z ∈ l, p z = true → q z = true := fun z hz => h z (List.mem_cons_of_mem _ hz)
    simp only [List.filter_cons]
    rcases List.mem_cons.1 hx with rfl | hx
    · have := filter_le l hl
      rw [hq, hp]; simp; omega
    · have ih := filter_lt hx hq hp hl
      have hy := h y (List.mem_cons_self ..)
      cases hpy : p y
      · cases q y <;> simp <;> omega
      · rw [hy hpy]; simp; omega

/-- WHAT EACH OPERATION YIELDS, IN ANY ORDER. G: what is known of the world throughout; V i: what operation i's place holds, once it has run; both outlast what any operation does to the world (Ext). -/
theorem wp_region_yields {P : Program} {ops : Array Oper} {Q : Exit → Act → World → Prop} {id : Nat} {a : Act} {w : World} (hm : P.follows .mixedOrders = true)
    (V : Nat → Value → World → Prop) (G : World → Prop) (Ext : World → World → Prop)
    (hsz' : drawOk ops a.tmps.size = true)
    (hG : G { w with drawn := w.drawn + 1 })
    (hmono : ∀ i v W W', Ext W W' → V i v W → V i v W')
    (hstep : ∀ (i : Nat) (o : Oper) (F : Act) (U : Nat → Value) (W : World), ops[i]? = some o → G W →
      (∀ (j : Nat) (t : Tmp), j < ops.size → dstAt ops j = some t → F.eval (.tmp t) = U j) → (∀ t : Tmp, (∀ j, j < ops.size → dstAt ops j ≠ some t) → F.eval (.tmp t) = a.eval (.tmp t)) →
      (∀ e ∈ o.after, Region.binds .any e = true → V e.on (U e.on) W) →
      o.wp P F W (fun a' W' => ∃ v, a' = F.put o.dst v ∧ V i v W' ∧ G W' ∧ Ext W W') Q)
    (hend : ∀ (U : Nat → Value) (W : World), G W → (∀ i, i < ops.size → V i (U i) W) → Q .normal (putU ops a U ops.size) W) : (Code.region id ops true).wp P Q a w := by
  refine wp_region_any hm ?_
  obtain ⟨hsz, hd, hback⟩ := drawOk_spec hsz'
  have hd' : ∀ j k, j < ops.size → k < ops.size → ∀ d, dstAt ops j = some d → dstAt ops k = some d → j = k := fun j k hj hk d h1 h2 => hd j k hj hk (h1.trans h2.symm)
  have hs' : ∀ j, j < ops.size → (dstAt ops j).isSome = true := fun j hj => by obtain ⟨d, h, _⟩ := hsz j hj; rw [h]; rfl
  have main : ∀ (fuel : Nat) (l : Array Bool) (U : Nat → Value) (W : World), l.size = ops.size → G W → (∀ i, i < ops.size → l.getD i false = true → V i (U i) W) →
      ((List.range ops.size).filter fun i => !l.getD i false).length ≤ fuel → wpAny P .any ops Q fuel l (putU ops a U ops.size) W := by
    intro fuel
    induction fuel with
    | zero =>
      intro l U W hl hGW hV hf
      have hall : ∀ i, i < ops.size → l.getD i false = true := fun i hi => by
        cases hb : l.getD i false with
        | true => rfl
        | false =>
          have : i ∈ (List.range ops.size).filter fun i => !l.getD i false := List.mem_filter.2 ⟨List.mem_range.2 hi, by rw [hb]; rfl⟩
          rw [List.eq_nil_of_length_eq_zero (Nat.le_zero.1 hf)] at this
          cases this
      refine ⟨?_, hend U W hGW fun i hi => hV i hi (hall i hi)⟩
      apply List.eq_nil_iff_forall_not_mem.2
      intro i hi
      obtain ⟨o, ho, hln, _⟩ := ready_spec hi
      have hio : i < ops.size := by
        rcases Nat.lt_or_ge i ops.size with h | h
        · exact h
        · rw [Array.getElem?_eq_none h] at ho; cases ho
      have := hall i hio
      have hil : i < l.size := by omega
      simp [Array.getD, hil] at this hln
      rw [this] at hln
      cases hln
    | succ fuel ih =>
      intro l U W hl hGW hV hf
      refine ⟨fun hr => hend U W hGW fun i hi => hV i hi (ready_some hl (fun i o ho => (hback i o ho).2) hr i hi), fun i hi => ?_⟩
      obtain ⟨o, ho, hln, hpre⟩ := ready_spec hi
      have hio : i < ops.size := by
        rcases Nat.lt_or_ge i ops.size with h | h
        · exact h
        · rw [Array.getElem?_eq_none h] at ho; cases ho
      have hil : i < l.size := by omega
      have hlf : l.getD i false = false := by
        simp [Array.getD, hil] at hln ⊢
        exact hln
      obtain ⟨hg, hb⟩ := hback i o ho
      unfold wpOp
      rw [ho]
      have hw : Region.wanted o (yielded ops (putU ops a U ops.size).tmps) = true := by simp [Region.wanted, hg]
      simp only [hw, if_true]
      left
      refine Oper.wp_mono ?_ (hstep i o (putU ops a U ops.size) U W ho hGW ?_ ?_ ?_)
      · rintro a' W' ⟨v, rfl, hv, hG', hx⟩
        have hdo : o.dst = dstAt ops i := by unfold dstAt; rw [ho]; rfl
        rw [hdo, putU_put ops.size i hio v hd' hs']
        refine ih _ _ _ (by simp [hl]) hG' (fun j hj hlj => ?_) ?_
        · unfold updU
          by_cases hji : j = i
          · subst hji; rw [if_pos rfl]; exact hv
          · rw [if_neg hji]
            refine hmono _ _ _ _ hx (hV j hj ?_)
            have hjl : j < l.size := by omega
            have hij : ¬ i = j := fun e => hji e.symm
            simp [Array.getD, hjl, hij] at hlj ⊢
            exact hlj
        · -- one fewer
          have hlt : ((List.range ops.size).filter fun j => !(l.setIfInBounds i true).getD j false).length < ((List.range ops.size).filter fun j => !l.getD j false).length := by
            refine filter_lt (x := i) (by simp [hio]) (by simp [hlf]) (by simp [Array.getD, hil]) fun j hj hh => ?_
            have hjl : j < l.size := by have := List.mem_range.1 hj; omega
            by_cases hij : i = j
            · subst hij; simpa using hlf
            · simp [Array.getD, hjl, hij] at hh ⊢
              exact hh
          omega
      · intro j t hj ht
        obtain ⟨d, hd1, hd2⟩ := hsz j hj
        rw [ht] at hd1
        injection hd1 with hd1
        subst hd1
        exact putU_at ops.size hd' j hj t ht hd2
      · intro t ht
        exact putU_off ops.size t ht
      · intro e he hbe
        have hlt := hb e he hbe
        exact hV e.on (by omega) (hpre e he hbe)
  obtain ⟨U, hU⟩ := putU_self (ops := ops) (a := a) ops.size fun j hj d hjd => by
    obtain ⟨d', h1, h2⟩ := hsz j hj
    rw [hjd] at h1
    injection h1 with h1
    subst h1
    exact h2
  have := main ops.size (Array.replicate ops.size false) U { w with drawn := w.drawn + 1 } (by simp) hG (fun i hi h => by simp [Array.getD, hi] at h) (Nat.le_trans (List.length_filter_le _ _) (by simp))
  rw [hU] at this
  exact this

section
variable {P : Program} {o : Oper} {F : Act} {W : World} {K : Act → World → Prop} {Q : Exit → Act → World → Prop}
theorem act_tmp {F : Act} {t : Tmp} {u : Value} (h : F.eval (.tmp t) = u) : F.tmps[t]?.getD undef = u := by simpa [Act.eval] using h
theorem wp_move' (x : Operand) (h : o.op = .move x) (hk : K (F.put o.dst (F.eval x)) W) : o.wp P F W K Q := by
  unfold Oper.wp execOp; rw [h]; exact hk
theorem wp_assign' (x : Operand) (h : o.op = .assign x) (hk : K (F.put o.dst (F.eval x)) W) : o.wp P F W K Q := by
  unfold Oper.wp execOp; rw [h]; exact hk
theorem wp_value' (v : Value) (W' : World) (h : (execOp F.eval o).run P W = .ok (.value v) W') (hk : K (F.put o.dst v) W') : o.wp P F W K Q := by
  unfold Oper.wp
  rw [h]
  exact hk
theorem wp_enter' (f : FuncId) (args : Array Value) (h : (execOp F.eval o).run P W = .ok (.enter f args) W) (hc : Calls P f args W fun e W' => ∃ v, e = .returned v ∧ K (F.put o.dst v) W') : o.wp P F W K Q := by
  unfold Oper.wp
  rw [h, Oper.upon_enter]
  refine hc.mono ?_
  rintro e W' ⟨v, rfl, hk⟩
  exact hk
end

end Go.Proofs.Ytaipgdhdfpemcaa
