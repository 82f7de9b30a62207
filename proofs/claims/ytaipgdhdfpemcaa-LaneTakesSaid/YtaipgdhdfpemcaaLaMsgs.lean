/-
  A LIST OF MAILS, opened; a struct read whole, wherever it lies.
-/
import Derived.Test.YtaipgdhdfpemcaaLaOwnM
import Derived.Test.YtaipgdhdfpemcaaLaOwn2
namespace Go.Proofs.Ytaipgdhdfpemcaa
open Go.RowKit

section
variable {P : Program} {w : World}
theorem run_loadVar_any (a : Addr) (ty : TypeId) (cs : List Value) (d : TypeDesc) (hc : ∀ j v, cs[j]? = some v → w.cell? (a.add j) = some v)
    (hu : P.underlying ty = some d) (hd : d.isRow = true) (hi : (P.info? ty).map (·.size) = some cs.length) : (loadVar ty a).run P w = .ok (.agg cs.toArray) w := by
  have hl : (loadCells a cs.length).run P w = .ok cs.toArray w := run_loadCells_list (P := P) w a cs hc
  cases hq : P.info? ty with
  | none => simp [hq] at hi
  | some i =>
    have hs : i.size = cs.length := by simpa [hq] using hi
    have hagg : (isAgg ty).run P w = .ok true w := by
      unfold isAgg
      rw [Sem.run_bind, run_underlying hu w]
      cases d <;> simp_all
    simp [loadVar, Sem.run_bind, hagg, sizeOf, typeInfo, hq, hs, hl]
theorem wp_load_any {op : Oper} {a : Act} {K : Act → World → Prop} {Q : Exit → Act → World → Prop} (ty : TypeId) (x : Operand) (ho : op.op = .load ty x)
    (p : Addr) (hx : a.eval x = .pointer (some p)) (cs : List Value) (d : TypeDesc) (hc : ∀ j v, cs[j]? = some v → w.cell? (p.add j) = some v)
    (hu : P.underlying ty = some d) (hd : d.isRow = true) (hi : (P.info? ty).map (·.size) = some cs.length)
    (h : K (a.put op.dst (.agg cs.toArray)) w) : op.wp P a w K Q := by
  unfold Oper.wp execOp
  simp only [ho, hx, Instr.loadAt, Instr.sureAddr, Sem.run_bind, Sem.run_pure, Result.andThen_ok, run_loadVar_any p ty cs d hc hu hd hi]
  exact h
theorem wpList_load_any {ops : Array Oper} {rest : List Oper} {op : Oper} {a : Act} {Q : Exit → Act → World → Prop} (hgd : op.guard = none) (ty : TypeId) (x : Operand) (ho : op.op = .load ty x)
    (p : Addr) (hx : a.eval x = .pointer (some p)) (cs : List Value) (d : TypeDesc) (hc : ∀ j v, cs[j]? = some v → w.cell? (p.add j) = some v)
    (hu : P.underlying ty = some d) (hd : d.isRow = true) (hi : (P.info? ty).map (·.size) = some cs.length)
    (h : wpList P ops Q rest (a.put op.dst (.agg cs.toArray)) w) : wpList P ops Q (op :: rest) a w :=
  wpList_plain hgd fun _ hK => wp_load_any ty x ho p hx cs d hc hu hd hi (hK _ _ h)
end

/-- a mail with its cells -/
structure MsgX where
  cells : List Value
  m : MailC
instance : Inhabited MsgX := ⟨⟨[], ⟨0, 0, 0, 0, 0, false, [], ⟨#[]⟩, [], 0, 0, 0, 0, 0, 0, [], []⟩⟩⟩
/-- mails lie there -/
def MsgsIs (w : World) (S : Nat → Prop) (A : Option Addr) (n : Nat) (xs : List MsgX) : Prop :=
  Reads w w.heap.size 17 A n (xs.flatMap (·.cells)) ∧ ∀ x ∈ xs, x.cells.length = 17 ∧ MailIs w S x.cells.toArray x.m ∧ x.m.Ok
theorem msgs_len : ∀ (xs : List MsgX), (∀ x ∈ xs, x.cells.length = 17) → (xs.flatMap (·.cells)).length = xs.length * 17
  | [], _ => rfl
  | x :: l, h => by
    rw [List.flatMap_cons, List.length_append, msgs_len l fun y hy => h y (List.mem_cons_of_mem _ hy), h x (List.mem_cons_self ..), List.length_cons]
    omega
theorem msgs_at : ∀ (xs : List MsgX) (k : Nat) (x : MsgX) (j : Nat), (∀ x ∈ xs, x.cells.length = 17) → xs[k]? = some x → j < 17 → (xs.flatMap (·.cells))[k * 17 + j]? = x.cells[j]?
  | [], k, x, j, _, h, _ => by simp at h
  | y :: l, 0, x, j, hl, h, hj => by
    simp only [List.getElem?_cons_zero, Option.some.injEq] at h
    subst h
    rw [List.flatMap_cons, List.getElem?_append_left (by rw [hl _ (List.mem_cons_self ..)]; omega), Nat.zero_mul, Nat.zero_add]
  | y :: l, k + 1, x, j, hl, h, hj => by
    rw [List.flatMap_cons, List.getElem?_append_right (by rw [hl _ (List.mem_cons_self ..)]; omega), hl _ (List.mem_cons_self ..), show (k + 1) * 17 + j - 17 = k * 17 + j by omega]
    exact msgs_at l k x j (fun z hz => hl z (List.mem_cons_of_mem _ hz)) (by simpa using h) hj
section
variable {w w' : World} {S S' : Nat → Prop} {A : Option Addr} {n : Nat} {xs : List MsgX}
theorem MsgsIs.below (h : MsgsIs w S A n xs) (hb : Below w.heap.size w w') : MsgsIs w' S A n xs :=
  ⟨(h.1.below hb).more hb.size, fun x hx => ⟨(h.2 x hx).1, (h.2 x hx).2.1.below hb, (h.2 x hx).2.2⟩⟩
theorem MsgsIs.mono (h : MsgsIs w S A n xs) (hi : ∀ b, b < w.heap.size → S b → S' b) : MsgsIs w S' A n xs :=
  ⟨h.1, fun x hx => ⟨(h.2 x hx).1, (h.2 x hx).2.1.mono hi, (h.2 x hx).2.2⟩⟩
theorem MsgsIs.len (h : MsgsIs w S A n xs) : xs.length = n := by
  have h1 := h.1.1
  rw [msgs_len xs fun x hx => (h.2 x hx).1] at h1
  omega
/-- one of them -/
theorem MsgsIs.at_ (h : MsgsIs w S A n xs) {k : Nat} (hk : k < n) : ∃ ad x, A = some ad ∧ xs[k]? = some x ∧ (∀ j v, x.cells[j]? = some v → w.cell? ((ad.add (k * 17)).add j) = some v) ∧ x.cells.length = 17 ∧ MailIs w S x.cells.toArray x.m ∧ x.m.Ok := by
  have hl := h.len
  obtain ⟨ad, rfl, hb, hc⟩ := h.1.2 (by omega)
  have hx : xs[k]? = some xs[k] := List.getElem?_eq_getElem (by omega)
  obtain ⟨h1, h2, h3⟩ := h.2 xs[k] (List.getElem_mem _)
  refine ⟨ad, xs[k], rfl, hx, fun j v hv => ?_, h1, h2, h3⟩
  rw [add_of_add]
  refine hc _ v ?_
  rw [msgs_at xs k _ j (fun x hx => (h.2 x hx).1) hx (by have := (List.getElem?_eq_some_iff.1 hv).1; omega)]
  exact hv
end
section
variable {H : Type} {enc : TypeId × Value → H} {w : World} {cs : List Value}
theorem rd_mails (h : Rd H enc Try.prog w 72 cs) : ∃ A n c xs, cs = [.slice A n c] ∧ MsgsIs w Any A n xs ∧ n ≤ c ∧ c * 208 ≤ 140737488351232 ∧ (A = none → c = 0) := by
  obtain ⟨A, n, c, xs, h1, h2, h3, h4, h5, h6, h7⟩ := h.list (α := MsgX) (size := 17) Try.underlying72 Try.cMail Try.bMail (by omega) (·.cells) (fun x => x.cells.length = 17 ∧ MailIs w Any x.cells.toArray x.m ∧ x.m.Ok) (fun cs' hl hr => by
    obtain ⟨m, hm, hok⟩ := rd_mail hl hr
    exact ⟨⟨cs', m⟩, rfl, hl, hm, hok⟩)
  exact ⟨A, n, c, xs, h1, ⟨h2, h7⟩, h4, h5, h6⟩
/-- operations, opened: of no array there are none -/
theorem rd_ops' (h : Rd H enc Try.prog w 28 cs) : ∃ A n c os, cs = [.slice A n c] ∧ OpsIs w Any A n c os ∧ c * 96 ≤ 140737488351232 ∧ (∀ o ∈ os, o.Ok) ∧ (A = none → c = 0) := by
  obtain ⟨A, n, c, os, h1, h2, h3, h4⟩ := rd_ops h
  obtain ⟨A', n', c', e, _, _, _, h5, _⟩ := h.slice Try.underlying28
  rw [h1] at e
  injection e with e _
  injection e with e1 e2 e3
  subst e1 e3
  exact ⟨A, n, c, os, h1, h2, h3, h4, h5⟩
end

set_option maxHeartbeats 1000000 in
theorem ownOps_nil (w : World) : Calls Try.prog 34 #[.slice none 0 0] w fun e w' => e = .returned (.slice none 0 0) ∧ w' = w := by
  go_enter Try.func34, Try.ntmps34
  go_wp2_with fail
  go_loopw [3, 4] (fun v i wr => v = .slice none 0 0 ∧ i = .int .i64 0 ∧ wr = w) (fun _ _ _ => 0)
  case atStart => exact ⟨rfl, rfl, rfl⟩
  case round =>
    obtain ⟨rfl, rfl, rfl⟩ := hrel
    go_wp2
    go_ret
    exact ⟨rfl, rfl⟩
set_option maxHeartbeats 1000000 in
theorem numbered_nil (w : World) : Calls Try.prog 31 #[.slice none 0 0] w fun e w' => e = .returned (.slice none 0 0) ∧ w' = w := by
  go_enter Try.func31, Try.ntmps31
  go_wp2_with fail
  refine (ownOps_nil w).mono ?_
  rintro e w1 ⟨rfl, rfl⟩
  go_wp2_with fail
  go_loopw [13] (fun i wr => i = .int .i64 0 ∧ wr = w1) (fun _ _ => 0)
  case atStart => exact ⟨rfl, rfl⟩
  case round =>
    obtain ⟨rfl, rfl⟩ := hrel
    go_wp2
    go_ret
    exact ⟨rfl, rfl⟩
/-- numbered -/
theorem numbered_any (A : Option Addr) (n cap : Nat) (cs : List OpC) (w : World) {S : Nat → Prop} (h : OpsIs w S A n cap cs) (hn : n ≤ 4294967296) (hok : ∀ c ∈ cs, c.Ok) (hA : A = none → cap = 0) :
    Calls Try.prog 31 #[.slice A n cap] w fun e w' => ∃ A' n' cap', e = .returned (.slice A' n' cap') ∧ OpsIs w' (From w.heap.size) A' n' cap' (numbC cs) ∧ n' ≤ 80 ∧ Below w.heap.size w w' := by
  rcases A with _ | ad
  · have hc := hA rfl
    obtain ⟨os, h1, h2, h3, h4⟩ := h
    subst hc
    have hn0 : n = 0 := by omega
    subst hn0
    have hl := h1.1
    rw [opsV_len] at hl
    have hz := h2.len
    have e : cs = [] := List.eq_nil_of_length_eq_zero (by omega)
    subst e
    refine (numbered_nil w).mono ?_
    rintro e w1 ⟨rfl, rfl⟩
    exact ⟨none, 0, 0, rfl, OpsIs.nil_ _ _ _ _ (Nat.zero_le _), Nat.zero_le _, Below.refl _ _⟩
  · exact numbered_some ad n cap cs w h hn hok
theorem numC_mem {i : Nat} {l : List OpC} {c : OpC} (h : c ∈ numC i l) : ∃ c0 ∈ l, ∃ k < l.length, c = { c0 with n := ((i + k : Nat) : Int) + 1 } := by
  obtain ⟨k, hk, rfl⟩ := List.mem_iff_getElem.1 h
  rw [numC_len] at hk
  have h0 : l[k]? = some l[k] := List.getElem?_eq_getElem hk
  have h1 := numC_at i l k _ h0
  rw [List.getElem?_eq_getElem (by rw [numC_len]; exact hk)] at h1
  injection h1 with h1
  exact ⟨l[k], List.getElem_mem _, k, hk, h1⟩
theorem numbC_ok {cs : List OpC} (h : ∀ c ∈ cs, c.Ok) : ∀ c ∈ numbC cs, c.Ok := by
  intro c hc
  obtain ⟨c0, h0, k, hk, rfl⟩ := numC_mem hc
  have hc0 := h c0 (List.mem_of_mem_take h0)
  have hl : (cs.take 80).length ≤ 80 := by simp; omega
  exact ⟨⟨by show -9223372036854775808 ≤ ((0 + k : Nat) : Int) + 1; omega, by show ((0 + k : Nat) : Int) + 1 ≤ 9223372036854775807; omega⟩, hc0.epoch, hc0.kind, hc0.site, hc0.client, hc0.seq, hc0.name, hc0.size, hc0.hs⟩
theorem numbC_len (cs : List OpC) : (numbC cs).length ≤ 80 := by
  unfold numbC
  rw [numC_len, List.length_take]
  omega
end Go.Proofs.Ytaipgdhdfpemcaa
