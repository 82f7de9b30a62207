/-
  THE WALKS OF THE LANE: what commands and reaches say; the comparisons of those that say the same.
-/
import Derived.Test.YtaipgdhdfpemcaaLaSame15
namespace Go.Proofs.Ytaipgdhdfpemcaa
open Go.RowKit

/-- what a command says -/
structure CmdC where
  kind : Int
  epoch : Int
  site : Int
  op : OpC
  after : Int
  since : Int
  ops : List OpC
  tag : Int
structure CmdC.Ok (c : CmdC) : Prop where
  kind : I64 c.kind
  epoch : I64 c.epoch
  site : I64 c.site
  op : c.op.Ok
  after : I64 c.after
  since : I64 c.since
  ops : c.ops.length * 96 ≤ 140737488351232
  each : ∀ o ∈ c.ops, o.Ok
  tag : I64 c.tag
/-- a command's cells -/
@[reducible] def cmdC (kind epoch site : Int) (o : OpC) (hA : Option Addr) (hn hc : Nat) (after since : Int) (pA : Option Addr) (pn pc : Nat) (tag : Int) : Array Value :=
  #[.int .i64 kind, .int .i64 epoch, .int .i64 site, .int .i64 o.n, .int .i64 o.epoch, .int .i64 o.kind, .int .i64 o.site, .int .i64 o.client, .int .i64 o.seq, .string o.name, .int .i64 o.size, .slice hA hn hc, .int .i64 after, .int .i64 since, .slice pA pn pc, .int .i64 tag]
def CmdIs (w : World) (S : Nat → Prop) (cells : Array Value) (c : CmdC) : Prop :=
  ∃ hA hn hc pA pn pc, cells = cmdC c.kind c.epoch c.site c.op hA hn hc c.after c.since pA pn pc c.tag ∧ StrIs w S hA hn hc c.op.hs ∧ OpsIs w S pA pn pc c.ops
section
variable {w w' : World} {S S' : Nat → Prop}
theorem CmdIs.kept {cells : Array Value} {m : CmdC} (h : CmdIs w S cells m) (hk : Kept S w w') : CmdIs w' S cells m := by
  obtain ⟨hA, hn, hc, pA, pn, pc, h0, h1, h2⟩ := h
  exact ⟨hA, hn, hc, pA, pn, pc, h0, h1.kept hk, h2.kept hk⟩
theorem CmdIs.below {cells : Array Value} {m : CmdC} (h : CmdIs w S cells m) (hb : Below w.heap.size w w') : CmdIs w' S cells m := h.kept (Kept.of S hb)
theorem CmdIs.mono {cells : Array Value} {m : CmdC} (h : CmdIs w S cells m) (hi : ∀ b, b < w.heap.size → S b → S' b) : CmdIs w S' cells m := by
  obtain ⟨hA, hn, hc, pA, pn, pc, h0, h1, h2⟩ := h
  exact ⟨hA, hn, hc, pA, pn, pc, h0, h1.mono hi, h2.mono hi⟩
end

set_option maxRecDepth 100000 in
set_option maxHeartbeats 2000000 in
theorem sameReach_any {A A' : Option Addr} {n n' c c' : Nat} {xs : List Int} {S S' : Nat → Prop} (y z : Int) (w : World) (h : IntIs w S A n c xs) (h' : IntIs w S' A' n' c' xs) (hn : n ≤ 140737488351232) :
    Calls Try.prog 35 #[.agg #[.int .i64 y, .int .i64 z, .slice A n c], .agg #[.int .i64 y, .int .i64 z, .slice A' n' c']] w fun e w' => e = .returned (.bool true) ∧ Below w.heap.size w w' := by
  have hb : Below w.heap.size w ((w.alloc (.cells #[.int .i64 y, .int .i64 z, .slice A n c] 32)).alloc (.cells #[.int .i64 y, .int .i64 z, .slice A' n' c'] 32)) := ((Below.refl _ _).alloc (Nat.le_refl _) _).alloc (by simp) _
  have hs := sameHoles_any _ (h.below hb) (h'.below hb) hn
  have HS := Lib.hid hs
  have HB := Lib.hid hb
  clear h h' hs hb
  go_enter Try.func35, Try.ntmps35
  go_wp2_with fail
  refine HS.out.mono ?_
  rintro e w1 ⟨rfl, hb1⟩
  have HB1 := Lib.hid (HB.out.trans (hb1.mono HB.out.size))
  clear hb1
  go_wp2
  go_ret
  exact ⟨rfl, HB1.out⟩

set_option maxRecDepth 100000 in
set_option maxHeartbeats 4000000 in
theorem same11_any (cs cs' : Array Value) (m : CmdC) {S S' : Nat → Prop} (w : World) (h : CmdIs w S cs m) (h' : CmdIs w S' cs' m) (hok : m.Ok) :
    Calls Try.prog 20 #[.agg cs, .agg cs'] w fun e w' => e = .returned (.bool true) ∧ Below w.heap.size w w' := by
  obtain ⟨hA, hn, hc, pA, pn, pc, rfl, h1, h2⟩ := h
  obtain ⟨hA', hn', hc', pA', pn', pc', rfl, h1', h2'⟩ := h'
  have l1 := h1.len
  have l2 := h2.len
  have z1 : hn ≤ 140737488351232 := by have := hok.op.hs; omega
  have z2 : pn ≤ 140737488351232 := by have := hok.ops; omega
  have z3 : ∀ o ∈ m.ops, o.hs.length ≤ 140737488351232 := fun o ho => by have := (hok.each o ho).hs; omega
  have Z3 := Lib.hid z3
  clear l1 l2 hok z3
  obtain ⟨k0, k1, k2, ⟨x1, x2, x3, x4, x5, x6, x7, x8, x9⟩, k4, k5, k6, k7⟩ := m
  simp only at h1 h2 h1' h2' Z3
  have hb : Below w.heap.size w ((w.alloc (.cells (cmdC k0 k1 k2 ⟨x1, x2, x3, x4, x5, x6, x7, x8, x9⟩ hA hn hc k4 k5 pA pn pc k7) 47)).alloc (.cells (cmdC k0 k1 k2 ⟨x1, x2, x3, x4, x5, x6, x7, x8, x9⟩ hA' hn' hc' k4 k5 pA' pn' pc' k7) 47)) := ((Below.refl _ _).alloc (Nat.le_refl _) _).alloc (by simp) _
  have hx1 := (Blk.new w 47 (cmdC k0 k1 k2 ⟨x1, x2, x3, x4, x5, x6, x7, x8, x9⟩ hA hn hc k4 k5 pA pn pc k7)).alloc (.cells (cmdC k0 k1 k2 ⟨x1, x2, x3, x4, x5, x6, x7, x8, x9⟩ hA' hn' hc' k4 k5 pA' pn' pc' k7) 47)
  have hx2 : Blk ((w.alloc (.cells (cmdC k0 k1 k2 ⟨x1, x2, x3, x4, x5, x6, x7, x8, x9⟩ hA hn hc k4 k5 pA pn pc k7) 47)).alloc (.cells (cmdC k0 k1 k2 ⟨x1, x2, x3, x4, x5, x6, x7, x8, x9⟩ hA' hn' hc' k4 k5 pA' pn' pc' k7) 47)) (w.heap.size + 1) 47 (cmdC k0 k1 k2 ⟨x1, x2, x3, x4, x5, x6, x7, x8, x9⟩ hA' hn' hc' k4 k5 pA' pn' pc' k7) := by
    have := Blk.new (w.alloc (.cells (cmdC k0 k1 k2 ⟨x1, x2, x3, x4, x5, x6, x7, x8, x9⟩ hA hn hc k4 k5 pA pn pc k7) 47)) 47 (cmdC k0 k1 k2 ⟨x1, x2, x3, x4, x5, x6, x7, x8, x9⟩ hA' hn' hc' k4 k5 pA' pn' pc' k7)
    simpa using this
  have HB := Lib.hid hb
  have X1 := Lib.hid hx1
  have X2 := Lib.hid hx2
  have so := sameOp_any ⟨x1, x2, x3, x4, x5, x6, x7, x8, x9⟩ _ (h1.below hb) (h1'.below hb) z1
  have SO := Lib.hid so
  have R2 := Lib.hid h2
  have Q2 := Lib.hid h2'
  clear h1 h2 h1' h2' hb hx1 hx2 so
  go_enter Try.func20, Try.ntmps20
  go_wp2_with fail
  refine SO.out.mono ?_
  rintro e w1 ⟨rfl, hb1⟩
  have hy1 := X1.out.below hb1 X1.out.lt
  have hy2 := X2.out.below hb1 X2.out.lt
  have c14 := hy1.cell 14
  have d14 := hy2.cell 14
  simp at c14 d14
  have HB1 := Lib.hid (HB.out.trans (hb1.mono HB.out.size))
  clear hb1 hy1 hy2
  go_wp2_with fail
  refine (sameOps_any _ (R2.out.below HB1.out) (Q2.out.below HB1.out) z2 Z3.out).mono ?_
  rintro e w2 ⟨rfl, hb2⟩
  have HB2 := Lib.hid (HB1.out.trans (hb2.mono HB1.out.size))
  clear hb2
  go_wp2
  go_ret
  exact ⟨rfl, HB2.out⟩
end Go.Proofs.Ytaipgdhdfpemcaa
