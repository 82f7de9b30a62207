/-
  THE WALKS OF THE LANE: mail.Check at the kind 10.
-/
import Derived.Test.YtaipgdhdfpemcaaLaOther
namespace Go.Proofs.Ytaipgdhdfpemcaa
open Go.RowKit

/-- may what the other site says be? (kind 10) -/
def MailC.right10 (m : MailC) : Bool :=
  pre1 m.term m.index m.prev m.commit m.ents.length && (chk8 10 m.good m.epoch m.site m.atN m.atE m.whN m.whE && (decide (m.hs.length + m.data.size + m.ops.length = 0) && (decide (m.site = 0) && (decide (0 < m.epoch) && riseB m.whN 0 m.holes))))

set_option maxRecDepth 100000 in
set_option maxHeartbeats 4000000 in
theorem other10_any (cells : Array Value) (m : MailC) {S : Nat → Prop} (w : World) (hk : m.kind = 10) (hm : MailIs w S cells m) (hok : m.Ok) :
    Calls Try.prog 77 #[.agg cells] w fun e w' => e = .returned (.bool m.right10) ∧ Below w.heap.size w w' := by
  obtain ⟨eA, en, ec, hA, hn, hc, oA, on, oc, pA, pn, pc, rfl, h1, h2, h3, h4⟩ := hm
  have l1 := h1.len
  have l2 := h2.len
  have l4 := h4.len
  have z1 : hn ≤ 140737488351232 := by have := hok.hs; omega
  have z2 := hok.data
  have z3 : pn ≤ 140737488351232 := by have := hok.ops; omega
  have hres : m.right10 = (pre1 m.term m.index m.prev m.commit en && (chk8 10 m.good m.epoch m.site m.atN m.atE m.whN m.whE && (decide (hn + m.data.size + pn = 0) && (decide (m.site = 0) && (decide (0 < m.epoch) && riseB m.whN 0 m.holes))))) := by unfold MailC.right10; rw [l1, l2, l4]
  have hbk := Blk.new w 30 (mailC m.kind m.term m.index m.prev m.commit m.good eA en ec m.data hA hn hc m.epoch m.site m.atN m.atE m.whN m.whE oA on oc pA pn pc)
  have hb0 : Below w.heap.size w (w.alloc (.cells (mailC m.kind m.term m.index m.prev m.commit m.good eA en ec m.data hA hn hc m.epoch m.site m.atN m.atE m.whN m.whE oA on oc pA pn pc) 30)) := (Below.refl _ _).alloc (Nat.le_refl _) _
  have HBK := Lib.hid hbk
  have HB0 := Lib.hid hb0
  have HR := Lib.hid hres
  have HO := Lib.hid h3
  have HK := Lib.hid hk
  clear h1 h2 h3 h4 l1 l2 l4 hok hbk hb0 hres hk
  go_enter Try.func77, Try.ntmps77
  conv => arg 2; arg 2; change part [1] (codeOf otherF)
  go_wp2_with fail
  refine oth1 w _ _ m.right10 w.heap.size ⟨rfl, rfl, rfl, trivial⟩ HBK.out HB0.out (fun hp => by rw [HR.out, hp]; rfl) fun hp a w1 f1 k1 b1 => ?_
  refine oth3 w w1 a m.right10 w.heap.size f1 k1 b1 fun a w1 f1 k1 b1 => ?_
  refine oth4 w w1 a m.right10 w.heap.size f1 k1 b1 fun a w1 f1 k1 b1 => ?_
  refine oth5 w w1 a m.right10 w.heap.size z1 z2 z3 f1 k1 b1 fun a w1 f1 k1 b1 => ?_
  refine oth6 w w1 a m.right10 w.heap.size _ _ _ f1 k1 b1 fun a w1 f1 k1 b1 => ?_
  refine oth7 w w1 a m.right10 w.heap.size _ _ _ _ f1 k1 b1 fun a w1 f1 k1 b1 => ?_
  refine oth8 w w1 a m.right10 w.heap.size _ _ _ _ f1 k1 b1 (fun hc => by rw [HK.out] at hc; rw [HR.out, hc, hp]; rfl) fun hc a w1 f1 k1 b1 => ?_
  have ho : IntIs w1 S oA on oc m.holes := HO.out.below b1
  refine oth_last10 w w1 a m.right10 w.heap.size _ _ _ _ m.holes HK.out f1 k1 ho b1 ?_
  rw [HK.out] at hc
  rw [HR.out, hp, hc]
  rfl

set_option maxRecDepth 100000 in
set_option maxHeartbeats 4000000 in
theorem check10_any (cells : Array Value) (m : MailC) {S : Nat → Prop} (w : World) (hk : m.kind = 10) (hm : MailIs w S cells m) (hok : m.Ok) :
    Calls Try.prog 27 #[.agg cells] w fun e w' => e = .returned (.int .i64 (if m.right10 then 0 else 3)) ∧ Below w.heap.size w w' := by
  have hm0 := hm
  obtain ⟨eA, en, ec, hA, hn, hc, oA, on, oc, pA, pn, pc, rfl, _⟩ := hm0
  have hbl : ∀ o1, Below w.heap.size w ((w.alloc (.cells (mailC m.kind m.term m.index m.prev m.commit m.good eA en ec m.data hA hn hc m.epoch m.site m.atN m.atE m.whN m.whE oA on oc pA pn pc) 30)).alloc o1) := fun o1 => ((Below.refl _ _).alloc (Nat.le_refl _) _).alloc (by simp) _
  have hot := fun o1 => other10_any _ m _ hk (hm.below (hbl o1)) hok
  obtain ⟨r, hr⟩ : ∃ r, r = m.right10 := ⟨_, rfl⟩
  rw [← hr] at hot ⊢
  clear hr
  have HBL := Lib.hid hbl
  have HOT := Lib.hid hot
  have HK := Lib.hid hk
  clear hm hok hbl hot hk
  have hwi : ∀ (g : Nat) (t : TypeId) (W : World), g = W.heap.size → Calls Try.prog 75 #[.int .i64 1, .int .i64 5, .slice (some ⟨g, 0, none⟩) 1 1] (W.alloc (.cells #[.int .i64 m.kind] t)) fun e w' => e = .returned (.bool false) ∧ W.alloc (.cells #[.int .i64 m.kind] t) = w' := fun g t W hg => by
    have h := within_new 1 5 m.kind g t W hg
    have e : (decide (1 ≤ m.kind) && decide (m.kind ≤ 5)) = false := by rw [HK.out]; rfl
    rw [e] at h
    exact h
  have HWI := Lib.hid hwi
  clear hwi
  go_enter Try.func27, Try.ntmps27
  go_wp2_with fail
  refine (HWI.out _ _ _ (by simp)).mono ?_
  rintro e w1 ⟨rfl, rfl⟩
  go_wp2_with fail
  refine (HOT.out _).mono ?_
  rintro e w2 ⟨rfl, hb2⟩
  have HB2 := Lib.hid ((HBL.out _).trans (hb2.mono (HBL.out _).size))
  clear hb2
  cases r with
  | true =>
    go_wp2_with fail
    go_ret
    exact ⟨rfl, HB2.out⟩
  | false =>
    go_wp2_with fail
    go_ret
    exact ⟨rfl, HB2.out⟩
end Go.Proofs.Ytaipgdhdfpemcaa
