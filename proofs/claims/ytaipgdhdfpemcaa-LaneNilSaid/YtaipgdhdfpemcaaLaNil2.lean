/-
  LaneNil: its walk, whole.
-/
import Derived.Test.YtaipgdhdfpemcaaLaNil
namespace Go.Proofs.Ytaipgdhdfpemcaa
open Go.RowKit

set_option maxRecDepth 100000 in
set_option maxHeartbeats 4000000 in
theorem nil4 (W w : World) (a : Act) (b1 : Nat) (cells : Array Value) (m : MailC) {S : Nat → Prop}
    (hfr : Fr 69 a [(1, .pointer (some ⟨b1, 0, none⟩)), (3, .pointer none)])
    (h1 : Blk w b1 30 cells) (hm : MailIs w S cells m) (hok : m.Ok) (hsm : m.ops.length ≤ 4294967296) (hb : Below W.heap.size W w) :
    (part [1, 1, 1] (codeOf nilF)).wp Try.prog (nilQ W) a w := by
  have hm0 := hm
  obtain ⟨eA, en, ec, hA, hn, hc, oA, on, oc, pA, pn, pc, rfl, _⟩ := hm0
  have H1 := Lib.hid h1
  have HM := Lib.hid hm
  have HK := Lib.hid hok
  have HB := Lib.hid hb
  clear hm hok hb
  obtain ⟨t, df⟩ := a
  obtain ⟨hd, hs, h1, h3, -⟩ := hfr
  simp only at hd hs h1 h3
  subst hd
  rw [eta69 t hs, h1, h3]
  clear hs h1 h3
  refine wp_part (x := part [1, 1, 1, 0] (codeOf nilF)) (y := part [1, 1, 1, 1] (codeOf nilF)) (by kernel_rfl) ?_
  intro K hK
  conv => arg 2; whnf
  refine wp_region_lit ?_
  refine wpList_load_mid rfl 30 (.tmp 1) rfl b1 0 rfl _ _ h1.range Try.underlying30 rfl Try.sizeMail ?_
  clear h1
  go_wp2_with fail
  (with_reducible refine (own15_any _ m _ HM.out HK.out hsm).mono ?_)
  rintro e w1 ⟨cs1, rfl, _, hb1⟩
  have HA1 := Lib.hid hb1
  have HB1 := Lib.hid (HB.out.trans (hb1.mono HB.out.size))
  clear hb1
  go_wp2_with fail
  (with_reducible refine (meet_nil cs1 _).mono ?_)
  rintro e w2 ⟨rfl, hb2⟩
  have hb3 : Below w2.heap.size w2 ((w2.alloc (.cells noMail 30)).alloc (.cells noCmd 47)) := ((Below.refl _ _).alloc (Nat.le_refl _) _).alloc (by simp) _
  have hA3 := (HA1.out.trans (hb2.mono HA1.out.size)).trans (hb3.mono (Nat.le_trans HA1.out.size hb2.size))
  have hB3 := (HB1.out.trans (hb2.mono HB1.out.size)).trans (hb3.mono (Nat.le_trans HB1.out.size hb2.size))
  have h4 := (Blk.new w2 30 noMail).alloc (.cells noCmd 47)
  have h5 := Blk.new (w2.alloc (.cells noMail 30)) 47 noCmd
  have HA3 := Lib.hid hA3
  have HB3 := Lib.hid hB3
  have H4 := Lib.hid h4
  have H5 := Lib.hid h5
  clear hb2 hb3 hA3 hB3 h4 h5
  go_wp2_with fail
  exact nil5 W _ _ b1 w2.heap.size (w2.alloc (.cells noMail 30)).heap.size _ m ⟨rfl, rfl, rfl, rfl, rfl, by simp [at_], rfl, trivial⟩ (H1.out.below HA3.out H1.out.lt) H4.out H5.out (HM.out.below HA3.out) HK.out hsm HB3.out

set_option maxRecDepth 100000 in
set_option maxHeartbeats 4000000 in
theorem laneNil_walk (W : World) (cells : Array Value) (m : MailC) {S : Nat → Prop} (hm : MailIs W S cells m) (hok : m.Ok) :
    Calls Try.prog 7 #[.agg cells] W fun e w' => e = .returned (.bool true) ∧ Below W.heap.size W w' := by
  have hm0 := hm
  obtain ⟨eA, en, ec, hA, hn, hc, oA, on, oc, pA, pn, pc, rfl, _⟩ := hm0
  have hbk := Blk.new W 30 (mailC m.kind m.term m.index m.prev m.commit m.good eA en ec m.data hA hn hc m.epoch m.site m.atN m.atE m.whN m.whE oA on oc pA pn pc)
  have hb0 : Below W.heap.size W (W.alloc (.cells (mailC m.kind m.term m.index m.prev m.commit m.good eA en ec m.data hA hn hc m.epoch m.site m.atN m.atE m.whN m.whE oA on oc pA pn pc) 30)) := (Below.refl _ _).alloc (Nat.le_refl _) _
  have HB0 := Lib.hid hb0
  have HBK := Lib.hid hbk
  have HM := Lib.hid hm
  have HK := Lib.hid hok
  clear hm hok hb0 hbk
  obtain ⟨b, hb⟩ : ∃ b, b = m.heavy := ⟨_, rfl⟩
  have hhv := fun w (hw : Below W.heap.size W w) => heavy_any _ m w (HM.out.below hw) HK.out
  rw [← hb] at hhv
  have HV := Lib.hid hhv
  have HH := Lib.hid hb
  clear hhv hb
  go_enter Try.func7, Try.ntmps7
  conv => arg 2; arg 2; arg 2; arg 2; change part [1, 1, 1] (codeOf nilF)
  go_wp2_with fail
  (with_reducible refine (awake_any _).mono ?_)
  rintro e w1 ⟨rfl, hb1⟩
  have g1 := HBK.out.below hb1 HBK.out.lt
  have c0 := g1.cell 0
  have c1 := g1.cell 1
  have c2 := g1.cell 2
  have c3 := g1.cell 3
  have c4 := g1.cell 4
  have c5 := g1.cell 5
  have c6 := g1.cell 6
  have c7 := g1.cell 7
  have c8 := g1.cell 8
  have c9 := g1.cell 9
  have c10 := g1.cell 10
  have c11 := g1.cell 11
  have c12 := g1.cell 12
  have c13 := g1.cell 13
  have c14 := g1.cell 14
  have c15 := g1.cell 15
  have c16 := g1.cell 16
  simp at c0 c1 c2 c3 c4 c5 c6 c7 c8 c9 c10 c11 c12 c13 c14 c15 c16
  have HB1 := Lib.hid (HB0.out.trans (hb1.mono HB0.out.size))
  have G1 := Lib.hid g1
  clear hb1 g1
  go_wp2_with fail
  (with_reducible refine (HV.out _ HB1.out).mono ?_)
  rintro e w2 ⟨rfl, hb2⟩
  have HB2 := Lib.hid (HB1.out.trans (hb2.mono HB1.out.size))
  have G2 := Lib.hid (G1.out.below hb2 G1.out.lt)
  clear hb2 c0 c1 c2 c3 c4 c5 c6 c7 c8 c9 c10 c11 c12 c13 c14 c15 c16
  cases b with
  | true =>
    go_wp2_with fail
    (with_reducible refine (awake_any _).mono ?_)
    rintro e w3 ⟨rfl, hb3⟩
    have HB3 := Lib.hid (HB2.out.trans (hb3.mono HB2.out.size))
    clear hb3
    go_wp2
    go_ret
    exact ⟨rfl, HB3.out⟩
  | false =>
    have hsm : m.ops.length ≤ 4294967296 := by
      have h := HH.out
      simp [MailC.heavy] at h
      omega
    go_wp2_with fail
    exact nil4 W _ _ W.heap.size _ m ⟨rfl, rfl, rfl, rfl, trivial⟩ G2.out (HM.out.below HB2.out) HK.out hsm HB2.out
end Go.Proofs.Ytaipgdhdfpemcaa
