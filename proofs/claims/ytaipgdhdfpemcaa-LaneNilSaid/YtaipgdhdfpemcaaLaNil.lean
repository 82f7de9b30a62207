/-
  LaneNil: its walk.
-/
import Derived.Test.YtaipgdhdfpemcaaLaNils
import Derived.Test.YtaipgdhdfpemcaaLaCmd
import Derived.Test.YtaipgdhdfpemcaaLaAw
namespace Go.Proofs.Ytaipgdhdfpemcaa
open Go.RowKit

theorem eta69 (t : Array Value) (h : t.size = 69) : t = #[at_ t 0, at_ t 1, at_ t 2, at_ t 3, at_ t 4, at_ t 5, at_ t 6, at_ t 7, at_ t 8, at_ t 9, at_ t 10, at_ t 11, at_ t 12, at_ t 13, at_ t 14, at_ t 15, at_ t 16, at_ t 17, at_ t 18, at_ t 19, at_ t 20, at_ t 21, at_ t 22, at_ t 23, at_ t 24, at_ t 25, at_ t 26, at_ t 27, at_ t 28, at_ t 29, at_ t 30, at_ t 31, at_ t 32, at_ t 33, at_ t 34, at_ t 35, at_ t 36, at_ t 37, at_ t 38, at_ t 39, at_ t 40, at_ t 41, at_ t 42, at_ t 43, at_ t 44, at_ t 45, at_ t 46, at_ t 47, at_ t 48, at_ t 49, at_ t 50, at_ t 51, at_ t 52, at_ t 53, at_ t 54, at_ t 55, at_ t 56, at_ t 57, at_ t 58, at_ t 59, at_ t 60, at_ t 61, at_ t 62, at_ t 63, at_ t 64, at_ t 65, at_ t 66, at_ t 67, at_ t 68] := (eta_ t h).trans (by kernel_rfl)

@[reducible] noncomputable def nilF : Func := Try.f7
@[reducible] noncomputable def nilQ (W : World) : Exit → Act → World → Prop := bodyPost Try.prog nilF fun e w' => e = .returned (.bool true) ∧ Below W.heap.size W w'
/-- the mail that says nothing -/
def noM : MailC := ⟨0, 0, 0, 0, 0, false, [], ⟨#[]⟩, [], 0, 0, 0, 0, 0, 0, [], []⟩
theorem noM_is (w : World) (S : Nat → Prop) : MailIs w S noMail noM :=
  ⟨none, 0, 0, none, 0, 0, none, 0, 0, none, 0, 0, rfl, ⟨Rs.nil_ _ _ _ _, Nat.le_refl _, Nat.zero_le _⟩, ⟨Rs.nil_ _ _ _ _, Nat.le_refl _, Nat.zero_le _⟩, ⟨Rs.nil_ _ _ _ _, Nat.le_refl _, Nat.zero_le _⟩, OpsIs.nil_ _ _ _ _ (Nat.zero_le _)⟩
theorem ints_nil (w : World) : IntIs w Any none 0 0 [] := ⟨Rs.nil_ _ _ _ _, Nat.le_refl _, Nat.zero_le _⟩
theorem i64_0 : I64 0 := ⟨by omega, by omega⟩
theorem noM_ok : noM.Ok := ⟨i64_0, i64_0, i64_0, i64_0, i64_0, by simp [noM], by show 0 ≤ _; omega, by simp [noM], i64_0, i64_0, i64_0, i64_0, i64_0, i64_0, by simp [noM], by simp [noM], by simp [noM], by simp [noM]⟩
def noO : OpC := ⟨0, 0, 0, 0, 0, 0, ⟨#[]⟩, 0, []⟩
theorem noO_ok : noO.Ok := ⟨i64_0, i64_0, i64_0, i64_0, i64_0, i64_0, by show 0 ≤ _; omega, i64_0, by simp [noO]⟩
def noC : CmdC := ⟨0, 0, 0, noO, 0, 0, [], 0⟩
theorem noC_is (w : World) (S : Nat → Prop) : CmdIs w S noCmd noC :=
  ⟨none, 0, 0, none, 0, 0, rfl, ⟨Rs.nil_ _ _ _ _, Nat.le_refl _, Nat.zero_le _⟩, OpsIs.nil_ _ _ _ _ (Nat.zero_le _)⟩
theorem noC_ok : noC.Ok := ⟨i64_0, i64_0, i64_0, noO_ok, i64_0, i64_0, by simp [noC], by simp [noC], i64_0⟩

set_option maxRecDepth 100000 in
set_option maxHeartbeats 4000000 in
theorem nil5b (W w : World) (a : Act) (b4 b5 : Nat)
    (hfr : Fr 69 a [(3, .pointer none), (4, .pointer (some ⟨b4, 0, none⟩)), (5, .pointer (some ⟨b5, 0, none⟩)), (6, .int .i64 0), (44, .bool true)])
    (h4 : Blk w b4 30 noMail) (h5 : Blk w b5 47 noCmd) (hb : Below W.heap.size W w)
    {K : Act → World → Prop} (hK : ∀ a w, (part [1, 1, 1, 1, 1] (codeOf nilF)).wp Try.prog (nilQ W) a w → K a w) :
    wpList Try.prog (opsOf (part [1, 1, 1, 1, 0] (codeOf nilF))).toArray (Exit.then K (nilQ W)) ((opsOf (part [1, 1, 1, 1, 0] (codeOf nilF))).drop 23) a w := by
  have H4 := Lib.hid h4
  have H5 := Lib.hid h5
  have HB := Lib.hid hb
  have HA0 := Lib.hid (Below.refl w.heap.size w)
  clear h4 h5 hb
  obtain ⟨t, df⟩ := a
  obtain ⟨hd, hs, h3, h4, h5, h6, h44, -⟩ := hfr
  simp only at hd hs h3 h4 h5 h6 h44
  subst hd
  rw [eta69 t hs, h3, h4, h5, h6, h44]
  clear hs h3 h4 h5 h6 h44
  conv => arg 2; arg 1; whnf
  conv => arg 4; whnf
  go_wp2_with fail
  (with_reducible refine (whole_nil _).mono ?_)
  rintro e w7 ⟨rfl, hb7⟩
  have HB7 := Lib.hid (HB.out.trans (hb7.mono HB.out.size))
  have HA7 := Lib.hid (HA0.out.trans (hb7.mono HA0.out.size))
  clear hb7
  go_wp2_with fail
  (with_reducible refine (sameReach_any 0 0 _ (ints_nil _) (ints_nil _) (Nat.zero_le _)).mono ?_)
  rintro e w8 ⟨rfl, hb8⟩
  have HB8 := Lib.hid (HB7.out.trans (hb8.mono HB7.out.size))
  have HA8 := Lib.hid (HA7.out.trans (hb8.mono HA7.out.size))
  clear hb8
  go_wp2_with fail
  (with_reducible refine (copy_nil _).mono ?_)
  rintro e w9 ⟨rfl, rfl⟩
  have g4 := H4.out.below HA8.out H4.out.lt
  have d0 := g4.cell 0
  have d1 := g4.cell 1
  have d2 := g4.cell 2
  have d3 := g4.cell 3
  have d4 := g4.cell 4
  have d5 := g4.cell 5
  have d6 := g4.cell 6
  have d7 := g4.cell 7
  have d8 := g4.cell 8
  have d9 := g4.cell 9
  have d10 := g4.cell 10
  have d11 := g4.cell 11
  have d12 := g4.cell 12
  have d13 := g4.cell 13
  have d14 := g4.cell 14
  have d15 := g4.cell 15
  have d16 := g4.cell 16
  simp at d0 d1 d2 d3 d4 d5 d6 d7 d8 d9 d10 d11 d12 d13 d14 d15 d16
  clear g4
  go_wp2_with fail
  (with_reducible refine (same15_any noMail noMail noM _ (noM_is _ Any) (noM_is _ Any) noM_ok).mono ?_)
  rintro e w10 ⟨rfl, hb10⟩
  have HB10 := Lib.hid (HB8.out.trans (hb10.mono HB8.out.size))
  have HA10 := Lib.hid (HA8.out.trans (hb10.mono HA8.out.size))
  clear hb10 d0 d1 d2 d3 d4 d5 d6 d7 d8 d9 d10 d11 d12 d13 d14 d15 d16
  have g5 := H5.out.below HA10.out H5.out.lt
  have d0 := g5.cell 0
  have d1 := g5.cell 1
  have d2 := g5.cell 2
  have d3 := g5.cell 3
  have d4 := g5.cell 4
  have d5 := g5.cell 5
  have d6 := g5.cell 6
  have d7 := g5.cell 7
  have d8 := g5.cell 8
  have d9 := g5.cell 9
  have d10 := g5.cell 10
  have d11 := g5.cell 11
  have d12 := g5.cell 12
  have d13 := g5.cell 13
  have d14 := g5.cell 14
  have d15 := g5.cell 15
  simp at d0 d1 d2 d3 d4 d5 d6 d7 d8 d9 d10 d11 d12 d13 d14 d15
  clear g5
  go_wp2_with fail
  (with_reducible refine (same11_any noCmd noCmd noC _ (noC_is _ Any) (noC_is _ Any) noC_ok).mono ?_)
  rintro e w11 ⟨rfl, hb11⟩
  have HB11 := Lib.hid (HB10.out.trans (hb11.mono HB10.out.size))
  clear hb11 d0 d1 d2 d3 d4 d5 d6 d7 d8 d9 d10 d11 d12 d13 d14 d15
  go_wp2_with fail
  conv => arg 2; whnf
  refine wp_ret ?_
  refine bodyPost_ret (results_tmp rfl _ _ _) rfl ?_
  exact ⟨rfl, HB11.out⟩

set_option maxRecDepth 100000 in
set_option maxHeartbeats 4000000 in
theorem nil5 (W w : World) (a : Act) (b1 b4 b5 : Nat) (cells : Array Value) (m : MailC) {S : Nat → Prop}
    (hfr : Fr 69 a [(1, .pointer (some ⟨b1, 0, none⟩)), (3, .pointer none), (4, .pointer (some ⟨b4, 0, none⟩)), (5, .pointer (some ⟨b5, 0, none⟩)), (6, .int .i64 0)])
    (h1 : Blk w b1 30 cells) (h4 : Blk w b4 30 noMail) (h5 : Blk w b5 47 noCmd) (hm : MailIs w S cells m) (hok : m.Ok) (hsm : m.ops.length ≤ 4294967296) (hb : Below W.heap.size W w) :
    (part [1, 1, 1, 1] (codeOf nilF)).wp Try.prog (nilQ W) a w := by
  have hm0 := hm
  obtain ⟨eA, en, ec, hA, hn, hc, oA, on, oc, pA, pn, pc, rfl, _⟩ := hm0
  have H1 := Lib.hid h1
  have H4 := Lib.hid h4
  have H5 := Lib.hid h5
  have HM := Lib.hid hm
  have HK := Lib.hid hok
  have HB := Lib.hid hb
  clear h1 h4 h5 hm hok hb
  obtain ⟨t, df⟩ := a
  obtain ⟨hd, hs, h1, h3, h4, h5, h6, -⟩ := hfr
  simp only at hd hs h1 h3 h4 h5 h6
  subst hd
  rw [eta69 t hs, h1, h3, h4, h5, h6]
  clear hs h1 h3 h4 h5 h6
  refine wp_part (x := part [1, 1, 1, 1, 0] (codeOf nilF)) (y := part [1, 1, 1, 1, 1] (codeOf nilF)) (by kernel_rfl) ?_
  intro K hK
  refine wp_region_ops (id := 5) (by kernel_rfl) ?_
  obtain ⟨X, hX⟩ : ∃ X, X = (opsOf (part [1, 1, 1, 1, 0] (codeOf nilF))).drop 23 := ⟨_, rfl⟩
  conv => arg 2; arg 1; whnf
  conv => arg 4; whnf
  conv => arg 4; arg 2; arg 2; arg 2; arg 2; arg 2; arg 2; arg 2; arg 2; arg 2; arg 2; arg 2; arg 2; arg 2; arg 2; arg 2; arg 2; arg 2; arg 2; arg 2; arg 2; arg 2; arg 2; arg 2; change (opsOf (part [1, 1, 1, 1, 0] (codeOf nilF))).drop 23; rw [← hX]
  have HX := Lib.hid hX
  clear hX
  go_wp2_with fail
  (with_reducible refine (offer_nil _ _).mono ?_)
  rintro e w1 ⟨rfl, hb1⟩
  have HB1 := Lib.hid (HB.out.trans (hb1.mono HB.out.size))
  have HA1 := Lib.hid hb1
  clear hb1
  go_wp2_with fail
  (with_reducible refine (same15_any noMail noMail noM _ (noM_is _ Any) (noM_is _ Any) noM_ok).mono ?_)
  rintro e w2 ⟨rfl, hb2⟩
  have HB2 := Lib.hid (HB1.out.trans (hb2.mono HB1.out.size))
  have hk2 := HA1.out.trans (hb2.mono HA1.out.size)
  have g1 := H1.out.below hk2 H1.out.lt
  have c0 := g1.cell 0
  have c1 := g1.cell 1
  have c2 := g1.cell 2
  have c3 := g1.cell 3
  have c4 := g1.cell 4
  have c5 := g1.cell 5
  have c6 := g1.cell 6
  have c7 := g1.cell 7
  have c8 := g1.cell 8
  have c9 := g1.cell 9
  have c10 := g1.cell 10
  have c11 := g1.cell 11
  have c12 := g1.cell 12
  have c13 := g1.cell 13
  have c14 := g1.cell 14
  have c15 := g1.cell 15
  have c16 := g1.cell 16
  simp at c0 c1 c2 c3 c4 c5 c6 c7 c8 c9 c10 c11 c12 c13 c14 c15 c16
  have HA2 := Lib.hid hk2
  clear hb2 hk2 g1
  go_wp2_with fail
  (with_reducible refine (own15_any _ m _ (HM.out.below HA2.out) HK.out hsm).mono ?_)
  rintro e w3 ⟨cs3, rfl, _, hb3⟩
  have HB3 := Lib.hid (HB2.out.trans (hb3.mono HB2.out.size))
  have HA3 := Lib.hid (HA2.out.trans (hb3.mono HA2.out.size))
  clear hb3 c0 c1 c2 c3 c4 c5 c6 c7 c8 c9 c10 c11 c12 c13 c14 c15 c16
  go_wp2_with fail
  (with_reducible refine (take_nil cs3 _ _).mono ?_)
  rintro e w4 ⟨rfl, hb4⟩
  have HB4 := Lib.hid (HB3.out.trans (hb4.mono HB3.out.size))
  have HA4 := Lib.hid (HA3.out.trans (hb4.mono HA3.out.size))
  clear hb4
  go_wp2_with fail
  (with_reducible refine (next_nil _).mono ?_)
  rintro e w5 ⟨rfl, rfl⟩
  go_wp2_with fail
  (with_reducible refine (mark_nil _).mono ?_)
  rintro e w6 ⟨rfl, hb6⟩
  have HB6 := Lib.hid (HB4.out.trans (hb6.mono HB4.out.size))
  have HA6 := Lib.hid (HA4.out.trans (hb6.mono HA4.out.size))
  clear hb6
  go_wp2_with fail
  rw [HX.out]
  exact nil5b W _ _ b4 b5 ⟨rfl, rfl, rfl, rfl, rfl, rfl, rfl, trivial⟩ (H4.out.below HA6.out H4.out.lt) (H5.out.below HA6.out H5.out.lt) HB6.out hK
end Go.Proofs.Ytaipgdhdfpemcaa
