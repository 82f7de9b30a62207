/-
  THE WALKS OF THE LANE: the command of what is asked first, done.
-/
import Derived.Test.YtaipgdhdfpemcaaLaLane
import Derived.Test.YtaipgdhdfpemcaaPut
namespace Go.Proofs.Ytaipgdhdfpemcaa
open Go.RowKit

/-- the command's cells -/
@[reducible] def awCmd (pA : Addr) (pc : Nat) : Array Value :=
  #[.int .i64 3, .int .i64 1, .int .i64 0, .int .i64 0, .int .i64 0, .int .i64 0, .int .i64 0, .int .i64 0, .int .i64 0, .string ⟨#[]⟩, .int .i64 0, .slice none 0 0, .int .i64 2, .int .i64 1, .slice (some pA) 0 pc, .int .i64 0]

theorem bare0 (w : World) : Calls Try.prog 108 #[.agg #[.int .i64 0, .slice none 0 0]] w fun x w' => x = .returned (.bool true) ∧ Below w.heap.size w w' := by
  go_enter Try.func108, Try.ntmps108
  go_wp2
  go_ret
  exact ⟨rfl, (Below.refl _ _).alloc (Nat.le_refl _) _⟩
theorem blank0 (w : World) : Calls Try.prog 82 #[.agg #[.int .i64 0, .int .i64 0, .int .i64 0, .int .i64 0, .int .i64 0, .int .i64 0, .string ⟨#[]⟩, .int .i64 0, .slice none 0 0]] w fun x w' => x = .returned (.bool true) ∧ Below w.heap.size w w' := by
  have hbl : ∀ o1, Below w.heap.size w (w.alloc o1) := fun o1 => (Below.refl _ _).alloc (Nat.le_refl _) _
  have HBL := Lib.hid hbl
  clear hbl
  go_enter Try.func82, Try.ntmps82
  go_wp2_with fail
  refine (bare0 _).mono ?_
  rintro x w1 ⟨rfl, hb1⟩
  have HB := Lib.hid hb1
  clear hb1
  go_wp2
  go_ret
  exact ⟨rfl, (HBL.out _).trans (HB.out.mono (by simp))⟩
theorem reigned10 (w : World) : Calls Try.prog 85 #[.int .i64 1, .int .i64 0] w fun x w' => x = .returned (.bool true) ∧ w' = w := by
  go_enter Try.func85, Try.ntmps85
  go_wp2
  go_ret
  exact ⟨rfl, rfl⟩

set_option maxRecDepth 100000 in
set_option maxHeartbeats 2000000 in
theorem deed_aw (pA : Addr) (pc : Nat) (w : World) : Calls Try.prog 42 #[.agg (awCmd pA pc)] w fun x w' => x = .returned (.int .i64 0) ∧ Below w.heap.size w w' := by
  have hbk : Blk (w.alloc (.cells (awCmd pA pc) 47)) w.heap.size 47 (awCmd pA pc) := Blk.new w _ _
  have hbl : Below w.heap.size w (w.alloc (.cells (awCmd pA pc) 47)) := (Below.refl _ _).alloc (Nat.le_refl _) _
  have HBK := Lib.hid hbk
  have HBL := Lib.hid hbl
  clear hbk hbl
  go_enter Try.func42, Try.ntmps42
  go_wp2_with fail
  refine (blank0 _).mono ?_
  rintro x w1 ⟨rfl, hb1⟩
  have hk1 := HBK.out.below hb1 HBK.out.lt
  have hl1 := HBL.out.trans (hb1.mono HBL.out.size)
  have c0 := hk1.cell 0
  have c1 := hk1.cell 1
  have c2 := hk1.cell 2
  have c12 := hk1.cell 12
  have c13 := hk1.cell 13
  have c14 := hk1.cell 14
  have c15 := hk1.cell 15
  simp at c0 c1 c2 c12 c13 c14 c15
  have HK1 := Lib.hid hk1
  have HL1 := Lib.hid hl1
  clear hb1 hk1 hl1
  go_wp2_with fail
  refine (reigned10 _).mono ?_
  rintro x w2 ⟨rfl, rfl⟩
  go_wp2_with fail
  refine (row0 _ _ 2 1 (by omega) (by omega) (by decide) _).mono ?_
  rintro x w3 ⟨rfl, hb3⟩
  have hk3 := HK1.out.below hb3 HK1.out.lt
  have hl3 := HL1.out.trans (hb3.mono HL1.out.size)
  clear c0 c1 c2 c12 c13 c14 c15
  have c14 := hk3.cell 14
  simp at c14
  have HL3 := Lib.hid hl3
  clear hb3 hk3 hl3
  go_wp2_with fail
  go_loopw [6, 174] (fun a i wr => a = .bool true ∧ i = .int .i64 0 ∧ Below w.heap.size w wr) (fun _ _ _ => 0)
  case atStart => exact ⟨rfl, rfl, HL3.out⟩
  case round =>
    obtain ⟨rfl, rfl, hb⟩ := hrel
    have HB := Lib.hid hb
    clear hb
    go_wp2
    go_ret
    exact ⟨rfl, HB.out⟩

theorem set3 {W : World} {g : Nat} {t : TypeId} {a b c : Value} (h : Blk W g t #[a, b, c]) (x y z : Value) : Blk (((W.setCell ⟨g, 0, none⟩ x).setCell ⟨g, 1, none⟩ y).setCell ⟨g, 2, none⟩ z) g t #[x, y, z] := ((h.set_ 0 x).set_ 1 y).set_ 2 z

set_option maxRecDepth 100000 in
set_option maxHeartbeats 2000000 in
theorem ship_aw (g : Nat) (pA : Addr) (pc : Nat) (B : Nat) (w : World) (h : LedAt w g 0) (hB : B ≤ g) : Calls Try.prog 44 #[.pointer (some ⟨g, 0, none⟩), .agg (awCmd pA pc)] w fun x w' => x = .returned (.agg #[.int .i64 121, .int .i64 0, .int .i64 0]) ∧ LedAt w' g 1 ∧ Below B w w' ∧ Save g w w' := by
  obtain ⟨m1, m2, h⟩ := h
  have hg := h.lt
  have hk := (h.alloc (.cells (awCmd pA pc) 47)).alloc (.cells #[.int .i64 0, .int .i64 0, .int .i64 0] 50)
  have c3 := hk.cell 3
  have c4 := hk.cell 4
  have c7 := hk.cell 7
  have f7 := hk.frozen 7
  simp at c3 c4 c7
  have HK := Lib.hid hk
  clear h hk
  go_enter Try.func44, Try.ntmps44
  go_wp2_with fail
  go_quiet (fail)
  go_wp2_with fail
  have hk2 := (((HK.out.drewN nq).set_ 7 (.int .i64 1)).alloc (.cells #[.int .i64 2, .int .i64 1] 26))
  have hres := ((((Blk.new (w.alloc (.cells (awCmd pA pc) 47)) 50 #[.int .i64 0, .int .i64 0, .int .i64 0]).drewN nq).far (p := ⟨g, 7, none⟩) (by simp; omega) (.int .i64 1)).alloc (.cells #[.int .i64 2, .int .i64 1] 26))
  have hbl : Below B w _ := ((below_drewN (((Below.refl B w).alloc (by omega) (.cells (awCmd pA pc) 47)).alloc (by simp; omega) (.cells #[.int .i64 0, .int .i64 0, .int .i64 0] 50)) nq).setCell (p := ⟨g, 7, none⟩) hB (.int .i64 1)).alloc (by simp; omega) (.cells #[.int .i64 2, .int .i64 1] 26)
  have hsz : (w.alloc (.cells (awCmd pA pc) 47)).heap.size = w.heap.size + 1 := by simp
  rw [hsz] at hres
  have hl2 : LedAt _ g 1 := ⟨m1, m2, hk2⟩
  have hsm : Save g w _ := fun b hb hne => (Below.heap_alloc _ (.cells #[.int .i64 2, .int .i64 1] 26) b (by simp; omega)).trans ((Below.heap_setCell _ ⟨g, 7, none⟩ (.int .i64 1) b hne).trans (show (((w.alloc (.cells (awCmd pA pc) 47)).alloc (.cells #[.int .i64 0, .int .i64 0, .int .i64 0] 50)).drewN nq).heap[b]? = _ from (Below.heap_alloc _ _ b (by simp; omega)).trans (Below.heap_alloc _ _ b hb)))
  refine (hasLed_aw g 1 _ hl2).mono ?_
  rintro x w5 ⟨rfl, hb5⟩
  have hl5 := hl2.below hb5 hl2.lt
  have hr5 := hres.below hb5 hres.lt
  have hbl5 := hbl.trans (hb5.mono (by simp; omega))
  have hs5 := hsm.below (by simp; omega) hb5
  have HS5 := Lib.hid hs5
  have HL5 := Lib.hid hl5
  have HR5 := Lib.hid hr5
  have HB5 := Lib.hid hbl5
  clear hk2 hres hbl hsz hl2 hb5 hl5 hr5 hbl5 hsm hs5
  go_wp2_with fail
  refine (failed_any 121 _).mono ?_
  rintro x w6 ⟨rfl, hb6⟩
  have hl6 := HL5.out.below hb6 HL5.out.lt
  have hr6 := HR5.out.below hb6 HR5.out.lt
  have hbl6 := HB5.out.trans (hb6.mono (by have := HL5.out.lt; omega))
  have hs6 := HS5.out.below HB5.out.size hb6
  have HS6 := Lib.hid hs6
  have f0 := hr6.frozen 0
  have f1 := hr6.frozen 1
  have f2 := hr6.frozen 2
  have d0 := hr6.cell 0
  have d1 := hr6.cell 1
  have d2 := hr6.cell 2
  simp at d0 d1 d2
  have HL6 := Lib.hid hl6
  have HR6 := Lib.hid hr6
  have HB6 := Lib.hid hbl6
  clear hb6 hl6 hr6 hbl6 hs6 c3 c4 c7 f7
  go_wp2
  have e0 := (set3 HR6.out (.int .i64 121) (.int .i64 0) (.int .i64 0)).cell 0
  have e1 := (set3 HR6.out (.int .i64 121) (.int .i64 0) (.int .i64 0)).cell 1
  have e2 := (set3 HR6.out (.int .i64 121) (.int .i64 0) (.int .i64 0)).cell 2
  refine bodyPost_ret (v := .agg #[.int .i64 121, .int .i64 0, .int .i64 0]) (by simp [results, Try.results44, e0, e1, e2, go_sem]) rfl ?_
  refine ⟨rfl, ?_, ((HB6.out.setCell (p := ⟨_, 0, none⟩) (by simp; omega) _).setCell (p := ⟨_, 1, none⟩) (by simp; omega) _).setCell (p := ⟨_, 2, none⟩) (by simp; omega) _, ((HS6.out.set (p := ⟨_, 0, none⟩) (by simp) _).set (p := ⟨_, 1, none⟩) (by simp) _).set (p := ⟨_, 2, none⟩) (by simp) _⟩
  obtain ⟨n1, n2, hh⟩ := HL6.out
  exact ⟨n1, n2, ((hh.far (by simp; omega) _).far (by simp; omega) _).far (by simp; omega) _⟩

set_option maxRecDepth 100000 in
set_option maxHeartbeats 2000000 in
theorem apply_aw (g : Nat) (pA : Addr) (pc : Nat) (B : Nat) (w : World) (h : LedAt w g 0) (hB : B ≤ g) : Calls Try.prog 13 #[.pointer (some ⟨g, 0, none⟩), .agg (awCmd pA pc)] w fun x w' => x = .returned (.agg #[.int .i64 121, .int .i64 0, .int .i64 0]) ∧ LedAt w' g 1 ∧ Below B w w' ∧ Save g w w' := by
  have hg := h.lt
  have hl := (h.below (B := w.heap.size) (W' := (w.alloc (.cells (awCmd pA pc) 47)).alloc (.cells #[.int .i64 0, .int .i64 0, .int .i64 0] 50)) (((Below.refl _ _).alloc (Nat.le_refl _) _).alloc (by simp) _) hg)
  have hcb := (Blk.new w 47 (awCmd pA pc)).alloc (.cells #[.int .i64 0, .int .i64 0, .int .i64 0] 50)
  have hres := Blk.new (w.alloc (.cells (awCmd pA pc) 47)) 50 #[.int .i64 0, .int .i64 0, .int .i64 0]
  have hsz : (w.alloc (.cells (awCmd pA pc) 47)).heap.size = w.heap.size + 1 := by simp
  rw [hsz] at hres
  have hbs : Below w.heap.size w ((w.alloc (.cells (awCmd pA pc) 47)).alloc (.cells #[.int .i64 0, .int .i64 0, .int .i64 0] 50)) := ((Below.refl _ w).alloc (Nat.le_refl _) _).alloc (by simp) _
  have hbl : Below B w ((w.alloc (.cells (awCmd pA pc) 47)).alloc (.cells #[.int .i64 0, .int .i64 0, .int .i64 0] 50)) := ((Below.refl B w).alloc (by omega) _).alloc (by simp; omega) _
  have HL := Lib.hid hl
  have HCB := Lib.hid hcb
  have HRES := Lib.hid hres
  have HBL := Lib.hid hbl
  have HBS := Lib.hid hbs
  clear h hl hcb hres hsz hbl hbs
  go_enter Try.func13, Try.ntmps13
  go_wp2_with fail
  refine (deed_aw pA pc _).mono ?_
  rintro x w1 ⟨rfl, hb1⟩
  have hl1 := HL.out.below hb1 HL.out.lt
  have hcb1 := HCB.out.below hb1 HCB.out.lt
  have hres1 := HRES.out.below hb1 HRES.out.lt
  have hbl1 := HBL.out.trans (hb1.mono (by simp; omega))
  have c0 := hcb1.cell 0
  have c1 := hcb1.cell 1
  have c2 := hcb1.cell 2
  have c3 := hcb1.cell 3
  have c4 := hcb1.cell 4
  have c5 := hcb1.cell 5
  have c6 := hcb1.cell 6
  have c7 := hcb1.cell 7
  have c8 := hcb1.cell 8
  have c9 := hcb1.cell 9
  have c10 := hcb1.cell 10
  have c11 := hcb1.cell 11
  have c12 := hcb1.cell 12
  have c13 := hcb1.cell 13
  have c14 := hcb1.cell 14
  have c15 := hcb1.cell 15
  simp at c0 c1 c2 c3 c4 c5 c6 c7 c8 c9 c10 c11 c12 c13 c14 c15
  have hs1 := HBS.out.trans (hb1.mono HBS.out.size)
  have HS1 := Lib.hid hs1
  have HL1 := Lib.hid hl1
  have HR1 := Lib.hid hres1
  have HB1 := Lib.hid hbl1
  clear hb1 hl1 hcb1 hres1 hbl1 hs1
  go_wp2_with fail
  refine (ship_aw g pA pc B w1 HL1.out hB).mono ?_
  rintro x w2 ⟨rfl, hl2, hb2, hs2⟩
  have hr2 := hs2.blk HR1.out (by omega)
  have f0 := hr2.frozen 0
  have f1 := hr2.frozen 1
  have f2 := hr2.frozen 2
  have d0 := hr2.cell 0
  have d1 := hr2.cell 1
  have d2 := hr2.cell 2
  simp at d0 d1 d2
  have HL2 := Lib.hid hl2
  have HR2 := Lib.hid hr2
  have HB2 := Lib.hid (HB1.out.trans hb2)
  have HS2 := Lib.hid ((Save.of (g := g) HS1.out).trans HS1.out.size hs2)
  clear hl2 hb2 hs2 hr2
  go_wp2
  have e0 := (set3 HR2.out (.int .i64 121) (.int .i64 0) (.int .i64 0)).cell 0
  have e1 := (set3 HR2.out (.int .i64 121) (.int .i64 0) (.int .i64 0)).cell 1
  have e2 := (set3 HR2.out (.int .i64 121) (.int .i64 0) (.int .i64 0)).cell 2
  refine bodyPost_ret (v := .agg #[.int .i64 121, .int .i64 0, .int .i64 0]) (by simp [results, Try.results13, e0, e1, e2, go_sem]) rfl ?_
  refine ⟨rfl, ?_, ((HB2.out.setCell (p := ⟨_, 0, none⟩) (by simp; omega) _).setCell (p := ⟨_, 1, none⟩) (by simp; omega) _).setCell (p := ⟨_, 2, none⟩) (by simp; omega) _, ((HS2.out.set (p := ⟨_, 0, none⟩) (by simp) _).set (p := ⟨_, 1, none⟩) (by simp) _).set (p := ⟨_, 2, none⟩) (by simp) _⟩
  obtain ⟨n1, n2, hh⟩ := HL2.out
  exact ⟨n1, n2, ((hh.far (by simp; omega) _).far (by simp; omega) _).far (by simp; omega) _⟩
end Go.Proofs.Ytaipgdhdfpemcaa
