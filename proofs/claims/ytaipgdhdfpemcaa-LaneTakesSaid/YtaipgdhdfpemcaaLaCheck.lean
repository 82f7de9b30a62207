/-
  THE WALKS OF THE LANE: the mails of what is asked first, checked.
-/
import Derived.Test.YtaipgdhdfpemcaaLaMail
namespace Go.Proofs.Ytaipgdhdfpemcaa
open Go.RowKit

/-- a mail's cells -/
@[reducible] def mailC (kind term index prev commit : Int) (good : Bool) (eA : Option Addr) (en ec : Nat) (data : ByteArray) (hA : Option Addr) (hn hc : Nat) (epoch site atN atE whN whE : Int) (oA : Option Addr) (on oc : Nat) (pA : Option Addr) (pn pc : Nat) : Array Value :=
  #[.int .i64 kind, .int .i64 term, .int .i64 index, .int .i64 prev, .int .i64 commit, .bool good, .slice eA en ec, .string data, .slice hA hn hc, .int .i64 epoch, .int .i64 site, .int .i64 atN, .int .i64 atE, .int .i64 whN, .int .i64 whE, .slice oA on oc, .slice pA pn pc]

/-- what the other site says in what is asked first -/
@[reducible] def awAnswer : Array Value := mailC 10 0 0 0 0 false none 0 0 ⟨#[]⟩ none 0 0 1 0 0 0 0 0 none 0 0 none 0 0
/-- what goes there -/
@[reducible] def awShip (pA : Addr) (pc : Nat) : Array Value := mailC 9 0 0 0 0 false none 0 0 ⟨#[]⟩ none 0 0 1 0 2 1 0 0 none 0 0 (some pA) 0 pc

theorem reads_nil (w : World) (B : Nat) (A : Option Addr) : Reads w B 1 A 0 (intV .i64 []) := Reads.none_

set_option maxRecDepth 100000 in
set_option maxHeartbeats 2000000 in
theorem other10c (w : World) : Calls Try.prog 77 #[.agg awAnswer] w fun x w' => x = .returned (.bool true) ∧ Below w.heap.size w w' := by
  have hbk : ∀ n o1 o2, Blk ((((w.alloc (.cells awAnswer 30)).drewN n).alloc o1).alloc o2) w.heap.size 30 awAnswer := fun n o1 o2 => (((Blk.new w _ _).drewN n).alloc o1).alloc o2
  have hbl : ∀ n o1 o2, Below w.heap.size w ((((w.alloc (.cells awAnswer 30)).drewN n).alloc o1).alloc o2) := fun n o1 o2 => ((below_drewN ((Below.refl _ _).alloc (Nat.le_refl _) _) n).alloc (by simp) _).alloc (by simp; omega) _
  have HBK := Lib.hid hbk
  have HBL := Lib.hid hbl
  clear hbk hbl
  go_enter Try.func77, Try.ntmps77
  go_wp2_with fail
  go_quiet (fail)
  go_wp2_with fail
  refine (within_new 0 1 0 _ _ _ (by simp)).mono ?_
  rintro x w1 ⟨rfl, rfl⟩
  go_wp2_with fail
  refine (within_new 0 16 1 _ _ _ (by simp)).mono ?_
  rintro x w1 ⟨rfl, rfl⟩
  go_wp2_with fail
  have hk := HBK.out nq (.cells #[.int .i64 0] 3) (.cells #[.int .i64 1] 3)
  have hl := HBL.out nq (.cells #[.int .i64 0] 3) (.cells #[.int .i64 1] 3)
  refine (place_any 0 0 _).mono ?_
  rintro x w1 ⟨rfl, hb1⟩
  have hk1 := hk.below hb1 hk.lt
  have hl1 := hl.trans (hb1.mono hl.size)
  rw [show placeB 0 0 = true by decide]
  have c13 := hk1.cell 13
  have c14 := hk1.cell 14
  simp at c13 c14
  have HK1 := Lib.hid hk1
  have HL1 := Lib.hid hl1
  clear hk hl hb1 hk1 hl1
  go_wp2_with fail
  refine (place_any 0 0 _).mono ?_
  rintro x w2 ⟨rfl, hb2⟩
  have hk2 := HK1.out.below hb2 HK1.out.lt
  have hl2 := HL1.out.trans (hb2.mono HL1.out.size)
  rw [show placeB 0 0 = true by decide]
  clear c13 c14
  have c0 := hk2.cell 0
  have c5 := hk2.cell 5
  have c9 := hk2.cell 9
  have c10 := hk2.cell 10
  have c13 := hk2.cell 13
  have c14 := hk2.cell 14
  have c15 := hk2.cell 15
  simp at c0 c5 c9 c10 c13 c14 c15
  have HL2 := Lib.hid hl2
  clear hb2 hk2 hl2
  go_wp2_with fail
  refine (rise_any 0 w2.heap.size none 0 0 [] w2 Reads.none_ (by unfold maxLen; omega)).mono ?_
  rintro x w3 ⟨rfl, rfl⟩
  go_wp2
  go_ret
  exact ⟨rfl, HL2.out⟩

set_option maxRecDepth 100000 in
set_option maxHeartbeats 2000000 in
theorem row0 (A : Option Addr) (c : Nat) (n e : Int) (hn : 0 ≤ n ∧ n ≤ 80) (he : 0 ≤ e ∧ e ≤ 16) (hne : (n == 0) = (e == 0)) (w : World) : Calls Try.prog 86 #[.agg #[.int .i64 n, .int .i64 e], .slice A 0 c] w fun x w' => x = .returned (.bool true) ∧ Below w.heap.size w w' := by
  obtain ⟨n1, n2⟩ := hn
  obtain ⟨e1, e2⟩ := he
  go_enter Try.func86, Try.ntmps86
  go_wp2_with fail
  go_loopw [5, 38] (fun a i wr => i = .int .i64 0 ∧ Below w.heap.size w wr) (fun _ _ _ => 0)
  case atStart => exact ⟨rfl, (Below.refl _ _).alloc (Nat.le_refl _) _⟩
  case round =>
    obtain ⟨rfl, hb⟩ := hrel
    have HB := Lib.hid hb
    clear hb
    go_wp2
    go_ret
    exact ⟨rfl, HB.out⟩

set_option maxRecDepth 100000 in
set_option maxHeartbeats 2000000 in
theorem shipped_aw (pA : Addr) (pc : Nat) (w : World) : Calls Try.prog 107 #[.agg (awShip pA pc)] w fun x w' => x = .returned (.bool true) ∧ Below w.heap.size w w' := by
  have hbk : ∀ o1, Blk ((w.alloc (.cells (awShip pA pc) 30)).alloc o1) w.heap.size 30 (awShip pA pc) := fun o1 => (Blk.new w _ _).alloc o1
  have hbl : ∀ o1, Below w.heap.size w ((w.alloc (.cells (awShip pA pc) 30)).alloc o1) := fun o1 => ((Below.refl _ _).alloc (Nat.le_refl _) _).alloc (by simp) _
  have HBK := Lib.hid hbk
  have HBL := Lib.hid hbl
  clear hbk hbl
  go_enter Try.func107, Try.ntmps107
  go_wp2_with fail
  refine (within_new 1 16 1 _ _ _ (by simp)).mono ?_
  rintro x w1 ⟨rfl, rfl⟩
  go_wp2_with fail
  have hk := HBK.out (.cells #[.int .i64 1] 3)
  have hl := HBL.out (.cells #[.int .i64 1] 3)
  refine (row0 _ _ 2 1 (by omega) (by omega) (by decide) _).mono ?_
  rintro x w1 ⟨rfl, hb1⟩
  have hk1 := hk.below hb1 hk.lt
  have hl1 := hl.trans (hb1.mono hl.size)
  have c9 := hk1.cell 9
  have c11 := hk1.cell 11
  have c12 := hk1.cell 12
  have c16 := hk1.cell 16
  simp at c9 c11 c12 c16
  have HL1 := Lib.hid hl1
  clear hk hl hb1 hk1 hl1
  go_wp2_with fail
  go_loopw [3, 34] (fun a i wr => a = .bool true ∧ i = .int .i64 0 ∧ Below w.heap.size w wr) (fun _ _ _ => 0)
  case atStart => exact ⟨rfl, rfl, HL1.out⟩
  case round =>
    obtain ⟨rfl, rfl, hb⟩ := hrel
    have HB := Lib.hid hb
    clear hb
    go_wp2
    go_ret
    exact ⟨rfl, HB.out⟩

set_option maxRecDepth 100000 in
set_option maxHeartbeats 2000000 in
theorem other9c (pA : Addr) (pc : Nat) (w : World) : Calls Try.prog 77 #[.agg (awShip pA pc)] w fun x w' => x = .returned (.bool true) ∧ Below w.heap.size w w' := by
  have hbk : ∀ n o1 o2, Blk ((((w.alloc (.cells (awShip pA pc) 30)).drewN n).alloc o1).alloc o2) w.heap.size 30 (awShip pA pc) := fun n o1 o2 => (((Blk.new w _ _).drewN n).alloc o1).alloc o2
  have hbl : ∀ n o1 o2, Below w.heap.size w ((((w.alloc (.cells (awShip pA pc) 30)).drewN n).alloc o1).alloc o2) := fun n o1 o2 => ((below_drewN ((Below.refl _ _).alloc (Nat.le_refl _) _) n).alloc (by simp) _).alloc (by simp; omega) _
  have HBK := Lib.hid hbk
  have HBL := Lib.hid hbl
  clear hbk hbl
  go_enter Try.func77, Try.ntmps77
  go_wp2_with fail
  go_quiet (fail)
  go_wp2_with fail
  refine (within_new 0 1 0 _ _ _ (by simp)).mono ?_
  rintro x w1 ⟨rfl, rfl⟩
  go_wp2_with fail
  refine (within_new 0 16 1 _ _ _ (by simp)).mono ?_
  rintro x w1 ⟨rfl, rfl⟩
  go_wp2_with fail
  have hk := HBK.out nq (.cells #[.int .i64 0] 3) (.cells #[.int .i64 1] 3)
  have hl := HBL.out nq (.cells #[.int .i64 0] 3) (.cells #[.int .i64 1] 3)
  refine (place_any 2 1 _).mono ?_
  rintro x w1 ⟨rfl, hb1⟩
  have hk1 := hk.below hb1 hk.lt
  have hl1 := hl.trans (hb1.mono hl.size)
  rw [show placeB 2 1 = true by decide]
  have c13 := hk1.cell 13
  have c14 := hk1.cell 14
  simp at c13 c14
  have HK1 := Lib.hid hk1
  have HL1 := Lib.hid hl1
  clear hk hl hb1 hk1 hl1
  go_wp2_with fail
  refine (place_any 0 0 _).mono ?_
  rintro x w2 ⟨rfl, hb2⟩
  have hk2 := HK1.out.below hb2 HK1.out.lt
  have hl2 := HL1.out.trans (hb2.mono HL1.out.size)
  rw [show placeB 0 0 = true by decide]
  clear c13 c14
  have c0 := hk2.cell 0
  have c5 := hk2.cell 5
  have c9 := hk2.cell 9
  have c10 := hk2.cell 10
  have c13 := hk2.cell 13
  have c14 := hk2.cell 14
  have c15 := hk2.cell 15
  simp at c0 c5 c9 c10 c13 c14 c15
  have c1 := hk2.cell 1
  have c2 := hk2.cell 2
  have c3 := hk2.cell 3
  have c4 := hk2.cell 4
  have c6 := hk2.cell 6
  have c7 := hk2.cell 7
  have c8 := hk2.cell 8
  have c11 := hk2.cell 11
  have c12 := hk2.cell 12
  have c16 := hk2.cell 16
  simp at c1 c2 c3 c4 c6 c7 c8 c11 c12 c16
  have HL2 := Lib.hid hl2
  clear hb2 hk2 hl2
  go_wp2_with fail
  refine (shipped_aw pA pc w2).mono ?_
  rintro x w3 ⟨rfl, hb3⟩
  have HB3 := Lib.hid (HL2.out.trans (hb3.mono HL2.out.size))
  clear hb3
  go_wp2
  go_ret
  exact ⟨rfl, HB3.out⟩
end Go.Proofs.Ytaipgdhdfpemcaa
