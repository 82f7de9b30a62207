/-
  THE WALKS OF THE REFERENCE's Common, AND OF WHAT IS ASKED FIRST (awake).
-/
import Derived.Test.YtbbmdiagfcidiaaSeamComm
namespace Go.Proofs.Ytbbmdiagfcidiaa
open Go.RowKit

set_option maxHeartbeats 400000 in
theorem common_none (c : Nat) (A : Option Addr) (w : World) :
    Calls Try.prog 9 #[.slice A 0 c] w fun e w' => e = .returned (.int .i64 0) ∧ Drew w w' := by
  go_enter Try.func9, Try.ntmps9
  go_wp2
  go_ret
  exact ⟨rfl, Drew.refl _⟩
/-- seam.Common -/
theorem common_any (A : Option Addr) (n c : Nat) (ls : List (List Int)) (w : World) (h : LReads w w.heap.size A n ls) (hc : n ≤ c) (hc2 : c ≤ maxLen) :
    Calls Try.prog 9 #[.slice A n c] w fun e w' => e = .returned (.int .i64 (commonL ls)) ∧ Drew w w' := by
  rcases Nat.eq_zero_or_pos n with h0 | h0
  · subst h0
    have : ls = [] := List.eq_nil_of_length_eq_zero h.1
    subst this
    exact common_none c A w
  · exact common_some A n c ls w h h0 hc hc2

/-- one list's part of the test -/
def oneB (ls : List (List Int)) (j : Nat) (l : List Int) : Bool := decide (j ≤ l.length) && (l.getD (j - 1) 0 == (ls.getD 0 []).getD (j - 1) 0)
theorem allB_eq (ls : List (List Int)) (j : Nat) : allB ls j = ls.all (oneB ls j) := rfl
theorem all_snoc {p : List Int → Bool} {ls : List (List Int)} {k : Nat} (h : k < ls.length) : (ls.take (k + 1)).all p = ((ls.take k).all p && p (ls.getD k [])) := by
  rw [List.take_succ_eq_append_getElem h, List.all_append]
  simp [List.getD, h]

set_option maxHeartbeats 3200000 in
theorem refCommon_some (A : Option Addr) (n c : Nat) (ls : List (List Int)) (w : World) (h : LReads w w.heap.size A n ls) (h1 : 1 ≤ n) (hn : n ≤ 4294967296) :
    Calls Try.prog 10 #[.slice A n c] w fun e w' => e = .returned (.int .i64 (commonL ls)) ∧ Drew w w' := by
  obtain ⟨ad, A0, n0, c0, hA, hcell0, hr0, hl0, hn0⟩ := lists_at h 0 (by omega)
  subst hA
  have hcell0' : w.cell? ad = some (.slice A0 n0 c0) := by simpa [Addr.add] using hcell0
  have HLS := Lib.hid h
  have HR0 := Lib.hid hr0
  have HL0 := Lib.hid hl0
  have hnz : ((n : Int) == 0) = false := by simp; omega
  have hnp : (0 : Int) < n := by omega
  clear h hcell0 hr0 hl0
  go_enter Try.func10, Try.ntmps10
  go_wp2
  go_loopw [3, 4] (fun b i wr => ∃ k : Nat, k ≤ n0 ∧ i = .int .i64 ((k : Int) + 1) ∧ b = .int .i64 (Seam.lastUp (allB ls) k) ∧ Drew w wr) (fun _ i _ => n0 + 1 - (intOf i).toNat)
  case atStart => exact ⟨0, Nat.zero_le _, rfl, rfl, Drew.refl _⟩
  case round =>
    obtain ⟨k, hk, rfl, rfl, hdr⟩ := hrel
    have hc0w : wr.cell? ad = some (.slice A0 n0 c0) := (hdr.cell _).trans hcell0'
    have HDR := Lib.hid hdr
    clear hdr
    by_cases hlt : k < n0
    · obtain ⟨ad0, hA0, hx0⟩ := int_at HR0.out hlt
      subst hA0
      obtain ⟨x0, hxe⟩ : ∃ x0, x0 = (ls.getD 0 []).getD k 0 := ⟨_, rfl⟩
      rw [← hxe] at hx0
      have HXE := Lib.hid hxe
      clear hxe
      obtain ⟨b0, hb0⟩ : ∃ b0, b0 = Seam.lastUp (allB ls) k := ⟨_, rfl⟩
      rw [← hb0]
      have HB0 := Lib.hid hb0
      clear hb0
      have hd0 : decide ((k : Int) + 1 ≤ n0) = true := by simp; omega
      go_wp2
      obtain ⟨wo, hwo⟩ : ∃ wo : World, wo = wr := ⟨_, rfl⟩
      subst hwo
      go_loopw [5, 6] (fun b i wr => ∃ j : Nat, j ≤ n ∧ i = .int .i64 j ∧ b = .bool ((ls.take j).all (oneB ls (k + 1))) ∧ Drew w wr) (fun _ i _ => n - (intOf i).toNat)
      case atStart => exact ⟨0, Nat.zero_le _, rfl, rfl, HDR.out⟩
      case round =>
        obtain ⟨j, hj, rfl, rfl, hdr⟩ := hrel
        have h0w : wr.cell? ad = some (.slice (some ad0) n0 c0) := (hdr.cell _).trans hcell0'
        have hyw : wr.cell? (ad0.add k) = some (.int .i64 x0) := (hdr.cell _).trans hx0
        obtain ⟨bb, hbb⟩ : ∃ bb, bb = (ls.take j).all (oneB ls (k + 1)) := ⟨_, rfl⟩
        rw [← hbb]
        have HBB := Lib.hid hbb
        have HDR2 := Lib.hid hdr
        clear hbb hdr
        by_cases hjn : j < n
        · obtain ⟨ad', A2, n2, c2, hA', hcell, hr, hln, hn2⟩ := lists_at HLS.out j hjn
          injection hA' with hA'
          subst hA'
          have hcw : wr.cell? (ad.add j) = some (.slice A2 n2 c2) := (HDR2.out.cell _).trans hcell
          have hsnoc := all_snoc (p := oneB ls (k + 1)) (ls := ls) (k := j) (by rw [HLS.out.1]; exact hjn)
          rw [← HBB.out] at hsnoc
          have hone : oneB ls (k + 1) (ls.getD j []) = (decide ((k : Int) + 1 ≤ n2) && ((ls.getD j []).getD k 0 == x0)) := by
            unfold oneB
            rw [hln, ← HXE.out.symm, Nat.add_sub_cancel]
            congr 1
            rw [decide_eq_decide]
            omega
          have HSN := Lib.hid hsnoc
          have HON := Lib.hid hone
          have HRR := Lib.hid hr
          clear hcell hr hln hsnoc hone
          cases bb
          · go_wp2_with fail
            go_quiet (fail)
            go_wp2
            go_roundw
            case rel => exact ⟨j + 1, by omega, by go_num, by rw [HSN.out]; rfl, HDR2.out.drewN _⟩
            case measure => simp [intOf]; omega
          · by_cases hk2 : (k : Int) + 1 ≤ n2
            · have d2 : decide ((k : Int) + 1 ≤ n2) = true := by simpa using hk2
              obtain ⟨ad2, hA2, hx2⟩ := int_at HRR.out (show k < n2 by omega)
              subst hA2
              obtain ⟨x2, hx2e⟩ : ∃ x2, x2 = (ls.getD j []).getD k 0 := ⟨_, rfl⟩
              rw [← hx2e] at hx2
              have hxw : wr.cell? (ad2.add k) = some (.int .i64 x2) := (HDR2.out.cell _).trans hx2
              have HX2 := Lib.hid hx2e
              clear hx2 hx2e
              go_wp2_with fail
              go_quiet (fail)
              go_wp2
              go_roundw
              case rel => exact ⟨j + 1, by omega, by go_num, by rw [HSN.out, HON.out, ← HX2.out, d2]; rfl, HDR2.out.drewN _⟩
              case measure => simp [intOf]; omega
            · have d2 : decide ((k : Int) + 1 ≤ n2) = false := by simpa using hk2
              go_wp2_with fail
              go_quiet (fail)
              go_wp2
              go_roundw
              case rel => exact ⟨j + 1, by omega, by go_num, by rw [HSN.out, HON.out, d2]; rfl, HDR2.out.drewN _⟩
              case measure => simp [intOf]; omega
        · obtain rfl : j = n := by omega
          have hall : allB ls (k + 1) = bb := by
            rw [HBB.out, allB_eq, List.take_of_length_le (by rw [HLS.out.1]; exact Nat.le_refl _)]
          have hlu := Seam.lastUp_succ (allB ls) k
          rw [hall, ← HB0.out] at hlu
          have HLU := Lib.hid hlu
          clear hall hlu
          cases bb
          · go_wp2
            go_roundw
            case rel => exact ⟨k + 1, by omega, by go_num, by rw [HLU.out]; rfl, HDR2.out⟩
            case measure => simp [intOf]; omega
          · go_wp2
            go_roundw
            case rel => exact ⟨k + 1, by omega, by go_num, by rw [HLU.out]; go_num, HDR2.out⟩
            case measure => simp [intOf]; omega
    · obtain rfl : k = n0 := by omega
      go_wp2
      go_ret
      exact ⟨ret_int (by rw [commonL, HL0.out]), HDR.out⟩


/-- the reference's Common -/
theorem refCommon_any (A : Option Addr) (n c : Nat) (ls : List (List Int)) (w : World) (h : LReads w w.heap.size A n ls) (hn : n ≤ 4294967296) :
    Calls Try.prog 10 #[.slice A n c] w fun e w' => e = .returned (.int .i64 (commonL ls)) ∧ Drew w w' := by
  rcases Nat.eq_zero_or_pos n with h0 | h0
  · subst h0
    have : ls = [] := List.eq_nil_of_length_eq_zero h.1
    subst this
    go_enter Try.func10, Try.ntmps10
    go_wp2
    go_ret
    exact ⟨rfl, Drew.refl _⟩
  · exact refCommon_some A n c ls w h h0 hn

/-- a block reads as its list -/
theorem reads_blk {w : World} {g : Nat} {t : TypeId} {xs : List Value} (h : Blk w g t xs.toArray) (n : Nat) (hn : xs.length = n) {B : Nat} (hB : g < B) : Reads w B 1 (some ⟨g, 0, none⟩) n xs := by
  refine ⟨by omega, fun _ => ⟨_, rfl, hB, fun j u hu => ?_⟩⟩
  have hc := h.cell j
  rw [show (Addr.add ⟨g, 0, none⟩ j) = ⟨g, j, none⟩ from by unfold Addr.add; split <;> simp_all, hc]
  simpa using hu

def awL1 : List Int := [1, 1, 2]
def awL2 : List Int := [1, 1, 1, 3]
def awW (w : World) : World :=
  (((w.alloc (.cells #[.int .i64 1, .int .i64 1, .int .i64 2] 3)).alloc (.cells #[.int .i64 1, .int .i64 1, .int .i64 1, .int .i64 3] 3)).alloc
    (.cells #[.slice (some ⟨w.heap.size, 0, none⟩) 3 3, .slice (some ⟨w.heap.size + 1, 0, none⟩) 4 4] 23))
theorem aw1 (w : World) : Calls Try.prog 9 #[.slice (some ⟨w.heap.size + 2, 0, none⟩) 2 2] (awW w) fun e w' => e = .returned (.int .i64 2) ∧ Drew (awW w) w' := by
  have b1 : Blk (awW w) w.heap.size 3 (intV .i64 awL1).toArray := ((Blk.new w 3 _).alloc _).alloc _
  have b2 : Blk (awW w) (w.heap.size + 1) 3 (intV .i64 awL2).toArray := by
    have h := (Blk.new (w.alloc (.cells #[.int .i64 1, .int .i64 1, .int .i64 2] 3)) 3 (intV .i64 awL2).toArray).alloc (.cells #[.slice (some ⟨w.heap.size, 0, none⟩) 3 3, .slice (some ⟨w.heap.size + 1, 0, none⟩) 4 4] 23)
    simpa [awW, intV, awL2] using h
  have b3 : Blk (awW w) (w.heap.size + 2) 23 #[.slice (some ⟨w.heap.size, 0, none⟩) 3 3, .slice (some ⟨w.heap.size + 1, 0, none⟩) 4 4] := by
    have h := Blk.new ((w.alloc (.cells #[.int .i64 1, .int .i64 1, .int .i64 2] 3)).alloc (.cells #[.int .i64 1, .int .i64 1, .int .i64 1, .int .i64 3] 3)) 23 #[.slice (some ⟨w.heap.size, 0, none⟩) 3 3, .slice (some ⟨w.heap.size + 1, 0, none⟩) 4 4]
    simpa [awW] using h
  have hsz : (awW w).heap.size = w.heap.size + 3 := by simp [awW]
  have hl : LReads (awW w) (awW w).heap.size (some ⟨w.heap.size + 2, 0, none⟩) 2 [awL1, awL2] := by
    refine ⟨rfl, fun k hk => ?_⟩
    rw [hsz]
    match k, hk with
    | 0, _ => exact ⟨_, some ⟨w.heap.size, 0, none⟩, 3, 3, rfl, by simp, b3.cell 0, reads_blk b1 3 rfl (by omega), by omega⟩
    | 1, _ => exact ⟨_, some ⟨w.heap.size + 1, 0, none⟩, 4, 4, rfl, by simp, b3.cell 1, reads_blk b2 4 rfl (by omega), by omega⟩
  have h := common_any (some ⟨w.heap.size + 2, 0, none⟩) 2 2 [awL1, awL2] (awW w) hl (by omega) (by unfold maxLen; omega)
  have e : commonL [awL1, awL2] = 2 := by decide +kernel
  rw [e] at h
  exact h
theorem aw2 (g : Nat) (w : World) (h : Blk w g 3 (intV .i64 awL2).toArray) : Calls Try.prog 11 #[.slice (some ⟨g, 0, none⟩) 4 4, .int .i64 3, .int .i64 2] w fun x w' => x = .returned (.agg #[.int .i64 2, .int .i64 1]) ∧ Below w.heap.size w w' := by
  have h1 := hint_any (some ⟨g, 0, none⟩) 4 4 awL2 w (reads_blk h 4 rfl h.lt) (by unfold maxLen; omega) 3 2 (by omega)
  have e : Seam.hintN awL2 3 2 = 2 := by decide +kernel
  have e2 : Seam.ep awL2 2 = 1 := by decide +kernel
  rw [e, e2] at h1
  exact h1
theorem aw3 (g : Nat) (w : World) (h : Blk w g 3 (intV .i64 awL1).toArray) : Calls Try.prog 13 #[.slice (some ⟨g, 0, none⟩) 3 3, .agg #[.int .i64 2, .int .i64 1]] w fun x w' => x = .returned (.int .i64 2) ∧ Below w.heap.size w w' := by
  have h1 := next_any (some ⟨g, 0, none⟩) 3 3 awL1 w (reads_blk h 3 rfl h.lt) (by unfold maxLen; omega) 2 1 (by omega)
  have e : Seam.upTo awL1 2 1 = 2 := by decide +kernel
  rw [e] at h1
  exact h1

set_option maxHeartbeats 400000 in
theorem awake_any (w : World) :
    Calls Try.prog 7 #[] w fun e w' => e = .returned (.bool true) ∧ Below w.heap.size w w' := by
  go_enter Try.func7, Try.ntmps7
  go_wp2_with fail
  refine (aw1 w).mono ?_
  rintro e w1 ⟨rfl, hd1⟩
  have hb1 : Below w.heap.size w w1 := ((((Below.refl _ _).alloc (Nat.le_refl _) _).alloc (by simp) _).alloc (by simp; omega) _).trans (hd1.below _)
  have HB1 := Lib.hid hb1
  clear hd1 hb1
  go_wp2_with fail
  refine (aw2 w1.heap.size _ (Blk.new w1 _ _)).mono ?_
  rintro e w2 ⟨rfl, hb2⟩
  have hb2' : Below w.heap.size w w2 := (HB1.out.alloc HB1.out.size _).trans (hb2.mono (by have := HB1.out.size; simp; omega))
  have HB2 := Lib.hid hb2'
  clear hb2 hb2'
  go_wp2_with fail
  refine (aw3 w2.heap.size _ (Blk.new w2 _ _)).mono ?_
  rintro e w3 ⟨rfl, hb3⟩
  have hb3' : Below w.heap.size w w3 := (HB2.out.alloc HB2.out.size _).trans (hb3.mono (by have := HB2.out.size; simp; omega))
  have HB3 := Lib.hid hb3'
  clear hb3 hb3'
  go_wp2
  go_ret
  exact ⟨rfl, HB3.out⟩

end Go.Proofs.Ytbbmdiagfcidiaa
